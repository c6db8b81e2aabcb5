/- The links of the shallow functions to the machine. PRINTED by lift.py. -/
import Derived.Test.YtkfgkcdehmjmcaaGreatDoorGb1
set_option linter.unusedVariables false
set_option maxRecDepth 100000
namespace Go.Fn
open Go.Lift

noncomputable def insn_Valid.code : Code := Go.Proofs.Tryz.f94.body.getD .skip

theorem insn_Valid.fun : Fun sg.P 94 94 [.tmp 2] insn_Valid.code := mkFun Go.Proofs.Tryz.func94 (by kernel_rfl) (by kernel_rfl) (by kernel_rfl) (by kernel_rfl)

def insn_Valid.ret (Q : Bool → Heap → Prop) (v : V) (h : Heap) : Prop :=
  match v with
  | .bool r1 => Q r1 h
  | _ => False

def insn_Valid.C (vs : List V) (κ : V → Heap → Prop) (h : Heap) : Prop :=
  match vs with
  | [.agg [.int .i64 a1, .int .i64 a2, .int .i64 a3, .int .i64 a4, .int .i64 a5]] => insn_Valid a1 a2 a3 a4 a5 (fun r1 h => κ (.bool r1) h) h
  | _ => False

noncomputable def insn_Valid.calls : List (Nat × (List V → (V → Heap → Prop) → Heap → Prop)) := [(175, insn_Shape.C), (178, insn_immOf.C)]

noncomputable def insn_Valid.E (Q : Bool → Heap → Prop) (cuts : List (Nat × (List Nat × (List V → Heap → Prop)))) : Env := { tis := tisT, fns := fnsT, tys := tysT, gls := [], rts := rtsT, unk := [], nxt := [], calls := insn_Valid.calls, ifc := noIfc, cuts := cuts, ret := insn_Valid.ret Q, rets := [.tmp 2], n := 94 }

theorem insn_Valid.callsOK {W0 : World} : CallsOK sg W0 insn_Valid.calls := ⟨insn_Shape.S, insn_immOf.S, trivial⟩

def insn_Valid.k3 (I : Heap → Prop) (vs : List V) (h : Heap) : Prop :=
  match vs with
  | [] => I  h
  | _ => False

def insn_Valid.k8 (I : Heap → Prop) (vs : List V) (h : Heap) : Prop :=
  match vs with
  | [] => I  h
  | _ => False

def insn_Valid.k9 (I : Sl → Int → Int → Heap → Prop) (vs : List V) (h : Heap) : Prop :=
  match vs with
  | [.sl a1, .int .i64 a2, .int .i64 a3] => I a1 a2 a3 h
  | _ => False

def insn_Valid.k5 (I : Sl → Int → Int → Heap → Prop) (vs : List V) (h : Heap) : Prop :=
  match vs with
  | [.sl a1, .int .i64 a2, .int .i64 a3] => I a1 a2 a3 h
  | _ => False

def insn_Valid.k4 (I : Ptr → Int → Heap → Prop) (vs : List V) (h : Heap) : Prop :=
  match vs with
  | [.ptr (some a1), .int .i64 a2] => I a1 a2 h
  | _ => False

theorem insn_Valid.p3 : (posC insn_Valid.code []).filter (fun p => Nat.beq p.1 3) = [(3, atPos (posC insn_Valid.code []) 3)] := by kernel_rfl

theorem insn_Valid.e3 : ∀   (Q : Bool → Heap → Prop) (h : Heap), insn_Valid.j3   Q h = pts (insn_Valid.E Q []) 3000 true (atPos (posC insn_Valid.code []) 3) (frAt [] []) h := by
  intros; kernel_rfl

theorem insn_Valid.s3 {W0 : World} (Q : Bool → Heap → Prop)   : CutOK sg W0 94 (entered 94) (Post sg W0 (insn_Valid.ret Q)) (posC insn_Valid.code []) 3 [] (insn_Valid.k3 (fun  h => insn_Valid.j3   Q h)) := by
  refine cutOK_head (fun vs h hk => ?_)
  unfold insn_Valid.k3 at hk
  split at hk
  · skip
    intro todo hm ρ a w s f hp
    exact piece (E := insn_Valid.E Q []) (vs := []) (envOK seatOK insn_Valid.callsOK noIfc_ok) (fnOK seatOK insn_Valid.fun) trivial insn_Valid.p3 (fuel := 3000) (by rw [← insn_Valid.e3]; exact hk) hm s f hp
  · exact hk.elim

theorem insn_Valid.p8 : (posC insn_Valid.code []).filter (fun p => Nat.beq p.1 8) = [(8, atPos (posC insn_Valid.code []) 8)] := by kernel_rfl

theorem insn_Valid.e8 : ∀ (I5 : Sl → Int → Int → Heap → Prop)  (Q : Bool → Heap → Prop) (h : Heap), insn_Valid.j8 I5  Q h = pts (insn_Valid.E Q []) 3000 true (atPos (posC insn_Valid.code []) 8) (frAt [] []) h := by
  intros; kernel_rfl

theorem insn_Valid.s8 {W0 : World} (Q : Bool → Heap → Prop) (I5 : Sl → Int → Int → Heap → Prop) (h5 : CutOK sg W0 94 (entered 94) (Post sg W0 (insn_Valid.ret Q)) (posC insn_Valid.code []) 5 [69, 70, 71] (insn_Valid.k5 I5)) : CutOK sg W0 94 (entered 94) (Post sg W0 (insn_Valid.ret Q)) (posC insn_Valid.code []) 8 [] (insn_Valid.k8 (fun  h => insn_Valid.j8 I5  Q h)) := by
  refine cutOK_head (fun vs h hk => ?_)
  unfold insn_Valid.k8 at hk
  split at hk
  · skip
    intro todo hm ρ a w s f hp
    exact piece (E := insn_Valid.E Q []) (vs := []) (envOK seatOK insn_Valid.callsOK noIfc_ok) (fnOK seatOK insn_Valid.fun) trivial insn_Valid.p8 (fuel := 3000) (by rw [← insn_Valid.e8]; exact hk) hm s f hp
  · exact hk.elim

theorem insn_Valid.p9 : (posC insn_Valid.code []).filter (fun p => Nat.beq p.1 9) = [(9, atPos (posC insn_Valid.code []) 9)] := by kernel_rfl

theorem insn_Valid.e9 : ∀ (I5 : Sl → Int → Int → Heap → Prop) (a1 : Sl) (a2 : Int) (a3 : Int) (Q : Bool → Heap → Prop) (h : Heap), insn_Valid.j9 I5 a1 a2 a3 Q h = pts (insn_Valid.E Q [(5, ([69, 70, 71], insn_Valid.k5 I5))]) 3000 true (atPos (posC insn_Valid.code []) 9) (frAt [69, 70, 71] [.sl a1, .int .i64 a2, .int .i64 a3]) h := by
  intros; kernel_rfl

theorem insn_Valid.s9 {W0 : World} (Q : Bool → Heap → Prop) (I5 : Sl → Int → Int → Heap → Prop) (h5 : CutOK sg W0 94 (entered 94) (Post sg W0 (insn_Valid.ret Q)) (posC insn_Valid.code []) 5 [69, 70, 71] (insn_Valid.k5 I5)) : CutOK sg W0 94 (entered 94) (Post sg W0 (insn_Valid.ret Q)) (posC insn_Valid.code []) 9 [69, 70, 71] (insn_Valid.k9 (fun a1 a2 a3 h => insn_Valid.j9 I5 a1 a2 a3 Q h)) := by
  refine cutOK_head (fun vs h hk => ?_)
  unfold insn_Valid.k9 at hk
  split at hk
  · rename_i a1 a2 a3
    intro todo hm ρ a w s f hp
    exact piece (E := insn_Valid.E Q [(5, ([69, 70, 71], insn_Valid.k5 I5))]) (vs := [.sl a1, .int .i64 a2, .int .i64 a3]) (envOK seatOK insn_Valid.callsOK noIfc_ok) (fnOK seatOK insn_Valid.fun) ⟨h5, trivial⟩ insn_Valid.p9 (fuel := 3000) (by rw [← insn_Valid.e9]; exact hk) hm s f hp
  · exact hk.elim

theorem insn_Valid.p5 : (posC insn_Valid.code []).filter (fun p => Nat.beq p.1 5) = [(5, atPos (posC insn_Valid.code []) 5)] := by kernel_rfl

theorem insn_Valid.e5 : ∀  (I5 : Sl → Int → Int → Heap → Prop) (a1 : Sl) (a2 : Int) (a3 : Int) (Q : Bool → Heap → Prop) (h : Heap), insn_Valid.b5  I5 a1 a2 a3 Q h = pts (insn_Valid.E Q [(8, ([], insn_Valid.k8 (fun  h => insn_Valid.j8 I5  Q h))), (9, ([69, 70, 71], insn_Valid.k9 (fun a1 a2 a3 h => insn_Valid.j9 I5 a1 a2 a3 Q h)))]) 3000 true (atPos (posC insn_Valid.code []) 5) (frAt [69, 70, 71] [.sl a1, .int .i64 a2, .int .i64 a3]) h := by
  intros; kernel_rfl

theorem insn_Valid.s5 {W0 : World} (Q : Bool → Heap → Prop)   : CutOK sg W0 94 (entered 94) (Post sg W0 (insn_Valid.ret Q)) (posC insn_Valid.code []) 5 [69, 70, 71] (insn_Valid.k5 (fun a1 a2 a3 h => insn_Valid.j5  a1 a2 a3 Q h)) := by
  refine cutOK_head (fun vs h hk => ?_)
  unfold insn_Valid.k5 at hk
  split at hk
  · rename_i a1 a2 a3
    refine hk (fun a1 a2 a3 h => Head sg W0 94 (entered 94) (Post sg W0 (insn_Valid.ret Q)) (posC insn_Valid.code []) 5 [69, 70, 71] [.sl a1, .int .i64 a2, .int .i64 a3] h) ?_
    intro a1 a2 a3 h hb todo hm ρ a w s f hp
    have hself : CutOK sg W0 94 (entered 94) (Post sg W0 (insn_Valid.ret Q)) (posC insn_Valid.code []) 5 [69, 70, 71] (insn_Valid.k5 (fun a1 a2 a3 h => Head sg W0 94 (entered 94) (Post sg W0 (insn_Valid.ret Q)) (posC insn_Valid.code []) 5 [69, 70, 71] [.sl a1, .int .i64 a2, .int .i64 a3] h)) := cutOK_head (fun vs h hk => by unfold insn_Valid.k5 at hk; split at hk; exact hk; exact hk.elim)
    exact piece (E := insn_Valid.E Q [(8, ([], insn_Valid.k8 (fun  h => insn_Valid.j8 (fun a1 a2 a3 h => Head sg W0 94 (entered 94) (Post sg W0 (insn_Valid.ret Q)) (posC insn_Valid.code []) 5 [69, 70, 71] [.sl a1, .int .i64 a2, .int .i64 a3] h)  Q h))), (9, ([69, 70, 71], insn_Valid.k9 (fun a1 a2 a3 h => insn_Valid.j9 (fun a1 a2 a3 h => Head sg W0 94 (entered 94) (Post sg W0 (insn_Valid.ret Q)) (posC insn_Valid.code []) 5 [69, 70, 71] [.sl a1, .int .i64 a2, .int .i64 a3] h) a1 a2 a3 Q h)))]) (vs := [.sl a1, .int .i64 a2, .int .i64 a3]) (envOK seatOK insn_Valid.callsOK noIfc_ok) (fnOK seatOK insn_Valid.fun) ⟨(insn_Valid.s8 Q (fun a1 a2 a3 h => Head sg W0 94 (entered 94) (Post sg W0 (insn_Valid.ret Q)) (posC insn_Valid.code []) 5 [69, 70, 71] [.sl a1, .int .i64 a2, .int .i64 a3] h) hself), (insn_Valid.s9 Q (fun a1 a2 a3 h => Head sg W0 94 (entered 94) (Post sg W0 (insn_Valid.ret Q)) (posC insn_Valid.code []) 5 [69, 70, 71] [.sl a1, .int .i64 a2, .int .i64 a3] h) hself), trivial⟩ insn_Valid.p5 (fuel := 3000) (by rw [← insn_Valid.e5]; exact hb) hm s f hp
  · exact hk.elim

theorem insn_Valid.p4 : (posC insn_Valid.code []).filter (fun p => Nat.beq p.1 4) = [(4, atPos (posC insn_Valid.code []) 4)] := by kernel_rfl

theorem insn_Valid.e4 : ∀  (a1 : Ptr) (a2 : Int) (Q : Bool → Heap → Prop) (h : Heap), insn_Valid.j4  a1 a2 Q h = pts (insn_Valid.E Q [(5, ([69, 70, 71], insn_Valid.k5 (fun a1 a2 a3 h => insn_Valid.j5  a1 a2 a3 Q h)))]) 3000 true (atPos (posC insn_Valid.code []) 4) (frAt [1, 3] [.ptr (some a1), .int .i64 a2]) h := by
  intros; kernel_rfl

theorem insn_Valid.s4 {W0 : World} (Q : Bool → Heap → Prop)   : CutOK sg W0 94 (entered 94) (Post sg W0 (insn_Valid.ret Q)) (posC insn_Valid.code []) 4 [1, 3] (insn_Valid.k4 (fun a1 a2 h => insn_Valid.j4  a1 a2 Q h)) := by
  refine cutOK_head (fun vs h hk => ?_)
  unfold insn_Valid.k4 at hk
  split at hk
  · rename_i a1 a2
    intro todo hm ρ a w s f hp
    exact piece (E := insn_Valid.E Q [(5, ([69, 70, 71], insn_Valid.k5 (fun a1 a2 a3 h => insn_Valid.j5  a1 a2 a3 Q h)))]) (vs := [.ptr (some a1), .int .i64 a2]) (envOK seatOK insn_Valid.callsOK noIfc_ok) (fnOK seatOK insn_Valid.fun) ⟨(insn_Valid.s5 Q  ), trivial⟩ insn_Valid.p4 (fuel := 3000) (by rw [← insn_Valid.e4]; exact hk) hm s f hp
  · exact hk.elim

theorem insn_Valid.e : ∀ (a1 : Int) (a2 : Int) (a3 : Int) (a4 : Int) (a5 : Int) (Q : Bool → Heap → Prop) (h : Heap), insn_Valid a1 a2 a3 a4 a5 Q h = pts (insn_Valid.E Q [(3, ([], insn_Valid.k3 (fun  h => insn_Valid.j3   Q h))), (4, ([1, 3], insn_Valid.k4 (fun a1 a2 h => insn_Valid.j4  a1 a2 Q h)))]) 3000 true [.code insn_Valid.code] (frOf 0 [.agg [.int .i64 a1, .int .i64 a2, .int .i64 a3, .int .i64 a4, .int .i64 a5]]) h := by
  intros; kernel_rfl

theorem insn_Valid.S {W0 : World} : FnS sg W0 179 insn_Valid.C := by
  intro vs κ h wv hx w s
  unfold insn_Valid.C at hx
  split at hx
  · rename_i a1 a2 a3 a4 a5
    refine postImp (ret := insn_Valid.ret (fun r1 h => κ (.bool r1) h)) (fun v h hr => by unfold insn_Valid.ret at hr; split at hr; exact hr; exact hr.elim) ?_
    exact calls_of_pts (E := insn_Valid.E (fun r1 h => κ (.bool r1) h) [(3, ([], insn_Valid.k3 (fun  h => insn_Valid.j3   (fun r1 h => κ (.bool r1) h) h))), (4, ([1, 3], insn_Valid.k4 (fun a1 a2 h => insn_Valid.j4  a1 a2 (fun r1 h => κ (.bool r1) h) h)))]) (envOK seatOK insn_Valid.callsOK noIfc_ok) seatOK.mixed insn_Valid.fun (Nat.le_of_ble_eq_true rfl) wv (cutL_ok ⟨(insn_Valid.s3 (fun r1 h => κ (.bool r1) h)), (insn_Valid.s4 (fun r1 h => κ (.bool r1) h)), trivial⟩) s (fuel := 3000) (by rw [← insn_Valid.e]; exact hx)
  · exact hx.elim

noncomputable def word_Place.code : Code := Go.Proofs.Tryz.f95.body.getD .skip

theorem word_Place.fun : Fun sg.P 95 30 [.tmp 8] word_Place.code := mkFun Go.Proofs.Tryz.func95 (by kernel_rfl) (by kernel_rfl) (by kernel_rfl) (by kernel_rfl)

def word_Place.ret (Q : Int → Heap → Prop) (v : V) (h : Heap) : Prop :=
  match v with
  | .int .u32 r1 => Q r1 h
  | _ => False

def word_Place.C (vs : List V) (κ : V → Heap → Prop) (h : Heap) : Prop :=
  match vs with
  | [.int .u32 a1, .int .i64 a2, .int .i64 a3, .int .i64 a4] => word_Place a1 a2 a3 a4 (fun r1 h => κ (.int .u32 r1) h) h
  | _ => False

noncomputable def word_Place.calls : List (Nat × (List V → (V → Heap → Prop) → Heap → Prop)) := [(170, word_lies.C), (171, word_mask.C)]

noncomputable def word_Place.E (Q : Int → Heap → Prop) (cuts : List (Nat × (List Nat × (List V → Heap → Prop)))) : Env := { tis := tisT, fns := fnsT, tys := tysT, gls := [], rts := rtsT, unk := [], nxt := [], calls := word_Place.calls, ifc := noIfc, cuts := cuts, ret := word_Place.ret Q, rets := [.tmp 8], n := 30 }

theorem word_Place.callsOK {W0 : World} : CallsOK sg W0 word_Place.calls := ⟨word_lies.S, word_mask.S, trivial⟩

theorem word_Place.e : ∀ (a1 : Int) (a2 : Int) (a3 : Int) (a4 : Int) (Q : Int → Heap → Prop) (h : Heap), word_Place a1 a2 a3 a4 Q h = pts (word_Place.E Q []) 3000 true [.code word_Place.code] (frOf 0 [.int .u32 a1, .int .i64 a2, .int .i64 a3, .int .i64 a4]) h := by
  intros; kernel_rfl

theorem word_Place.S {W0 : World} : FnS sg W0 180 word_Place.C := by
  intro vs κ h wv hx w s
  unfold word_Place.C at hx
  split at hx
  · rename_i a1 a2 a3 a4
    refine postImp (ret := word_Place.ret (fun r1 h => κ (.int .u32 r1) h)) (fun v h hr => by unfold word_Place.ret at hr; split at hr; exact hr; exact hr.elim) ?_
    exact calls_of_pts (E := word_Place.E (fun r1 h => κ (.int .u32 r1) h) []) (envOK seatOK word_Place.callsOK noIfc_ok) seatOK.mixed word_Place.fun (Nat.le_of_ble_eq_true rfl) wv (cutL_ok trivial) s (fuel := 3000) (by rw [← word_Place.e]; exact hx)
  · exact hx.elim

noncomputable def insn_Encode.code : Code := Go.Proofs.Tryz.f72.body.getD .skip

theorem insn_Encode.fun : Fun sg.P 72 43 [.tmp 2, .tmp 3] insn_Encode.code := mkFun Go.Proofs.Tryz.func72 (by kernel_rfl) (by kernel_rfl) (by kernel_rfl) (by kernel_rfl)

def insn_Encode.ret (Q : Int → Int → Heap → Prop) (v : V) (h : Heap) : Prop :=
  match v with
  | .tup [.int .u32 r1, .int .i64 r2] => Q r1 r2 h
  | _ => False

def insn_Encode.C (vs : List V) (κ : V → Heap → Prop) (h : Heap) : Prop :=
  match vs with
  | [.agg [.int .i64 a1, .int .i64 a2, .int .i64 a3, .int .i64 a4, .int .i64 a5]] => insn_Encode a1 a2 a3 a4 a5 (fun r1 r2 h => κ (.tup [.int .u32 r1, .int .i64 r2]) h) h
  | _ => False

noncomputable def insn_Encode.calls : List (Nat × (List V → (V → Heap → Prop) → Heap → Prop)) := [(175, insn_Shape.C), (179, insn_Valid.C), (180, word_Place.C)]

noncomputable def insn_Encode.E (Q : Int → Int → Heap → Prop) (cuts : List (Nat × (List Nat × (List V → Heap → Prop)))) : Env := { tis := tisT, fns := fnsT, tys := tysT, gls := [], rts := rtsT, unk := [], nxt := [], calls := insn_Encode.calls, ifc := noIfc, cuts := cuts, ret := insn_Encode.ret Q, rets := [.tmp 2, .tmp 3], n := 43 }

theorem insn_Encode.callsOK {W0 : World} : CallsOK sg W0 insn_Encode.calls := ⟨insn_Shape.S, insn_Valid.S, word_Place.S, trivial⟩

def insn_Encode.k4 (I : Ptr → Int → Heap → Prop) (vs : List V) (h : Heap) : Prop :=
  match vs with
  | [.ptr (some a1), .int .u32 a2] => I a1 a2 h
  | _ => False

theorem insn_Encode.p4 : (posC insn_Encode.code []).filter (fun p => Nat.beq p.1 4) = [(4, atPos (posC insn_Encode.code []) 4)] := by kernel_rfl

theorem insn_Encode.e4 : ∀  (a1 : Ptr) (a2 : Int) (Q : Int → Int → Heap → Prop) (h : Heap), insn_Encode.j4  a1 a2 Q h = pts (insn_Encode.E Q []) 3000 true (atPos (posC insn_Encode.code []) 4) (frAt [1, 4] [.ptr (some a1), .int .u32 a2]) h := by
  intros; kernel_rfl

theorem insn_Encode.s4 {W0 : World} (Q : Int → Int → Heap → Prop)   : CutOK sg W0 43 (entered 72) (Post sg W0 (insn_Encode.ret Q)) (posC insn_Encode.code []) 4 [1, 4] (insn_Encode.k4 (fun a1 a2 h => insn_Encode.j4  a1 a2 Q h)) := by
  refine cutOK_head (fun vs h hk => ?_)
  unfold insn_Encode.k4 at hk
  split at hk
  · rename_i a1 a2
    intro todo hm ρ a w s f hp
    exact piece (E := insn_Encode.E Q []) (vs := [.ptr (some a1), .int .u32 a2]) (envOK seatOK insn_Encode.callsOK noIfc_ok) (fnOK seatOK insn_Encode.fun) trivial insn_Encode.p4 (fuel := 3000) (by rw [← insn_Encode.e4]; exact hk) hm s f hp
  · exact hk.elim

theorem insn_Encode.e : ∀ (a1 : Int) (a2 : Int) (a3 : Int) (a4 : Int) (a5 : Int) (Q : Int → Int → Heap → Prop) (h : Heap), insn_Encode a1 a2 a3 a4 a5 Q h = pts (insn_Encode.E Q [(4, ([1, 4], insn_Encode.k4 (fun a1 a2 h => insn_Encode.j4  a1 a2 Q h)))]) 3000 true [.code insn_Encode.code] (frOf 0 [.agg [.int .i64 a1, .int .i64 a2, .int .i64 a3, .int .i64 a4, .int .i64 a5]]) h := by
  intros; kernel_rfl

theorem insn_Encode.S {W0 : World} : FnS sg W0 181 insn_Encode.C := by
  intro vs κ h wv hx w s
  unfold insn_Encode.C at hx
  split at hx
  · rename_i a1 a2 a3 a4 a5
    refine postImp (ret := insn_Encode.ret (fun r1 r2 h => κ (.tup [.int .u32 r1, .int .i64 r2]) h)) (fun v h hr => by unfold insn_Encode.ret at hr; split at hr; exact hr; exact hr.elim) ?_
    exact calls_of_pts (E := insn_Encode.E (fun r1 r2 h => κ (.tup [.int .u32 r1, .int .i64 r2]) h) [(4, ([1, 4], insn_Encode.k4 (fun a1 a2 h => insn_Encode.j4  a1 a2 (fun r1 r2 h => κ (.tup [.int .u32 r1, .int .i64 r2]) h) h)))]) (envOK seatOK insn_Encode.callsOK noIfc_ok) seatOK.mixed insn_Encode.fun (Nat.le_of_ble_eq_true rfl) wv (cutL_ok ⟨(insn_Encode.s4 (fun r1 r2 h => κ (.tup [.int .u32 r1, .int .i64 r2]) h)), trivial⟩) s (fuel := 3000) (by rw [← insn_Encode.e]; exact hx)
  · exact hx.elim

noncomputable def insn_Decode.code : Code := Go.Proofs.Tryz.f44.body.getD .skip

theorem insn_Decode.fun : Fun sg.P 44 55 [.cell 2 50, .tmp 3] insn_Decode.code := mkFun Go.Proofs.Tryz.func44 (by kernel_rfl) (by kernel_rfl) (by kernel_rfl) (by kernel_rfl)

def insn_Decode.ret (Q : Int → Int → Int → Int → Int → Int → Heap → Prop) (v : V) (h : Heap) : Prop :=
  match v with
  | .tup [.agg [.int .i64 r1, .int .i64 r2, .int .i64 r3, .int .i64 r4, .int .i64 r5], .int .i64 r6] => Q r1 r2 r3 r4 r5 r6 h
  | _ => False

def insn_Decode.C (vs : List V) (κ : V → Heap → Prop) (h : Heap) : Prop :=
  match vs with
  | [.int .u32 a1] => insn_Decode a1 (fun r1 r2 r3 r4 r5 r6 h => κ (.tup [.agg [.int .i64 r1, .int .i64 r2, .int .i64 r3, .int .i64 r4, .int .i64 r5], .int .i64 r6]) h) h
  | _ => False

noncomputable def insn_Decode.calls : List (Nat × (List V → (V → Heap → Prop) → Heap → Prop)) := [(172, word_Field.C), (175, insn_Shape.C), (176, word_Sign.C), (181, insn_Encode.C)]

noncomputable def insn_Decode.E (Q : Int → Int → Int → Int → Int → Int → Heap → Prop) (cuts : List (Nat × (List Nat × (List V → Heap → Prop)))) : Env := { tis := tisT, fns := fnsT, tys := tysT, gls := [], rts := rtsT, unk := [], nxt := [], calls := insn_Decode.calls, ifc := noIfc, cuts := cuts, ret := insn_Decode.ret Q, rets := [.cell 2 50, .tmp 3], n := 55 }

theorem insn_Decode.callsOK {W0 : World} : CallsOK sg W0 insn_Decode.calls := ⟨word_Field.S, insn_Shape.S, word_Sign.S, insn_Encode.S, trivial⟩

def insn_Decode.k8 (I : Int → Ptr → Ptr → Heap → Prop) (vs : List V) (h : Heap) : Prop :=
  match vs with
  | [.int .u32 a1, .ptr (some a2), .ptr (some a3)] => I a1 a2 a3 h
  | _ => False

theorem insn_Decode.p8 : (posC insn_Decode.code []).filter (fun p => Nat.beq p.1 8) = [(8, atPos (posC insn_Decode.code []) 8)] := by kernel_rfl

theorem insn_Decode.e8 : ∀  (a1 : Int) (a2 : Ptr) (a3 : Ptr) (Q : Int → Int → Int → Int → Int → Int → Heap → Prop) (h : Heap), insn_Decode.j8  a1 a2 a3 Q h = pts (insn_Decode.E Q []) 3000 true (atPos (posC insn_Decode.code []) 8) (frAt [0, 2, 4] [.int .u32 a1, .ptr (some a2), .ptr (some a3)]) h := by
  intros; kernel_rfl

theorem insn_Decode.s8 {W0 : World} (Q : Int → Int → Int → Int → Int → Int → Heap → Prop)   : CutOK sg W0 55 (entered 44) (Post sg W0 (insn_Decode.ret Q)) (posC insn_Decode.code []) 8 [0, 2, 4] (insn_Decode.k8 (fun a1 a2 a3 h => insn_Decode.j8  a1 a2 a3 Q h)) := by
  refine cutOK_head (fun vs h hk => ?_)
  unfold insn_Decode.k8 at hk
  split at hk
  · rename_i a1 a2 a3
    intro todo hm ρ a w s f hp
    exact piece (E := insn_Decode.E Q []) (vs := [.int .u32 a1, .ptr (some a2), .ptr (some a3)]) (envOK seatOK insn_Decode.callsOK noIfc_ok) (fnOK seatOK insn_Decode.fun) trivial insn_Decode.p8 (fuel := 3000) (by rw [← insn_Decode.e8]; exact hk) hm s f hp
  · exact hk.elim

theorem insn_Decode.e : ∀ (a1 : Int) (Q : Int → Int → Int → Int → Int → Int → Heap → Prop) (h : Heap), insn_Decode a1 Q h = pts (insn_Decode.E Q [(8, ([0, 2, 4], insn_Decode.k8 (fun a1 a2 a3 h => insn_Decode.j8  a1 a2 a3 Q h)))]) 3000 true [.code insn_Decode.code] (frOf 0 [.int .u32 a1]) h := by
  intros; kernel_rfl

theorem insn_Decode.S {W0 : World} : FnS sg W0 182 insn_Decode.C := by
  intro vs κ h wv hx w s
  unfold insn_Decode.C at hx
  split at hx
  · rename_i a1
    refine postImp (ret := insn_Decode.ret (fun r1 r2 r3 r4 r5 r6 h => κ (.tup [.agg [.int .i64 r1, .int .i64 r2, .int .i64 r3, .int .i64 r4, .int .i64 r5], .int .i64 r6]) h)) (fun v h hr => by unfold insn_Decode.ret at hr; split at hr; exact hr; exact hr.elim) ?_
    exact calls_of_pts (E := insn_Decode.E (fun r1 r2 r3 r4 r5 r6 h => κ (.tup [.agg [.int .i64 r1, .int .i64 r2, .int .i64 r3, .int .i64 r4, .int .i64 r5], .int .i64 r6]) h) [(8, ([0, 2, 4], insn_Decode.k8 (fun a1 a2 a3 h => insn_Decode.j8  a1 a2 a3 (fun r1 r2 r3 r4 r5 r6 h => κ (.tup [.agg [.int .i64 r1, .int .i64 r2, .int .i64 r3, .int .i64 r4, .int .i64 r5], .int .i64 r6]) h) h)))]) (envOK seatOK insn_Decode.callsOK noIfc_ok) seatOK.mixed insn_Decode.fun (Nat.le_of_ble_eq_true rfl) wv (cutL_ok ⟨(insn_Decode.s8 (fun r1 r2 r3 r4 r5 r6 h => κ (.tup [.agg [.int .i64 r1, .int .i64 r2, .int .i64 r3, .int .i64 r4, .int .i64 r5], .int .i64 r6]) h)), trivial⟩) s (fuel := 3000) (by rw [← insn_Decode.e]; exact hx)
  · exact hx.elim

noncomputable def hart_hart_illegal.code : Code := Go.Proofs.Tryz.f45.body.getD .skip

theorem hart_hart_illegal.fun : Fun sg.P 45 9 [.cell 2 86] hart_hart_illegal.code := mkFun Go.Proofs.Tryz.func45 (by kernel_rfl) (by kernel_rfl) (by kernel_rfl) (by kernel_rfl)

def hart_hart_illegal.ret (Q : Int → Int → Int → Bool → Int → Heap → Prop) (v : V) (h : Heap) : Prop :=
  match v with
  | .agg [.int .i64 r1, .int .u64 r2, .int .u64 r3, .bool r4, .int .i64 r5] => Q r1 r2 r3 r4 r5 h
  | _ => False

def hart_hart_illegal.C (vs : List V) (κ : V → Heap → Prop) (h : Heap) : Prop :=
  match vs with
  | [.ptr a1] => hart_hart_illegal a1 (fun r1 r2 r3 r4 r5 h => κ (.agg [.int .i64 r1, .int .u64 r2, .int .u64 r3, .bool r4, .int .i64 r5]) h) h
  | _ => False

noncomputable def hart_hart_illegal.calls : List (Nat × (List V → (V → Heap → Prop) → Heap → Prop)) := [(165, hart_trap.C)]

noncomputable def hart_hart_illegal.E (Q : Int → Int → Int → Bool → Int → Heap → Prop) (cuts : List (Nat × (List Nat × (List V → Heap → Prop)))) : Env := { tis := tisT, fns := fnsT, tys := tysT, gls := [], rts := rtsT, unk := [], nxt := [], calls := hart_hart_illegal.calls, ifc := noIfc, cuts := cuts, ret := hart_hart_illegal.ret Q, rets := [.cell 2 86], n := 9 }

theorem hart_hart_illegal.callsOK {W0 : World} : CallsOK sg W0 hart_hart_illegal.calls := ⟨hart_trap.S, trivial⟩

theorem hart_hart_illegal.e : ∀ (a1 : Option Ptr) (Q : Int → Int → Int → Bool → Int → Heap → Prop) (h : Heap), hart_hart_illegal a1 Q h = pts (hart_hart_illegal.E Q []) 3000 true [.code hart_hart_illegal.code] (frOf 0 [.ptr a1]) h := by
  intros; kernel_rfl

theorem hart_hart_illegal.S {W0 : World} : FnS sg W0 183 hart_hart_illegal.C := by
  intro vs κ h wv hx w s
  unfold hart_hart_illegal.C at hx
  split at hx
  · rename_i a1
    refine postImp (ret := hart_hart_illegal.ret (fun r1 r2 r3 r4 r5 h => κ (.agg [.int .i64 r1, .int .u64 r2, .int .u64 r3, .bool r4, .int .i64 r5]) h)) (fun v h hr => by unfold hart_hart_illegal.ret at hr; split at hr; exact hr; exact hr.elim) ?_
    exact calls_of_pts (E := hart_hart_illegal.E (fun r1 r2 r3 r4 r5 h => κ (.agg [.int .i64 r1, .int .u64 r2, .int .u64 r3, .bool r4, .int .i64 r5]) h) []) (envOK seatOK hart_hart_illegal.callsOK noIfc_ok) seatOK.mixed hart_hart_illegal.fun (Nat.le_of_ble_eq_true rfl) wv (cutL_ok trivial) s (fuel := 3000) (by rw [← hart_hart_illegal.e]; exact hx)
  · exact hx.elim

noncomputable def hart_hart_fetch.code : Code := Go.Proofs.Tryz.f24.body.getD .skip

theorem hart_hart_fetch.fun : Fun sg.P 24 103 [.cell 2 86] hart_hart_fetch.code := mkFun Go.Proofs.Tryz.func24 (by kernel_rfl) (by kernel_rfl) (by kernel_rfl) (by kernel_rfl)

def hart_hart_fetch.ret (Q : Int → Int → Int → Bool → Int → Heap → Prop) (v : V) (h : Heap) : Prop :=
  match v with
  | .agg [.int .i64 r1, .int .u64 r2, .int .u64 r3, .bool r4, .int .i64 r5] => Q r1 r2 r3 r4 r5 h
  | _ => False

def hart_hart_fetch.C (U : Ifc) (vs : List V) (κ : V → Heap → Prop) (h : Heap) : Prop :=
  match vs with
  | [.ptr a1] => hart_hart_fetch U a1 (fun r1 r2 r3 r4 r5 h => κ (.agg [.int .i64 r1, .int .u64 r2, .int .u64 r3, .bool r4, .int .i64 r5]) h) h
  | _ => False

noncomputable def hart_hart_fetch.calls (U : Ifc) : List (Nat × (List V → (V → Heap → Prop) → Heap → Prop)) := [(164, csr_File_Due.C), (165, hart_trap.C), (166, csr_File_Root.C), (167, hart_hart_user.C), (168, hart_of.C), (182, insn_Decode.C), (183, hart_hart_illegal.C)]

noncomputable def hart_hart_fetch.E (U : Ifc) (Q : Int → Int → Int → Bool → Int → Heap → Prop) (cuts : List (Nat × (List Nat × (List V → Heap → Prop)))) : Env := { tis := tisT, fns := fnsT, tys := tysT, gls := glsT, rts := rtsT, unk := [], nxt := [], calls := hart_hart_fetch.calls U, ifc := U, cuts := cuts, ret := hart_hart_fetch.ret Q, rets := [.cell 2 86], n := 103 }

theorem hart_hart_fetch.callsOK {W0 : World} {U : Ifc} (hU : IfcOK sg W0 glsT U) : CallsOK sg W0 (hart_hart_fetch.calls U) := ⟨csr_File_Due.S, hart_trap.S, csr_File_Root.S, hart_hart_user.S, hart_of.S, insn_Decode.S, hart_hart_illegal.S, trivial⟩

def hart_hart_fetch.k15 (I : (Option Ptr) → Ptr → Heap → Prop) (vs : List V) (h : Heap) : Prop :=
  match vs with
  | [.ptr a1, .ptr (some a2)] => I a1 a2 h
  | _ => False

def hart_hart_fetch.k8 (I : (Option Ptr) → Ptr → Int → Int → Ptr → Heap → Prop) (vs : List V) (h : Heap) : Prop :=
  match vs with
  | [.ptr a1, .ptr (some a2), .int .u64 a3, .int .u64 a4, .ptr (some a5)] => I a1 a2 a3 a4 a5 h
  | _ => False

def hart_hart_fetch.k3 (I : (Option Ptr) → Ptr → Int → Int → Bool → Heap → Prop) (vs : List V) (h : Heap) : Prop :=
  match vs with
  | [.ptr a1, .ptr (some a2), .int .u64 a3, .int .i64 a4, .bool a5] => I a1 a2 a3 a4 a5 h
  | _ => False

theorem hart_hart_fetch.p15 : (posC hart_hart_fetch.code []).filter (fun p => Nat.beq p.1 15) = [(15, atPos (posC hart_hart_fetch.code []) 15)] := by kernel_rfl

theorem hart_hart_fetch.e15 : ∀ (U : Ifc)  (a1 : Option Ptr) (a2 : Ptr) (Q : Int → Int → Int → Bool → Int → Heap → Prop) (h : Heap), hart_hart_fetch.j15 U  a1 a2 Q h = pts (hart_hart_fetch.E U Q []) 3000 true (atPos (posC hart_hart_fetch.code []) 15) (frAt [0, 2] [.ptr a1, .ptr (some a2)]) h := by
  intros; kernel_rfl

theorem hart_hart_fetch.s15 {W0 : World} {U : Ifc} (hU : IfcOK sg W0 glsT U) (Q : Int → Int → Int → Bool → Int → Heap → Prop)   : CutOK sg W0 103 (entered 24) (Post sg W0 (hart_hart_fetch.ret Q)) (posC hart_hart_fetch.code []) 15 [0, 2] (hart_hart_fetch.k15 (fun a1 a2 h => hart_hart_fetch.j15 U  a1 a2 Q h)) := by
  refine cutOK_head (fun vs h hk => ?_)
  unfold hart_hart_fetch.k15 at hk
  split at hk
  · rename_i a1 a2
    intro todo hm ρ a w s f hp
    exact piece (E := hart_hart_fetch.E U Q []) (vs := [.ptr a1, .ptr (some a2)]) (envOK seatOK (hart_hart_fetch.callsOK hU) hU) (fnOK seatOK hart_hart_fetch.fun) trivial hart_hart_fetch.p15 (fuel := 3000) (by rw [← hart_hart_fetch.e15]; exact hk) hm s f hp
  · exact hk.elim

theorem hart_hart_fetch.p8 : (posC hart_hart_fetch.code []).filter (fun p => Nat.beq p.1 8) = [(8, atPos (posC hart_hart_fetch.code []) 8)] := by kernel_rfl

theorem hart_hart_fetch.e8 : ∀ (U : Ifc)  (a1 : Option Ptr) (a2 : Ptr) (a3 : Int) (a4 : Int) (a5 : Ptr) (Q : Int → Int → Int → Bool → Int → Heap → Prop) (h : Heap), hart_hart_fetch.j8 U  a1 a2 a3 a4 a5 Q h = pts (hart_hart_fetch.E U Q [(15, ([0, 2], hart_hart_fetch.k15 (fun a1 a2 h => hart_hart_fetch.j15 U  a1 a2 Q h)))]) 3000 true (atPos (posC hart_hart_fetch.code []) 8) (frAt [0, 2, 3, 6, 7] [.ptr a1, .ptr (some a2), .int .u64 a3, .int .u64 a4, .ptr (some a5)]) h := by
  intros; kernel_rfl

theorem hart_hart_fetch.s8 {W0 : World} {U : Ifc} (hU : IfcOK sg W0 glsT U) (Q : Int → Int → Int → Bool → Int → Heap → Prop)   : CutOK sg W0 103 (entered 24) (Post sg W0 (hart_hart_fetch.ret Q)) (posC hart_hart_fetch.code []) 8 [0, 2, 3, 6, 7] (hart_hart_fetch.k8 (fun a1 a2 a3 a4 a5 h => hart_hart_fetch.j8 U  a1 a2 a3 a4 a5 Q h)) := by
  refine cutOK_head (fun vs h hk => ?_)
  unfold hart_hart_fetch.k8 at hk
  split at hk
  · rename_i a1 a2 a3 a4 a5
    intro todo hm ρ a w s f hp
    exact piece (E := hart_hart_fetch.E U Q [(15, ([0, 2], hart_hart_fetch.k15 (fun a1 a2 h => hart_hart_fetch.j15 U  a1 a2 Q h)))]) (vs := [.ptr a1, .ptr (some a2), .int .u64 a3, .int .u64 a4, .ptr (some a5)]) (envOK seatOK (hart_hart_fetch.callsOK hU) hU) (fnOK seatOK hart_hart_fetch.fun) ⟨(hart_hart_fetch.s15 hU Q  ), trivial⟩ hart_hart_fetch.p8 (fuel := 3000) (by rw [← hart_hart_fetch.e8]; exact hk) hm s f hp
  · exact hk.elim

theorem hart_hart_fetch.p3 : (posC hart_hart_fetch.code []).filter (fun p => Nat.beq p.1 3) = [(3, atPos (posC hart_hart_fetch.code []) 3)] := by kernel_rfl

theorem hart_hart_fetch.e3 : ∀ (U : Ifc)  (a1 : Option Ptr) (a2 : Ptr) (a3 : Int) (a4 : Int) (a5 : Bool) (Q : Int → Int → Int → Bool → Int → Heap → Prop) (h : Heap), hart_hart_fetch.j3 U  a1 a2 a3 a4 a5 Q h = pts (hart_hart_fetch.E U Q [(8, ([0, 2, 3, 6, 7], hart_hart_fetch.k8 (fun a1 a2 a3 a4 a5 h => hart_hart_fetch.j8 U  a1 a2 a3 a4 a5 Q h)))]) 3000 true (atPos (posC hart_hart_fetch.code []) 3) (frAt [0, 2, 3, 4, 5] [.ptr a1, .ptr (some a2), .int .u64 a3, .int .i64 a4, .bool a5]) h := by
  intros; kernel_rfl

theorem hart_hart_fetch.s3 {W0 : World} {U : Ifc} (hU : IfcOK sg W0 glsT U) (Q : Int → Int → Int → Bool → Int → Heap → Prop)   : CutOK sg W0 103 (entered 24) (Post sg W0 (hart_hart_fetch.ret Q)) (posC hart_hart_fetch.code []) 3 [0, 2, 3, 4, 5] (hart_hart_fetch.k3 (fun a1 a2 a3 a4 a5 h => hart_hart_fetch.j3 U  a1 a2 a3 a4 a5 Q h)) := by
  refine cutOK_head (fun vs h hk => ?_)
  unfold hart_hart_fetch.k3 at hk
  split at hk
  · rename_i a1 a2 a3 a4 a5
    intro todo hm ρ a w s f hp
    exact piece (E := hart_hart_fetch.E U Q [(8, ([0, 2, 3, 6, 7], hart_hart_fetch.k8 (fun a1 a2 a3 a4 a5 h => hart_hart_fetch.j8 U  a1 a2 a3 a4 a5 Q h)))]) (vs := [.ptr a1, .ptr (some a2), .int .u64 a3, .int .i64 a4, .bool a5]) (envOK seatOK (hart_hart_fetch.callsOK hU) hU) (fnOK seatOK hart_hart_fetch.fun) ⟨(hart_hart_fetch.s8 hU Q  ), trivial⟩ hart_hart_fetch.p3 (fuel := 3000) (by rw [← hart_hart_fetch.e3]; exact hk) hm s f hp
  · exact hk.elim

theorem hart_hart_fetch.e : ∀ (U : Ifc) (a1 : Option Ptr) (Q : Int → Int → Int → Bool → Int → Heap → Prop) (h : Heap), hart_hart_fetch U a1 Q h = pts (hart_hart_fetch.E U Q [(3, ([0, 2, 3, 4, 5], hart_hart_fetch.k3 (fun a1 a2 a3 a4 a5 h => hart_hart_fetch.j3 U  a1 a2 a3 a4 a5 Q h)))]) 3000 true [.code hart_hart_fetch.code] (frOf 0 [.ptr a1]) h := by
  intros; kernel_rfl

theorem hart_hart_fetch.S {W0 : World} {U : Ifc} (hU : IfcOK sg W0 glsT U) : FnS sg W0 184 (hart_hart_fetch.C U) := by
  intro vs κ h wv hx w s
  unfold hart_hart_fetch.C at hx
  split at hx
  · rename_i a1
    refine postImp (ret := hart_hart_fetch.ret (fun r1 r2 r3 r4 r5 h => κ (.agg [.int .i64 r1, .int .u64 r2, .int .u64 r3, .bool r4, .int .i64 r5]) h)) (fun v h hr => by unfold hart_hart_fetch.ret at hr; split at hr; exact hr; exact hr.elim) ?_
    exact calls_of_pts (E := hart_hart_fetch.E U (fun r1 r2 r3 r4 r5 h => κ (.agg [.int .i64 r1, .int .u64 r2, .int .u64 r3, .bool r4, .int .i64 r5]) h) [(3, ([0, 2, 3, 4, 5], hart_hart_fetch.k3 (fun a1 a2 a3 a4 a5 h => hart_hart_fetch.j3 U  a1 a2 a3 a4 a5 (fun r1 r2 r3 r4 r5 h => κ (.agg [.int .i64 r1, .int .u64 r2, .int .u64 r3, .bool r4, .int .i64 r5]) h) h)))]) (envOK seatOK (hart_hart_fetch.callsOK hU) hU) seatOK.mixed hart_hart_fetch.fun (Nat.le_of_ble_eq_true rfl) wv (cutL_ok ⟨(hart_hart_fetch.s3 hU (fun r1 r2 r3 r4 r5 h => κ (.agg [.int .i64 r1, .int .u64 r2, .int .u64 r3, .bool r4, .int .i64 r5]) h)), trivial⟩) s (fuel := 3000) (by rw [← hart_hart_fetch.e]; exact hx)
  · exact hx.elim

noncomputable def hart_acts.code : Code := Go.Proofs.Tryz.f25.body.getD .skip

theorem hart_acts.fun : Fun sg.P 25 40 [.tmp 0] hart_acts.code := mkFun Go.Proofs.Tryz.func25 (by kernel_rfl) (by kernel_rfl) (by kernel_rfl) (by kernel_rfl)

def hart_acts.ret (Q : (Option Nat) → Heap → Prop) (v : V) (h : Heap) : Prop :=
  match v with
  | .map r1 => Q r1 h
  | _ => False

def hart_acts.C (vs : List V) (κ : V → Heap → Prop) (h : Heap) : Prop :=
  match vs with
  | [] => hart_acts  (fun r1 h => κ (.map r1) h) h
  | _ => False

noncomputable def hart_acts.calls : List (Nat × (List V → (V → Heap → Prop) → Heap → Prop)) := []

noncomputable def hart_acts.E (Q : (Option Nat) → Heap → Prop) (cuts : List (Nat × (List Nat × (List V → Heap → Prop)))) : Env := { tis := tisT, fns := fnsT, tys := tysT, gls := [], rts := rtsT, unk := [], nxt := [], calls := hart_acts.calls, ifc := noIfc, cuts := cuts, ret := hart_acts.ret Q, rets := [.tmp 0], n := 40 }

theorem hart_acts.callsOK {W0 : World} : CallsOK sg W0 hart_acts.calls := trivial

def hart_acts.k19 (I : (Option Nat) → Int → Heap → Prop) (vs : List V) (h : Heap) : Prop :=
  match vs with
  | [.map a1, .int .i64 a2] => I a1 a2 h
  | _ => False

def hart_acts.k15 (I : (Option Nat) → Int → Heap → Prop) (vs : List V) (h : Heap) : Prop :=
  match vs with
  | [.map a1, .int .i64 a2] => I a1 a2 h
  | _ => False

def hart_acts.k11 (I : (Option Nat) → Int → Heap → Prop) (vs : List V) (h : Heap) : Prop :=
  match vs with
  | [.map a1, .int .i64 a2] => I a1 a2 h
  | _ => False

def hart_acts.k7 (I : (Option Nat) → Int → Heap → Prop) (vs : List V) (h : Heap) : Prop :=
  match vs with
  | [.map a1, .int .i64 a2] => I a1 a2 h
  | _ => False

def hart_acts.k3 (I : (Option Nat) → Int → Heap → Prop) (vs : List V) (h : Heap) : Prop :=
  match vs with
  | [.map a1, .int .i64 a2] => I a1 a2 h
  | _ => False

theorem hart_acts.p19 : (posC hart_acts.code []).filter (fun p => Nat.beq p.1 19) = [(19, atPos (posC hart_acts.code []) 19)] := by kernel_rfl

theorem hart_acts.e19 : ∀  (I19 : (Option Nat) → Int → Heap → Prop) (a1 : Option Nat) (a2 : Int) (Q : (Option Nat) → Heap → Prop) (h : Heap), hart_acts.b19  I19 a1 a2 Q h = pts (hart_acts.E Q [(19, ([1, 6], hart_acts.k19 I19))]) 3000 true (atPos (posC hart_acts.code []) 19) (frAt [1, 6] [.map a1, .int .i64 a2]) h := by
  intros; kernel_rfl

theorem hart_acts.s19 {W0 : World} (Q : (Option Nat) → Heap → Prop)   : CutOK sg W0 40 (entered 25) (Post sg W0 (hart_acts.ret Q)) (posC hart_acts.code []) 19 [1, 6] (hart_acts.k19 (fun a1 a2 h => hart_acts.j19  a1 a2 Q h)) := by
  refine cutOK_head (fun vs h hk => ?_)
  unfold hart_acts.k19 at hk
  split at hk
  · rename_i a1 a2
    refine hk (fun a1 a2 h => Head sg W0 40 (entered 25) (Post sg W0 (hart_acts.ret Q)) (posC hart_acts.code []) 19 [1, 6] [.map a1, .int .i64 a2] h) ?_
    intro a1 a2 h hb todo hm ρ a w s f hp
    have hself : CutOK sg W0 40 (entered 25) (Post sg W0 (hart_acts.ret Q)) (posC hart_acts.code []) 19 [1, 6] (hart_acts.k19 (fun a1 a2 h => Head sg W0 40 (entered 25) (Post sg W0 (hart_acts.ret Q)) (posC hart_acts.code []) 19 [1, 6] [.map a1, .int .i64 a2] h)) := cutOK_head (fun vs h hk => by unfold hart_acts.k19 at hk; split at hk; exact hk; exact hk.elim)
    exact piece (E := hart_acts.E Q [(19, ([1, 6], hart_acts.k19 (fun a1 a2 h => Head sg W0 40 (entered 25) (Post sg W0 (hart_acts.ret Q)) (posC hart_acts.code []) 19 [1, 6] [.map a1, .int .i64 a2] h)))]) (vs := [.map a1, .int .i64 a2]) (envOK seatOK hart_acts.callsOK noIfc_ok) (fnOK seatOK hart_acts.fun) ⟨hself, trivial⟩ hart_acts.p19 (fuel := 3000) (by rw [← hart_acts.e19]; exact hb) hm s f hp
  · exact hk.elim

theorem hart_acts.p15 : (posC hart_acts.code []).filter (fun p => Nat.beq p.1 15) = [(15, atPos (posC hart_acts.code []) 15)] := by kernel_rfl

theorem hart_acts.e15 : ∀  (I15 : (Option Nat) → Int → Heap → Prop) (a1 : Option Nat) (a2 : Int) (Q : (Option Nat) → Heap → Prop) (h : Heap), hart_acts.b15  I15 a1 a2 Q h = pts (hart_acts.E Q [(15, ([1, 5], hart_acts.k15 I15)), (19, ([1, 6], hart_acts.k19 (fun a1 a2 h => hart_acts.j19  a1 a2 Q h)))]) 3000 true (atPos (posC hart_acts.code []) 15) (frAt [1, 5] [.map a1, .int .i64 a2]) h := by
  intros; kernel_rfl

theorem hart_acts.s15 {W0 : World} (Q : (Option Nat) → Heap → Prop)   : CutOK sg W0 40 (entered 25) (Post sg W0 (hart_acts.ret Q)) (posC hart_acts.code []) 15 [1, 5] (hart_acts.k15 (fun a1 a2 h => hart_acts.j15  a1 a2 Q h)) := by
  refine cutOK_head (fun vs h hk => ?_)
  unfold hart_acts.k15 at hk
  split at hk
  · rename_i a1 a2
    refine hk (fun a1 a2 h => Head sg W0 40 (entered 25) (Post sg W0 (hart_acts.ret Q)) (posC hart_acts.code []) 15 [1, 5] [.map a1, .int .i64 a2] h) ?_
    intro a1 a2 h hb todo hm ρ a w s f hp
    have hself : CutOK sg W0 40 (entered 25) (Post sg W0 (hart_acts.ret Q)) (posC hart_acts.code []) 15 [1, 5] (hart_acts.k15 (fun a1 a2 h => Head sg W0 40 (entered 25) (Post sg W0 (hart_acts.ret Q)) (posC hart_acts.code []) 15 [1, 5] [.map a1, .int .i64 a2] h)) := cutOK_head (fun vs h hk => by unfold hart_acts.k15 at hk; split at hk; exact hk; exact hk.elim)
    exact piece (E := hart_acts.E Q [(15, ([1, 5], hart_acts.k15 (fun a1 a2 h => Head sg W0 40 (entered 25) (Post sg W0 (hart_acts.ret Q)) (posC hart_acts.code []) 15 [1, 5] [.map a1, .int .i64 a2] h))), (19, ([1, 6], hart_acts.k19 (fun a1 a2 h => hart_acts.j19  a1 a2 Q h)))]) (vs := [.map a1, .int .i64 a2]) (envOK seatOK hart_acts.callsOK noIfc_ok) (fnOK seatOK hart_acts.fun) ⟨hself, (hart_acts.s19 Q  ), trivial⟩ hart_acts.p15 (fuel := 3000) (by rw [← hart_acts.e15]; exact hb) hm s f hp
  · exact hk.elim

theorem hart_acts.p11 : (posC hart_acts.code []).filter (fun p => Nat.beq p.1 11) = [(11, atPos (posC hart_acts.code []) 11)] := by kernel_rfl

theorem hart_acts.e11 : ∀  (I11 : (Option Nat) → Int → Heap → Prop) (a1 : Option Nat) (a2 : Int) (Q : (Option Nat) → Heap → Prop) (h : Heap), hart_acts.b11  I11 a1 a2 Q h = pts (hart_acts.E Q [(11, ([1, 4], hart_acts.k11 I11)), (15, ([1, 5], hart_acts.k15 (fun a1 a2 h => hart_acts.j15  a1 a2 Q h)))]) 3000 true (atPos (posC hart_acts.code []) 11) (frAt [1, 4] [.map a1, .int .i64 a2]) h := by
  intros; kernel_rfl

theorem hart_acts.s11 {W0 : World} (Q : (Option Nat) → Heap → Prop)   : CutOK sg W0 40 (entered 25) (Post sg W0 (hart_acts.ret Q)) (posC hart_acts.code []) 11 [1, 4] (hart_acts.k11 (fun a1 a2 h => hart_acts.j11  a1 a2 Q h)) := by
  refine cutOK_head (fun vs h hk => ?_)
  unfold hart_acts.k11 at hk
  split at hk
  · rename_i a1 a2
    refine hk (fun a1 a2 h => Head sg W0 40 (entered 25) (Post sg W0 (hart_acts.ret Q)) (posC hart_acts.code []) 11 [1, 4] [.map a1, .int .i64 a2] h) ?_
    intro a1 a2 h hb todo hm ρ a w s f hp
    have hself : CutOK sg W0 40 (entered 25) (Post sg W0 (hart_acts.ret Q)) (posC hart_acts.code []) 11 [1, 4] (hart_acts.k11 (fun a1 a2 h => Head sg W0 40 (entered 25) (Post sg W0 (hart_acts.ret Q)) (posC hart_acts.code []) 11 [1, 4] [.map a1, .int .i64 a2] h)) := cutOK_head (fun vs h hk => by unfold hart_acts.k11 at hk; split at hk; exact hk; exact hk.elim)
    exact piece (E := hart_acts.E Q [(11, ([1, 4], hart_acts.k11 (fun a1 a2 h => Head sg W0 40 (entered 25) (Post sg W0 (hart_acts.ret Q)) (posC hart_acts.code []) 11 [1, 4] [.map a1, .int .i64 a2] h))), (15, ([1, 5], hart_acts.k15 (fun a1 a2 h => hart_acts.j15  a1 a2 Q h)))]) (vs := [.map a1, .int .i64 a2]) (envOK seatOK hart_acts.callsOK noIfc_ok) (fnOK seatOK hart_acts.fun) ⟨hself, (hart_acts.s15 Q  ), trivial⟩ hart_acts.p11 (fuel := 3000) (by rw [← hart_acts.e11]; exact hb) hm s f hp
  · exact hk.elim

theorem hart_acts.p7 : (posC hart_acts.code []).filter (fun p => Nat.beq p.1 7) = [(7, atPos (posC hart_acts.code []) 7)] := by kernel_rfl

theorem hart_acts.e7 : ∀  (I7 : (Option Nat) → Int → Heap → Prop) (a1 : Option Nat) (a2 : Int) (Q : (Option Nat) → Heap → Prop) (h : Heap), hart_acts.b7  I7 a1 a2 Q h = pts (hart_acts.E Q [(7, ([1, 3], hart_acts.k7 I7)), (11, ([1, 4], hart_acts.k11 (fun a1 a2 h => hart_acts.j11  a1 a2 Q h)))]) 3000 true (atPos (posC hart_acts.code []) 7) (frAt [1, 3] [.map a1, .int .i64 a2]) h := by
  intros; kernel_rfl

theorem hart_acts.s7 {W0 : World} (Q : (Option Nat) → Heap → Prop)   : CutOK sg W0 40 (entered 25) (Post sg W0 (hart_acts.ret Q)) (posC hart_acts.code []) 7 [1, 3] (hart_acts.k7 (fun a1 a2 h => hart_acts.j7  a1 a2 Q h)) := by
  refine cutOK_head (fun vs h hk => ?_)
  unfold hart_acts.k7 at hk
  split at hk
  · rename_i a1 a2
    refine hk (fun a1 a2 h => Head sg W0 40 (entered 25) (Post sg W0 (hart_acts.ret Q)) (posC hart_acts.code []) 7 [1, 3] [.map a1, .int .i64 a2] h) ?_
    intro a1 a2 h hb todo hm ρ a w s f hp
    have hself : CutOK sg W0 40 (entered 25) (Post sg W0 (hart_acts.ret Q)) (posC hart_acts.code []) 7 [1, 3] (hart_acts.k7 (fun a1 a2 h => Head sg W0 40 (entered 25) (Post sg W0 (hart_acts.ret Q)) (posC hart_acts.code []) 7 [1, 3] [.map a1, .int .i64 a2] h)) := cutOK_head (fun vs h hk => by unfold hart_acts.k7 at hk; split at hk; exact hk; exact hk.elim)
    exact piece (E := hart_acts.E Q [(7, ([1, 3], hart_acts.k7 (fun a1 a2 h => Head sg W0 40 (entered 25) (Post sg W0 (hart_acts.ret Q)) (posC hart_acts.code []) 7 [1, 3] [.map a1, .int .i64 a2] h))), (11, ([1, 4], hart_acts.k11 (fun a1 a2 h => hart_acts.j11  a1 a2 Q h)))]) (vs := [.map a1, .int .i64 a2]) (envOK seatOK hart_acts.callsOK noIfc_ok) (fnOK seatOK hart_acts.fun) ⟨hself, (hart_acts.s11 Q  ), trivial⟩ hart_acts.p7 (fuel := 3000) (by rw [← hart_acts.e7]; exact hb) hm s f hp
  · exact hk.elim

theorem hart_acts.p3 : (posC hart_acts.code []).filter (fun p => Nat.beq p.1 3) = [(3, atPos (posC hart_acts.code []) 3)] := by kernel_rfl

theorem hart_acts.e3 : ∀  (I3 : (Option Nat) → Int → Heap → Prop) (a1 : Option Nat) (a2 : Int) (Q : (Option Nat) → Heap → Prop) (h : Heap), hart_acts.b3  I3 a1 a2 Q h = pts (hart_acts.E Q [(3, ([1, 2], hart_acts.k3 I3)), (7, ([1, 3], hart_acts.k7 (fun a1 a2 h => hart_acts.j7  a1 a2 Q h)))]) 3000 true (atPos (posC hart_acts.code []) 3) (frAt [1, 2] [.map a1, .int .i64 a2]) h := by
  intros; kernel_rfl

theorem hart_acts.s3 {W0 : World} (Q : (Option Nat) → Heap → Prop)   : CutOK sg W0 40 (entered 25) (Post sg W0 (hart_acts.ret Q)) (posC hart_acts.code []) 3 [1, 2] (hart_acts.k3 (fun a1 a2 h => hart_acts.j3  a1 a2 Q h)) := by
  refine cutOK_head (fun vs h hk => ?_)
  unfold hart_acts.k3 at hk
  split at hk
  · rename_i a1 a2
    refine hk (fun a1 a2 h => Head sg W0 40 (entered 25) (Post sg W0 (hart_acts.ret Q)) (posC hart_acts.code []) 3 [1, 2] [.map a1, .int .i64 a2] h) ?_
    intro a1 a2 h hb todo hm ρ a w s f hp
    have hself : CutOK sg W0 40 (entered 25) (Post sg W0 (hart_acts.ret Q)) (posC hart_acts.code []) 3 [1, 2] (hart_acts.k3 (fun a1 a2 h => Head sg W0 40 (entered 25) (Post sg W0 (hart_acts.ret Q)) (posC hart_acts.code []) 3 [1, 2] [.map a1, .int .i64 a2] h)) := cutOK_head (fun vs h hk => by unfold hart_acts.k3 at hk; split at hk; exact hk; exact hk.elim)
    exact piece (E := hart_acts.E Q [(3, ([1, 2], hart_acts.k3 (fun a1 a2 h => Head sg W0 40 (entered 25) (Post sg W0 (hart_acts.ret Q)) (posC hart_acts.code []) 3 [1, 2] [.map a1, .int .i64 a2] h))), (7, ([1, 3], hart_acts.k7 (fun a1 a2 h => hart_acts.j7  a1 a2 Q h)))]) (vs := [.map a1, .int .i64 a2]) (envOK seatOK hart_acts.callsOK noIfc_ok) (fnOK seatOK hart_acts.fun) ⟨hself, (hart_acts.s7 Q  ), trivial⟩ hart_acts.p3 (fuel := 3000) (by rw [← hart_acts.e3]; exact hb) hm s f hp
  · exact hk.elim

theorem hart_acts.e : ∀  (Q : (Option Nat) → Heap → Prop) (h : Heap), hart_acts  Q h = pts (hart_acts.E Q [(3, ([1, 2], hart_acts.k3 (fun a1 a2 h => hart_acts.j3  a1 a2 Q h)))]) 3000 true [.code hart_acts.code] (frOf 0 []) h := by
  intros; kernel_rfl

theorem hart_acts.S {W0 : World} : FnS sg W0 185 hart_acts.C := by
  intro vs κ h wv hx w s
  unfold hart_acts.C at hx
  split at hx
  · skip
    refine postImp (ret := hart_acts.ret (fun r1 h => κ (.map r1) h)) (fun v h hr => by unfold hart_acts.ret at hr; split at hr; exact hr; exact hr.elim) ?_
    exact calls_of_pts (E := hart_acts.E (fun r1 h => κ (.map r1) h) [(3, ([1, 2], hart_acts.k3 (fun a1 a2 h => hart_acts.j3  a1 a2 (fun r1 h => κ (.map r1) h) h)))]) (envOK seatOK hart_acts.callsOK noIfc_ok) seatOK.mixed hart_acts.fun (Nat.le_of_ble_eq_true rfl) wv (cutL_ok ⟨(hart_acts.s3 (fun r1 h => κ (.map r1) h)), trivial⟩) s (fuel := 3000) (by rw [← hart_acts.e]; exact hx)
  · exact hx.elim

noncomputable def csr_File_Enter.code : Code := Go.Proofs.Tryz.f62.body.getD .skip

theorem csr_File_Enter.fun : Fun sg.P 62 73 [.tmp 8, .tmp 9] csr_File_Enter.code := mkFun Go.Proofs.Tryz.func62 (by kernel_rfl) (by kernel_rfl) (by kernel_rfl) (by kernel_rfl)

def csr_File_Enter.ret (Q : Int → Int → Heap → Prop) (v : V) (h : Heap) : Prop :=
  match v with
  | .tup [.int .u64 r1, .int .i64 r2] => Q r1 r2 h
  | _ => False

def csr_File_Enter.C (vs : List V) (κ : V → Heap → Prop) (h : Heap) : Prop :=
  match vs with
  | [.ptr a1, .agg [.int .i64 a2, .int .u64 a3, .int .u64 a4], .int .u64 a5, .int .i64 a6] => csr_File_Enter a1 a2 a3 a4 a5 a6 (fun r1 r2 h => κ (.tup [.int .u64 r1, .int .i64 r2]) h) h
  | _ => False

noncomputable def csr_File_Enter.calls : List (Nat × (List V → (V → Heap → Prop) → Heap → Prop)) := [(162, csr_File_none.C)]

noncomputable def csr_File_Enter.E (Q : Int → Int → Heap → Prop) (cuts : List (Nat × (List Nat × (List V → Heap → Prop)))) : Env := { tis := tisT, fns := fnsT, tys := tysT, gls := [], rts := rtsT, unk := [], nxt := [], calls := csr_File_Enter.calls, ifc := noIfc, cuts := cuts, ret := csr_File_Enter.ret Q, rets := [.tmp 8, .tmp 9], n := 73 }

theorem csr_File_Enter.callsOK {W0 : World} : CallsOK sg W0 csr_File_Enter.calls := ⟨csr_File_none.S, trivial⟩

def csr_File_Enter.k9 (I : (Option Ptr) → Int → Int → Heap → Prop) (vs : List V) (h : Heap) : Prop :=
  match vs with
  | [.ptr a1, .int .i64 a2, .int .u64 a3] => I a1 a2 a3 h
  | _ => False

def csr_File_Enter.k6 (I : (Option Ptr) → Int → Heap → Prop) (vs : List V) (h : Heap) : Prop :=
  match vs with
  | [.ptr a1, .int .i64 a2] => I a1 a2 h
  | _ => False

def csr_File_Enter.k4 (I : (Option Ptr) → Int → Ptr → Heap → Prop) (vs : List V) (h : Heap) : Prop :=
  match vs with
  | [.ptr a1, .int .i64 a2, .ptr (some a3)] => I a1 a2 a3 h
  | _ => False

theorem csr_File_Enter.p9 : (posC csr_File_Enter.code []).filter (fun p => Nat.beq p.1 9) = [(9, atPos (posC csr_File_Enter.code []) 9)] := by kernel_rfl

theorem csr_File_Enter.e9 : ∀  (a1 : Option Ptr) (a2 : Int) (a3 : Int) (Q : Int → Int → Heap → Prop) (h : Heap), csr_File_Enter.j9  a1 a2 a3 Q h = pts (csr_File_Enter.E Q []) 3000 true (atPos (posC csr_File_Enter.code []) 9) (frAt [0, 3, 10] [.ptr a1, .int .i64 a2, .int .u64 a3]) h := by
  intros; kernel_rfl

theorem csr_File_Enter.s9 {W0 : World} (Q : Int → Int → Heap → Prop)   : CutOK sg W0 73 (entered 62) (Post sg W0 (csr_File_Enter.ret Q)) (posC csr_File_Enter.code []) 9 [0, 3, 10] (csr_File_Enter.k9 (fun a1 a2 a3 h => csr_File_Enter.j9  a1 a2 a3 Q h)) := by
  refine cutOK_head (fun vs h hk => ?_)
  unfold csr_File_Enter.k9 at hk
  split at hk
  · rename_i a1 a2 a3
    intro todo hm ρ a w s f hp
    exact piece (E := csr_File_Enter.E Q []) (vs := [.ptr a1, .int .i64 a2, .int .u64 a3]) (envOK seatOK csr_File_Enter.callsOK noIfc_ok) (fnOK seatOK csr_File_Enter.fun) trivial csr_File_Enter.p9 (fuel := 3000) (by rw [← csr_File_Enter.e9]; exact hk) hm s f hp
  · exact hk.elim

theorem csr_File_Enter.p6 : (posC csr_File_Enter.code []).filter (fun p => Nat.beq p.1 6) = [(6, atPos (posC csr_File_Enter.code []) 6)] := by kernel_rfl

theorem csr_File_Enter.e6 : ∀  (a1 : Option Ptr) (a2 : Int) (Q : Int → Int → Heap → Prop) (h : Heap), csr_File_Enter.j6  a1 a2 Q h = pts (csr_File_Enter.E Q [(9, ([0, 3, 10], csr_File_Enter.k9 (fun a1 a2 a3 h => csr_File_Enter.j9  a1 a2 a3 Q h)))]) 3000 true (atPos (posC csr_File_Enter.code []) 6) (frAt [0, 3] [.ptr a1, .int .i64 a2]) h := by
  intros; kernel_rfl

theorem csr_File_Enter.s6 {W0 : World} (Q : Int → Int → Heap → Prop)   : CutOK sg W0 73 (entered 62) (Post sg W0 (csr_File_Enter.ret Q)) (posC csr_File_Enter.code []) 6 [0, 3] (csr_File_Enter.k6 (fun a1 a2 h => csr_File_Enter.j6  a1 a2 Q h)) := by
  refine cutOK_head (fun vs h hk => ?_)
  unfold csr_File_Enter.k6 at hk
  split at hk
  · rename_i a1 a2
    intro todo hm ρ a w s f hp
    exact piece (E := csr_File_Enter.E Q [(9, ([0, 3, 10], csr_File_Enter.k9 (fun a1 a2 a3 h => csr_File_Enter.j9  a1 a2 a3 Q h)))]) (vs := [.ptr a1, .int .i64 a2]) (envOK seatOK csr_File_Enter.callsOK noIfc_ok) (fnOK seatOK csr_File_Enter.fun) ⟨(csr_File_Enter.s9 Q  ), trivial⟩ csr_File_Enter.p6 (fuel := 3000) (by rw [← csr_File_Enter.e6]; exact hk) hm s f hp
  · exact hk.elim

theorem csr_File_Enter.p4 : (posC csr_File_Enter.code []).filter (fun p => Nat.beq p.1 4) = [(4, atPos (posC csr_File_Enter.code []) 4)] := by kernel_rfl

theorem csr_File_Enter.e4 : ∀  (a1 : Option Ptr) (a2 : Int) (a3 : Ptr) (Q : Int → Int → Heap → Prop) (h : Heap), csr_File_Enter.j4  a1 a2 a3 Q h = pts (csr_File_Enter.E Q [(6, ([0, 3], csr_File_Enter.k6 (fun a1 a2 h => csr_File_Enter.j6  a1 a2 Q h)))]) 3000 true (atPos (posC csr_File_Enter.code []) 4) (frAt [0, 3, 5] [.ptr a1, .int .i64 a2, .ptr (some a3)]) h := by
  intros; kernel_rfl

theorem csr_File_Enter.s4 {W0 : World} (Q : Int → Int → Heap → Prop)   : CutOK sg W0 73 (entered 62) (Post sg W0 (csr_File_Enter.ret Q)) (posC csr_File_Enter.code []) 4 [0, 3, 5] (csr_File_Enter.k4 (fun a1 a2 a3 h => csr_File_Enter.j4  a1 a2 a3 Q h)) := by
  refine cutOK_head (fun vs h hk => ?_)
  unfold csr_File_Enter.k4 at hk
  split at hk
  · rename_i a1 a2 a3
    intro todo hm ρ a w s f hp
    exact piece (E := csr_File_Enter.E Q [(6, ([0, 3], csr_File_Enter.k6 (fun a1 a2 h => csr_File_Enter.j6  a1 a2 Q h)))]) (vs := [.ptr a1, .int .i64 a2, .ptr (some a3)]) (envOK seatOK csr_File_Enter.callsOK noIfc_ok) (fnOK seatOK csr_File_Enter.fun) ⟨(csr_File_Enter.s6 Q  ), trivial⟩ csr_File_Enter.p4 (fuel := 3000) (by rw [← csr_File_Enter.e4]; exact hk) hm s f hp
  · exact hk.elim

theorem csr_File_Enter.e : ∀ (a1 : Option Ptr) (a2 : Int) (a3 : Int) (a4 : Int) (a5 : Int) (a6 : Int) (Q : Int → Int → Heap → Prop) (h : Heap), csr_File_Enter a1 a2 a3 a4 a5 a6 Q h = pts (csr_File_Enter.E Q [(4, ([0, 3, 5], csr_File_Enter.k4 (fun a1 a2 a3 h => csr_File_Enter.j4  a1 a2 a3 Q h)))]) 3000 true [.code csr_File_Enter.code] (frOf 0 [.ptr a1, .agg [.int .i64 a2, .int .u64 a3, .int .u64 a4], .int .u64 a5, .int .i64 a6]) h := by
  intros; kernel_rfl

theorem csr_File_Enter.S {W0 : World} : FnS sg W0 186 csr_File_Enter.C := by
  intro vs κ h wv hx w s
  unfold csr_File_Enter.C at hx
  split at hx
  · rename_i a1 a2 a3 a4 a5 a6
    refine postImp (ret := csr_File_Enter.ret (fun r1 r2 h => κ (.tup [.int .u64 r1, .int .i64 r2]) h)) (fun v h hr => by unfold csr_File_Enter.ret at hr; split at hr; exact hr; exact hr.elim) ?_
    exact calls_of_pts (E := csr_File_Enter.E (fun r1 r2 h => κ (.tup [.int .u64 r1, .int .i64 r2]) h) [(4, ([0, 3, 5], csr_File_Enter.k4 (fun a1 a2 a3 h => csr_File_Enter.j4  a1 a2 a3 (fun r1 r2 h => κ (.tup [.int .u64 r1, .int .i64 r2]) h) h)))]) (envOK seatOK csr_File_Enter.callsOK noIfc_ok) seatOK.mixed csr_File_Enter.fun (Nat.le_of_ble_eq_true rfl) wv (cutL_ok ⟨(csr_File_Enter.s4 (fun r1 r2 h => κ (.tup [.int .u64 r1, .int .i64 r2]) h)), trivial⟩) s (fuel := 3000) (by rw [← csr_File_Enter.e]; exact hx)
  · exact hx.elim

noncomputable def hart_hart_enter.code : Code := Go.Proofs.Tryz.f26.body.getD .skip

theorem hart_hart_enter.fun : Fun sg.P 26 49 [.cell 4 41] hart_hart_enter.code := mkFun Go.Proofs.Tryz.func26 (by kernel_rfl) (by kernel_rfl) (by kernel_rfl) (by kernel_rfl)

def hart_hart_enter.ret (Q : Int → Int → Int → Int → Bool → Bool → Heap → Prop) (v : V) (h : Heap) : Prop :=
  match v with
  | .agg [.int .i64 r1, .int .i64 r2, .int .u64 r3, .int .u64 r4, .bool r5, .bool r6] => Q r1 r2 r3 r4 r5 r6 h
  | _ => False

def hart_hart_enter.C (vs : List V) (κ : V → Heap → Prop) (h : Heap) : Prop :=
  match vs with
  | [.ptr a1, .agg [.int .i64 a2, .int .u64 a3, .int .u64 a4, .bool a5, .int .i64 a6]] => hart_hart_enter a1 a2 a3 a4 a5 a6 (fun r1 r2 r3 r4 r5 r6 h => κ (.agg [.int .i64 r1, .int .i64 r2, .int .u64 r3, .int .u64 r4, .bool r5, .bool r6]) h) h
  | _ => False

noncomputable def hart_hart_enter.calls : List (Nat × (List V → (V → Heap → Prop) → Heap → Prop)) := [(186, csr_File_Enter.C)]

noncomputable def hart_hart_enter.E (Q : Int → Int → Int → Int → Bool → Bool → Heap → Prop) (cuts : List (Nat × (List Nat × (List V → Heap → Prop)))) : Env := { tis := tisT, fns := fnsT, tys := tysT, gls := [], rts := rtsT, unk := [], nxt := [], calls := hart_hart_enter.calls, ifc := noIfc, cuts := cuts, ret := hart_hart_enter.ret Q, rets := [.cell 4 41], n := 49 }

theorem hart_hart_enter.callsOK {W0 : World} : CallsOK sg W0 hart_hart_enter.calls := ⟨csr_File_Enter.S, trivial⟩

def hart_hart_enter.k3 (I : Ptr → Ptr → Heap → Prop) (vs : List V) (h : Heap) : Prop :=
  match vs with
  | [.ptr (some a1), .ptr (some a2)] => I a1 a2 h
  | _ => False

theorem hart_hart_enter.p3 : (posC hart_hart_enter.code []).filter (fun p => Nat.beq p.1 3) = [(3, atPos (posC hart_hart_enter.code []) 3)] := by kernel_rfl

theorem hart_hart_enter.e3 : ∀  (a1 : Ptr) (a2 : Ptr) (Q : Int → Int → Int → Int → Bool → Bool → Heap → Prop) (h : Heap), hart_hart_enter.j3  a1 a2 Q h = pts (hart_hart_enter.E Q []) 3000 true (atPos (posC hart_hart_enter.code []) 3) (frAt [3, 4] [.ptr (some a1), .ptr (some a2)]) h := by
  intros; kernel_rfl

theorem hart_hart_enter.s3 {W0 : World} (Q : Int → Int → Int → Int → Bool → Bool → Heap → Prop)   : CutOK sg W0 49 (entered 26) (Post sg W0 (hart_hart_enter.ret Q)) (posC hart_hart_enter.code []) 3 [3, 4] (hart_hart_enter.k3 (fun a1 a2 h => hart_hart_enter.j3  a1 a2 Q h)) := by
  refine cutOK_head (fun vs h hk => ?_)
  unfold hart_hart_enter.k3 at hk
  split at hk
  · rename_i a1 a2
    intro todo hm ρ a w s f hp
    exact piece (E := hart_hart_enter.E Q []) (vs := [.ptr (some a1), .ptr (some a2)]) (envOK seatOK hart_hart_enter.callsOK noIfc_ok) (fnOK seatOK hart_hart_enter.fun) trivial hart_hart_enter.p3 (fuel := 3000) (by rw [← hart_hart_enter.e3]; exact hk) hm s f hp
  · exact hk.elim

theorem hart_hart_enter.e : ∀ (a1 : Option Ptr) (a2 : Int) (a3 : Int) (a4 : Int) (a5 : Bool) (a6 : Int) (Q : Int → Int → Int → Int → Bool → Bool → Heap → Prop) (h : Heap), hart_hart_enter a1 a2 a3 a4 a5 a6 Q h = pts (hart_hart_enter.E Q [(3, ([3, 4], hart_hart_enter.k3 (fun a1 a2 h => hart_hart_enter.j3  a1 a2 Q h)))]) 3000 true [.code hart_hart_enter.code] (frOf 0 [.ptr a1, .agg [.int .i64 a2, .int .u64 a3, .int .u64 a4, .bool a5, .int .i64 a6]]) h := by
  intros; kernel_rfl

theorem hart_hart_enter.S {W0 : World} : FnS sg W0 187 hart_hart_enter.C := by
  intro vs κ h wv hx w s
  unfold hart_hart_enter.C at hx
  split at hx
  · rename_i a1 a2 a3 a4 a5 a6
    refine postImp (ret := hart_hart_enter.ret (fun r1 r2 r3 r4 r5 r6 h => κ (.agg [.int .i64 r1, .int .i64 r2, .int .u64 r3, .int .u64 r4, .bool r5, .bool r6]) h)) (fun v h hr => by unfold hart_hart_enter.ret at hr; split at hr; exact hr; exact hr.elim) ?_
    exact calls_of_pts (E := hart_hart_enter.E (fun r1 r2 r3 r4 r5 r6 h => κ (.agg [.int .i64 r1, .int .i64 r2, .int .u64 r3, .int .u64 r4, .bool r5, .bool r6]) h) [(3, ([3, 4], hart_hart_enter.k3 (fun a1 a2 h => hart_hart_enter.j3  a1 a2 (fun r1 r2 r3 r4 r5 r6 h => κ (.agg [.int .i64 r1, .int .i64 r2, .int .u64 r3, .int .u64 r4, .bool r5, .bool r6]) h) h)))]) (envOK seatOK hart_hart_enter.callsOK noIfc_ok) seatOK.mixed hart_hart_enter.fun (Nat.le_of_ble_eq_true rfl) wv (cutL_ok ⟨(hart_hart_enter.s3 (fun r1 r2 r3 r4 r5 r6 h => κ (.agg [.int .i64 r1, .int .i64 r2, .int .u64 r3, .int .u64 r4, .bool r5, .bool r6]) h)), trivial⟩) s (fuel := 3000) (by rw [← hart_hart_enter.e]; exact hx)
  · exact hx.elim

noncomputable def hart_Step.code : Code := Go.Proofs.Tryz.f9.body.getD .skip

theorem hart_Step.fun : Fun sg.P 9 61 [.cell 6 41, .tmp 7] hart_Step.code := mkFun Go.Proofs.Tryz.func9 (by kernel_rfl) (by kernel_rfl) (by kernel_rfl) (by kernel_rfl)

def hart_Step.ret (Q : Int → Int → Int → Int → Bool → Bool → Int → Heap → Prop) (v : V) (h : Heap) : Prop :=
  match v with
  | .tup [.agg [.int .i64 r1, .int .i64 r2, .int .u64 r3, .int .u64 r4, .bool r5, .bool r6], .int .i64 r7] => Q r1 r2 r3 r4 r5 r6 r7 h
  | _ => False

def hart_Step.C (U : Ifc) (vs : List V) (κ : V → Heap → Prop) (h : Heap) : Prop :=
  match vs with
  | [.ptr a1, .ptr a2, a3] => hart_Step U a1 a2 a3 (fun r1 r2 r3 r4 r5 r6 r7 h => κ (.tup [.agg [.int .i64 r1, .int .i64 r2, .int .u64 r3, .int .u64 r4, .bool r5, .bool r6], .int .i64 r7]) h) h
  | _ => False

noncomputable def hart_Step.calls (U : Ifc) : List (Nat × (List V → (V → Heap → Prop) → Heap → Prop)) := [(163, csr_File_Clone.C), (184, hart_hart_fetch.C U), (185, hart_acts.C), (187, hart_hart_enter.C)]

noncomputable def hart_Step.E (U : Ifc) (Q : Int → Int → Int → Int → Bool → Bool → Int → Heap → Prop) (cuts : List (Nat × (List Nat × (List V → Heap → Prop)))) : Env := { tis := tisT, fns := fnsT, tys := tysT, gls := glsT, rts := rtsT, unk := [42], nxt := [], calls := hart_Step.calls U, ifc := U, cuts := cuts, ret := hart_Step.ret Q, rets := [.cell 6 41, .tmp 7], n := 61 }

theorem hart_Step.callsOK {W0 : World} {U : Ifc} (hU : IfcOK sg W0 glsT U) : CallsOK sg W0 (hart_Step.calls U) := ⟨csr_File_Clone.S, (hart_hart_fetch.S hU), hart_acts.S, hart_hart_enter.S, trivial⟩

def hart_Step.k2 (I : Ptr → Heap → Prop) (vs : List V) (h : Heap) : Prop :=
  match vs with
  | [.ptr (some a1)] => I a1 h
  | _ => False

def hart_Step.k8 (I : (Option Ptr) → Ptr → Ptr → Ptr → Heap → Prop) (vs : List V) (h : Heap) : Prop :=
  match vs with
  | [.ptr a1, .ptr (some a2), .ptr (some a3), .ptr (some a4)] => I a1 a2 a3 a4 h
  | _ => False

def hart_Step.k6 (I : (Option Ptr) → Ptr → Ptr → Ptr → Heap → Prop) (vs : List V) (h : Heap) : Prop :=
  match vs with
  | [.ptr a1, .ptr (some a2), .ptr (some a3), .ptr (some a4)] => I a1 a2 a3 a4 h
  | _ => False

theorem hart_Step.p2 : (posC hart_Step.code []).filter (fun p => Nat.beq p.1 2) = [(2, atPos (posC hart_Step.code []) 2)] := by kernel_rfl

theorem hart_Step.e2 : ∀ (U : Ifc)  (a1 : Ptr) (Q : Int → Int → Int → Int → Bool → Bool → Int → Heap → Prop) (h : Heap), hart_Step.j2 U  a1 Q h = pts (hart_Step.E U Q []) 3000 true (atPos (posC hart_Step.code []) 2) (frAt [6] [.ptr (some a1)]) h := by
  intros; kernel_rfl

theorem hart_Step.s2 {W0 : World} {U : Ifc} (hU : IfcOK sg W0 glsT U) (Q : Int → Int → Int → Int → Bool → Bool → Int → Heap → Prop)   : CutOK sg W0 61 (entered 9) (Post sg W0 (hart_Step.ret Q)) (posC hart_Step.code []) 2 [6] (hart_Step.k2 (fun a1 h => hart_Step.j2 U  a1 Q h)) := by
  refine cutOK_head (fun vs h hk => ?_)
  unfold hart_Step.k2 at hk
  split at hk
  · rename_i a1
    intro todo hm ρ a w s f hp
    exact piece (E := hart_Step.E U Q []) (vs := [.ptr (some a1)]) (envOK seatOK (hart_Step.callsOK hU) hU) (fnOK seatOK hart_Step.fun) trivial hart_Step.p2 (fuel := 3000) (by rw [← hart_Step.e2]; exact hk) hm s f hp
  · exact hk.elim

theorem hart_Step.p8 : (posC hart_Step.code []).filter (fun p => Nat.beq p.1 8) = [(8, atPos (posC hart_Step.code []) 8)] := by kernel_rfl

theorem hart_Step.e8 : ∀ (U : Ifc)  (a1 : Option Ptr) (a2 : Ptr) (a3 : Ptr) (a4 : Ptr) (Q : Int → Int → Int → Int → Bool → Bool → Int → Heap → Prop) (h : Heap), hart_Step.j8 U  a1 a2 a3 a4 Q h = pts (hart_Step.E U Q []) 3000 true (atPos (posC hart_Step.code []) 8) (frAt [0, 6, 8, 9] [.ptr a1, .ptr (some a2), .ptr (some a3), .ptr (some a4)]) h := by
  intros; kernel_rfl

theorem hart_Step.s8 {W0 : World} {U : Ifc} (hU : IfcOK sg W0 glsT U) (Q : Int → Int → Int → Int → Bool → Bool → Int → Heap → Prop)   : CutOK sg W0 61 (entered 9) (Post sg W0 (hart_Step.ret Q)) (posC hart_Step.code []) 8 [0, 6, 8, 9] (hart_Step.k8 (fun a1 a2 a3 a4 h => hart_Step.j8 U  a1 a2 a3 a4 Q h)) := by
  refine cutOK_head (fun vs h hk => ?_)
  unfold hart_Step.k8 at hk
  split at hk
  · rename_i a1 a2 a3 a4
    intro todo hm ρ a w s f hp
    exact piece (E := hart_Step.E U Q []) (vs := [.ptr a1, .ptr (some a2), .ptr (some a3), .ptr (some a4)]) (envOK seatOK (hart_Step.callsOK hU) hU) (fnOK seatOK hart_Step.fun) trivial hart_Step.p8 (fuel := 3000) (by rw [← hart_Step.e8]; exact hk) hm s f hp
  · exact hk.elim

theorem hart_Step.p6 : (posC hart_Step.code []).filter (fun p => Nat.beq p.1 6) = [(6, atPos (posC hart_Step.code []) 6)] := by kernel_rfl

theorem hart_Step.e6 : ∀ (U : Ifc)  (a1 : Option Ptr) (a2 : Ptr) (a3 : Ptr) (a4 : Ptr) (Q : Int → Int → Int → Int → Bool → Bool → Int → Heap → Prop) (h : Heap), hart_Step.j6 U  a1 a2 a3 a4 Q h = pts (hart_Step.E U Q [(8, ([0, 6, 8, 9], hart_Step.k8 (fun a1 a2 a3 a4 h => hart_Step.j8 U  a1 a2 a3 a4 Q h)))]) 3000 true (atPos (posC hart_Step.code []) 6) (frAt [0, 6, 8, 9] [.ptr a1, .ptr (some a2), .ptr (some a3), .ptr (some a4)]) h := by
  intros; kernel_rfl

theorem hart_Step.s6 {W0 : World} {U : Ifc} (hU : IfcOK sg W0 glsT U) (Q : Int → Int → Int → Int → Bool → Bool → Int → Heap → Prop)   : CutOK sg W0 61 (entered 9) (Post sg W0 (hart_Step.ret Q)) (posC hart_Step.code []) 6 [0, 6, 8, 9] (hart_Step.k6 (fun a1 a2 a3 a4 h => hart_Step.j6 U  a1 a2 a3 a4 Q h)) := by
  refine cutOK_head (fun vs h hk => ?_)
  unfold hart_Step.k6 at hk
  split at hk
  · rename_i a1 a2 a3 a4
    intro todo hm ρ a w s f hp
    exact piece (E := hart_Step.E U Q [(8, ([0, 6, 8, 9], hart_Step.k8 (fun a1 a2 a3 a4 h => hart_Step.j8 U  a1 a2 a3 a4 Q h)))]) (vs := [.ptr a1, .ptr (some a2), .ptr (some a3), .ptr (some a4)]) (envOK seatOK (hart_Step.callsOK hU) hU) (fnOK seatOK hart_Step.fun) ⟨(hart_Step.s8 hU Q  ), trivial⟩ hart_Step.p6 (fuel := 3000) (by rw [← hart_Step.e6]; exact hk) hm s f hp
  · exact hk.elim

theorem hart_Step.e : ∀ (U : Ifc) (a1 : Option Ptr) (a2 : Option Ptr) (a3 : V) (Q : Int → Int → Int → Int → Bool → Bool → Int → Heap → Prop) (h : Heap), hart_Step U a1 a2 a3 Q h = pts (hart_Step.E U Q [(2, ([6], hart_Step.k2 (fun a1 h => hart_Step.j2 U  a1 Q h))), (6, ([0, 6, 8, 9], hart_Step.k6 (fun a1 a2 a3 a4 h => hart_Step.j6 U  a1 a2 a3 a4 Q h)))]) 3000 true [.code hart_Step.code] (frOf 0 [.ptr a1, .ptr a2, a3]) h := by
  intros; kernel_rfl

theorem hart_Step.S {W0 : World} {U : Ifc} (hU : IfcOK sg W0 glsT U) : FnS sg W0 188 (hart_Step.C U) := by
  intro vs κ h wv hx w s
  unfold hart_Step.C at hx
  split at hx
  · rename_i a1 a2 a3
    refine postImp (ret := hart_Step.ret (fun r1 r2 r3 r4 r5 r6 r7 h => κ (.tup [.agg [.int .i64 r1, .int .i64 r2, .int .u64 r3, .int .u64 r4, .bool r5, .bool r6], .int .i64 r7]) h)) (fun v h hr => by unfold hart_Step.ret at hr; split at hr; exact hr; exact hr.elim) ?_
    exact calls_of_pts (E := hart_Step.E U (fun r1 r2 r3 r4 r5 r6 r7 h => κ (.tup [.agg [.int .i64 r1, .int .i64 r2, .int .u64 r3, .int .u64 r4, .bool r5, .bool r6], .int .i64 r7]) h) [(2, ([6], hart_Step.k2 (fun a1 h => hart_Step.j2 U  a1 (fun r1 r2 r3 r4 r5 r6 r7 h => κ (.tup [.agg [.int .i64 r1, .int .i64 r2, .int .u64 r3, .int .u64 r4, .bool r5, .bool r6], .int .i64 r7]) h) h))), (6, ([0, 6, 8, 9], hart_Step.k6 (fun a1 a2 a3 a4 h => hart_Step.j6 U  a1 a2 a3 a4 (fun r1 r2 r3 r4 r5 r6 r7 h => κ (.tup [.agg [.int .i64 r1, .int .i64 r2, .int .u64 r3, .int .u64 r4, .bool r5, .bool r6], .int .i64 r7]) h) h)))]) (envOK seatOK (hart_Step.callsOK hU) hU) seatOK.mixed hart_Step.fun (Nat.le_of_ble_eq_true rfl) wv (cutL_ok ⟨(hart_Step.s2 hU (fun r1 r2 r3 r4 r5 r6 r7 h => κ (.tup [.agg [.int .i64 r1, .int .i64 r2, .int .u64 r3, .int .u64 r4, .bool r5, .bool r6], .int .i64 r7]) h)), (hart_Step.s6 hU (fun r1 r2 r3 r4 r5 r6 r7 h => κ (.tup [.agg [.int .i64 r1, .int .i64 r2, .int .u64 r3, .int .u64 r4, .bool r5, .bool r6], .int .i64 r7]) h)), trivial⟩) s (fuel := 3000) (by rw [← hart_Step.e]; exact hx)
  · exact hx.elim

noncomputable def csr_File_Get.code : Code := Go.Proofs.Tryz.f11.body.getD .skip

theorem csr_File_Get.fun : Fun sg.P 11 18 [.tmp 4] csr_File_Get.code := mkFun Go.Proofs.Tryz.func11 (by kernel_rfl) (by kernel_rfl) (by kernel_rfl) (by kernel_rfl)

def csr_File_Get.ret (Q : Int → Heap → Prop) (v : V) (h : Heap) : Prop :=
  match v with
  | .int .u64 r1 => Q r1 h
  | _ => False

def csr_File_Get.C (vs : List V) (κ : V → Heap → Prop) (h : Heap) : Prop :=
  match vs with
  | [.ptr a1, .int .i64 a2] => csr_File_Get a1 a2 (fun r1 h => κ (.int .u64 r1) h) h
  | _ => False

noncomputable def csr_File_Get.calls : List (Nat × (List V → (V → Heap → Prop) → Heap → Prop)) := [(162, csr_File_none.C), (213, csr_known.C)]

noncomputable def csr_File_Get.E (Q : Int → Heap → Prop) (cuts : List (Nat × (List Nat × (List V → Heap → Prop)))) : Env := { tis := tisT, fns := fnsT, tys := tysT, gls := [], rts := rtsT, unk := [], nxt := [], calls := csr_File_Get.calls, ifc := noIfc, cuts := cuts, ret := csr_File_Get.ret Q, rets := [.tmp 4], n := 18 }

theorem csr_File_Get.callsOK {W0 : World} : CallsOK sg W0 csr_File_Get.calls := ⟨csr_File_none.S, csr_known.S, trivial⟩

theorem csr_File_Get.e : ∀ (a1 : Option Ptr) (a2 : Int) (Q : Int → Heap → Prop) (h : Heap), csr_File_Get a1 a2 Q h = pts (csr_File_Get.E Q []) 3000 true [.code csr_File_Get.code] (frOf 0 [.ptr a1, .int .i64 a2]) h := by
  intros; kernel_rfl

theorem csr_File_Get.S {W0 : World} : FnS sg W0 233 csr_File_Get.C := by
  intro vs κ h wv hx w s
  unfold csr_File_Get.C at hx
  split at hx
  · rename_i a1 a2
    refine postImp (ret := csr_File_Get.ret (fun r1 h => κ (.int .u64 r1) h)) (fun v h hr => by unfold csr_File_Get.ret at hr; split at hr; exact hr; exact hr.elim) ?_
    exact calls_of_pts (E := csr_File_Get.E (fun r1 h => κ (.int .u64 r1) h) []) (envOK seatOK csr_File_Get.callsOK noIfc_ok) seatOK.mixed csr_File_Get.fun (Nat.le_of_ble_eq_true rfl) wv (cutL_ok trivial) s (fuel := 3000) (by rw [← csr_File_Get.e]; exact hx)
  · exact hx.elim

noncomputable def palisadelaw09_HartTraps.code : Code := Go.Proofs.Tryz.f6.body.getD .skip

theorem palisadelaw09_HartTraps.fun : Fun sg.P 6 113 [.tmp 4] palisadelaw09_HartTraps.code := mkFun Go.Proofs.Tryz.func6 (by kernel_rfl) (by kernel_rfl) (by kernel_rfl) (by kernel_rfl)

def palisadelaw09_HartTraps.ret (Q : Bool → Heap → Prop) (v : V) (h : Heap) : Prop :=
  match v with
  | .bool r1 => Q r1 h
  | _ => False

def palisadelaw09_HartTraps.C (U : Ifc) (vs : List V) (κ : V → Heap → Prop) (h : Heap) : Prop :=
  match vs with
  | [.ago a1, .int .u64 a2] => palisadelaw09_HartTraps U a1 a2 (fun r1 h => κ (.bool r1) h) h
  | _ => False

noncomputable def palisadelaw09_HartTraps.calls (U : Ifc) : List (Nat × (List V → (V → Heap → Prop) → Heap → Prop)) := [(231, palisadelaw09_both.C U), (188, hart_Step.C U), (233, csr_File_Get.C), (97, mem_Memory_Store.C U)]

noncomputable def palisadelaw09_HartTraps.E (U : Ifc) (Q : Bool → Heap → Prop) (cuts : List (Nat × (List Nat × (List V → Heap → Prop)))) : Env := { tis := tisT, fns := fnsT, tys := tysT, gls := glsT, rts := rtsT, unk := [], nxt := [], calls := palisadelaw09_HartTraps.calls U, ifc := U, cuts := cuts, ret := palisadelaw09_HartTraps.ret Q, rets := [.tmp 4], n := 113 }

theorem palisadelaw09_HartTraps.callsOK {W0 : World} {U : Ifc} (hU : IfcOK sg W0 glsT U) : CallsOK sg W0 (palisadelaw09_HartTraps.calls U) := ⟨(palisadelaw09_both.S hU), (hart_Step.S hU), csr_File_Get.S, (mem_Memory_Store.S hU), trivial⟩

def palisadelaw09_HartTraps.k18 (I : Heap → Prop) (vs : List V) (h : Heap) : Prop :=
  match vs with
  | [] => I  h
  | _ => False

def palisadelaw09_HartTraps.k19 (I : Int → (Option Ptr) → (Option Ptr) → Ptr → Ptr → Heap → Prop) (vs : List V) (h : Heap) : Prop :=
  match vs with
  | [.int .u64 a1, .ptr a2, .ptr a3, .ptr (some a4), .ptr (some a5)] => I a1 a2 a3 a4 a5 h
  | _ => False

def palisadelaw09_HartTraps.k15 (I : Int → (Option Ptr) → (Option Ptr) → Ptr → Heap → Prop) (vs : List V) (h : Heap) : Prop :=
  match vs with
  | [.int .u64 a1, .ptr a2, .ptr a3, .ptr (some a4)] => I a1 a2 a3 a4 h
  | _ => False

def palisadelaw09_HartTraps.k9 (I : Int → Ptr → Heap → Prop) (vs : List V) (h : Heap) : Prop :=
  match vs with
  | [.int .u64 a1, .ptr (some a2)] => I a1 a2 h
  | _ => False

theorem palisadelaw09_HartTraps.p18 : (posC palisadelaw09_HartTraps.code []).filter (fun p => Nat.beq p.1 18) = [(18, atPos (posC palisadelaw09_HartTraps.code []) 18)] := by kernel_rfl

theorem palisadelaw09_HartTraps.e18 : ∀ (U : Ifc)   (Q : Bool → Heap → Prop) (h : Heap), palisadelaw09_HartTraps.j18 U   Q h = pts (palisadelaw09_HartTraps.E U Q []) 3000 true (atPos (posC palisadelaw09_HartTraps.code []) 18) (frAt [] []) h := by
  intros; kernel_rfl

theorem palisadelaw09_HartTraps.s18 {W0 : World} {U : Ifc} (hU : IfcOK sg W0 glsT U) (Q : Bool → Heap → Prop)   : CutOK sg W0 113 (entered 6) (Post sg W0 (palisadelaw09_HartTraps.ret Q)) (posC palisadelaw09_HartTraps.code []) 18 [] (palisadelaw09_HartTraps.k18 (fun  h => palisadelaw09_HartTraps.j18 U   Q h)) := by
  refine cutOK_head (fun vs h hk => ?_)
  unfold palisadelaw09_HartTraps.k18 at hk
  split at hk
  · skip
    intro todo hm ρ a w s f hp
    exact piece (E := palisadelaw09_HartTraps.E U Q []) (vs := []) (envOK seatOK (palisadelaw09_HartTraps.callsOK hU) hU) (fnOK seatOK palisadelaw09_HartTraps.fun) trivial palisadelaw09_HartTraps.p18 (fuel := 3000) (by rw [← palisadelaw09_HartTraps.e18]; exact hk) hm s f hp
  · exact hk.elim

theorem palisadelaw09_HartTraps.p19 : (posC palisadelaw09_HartTraps.code []).filter (fun p => Nat.beq p.1 19) = [(19, atPos (posC palisadelaw09_HartTraps.code []) 19)] := by kernel_rfl

theorem palisadelaw09_HartTraps.e19 : ∀ (U : Ifc)  (a1 : Int) (a2 : Option Ptr) (a3 : Option Ptr) (a4 : Ptr) (a5 : Ptr) (Q : Bool → Heap → Prop) (h : Heap), palisadelaw09_HartTraps.j19 U  a1 a2 a3 a4 a5 Q h = pts (palisadelaw09_HartTraps.E U Q []) 3000 true (atPos (posC palisadelaw09_HartTraps.code []) 19) (frAt [1, 5, 7, 10, 11] [.int .u64 a1, .ptr a2, .ptr a3, .ptr (some a4), .ptr (some a5)]) h := by
  intros; kernel_rfl

theorem palisadelaw09_HartTraps.s19 {W0 : World} {U : Ifc} (hU : IfcOK sg W0 glsT U) (Q : Bool → Heap → Prop)   : CutOK sg W0 113 (entered 6) (Post sg W0 (palisadelaw09_HartTraps.ret Q)) (posC palisadelaw09_HartTraps.code []) 19 [1, 5, 7, 10, 11] (palisadelaw09_HartTraps.k19 (fun a1 a2 a3 a4 a5 h => palisadelaw09_HartTraps.j19 U  a1 a2 a3 a4 a5 Q h)) := by
  refine cutOK_head (fun vs h hk => ?_)
  unfold palisadelaw09_HartTraps.k19 at hk
  split at hk
  · rename_i a1 a2 a3 a4 a5
    intro todo hm ρ a w s f hp
    exact piece (E := palisadelaw09_HartTraps.E U Q []) (vs := [.int .u64 a1, .ptr a2, .ptr a3, .ptr (some a4), .ptr (some a5)]) (envOK seatOK (palisadelaw09_HartTraps.callsOK hU) hU) (fnOK seatOK palisadelaw09_HartTraps.fun) trivial palisadelaw09_HartTraps.p19 (fuel := 3000) (by rw [← palisadelaw09_HartTraps.e19]; exact hk) hm s f hp
  · exact hk.elim

theorem palisadelaw09_HartTraps.p15 : (posC palisadelaw09_HartTraps.code []).filter (fun p => Nat.beq p.1 15) = [(15, atPos (posC palisadelaw09_HartTraps.code []) 15)] := by kernel_rfl

theorem palisadelaw09_HartTraps.e15 : ∀ (U : Ifc)  (a1 : Int) (a2 : Option Ptr) (a3 : Option Ptr) (a4 : Ptr) (Q : Bool → Heap → Prop) (h : Heap), palisadelaw09_HartTraps.j15 U  a1 a2 a3 a4 Q h = pts (palisadelaw09_HartTraps.E U Q [(18, ([], palisadelaw09_HartTraps.k18 (fun  h => palisadelaw09_HartTraps.j18 U   Q h))), (19, ([1, 5, 7, 10, 11], palisadelaw09_HartTraps.k19 (fun a1 a2 a3 a4 a5 h => palisadelaw09_HartTraps.j19 U  a1 a2 a3 a4 a5 Q h)))]) 3000 true (atPos (posC palisadelaw09_HartTraps.code []) 15) (frAt [1, 5, 7, 10] [.int .u64 a1, .ptr a2, .ptr a3, .ptr (some a4)]) h := by
  intros; kernel_rfl

theorem palisadelaw09_HartTraps.s15 {W0 : World} {U : Ifc} (hU : IfcOK sg W0 glsT U) (Q : Bool → Heap → Prop)   : CutOK sg W0 113 (entered 6) (Post sg W0 (palisadelaw09_HartTraps.ret Q)) (posC palisadelaw09_HartTraps.code []) 15 [1, 5, 7, 10] (palisadelaw09_HartTraps.k15 (fun a1 a2 a3 a4 h => palisadelaw09_HartTraps.j15 U  a1 a2 a3 a4 Q h)) := by
  refine cutOK_head (fun vs h hk => ?_)
  unfold palisadelaw09_HartTraps.k15 at hk
  split at hk
  · rename_i a1 a2 a3 a4
    intro todo hm ρ a w s f hp
    exact piece (E := palisadelaw09_HartTraps.E U Q [(18, ([], palisadelaw09_HartTraps.k18 (fun  h => palisadelaw09_HartTraps.j18 U   Q h))), (19, ([1, 5, 7, 10, 11], palisadelaw09_HartTraps.k19 (fun a1 a2 a3 a4 a5 h => palisadelaw09_HartTraps.j19 U  a1 a2 a3 a4 a5 Q h)))]) (vs := [.int .u64 a1, .ptr a2, .ptr a3, .ptr (some a4)]) (envOK seatOK (palisadelaw09_HartTraps.callsOK hU) hU) (fnOK seatOK palisadelaw09_HartTraps.fun) ⟨(palisadelaw09_HartTraps.s18 hU Q  ), (palisadelaw09_HartTraps.s19 hU Q  ), trivial⟩ palisadelaw09_HartTraps.p15 (fuel := 3000) (by rw [← palisadelaw09_HartTraps.e15]; exact hk) hm s f hp
  · exact hk.elim

theorem palisadelaw09_HartTraps.p9 : (posC palisadelaw09_HartTraps.code []).filter (fun p => Nat.beq p.1 9) = [(9, atPos (posC palisadelaw09_HartTraps.code []) 9)] := by kernel_rfl

theorem palisadelaw09_HartTraps.e9 : ∀ (U : Ifc)  (a1 : Int) (a2 : Ptr) (Q : Bool → Heap → Prop) (h : Heap), palisadelaw09_HartTraps.j9 U  a1 a2 Q h = pts (palisadelaw09_HartTraps.E U Q [(15, ([1, 5, 7, 10], palisadelaw09_HartTraps.k15 (fun a1 a2 a3 a4 h => palisadelaw09_HartTraps.j15 U  a1 a2 a3 a4 Q h)))]) 3000 true (atPos (posC palisadelaw09_HartTraps.code []) 9) (frAt [1, 2] [.int .u64 a1, .ptr (some a2)]) h := by
  intros; kernel_rfl

theorem palisadelaw09_HartTraps.s9 {W0 : World} {U : Ifc} (hU : IfcOK sg W0 glsT U) (Q : Bool → Heap → Prop)   : CutOK sg W0 113 (entered 6) (Post sg W0 (palisadelaw09_HartTraps.ret Q)) (posC palisadelaw09_HartTraps.code []) 9 [1, 2] (palisadelaw09_HartTraps.k9 (fun a1 a2 h => palisadelaw09_HartTraps.j9 U  a1 a2 Q h)) := by
  refine cutOK_head (fun vs h hk => ?_)
  unfold palisadelaw09_HartTraps.k9 at hk
  split at hk
  · rename_i a1 a2
    intro todo hm ρ a w s f hp
    exact piece (E := palisadelaw09_HartTraps.E U Q [(15, ([1, 5, 7, 10], palisadelaw09_HartTraps.k15 (fun a1 a2 a3 a4 h => palisadelaw09_HartTraps.j15 U  a1 a2 a3 a4 Q h)))]) (vs := [.int .u64 a1, .ptr (some a2)]) (envOK seatOK (palisadelaw09_HartTraps.callsOK hU) hU) (fnOK seatOK palisadelaw09_HartTraps.fun) ⟨(palisadelaw09_HartTraps.s15 hU Q  ), trivial⟩ palisadelaw09_HartTraps.p9 (fuel := 3000) (by rw [← palisadelaw09_HartTraps.e9]; exact hk) hm s f hp
  · exact hk.elim

theorem palisadelaw09_HartTraps.e : ∀ (U : Ifc) (a1 : List V) (a2 : Int) (Q : Bool → Heap → Prop) (h : Heap), palisadelaw09_HartTraps U a1 a2 Q h = pts (palisadelaw09_HartTraps.E U Q [(9, ([1, 2], palisadelaw09_HartTraps.k9 (fun a1 a2 h => palisadelaw09_HartTraps.j9 U  a1 a2 Q h)))]) 3000 true [.code palisadelaw09_HartTraps.code] (frOf 0 [.ago a1, .int .u64 a2]) h := by
  intros; kernel_rfl

theorem palisadelaw09_HartTraps.S {W0 : World} {U : Ifc} (hU : IfcOK sg W0 glsT U) : FnS sg W0 256 (palisadelaw09_HartTraps.C U) := by
  intro vs κ h wv hx w s
  unfold palisadelaw09_HartTraps.C at hx
  split at hx
  · rename_i a1 a2
    refine postImp (ret := palisadelaw09_HartTraps.ret (fun r1 h => κ (.bool r1) h)) (fun v h hr => by unfold palisadelaw09_HartTraps.ret at hr; split at hr; exact hr; exact hr.elim) ?_
    exact calls_of_pts (E := palisadelaw09_HartTraps.E U (fun r1 h => κ (.bool r1) h) [(9, ([1, 2], palisadelaw09_HartTraps.k9 (fun a1 a2 h => palisadelaw09_HartTraps.j9 U  a1 a2 (fun r1 h => κ (.bool r1) h) h)))]) (envOK seatOK (palisadelaw09_HartTraps.callsOK hU) hU) seatOK.mixed palisadelaw09_HartTraps.fun (Nat.le_of_ble_eq_true rfl) wv (cutL_ok ⟨(palisadelaw09_HartTraps.s9 hU (fun r1 h => κ (.bool r1) h)), trivial⟩) s (fuel := 3000) (by rw [← palisadelaw09_HartTraps.e]; exact hx)
  · exact hx.elim

noncomputable def hart_hart_imm.code : Code := Go.Proofs.Tryz.f74.body.getD .skip

theorem hart_hart_imm.fun : Fun sg.P 74 9 [.tmp 2] hart_hart_imm.code := mkFun Go.Proofs.Tryz.func74 (by kernel_rfl) (by kernel_rfl) (by kernel_rfl) (by kernel_rfl)

def hart_hart_imm.ret (Q : Int → Heap → Prop) (v : V) (h : Heap) : Prop :=
  match v with
  | .int .u64 r1 => Q r1 h
  | _ => False

def hart_hart_imm.C (vs : List V) (κ : V → Heap → Prop) (h : Heap) : Prop :=
  match vs with
  | [.ptr a1] => hart_hart_imm a1 (fun r1 h => κ (.int .u64 r1) h) h
  | _ => False

noncomputable def hart_hart_imm.calls : List (Nat × (List V → (V → Heap → Prop) → Heap → Prop)) := []

noncomputable def hart_hart_imm.E (Q : Int → Heap → Prop) (cuts : List (Nat × (List Nat × (List V → Heap → Prop)))) : Env := { tis := tisT, fns := fnsT, tys := tysT, gls := [], rts := rtsT, unk := [], nxt := [], calls := hart_hart_imm.calls, ifc := noIfc, cuts := cuts, ret := hart_hart_imm.ret Q, rets := [.tmp 2], n := 9 }

theorem hart_hart_imm.callsOK {W0 : World} : CallsOK sg W0 hart_hart_imm.calls := trivial

theorem hart_hart_imm.e : ∀ (a1 : Option Ptr) (Q : Int → Heap → Prop) (h : Heap), hart_hart_imm a1 Q h = pts (hart_hart_imm.E Q []) 3000 true [.code hart_hart_imm.code] (frOf 0 [.ptr a1]) h := by
  intros; kernel_rfl

theorem hart_hart_imm.S {W0 : World} : FnS sg W0 195 hart_hart_imm.C := by
  intro vs κ h wv hx w s
  unfold hart_hart_imm.C at hx
  split at hx
  · rename_i a1
    refine postImp (ret := hart_hart_imm.ret (fun r1 h => κ (.int .u64 r1) h)) (fun v h hr => by unfold hart_hart_imm.ret at hr; split at hr; exact hr; exact hr.elim) ?_
    exact calls_of_pts (E := hart_hart_imm.E (fun r1 h => κ (.int .u64 r1) h) []) (envOK seatOK hart_hart_imm.callsOK noIfc_ok) seatOK.mixed hart_hart_imm.fun (Nat.le_of_ble_eq_true rfl) wv (cutL_ok trivial) s (fuel := 3000) (by rw [← hart_hart_imm.e]; exact hx)
  · exact hx.elim

noncomputable def hart_hart_set.code : Code := Go.Proofs.Tryz.f73.body.getD .skip

theorem hart_hart_set.fun : Fun sg.P 73 23 [] hart_hart_set.code := mkFun Go.Proofs.Tryz.func73 (by kernel_rfl) (by kernel_rfl) (by kernel_rfl) (by kernel_rfl)

def hart_hart_set.ret (Q : Heap → Prop) (v : V) (h : Heap) : Prop :=
  match v with
  | .tup [] => Q  h
  | _ => False

def hart_hart_set.C (vs : List V) (κ : V → Heap → Prop) (h : Heap) : Prop :=
  match vs with
  | [.ptr a1, .int .u64 a2] => hart_hart_set a1 a2 (fun  h => κ (.tup []) h) h
  | _ => False

noncomputable def hart_hart_set.calls : List (Nat × (List V → (V → Heap → Prop) → Heap → Prop)) := []

noncomputable def hart_hart_set.E (Q : Heap → Prop) (cuts : List (Nat × (List Nat × (List V → Heap → Prop)))) : Env := { tis := tisT, fns := fnsT, tys := tysT, gls := [], rts := rtsT, unk := [], nxt := [], calls := hart_hart_set.calls, ifc := noIfc, cuts := cuts, ret := hart_hart_set.ret Q, rets := [], n := 23 }

theorem hart_hart_set.callsOK {W0 : World} : CallsOK sg W0 hart_hart_set.calls := trivial

theorem hart_hart_set.e : ∀ (a1 : Option Ptr) (a2 : Int) (Q : Heap → Prop) (h : Heap), hart_hart_set a1 a2 Q h = pts (hart_hart_set.E Q []) 3000 true [.code hart_hart_set.code] (frOf 0 [.ptr a1, .int .u64 a2]) h := by
  intros; kernel_rfl

theorem hart_hart_set.S {W0 : World} : FnS sg W0 196 hart_hart_set.C := by
  intro vs κ h wv hx w s
  unfold hart_hart_set.C at hx
  split at hx
  · rename_i a1 a2
    refine postImp (ret := hart_hart_set.ret (fun  h => κ (.tup []) h)) (fun v h hr => by unfold hart_hart_set.ret at hr; split at hr; exact hr; exact hr.elim) ?_
    exact calls_of_pts (E := hart_hart_set.E (fun  h => κ (.tup []) h) []) (envOK seatOK hart_hart_set.callsOK noIfc_ok) seatOK.mixed hart_hart_set.fun (Nat.le_of_ble_eq_true rfl) wv (cutL_ok trivial) s (fuel := 3000) (by rw [← hart_hart_set.e]; exact hx)
  · exact hx.elim

noncomputable def hart_hart_lui.code : Code := Go.Proofs.Tryz.f46.body.getD .skip

theorem hart_hart_lui.fun : Fun sg.P 46 9 [.cell 2 86] hart_hart_lui.code := mkFun Go.Proofs.Tryz.func46 (by kernel_rfl) (by kernel_rfl) (by kernel_rfl) (by kernel_rfl)

def hart_hart_lui.ret (Q : Int → Int → Int → Bool → Int → Heap → Prop) (v : V) (h : Heap) : Prop :=
  match v with
  | .agg [.int .i64 r1, .int .u64 r2, .int .u64 r3, .bool r4, .int .i64 r5] => Q r1 r2 r3 r4 r5 h
  | _ => False

def hart_hart_lui.C (vs : List V) (κ : V → Heap → Prop) (h : Heap) : Prop :=
  match vs with
  | [.ptr a1] => hart_hart_lui a1 (fun r1 r2 r3 r4 r5 h => κ (.agg [.int .i64 r1, .int .u64 r2, .int .u64 r3, .bool r4, .int .i64 r5]) h) h
  | _ => False

noncomputable def hart_hart_lui.calls : List (Nat × (List V → (V → Heap → Prop) → Heap → Prop)) := [(196, hart_hart_set.C), (195, hart_hart_imm.C)]

noncomputable def hart_hart_lui.E (Q : Int → Int → Int → Bool → Int → Heap → Prop) (cuts : List (Nat × (List Nat × (List V → Heap → Prop)))) : Env := { tis := tisT, fns := fnsT, tys := tysT, gls := [], rts := rtsT, unk := [], nxt := [], calls := hart_hart_lui.calls, ifc := noIfc, cuts := cuts, ret := hart_hart_lui.ret Q, rets := [.cell 2 86], n := 9 }

theorem hart_hart_lui.callsOK {W0 : World} : CallsOK sg W0 hart_hart_lui.calls := ⟨hart_hart_set.S, hart_hart_imm.S, trivial⟩

theorem hart_hart_lui.e : ∀ (a1 : Option Ptr) (Q : Int → Int → Int → Bool → Int → Heap → Prop) (h : Heap), hart_hart_lui a1 Q h = pts (hart_hart_lui.E Q []) 3000 true [.code hart_hart_lui.code] (frOf 0 [.ptr a1]) h := by
  intros; kernel_rfl

theorem hart_hart_lui.S {W0 : World} : FnS sg W0 146 hart_hart_lui.C := by
  intro vs κ h wv hx w s
  unfold hart_hart_lui.C at hx
  split at hx
  · rename_i a1
    refine postImp (ret := hart_hart_lui.ret (fun r1 r2 r3 r4 r5 h => κ (.agg [.int .i64 r1, .int .u64 r2, .int .u64 r3, .bool r4, .int .i64 r5]) h)) (fun v h hr => by unfold hart_hart_lui.ret at hr; split at hr; exact hr; exact hr.elim) ?_
    exact calls_of_pts (E := hart_hart_lui.E (fun r1 r2 r3 r4 r5 h => κ (.agg [.int .i64 r1, .int .u64 r2, .int .u64 r3, .bool r4, .int .i64 r5]) h) []) (envOK seatOK hart_hart_lui.callsOK noIfc_ok) seatOK.mixed hart_hart_lui.fun (Nat.le_of_ble_eq_true rfl) wv (cutL_ok trivial) s (fuel := 3000) (by rw [← hart_hart_lui.e]; exact hx)
  · exact hx.elim

noncomputable def hart_hart_jal.code : Code := Go.Proofs.Tryz.f47.body.getD .skip

theorem hart_hart_jal.fun : Fun sg.P 47 24 [.cell 2 86] hart_hart_jal.code := mkFun Go.Proofs.Tryz.func47 (by kernel_rfl) (by kernel_rfl) (by kernel_rfl) (by kernel_rfl)

def hart_hart_jal.ret (Q : Int → Int → Int → Bool → Int → Heap → Prop) (v : V) (h : Heap) : Prop :=
  match v with
  | .agg [.int .i64 r1, .int .u64 r2, .int .u64 r3, .bool r4, .int .i64 r5] => Q r1 r2 r3 r4 r5 h
  | _ => False

def hart_hart_jal.C (vs : List V) (κ : V → Heap → Prop) (h : Heap) : Prop :=
  match vs with
  | [.ptr a1] => hart_hart_jal a1 (fun r1 r2 r3 r4 r5 h => κ (.agg [.int .i64 r1, .int .u64 r2, .int .u64 r3, .bool r4, .int .i64 r5]) h) h
  | _ => False

noncomputable def hart_hart_jal.calls : List (Nat × (List V → (V → Heap → Prop) → Heap → Prop)) := [(196, hart_hart_set.C), (195, hart_hart_imm.C)]

noncomputable def hart_hart_jal.E (Q : Int → Int → Int → Bool → Int → Heap → Prop) (cuts : List (Nat × (List Nat × (List V → Heap → Prop)))) : Env := { tis := tisT, fns := fnsT, tys := tysT, gls := [], rts := rtsT, unk := [], nxt := [], calls := hart_hart_jal.calls, ifc := noIfc, cuts := cuts, ret := hart_hart_jal.ret Q, rets := [.cell 2 86], n := 24 }

theorem hart_hart_jal.callsOK {W0 : World} : CallsOK sg W0 hart_hart_jal.calls := ⟨hart_hart_set.S, hart_hart_imm.S, trivial⟩

theorem hart_hart_jal.e : ∀ (a1 : Option Ptr) (Q : Int → Int → Int → Bool → Int → Heap → Prop) (h : Heap), hart_hart_jal a1 Q h = pts (hart_hart_jal.E Q []) 3000 true [.code hart_hart_jal.code] (frOf 0 [.ptr a1]) h := by
  intros; kernel_rfl

theorem hart_hart_jal.S {W0 : World} : FnS sg W0 147 hart_hart_jal.C := by
  intro vs κ h wv hx w s
  unfold hart_hart_jal.C at hx
  split at hx
  · rename_i a1
    refine postImp (ret := hart_hart_jal.ret (fun r1 r2 r3 r4 r5 h => κ (.agg [.int .i64 r1, .int .u64 r2, .int .u64 r3, .bool r4, .int .i64 r5]) h)) (fun v h hr => by unfold hart_hart_jal.ret at hr; split at hr; exact hr; exact hr.elim) ?_
    exact calls_of_pts (E := hart_hart_jal.E (fun r1 r2 r3 r4 r5 h => κ (.agg [.int .i64 r1, .int .u64 r2, .int .u64 r3, .bool r4, .int .i64 r5]) h) []) (envOK seatOK hart_hart_jal.callsOK noIfc_ok) seatOK.mixed hart_hart_jal.fun (Nat.le_of_ble_eq_true rfl) wv (cutL_ok trivial) s (fuel := 3000) (by rw [← hart_hart_jal.e]; exact hx)
  · exact hx.elim

noncomputable def hart_hart_a.code : Code := Go.Proofs.Tryz.f75.body.getD .skip

theorem hart_hart_a.fun : Fun sg.P 75 16 [.tmp 2] hart_hart_a.code := mkFun Go.Proofs.Tryz.func75 (by kernel_rfl) (by kernel_rfl) (by kernel_rfl) (by kernel_rfl)

def hart_hart_a.ret (Q : Int → Heap → Prop) (v : V) (h : Heap) : Prop :=
  match v with
  | .int .u64 r1 => Q r1 h
  | _ => False

def hart_hart_a.C (vs : List V) (κ : V → Heap → Prop) (h : Heap) : Prop :=
  match vs with
  | [.ptr a1] => hart_hart_a a1 (fun r1 h => κ (.int .u64 r1) h) h
  | _ => False

noncomputable def hart_hart_a.calls : List (Nat × (List V → (V → Heap → Prop) → Heap → Prop)) := []

noncomputable def hart_hart_a.E (Q : Int → Heap → Prop) (cuts : List (Nat × (List Nat × (List V → Heap → Prop)))) : Env := { tis := tisT, fns := fnsT, tys := tysT, gls := [], rts := rtsT, unk := [], nxt := [], calls := hart_hart_a.calls, ifc := noIfc, cuts := cuts, ret := hart_hart_a.ret Q, rets := [.tmp 2], n := 16 }

theorem hart_hart_a.callsOK {W0 : World} : CallsOK sg W0 hart_hart_a.calls := trivial

theorem hart_hart_a.e : ∀ (a1 : Option Ptr) (Q : Int → Heap → Prop) (h : Heap), hart_hart_a a1 Q h = pts (hart_hart_a.E Q []) 3000 true [.code hart_hart_a.code] (frOf 0 [.ptr a1]) h := by
  intros; kernel_rfl

theorem hart_hart_a.S {W0 : World} : FnS sg W0 197 hart_hart_a.C := by
  intro vs κ h wv hx w s
  unfold hart_hart_a.C at hx
  split at hx
  · rename_i a1
    refine postImp (ret := hart_hart_a.ret (fun r1 h => κ (.int .u64 r1) h)) (fun v h hr => by unfold hart_hart_a.ret at hr; split at hr; exact hr; exact hr.elim) ?_
    exact calls_of_pts (E := hart_hart_a.E (fun r1 h => κ (.int .u64 r1) h) []) (envOK seatOK hart_hart_a.callsOK noIfc_ok) seatOK.mixed hart_hart_a.fun (Nat.le_of_ble_eq_true rfl) wv (cutL_ok trivial) s (fuel := 3000) (by rw [← hart_hart_a.e]; exact hx)
  · exact hx.elim

noncomputable def hart_hart_jalr.code : Code := Go.Proofs.Tryz.f48.body.getD .skip

theorem hart_hart_jalr.fun : Fun sg.P 48 21 [.cell 2 86] hart_hart_jalr.code := mkFun Go.Proofs.Tryz.func48 (by kernel_rfl) (by kernel_rfl) (by kernel_rfl) (by kernel_rfl)

def hart_hart_jalr.ret (Q : Int → Int → Int → Bool → Int → Heap → Prop) (v : V) (h : Heap) : Prop :=
  match v with
  | .agg [.int .i64 r1, .int .u64 r2, .int .u64 r3, .bool r4, .int .i64 r5] => Q r1 r2 r3 r4 r5 h
  | _ => False

def hart_hart_jalr.C (vs : List V) (κ : V → Heap → Prop) (h : Heap) : Prop :=
  match vs with
  | [.ptr a1] => hart_hart_jalr a1 (fun r1 r2 r3 r4 r5 h => κ (.agg [.int .i64 r1, .int .u64 r2, .int .u64 r3, .bool r4, .int .i64 r5]) h) h
  | _ => False

noncomputable def hart_hart_jalr.calls : List (Nat × (List V → (V → Heap → Prop) → Heap → Prop)) := [(196, hart_hart_set.C), (195, hart_hart_imm.C), (197, hart_hart_a.C)]

noncomputable def hart_hart_jalr.E (Q : Int → Int → Int → Bool → Int → Heap → Prop) (cuts : List (Nat × (List Nat × (List V → Heap → Prop)))) : Env := { tis := tisT, fns := fnsT, tys := tysT, gls := [], rts := rtsT, unk := [], nxt := [], calls := hart_hart_jalr.calls, ifc := noIfc, cuts := cuts, ret := hart_hart_jalr.ret Q, rets := [.cell 2 86], n := 21 }

theorem hart_hart_jalr.callsOK {W0 : World} : CallsOK sg W0 hart_hart_jalr.calls := ⟨hart_hart_set.S, hart_hart_imm.S, hart_hart_a.S, trivial⟩

theorem hart_hart_jalr.e : ∀ (a1 : Option Ptr) (Q : Int → Int → Int → Bool → Int → Heap → Prop) (h : Heap), hart_hart_jalr a1 Q h = pts (hart_hart_jalr.E Q []) 3000 true [.code hart_hart_jalr.code] (frOf 0 [.ptr a1]) h := by
  intros; kernel_rfl

theorem hart_hart_jalr.S {W0 : World} : FnS sg W0 148 hart_hart_jalr.C := by
  intro vs κ h wv hx w s
  unfold hart_hart_jalr.C at hx
  split at hx
  · rename_i a1
    refine postImp (ret := hart_hart_jalr.ret (fun r1 r2 r3 r4 r5 h => κ (.agg [.int .i64 r1, .int .u64 r2, .int .u64 r3, .bool r4, .int .i64 r5]) h)) (fun v h hr => by unfold hart_hart_jalr.ret at hr; split at hr; exact hr; exact hr.elim) ?_
    exact calls_of_pts (E := hart_hart_jalr.E (fun r1 r2 r3 r4 r5 h => κ (.agg [.int .i64 r1, .int .u64 r2, .int .u64 r3, .bool r4, .int .i64 r5]) h) []) (envOK seatOK hart_hart_jalr.callsOK noIfc_ok) seatOK.mixed hart_hart_jalr.fun (Nat.le_of_ble_eq_true rfl) wv (cutL_ok trivial) s (fuel := 3000) (by rw [← hart_hart_jalr.e]; exact hx)
  · exact hx.elim

noncomputable def hart_hart_lr.code : Code := Go.Proofs.Tryz.f49.body.getD .skip

theorem hart_hart_lr.fun : Fun sg.P 49 27 [.cell 2 86] hart_hart_lr.code := mkFun Go.Proofs.Tryz.func49 (by kernel_rfl) (by kernel_rfl) (by kernel_rfl) (by kernel_rfl)

def hart_hart_lr.ret (Q : Int → Int → Int → Bool → Int → Heap → Prop) (v : V) (h : Heap) : Prop :=
  match v with
  | .agg [.int .i64 r1, .int .u64 r2, .int .u64 r3, .bool r4, .int .i64 r5] => Q r1 r2 r3 r4 r5 h
  | _ => False

def hart_hart_lr.C (vs : List V) (κ : V → Heap → Prop) (h : Heap) : Prop :=
  match vs with
  | [.ptr a1] => hart_hart_lr a1 (fun r1 r2 r3 r4 r5 h => κ (.agg [.int .i64 r1, .int .u64 r2, .int .u64 r3, .bool r4, .int .i64 r5]) h) h
  | _ => False

noncomputable def hart_hart_lr.calls : List (Nat × (List V → (V → Heap → Prop) → Heap → Prop)) := [(197, hart_hart_a.C)]

noncomputable def hart_hart_lr.E (Q : Int → Int → Int → Bool → Int → Heap → Prop) (cuts : List (Nat × (List Nat × (List V → Heap → Prop)))) : Env := { tis := tisT, fns := fnsT, tys := tysT, gls := [], rts := rtsT, unk := [], nxt := [], calls := hart_hart_lr.calls, ifc := noIfc, cuts := cuts, ret := hart_hart_lr.ret Q, rets := [.cell 2 86], n := 27 }

theorem hart_hart_lr.callsOK {W0 : World} : CallsOK sg W0 hart_hart_lr.calls := ⟨hart_hart_a.S, trivial⟩

theorem hart_hart_lr.e : ∀ (a1 : Option Ptr) (Q : Int → Int → Int → Bool → Int → Heap → Prop) (h : Heap), hart_hart_lr a1 Q h = pts (hart_hart_lr.E Q []) 3000 true [.code hart_hart_lr.code] (frOf 0 [.ptr a1]) h := by
  intros; kernel_rfl

theorem hart_hart_lr.S {W0 : World} : FnS sg W0 149 hart_hart_lr.C := by
  intro vs κ h wv hx w s
  unfold hart_hart_lr.C at hx
  split at hx
  · rename_i a1
    refine postImp (ret := hart_hart_lr.ret (fun r1 r2 r3 r4 r5 h => κ (.agg [.int .i64 r1, .int .u64 r2, .int .u64 r3, .bool r4, .int .i64 r5]) h)) (fun v h hr => by unfold hart_hart_lr.ret at hr; split at hr; exact hr; exact hr.elim) ?_
    exact calls_of_pts (E := hart_hart_lr.E (fun r1 r2 r3 r4 r5 h => κ (.agg [.int .i64 r1, .int .u64 r2, .int .u64 r3, .bool r4, .int .i64 r5]) h) []) (envOK seatOK hart_hart_lr.callsOK noIfc_ok) seatOK.mixed hart_hart_lr.fun (Nat.le_of_ble_eq_true rfl) wv (cutL_ok trivial) s (fuel := 3000) (by rw [← hart_hart_lr.e]; exact hx)
  · exact hx.elim

end Go.Fn
