/- The links of the shallow functions to the machine. PRINTED by lift.py. -/
import Derived.Test.YtcaeaolgijjjnaaGreatDoorGb3
set_option linter.unusedSimpArgs false
set_option linter.unusedVariables false

set_option linter.unusedVariables false
set_option maxRecDepth 100000
namespace Go.Fn
open Go.Lift

noncomputable def zf35.code : Code := Go.Proofs.Tryz.f16.body.getD .skip

theorem zf35.fun : Fun sg.P 16 35 [.tmp 2, .tmp 3] zf35.code := mkFun Go.Proofs.Tryz.func16 (by kernel_rfl) (by kernel_rfl) (by kernel_rfl) (by kernel_rfl)

def zf35.ret (Q : Int → Int → Heap → Prop) (v : V) (h : Heap) : Prop :=
  match v with
  | .tup [.int .u32 r1, .int .i64 r2] => Q r1 r2 h
  | _ => False

def zf35.C (vs : List V) (κ : V → Heap → Prop) (h : Heap) : Prop :=
  match vs with
  | [.agg [.int .i64 a1, .int .i64 a2, .int .i64 a3, .int .i64 a4, .int .i64 a5]] => zf35 a1 a2 a3 a4 a5 (fun r1 r2 h => κ (.tup [.int .u32 r1, .int .i64 r2]) h) h
  | _ => False

noncomputable def zf35.calls : List (Nat × (List V → (V → Heap → Prop) → Heap → Prop)) := [(226, zf37.C), (227, zf34.C), (222, zf36.C)]

noncomputable def zf35.E (Q : Int → Int → Heap → Prop) (cuts : List (Nat × (List Nat × (List V → Heap → Prop)))) : Env := { tis := tisT, fns := fnsT, tys := tysT, gls := [], rts := rtsT, unk := [], nxt := [], calls := zf35.calls, ifc := noIfc, cuts := cuts, ret := zf35.ret Q, rets := [.tmp 2, .tmp 3], n := 35 }

theorem zf35.callsOK {W0 : World} : CallsOK sg W0 zf35.calls := ⟨zf37.S, zf34.S, zf36.S, trivial⟩

def zf35.k9 (I : Ptr → Int → Heap → Prop) (vs : List V) (h : Heap) : Prop :=
  match vs with
  | [.ptr (some a1), .int .u32 a2] => I a1 a2 h
  | _ => False

theorem zf35.p9 : (posC zf35.code []).filter (fun p => Nat.beq p.1 9) = [(9, atPos (posC zf35.code []) 9)] := by kernel_rfl

theorem zf35.e9 : ∀  (a1 : Ptr) (a2 : Int) (Q : Int → Int → Heap → Prop) (h : Heap), zf35.j9  a1 a2 Q h = pts (zf35.E Q []) 3000 true (atPos (posC zf35.code []) 9) (frAt [1, 4] [.ptr (some a1), .int .u32 a2]) h := by
  intros; kernel_rfl

theorem zf35.s9 {W0 : World} (Q : Int → Int → Heap → Prop)   : CutOK sg W0 35 (entered 16) (Post sg W0 (zf35.ret Q)) (posC zf35.code []) 9 [1, 4] (zf35.k9 (fun a1 a2 h => zf35.j9  a1 a2 Q h)) := by
  refine cutOK_head (fun vs h hk => ?_)
  unfold zf35.k9 at hk
  split at hk
  · rename_i a1 a2
    intro todo hm ρ a w s f hp
    exact piece (E := zf35.E Q []) (vs := [.ptr (some a1), .int .u32 a2]) (envOK seatOK zf35.callsOK noIfc_ok) (fnOK seatOK zf35.fun) trivial zf35.p9 (fuel := 3000) (by rw [← zf35.e9]; exact hk) hm s f hp
  · exact hk.elim

theorem zf35.e : ∀ (a1 : Int) (a2 : Int) (a3 : Int) (a4 : Int) (a5 : Int) (Q : Int → Int → Heap → Prop) (h : Heap), zf35 a1 a2 a3 a4 a5 Q h = pts (zf35.E Q [(9, ([1, 4], zf35.k9 (fun a1 a2 h => zf35.j9  a1 a2 Q h)))]) 3000 true [.code zf35.code] (frOf 0 [.agg [.int .i64 a1, .int .i64 a2, .int .i64 a3, .int .i64 a4, .int .i64 a5]]) h := by
  intros; kernel_rfl

theorem zf35.S {W0 : World} : FnS sg W0 228 zf35.C := by
  intro vs κ h wv hx w s
  unfold zf35.C at hx
  split at hx
  · rename_i a1 a2 a3 a4 a5
    refine postImp (ret := zf35.ret (fun r1 r2 h => κ (.tup [.int .u32 r1, .int .i64 r2]) h)) (fun v h hr => by unfold zf35.ret at hr; split at hr; exact hr; exact hr.elim) ?_
    exact calls_of_pts (E := zf35.E (fun r1 r2 h => κ (.tup [.int .u32 r1, .int .i64 r2]) h) [(9, ([1, 4], zf35.k9 (fun a1 a2 h => zf35.j9  a1 a2 (fun r1 r2 h => κ (.tup [.int .u32 r1, .int .i64 r2]) h) h)))]) (envOK seatOK zf35.callsOK noIfc_ok) seatOK.mixed zf35.fun (Nat.le_of_ble_eq_true rfl) wv (cutL_ok ⟨(zf35.s9 (fun r1 r2 h => κ (.tup [.int .u32 r1, .int .i64 r2]) h)), trivial⟩) s (fuel := 3000) (by rw [← zf35.e]; exact hx)
  · exact hx.elim

noncomputable def zf40.code : Code := Go.Proofs.Tryz.f7.body.getD .skip

theorem zf40.fun : Fun sg.P 7 110 [.tmp 4, .tmp 5, .tmp 6] zf40.code := mkFun Go.Proofs.Tryz.func7 (by kernel_rfl) (by kernel_rfl) (by kernel_rfl) (by kernel_rfl)

def zf40.ret (Q : Sl → Int → Int → Heap → Prop) (v : V) (h : Heap) : Prop :=
  match v with
  | .tup [.sl r1, .int .i64 r2, .int .i64 r3] => Q r1 r2 r3 h
  | _ => False

def zf40.C (U : Ifc) (vs : List V) (κ : V → Heap → Prop) (h : Heap) : Prop :=
  match vs with
  | [.str a1, .int .u64 a2] => zf40 U a1 a2 (fun r1 r2 r3 h => κ (.tup [.sl r1, .int .i64 r2, .int .i64 r3]) h) h
  | _ => False

noncomputable def zf40.calls (U : Ifc) : List (Nat × (List V → (V → Heap → Prop) → Heap → Prop)) := [(372, zf49.C U), (373, zf48.C), (228, zf35.C)]

noncomputable def zf40.E (U : Ifc) (Q : Sl → Int → Int → Heap → Prop) (cuts : List (Nat × (List Nat × (List V → Heap → Prop)))) : Env := { tis := tisT, fns := fnsT, tys := tysT, gls := glsT, rts := rtsT, unk := [], nxt := [], calls := zf40.calls U, ifc := U, cuts := cuts, ret := zf40.ret Q, rets := [.tmp 4, .tmp 5, .tmp 6], n := 110 }

theorem zf40.callsOK {W0 : World} {U : Ifc} (hU : IfcOK sg W0 glsT U) : CallsOK sg W0 (zf40.calls U) := ⟨(zf49.S hU), zf48.S, zf35.S, trivial⟩

def zf40.k2 (I : Heap → Prop) (vs : List V) (h : Heap) : Prop :=
  match vs with
  | [] => I  h
  | _ => False

def zf40.k18 (I : Sl → Sl → Int → Heap → Prop) (vs : List V) (h : Heap) : Prop :=
  match vs with
  | [.sl a1, .sl a2, .int .i64 a3] => I a1 a2 a3 h
  | _ => False

def zf40.k22 (I : Sl → Sl → Int → Ptr → Int → Heap → Prop) (vs : List V) (h : Heap) : Prop :=
  match vs with
  | [.sl a1, .sl a2, .int .i64 a3, .ptr (some a4), .int .i64 a5] => I a1 a2 a3 a4 a5 h
  | _ => False

def zf40.k30 (I : Sl → Sl → Int → Ptr → Heap → Prop) (vs : List V) (h : Heap) : Prop :=
  match vs with
  | [.sl a1, .sl a2, .int .i64 a3, .ptr (some a4)] => I a1 a2 a3 a4 h
  | _ => False

def zf40.k17 (I : Sl → Sl → Int → Heap → Prop) (vs : List V) (h : Heap) : Prop :=
  match vs with
  | [.sl a1, .sl a2, .int .i64 a3] => I a1 a2 a3 h
  | _ => False

def zf40.k10 (I : Sl → Int → Int → Heap → Prop) (vs : List V) (h : Heap) : Prop :=
  match vs with
  | [.sl a1, .int .i64 a2, .int .i64 a3] => I a1 a2 a3 h
  | _ => False

def zf40.k9 (I : Sl → Int → Heap → Prop) (vs : List V) (h : Heap) : Prop :=
  match vs with
  | [.sl a1, .int .i64 a2] => I a1 a2 h
  | _ => False

theorem zf40.p2 : (posC zf40.code []).filter (fun p => Nat.beq p.1 2) = [(2, atPos (posC zf40.code []) 2)] := by kernel_rfl

theorem zf40.e2 : ∀ (U : Ifc)   (Q : Sl → Int → Int → Heap → Prop) (h : Heap), zf40.j2 U   Q h = pts (zf40.E U Q []) 3000 true (atPos (posC zf40.code []) 2) (frAt [] []) h := by
  intros; kernel_rfl

theorem zf40.s2 {W0 : World} {U : Ifc} (hU : IfcOK sg W0 glsT U) (Q : Sl → Int → Int → Heap → Prop)   : CutOK sg W0 110 (entered 7) (Post sg W0 (zf40.ret Q)) (posC zf40.code []) 2 [] (zf40.k2 (fun  h => zf40.j2 U   Q h)) := by
  refine cutOK_head (fun vs h hk => ?_)
  unfold zf40.k2 at hk
  split at hk
  · skip
    intro todo hm ρ a w s f hp
    exact piece (E := zf40.E U Q []) (vs := []) (envOK seatOK (zf40.callsOK hU) hU) (fnOK seatOK zf40.fun) trivial zf40.p2 (fuel := 3000) (by rw [← zf40.e2]; exact hk) hm s f hp
  · exact hk.elim

theorem zf40.p18 : (posC zf40.code []).filter (fun p => Nat.beq p.1 18) = [(18, atPos (posC zf40.code []) 18)] := by kernel_rfl

theorem zf40.e18 : ∀ (U : Ifc) (I17 : Sl → Sl → Int → Heap → Prop) (a1 : Sl) (a2 : Sl) (a3 : Int) (Q : Sl → Int → Int → Heap → Prop) (h : Heap), zf40.j18 U I17 a1 a2 a3 Q h = pts (zf40.E U Q [(17, ([7, 12, 13], zf40.k17 I17))]) 3000 true (atPos (posC zf40.code []) 18) (frAt [7, 12, 13] [.sl a1, .sl a2, .int .i64 a3]) h := by
  intros; kernel_rfl

theorem zf40.s18 {W0 : World} {U : Ifc} (hU : IfcOK sg W0 glsT U) (Q : Sl → Int → Int → Heap → Prop) (I17 : Sl → Sl → Int → Heap → Prop) (h17 : CutOK sg W0 110 (entered 7) (Post sg W0 (zf40.ret Q)) (posC zf40.code []) 17 [7, 12, 13] (zf40.k17 I17)) : CutOK sg W0 110 (entered 7) (Post sg W0 (zf40.ret Q)) (posC zf40.code []) 18 [7, 12, 13] (zf40.k18 (fun a1 a2 a3 h => zf40.j18 U I17 a1 a2 a3 Q h)) := by
  refine cutOK_head (fun vs h hk => ?_)
  unfold zf40.k18 at hk
  split at hk
  · rename_i a1 a2 a3
    intro todo hm ρ a w s f hp
    exact piece (E := zf40.E U Q [(17, ([7, 12, 13], zf40.k17 I17))]) (vs := [.sl a1, .sl a2, .int .i64 a3]) (envOK seatOK (zf40.callsOK hU) hU) (fnOK seatOK zf40.fun) ⟨h17, trivial⟩ zf40.p18 (fuel := 3000) (by rw [← zf40.e18]; exact hk) hm s f hp
  · exact hk.elim

theorem zf40.p22 : (posC zf40.code []).filter (fun p => Nat.beq p.1 22) = [(22, atPos (posC zf40.code []) 22)] := by kernel_rfl

theorem zf40.e22 : ∀ (U : Ifc) (I17 : Sl → Sl → Int → Heap → Prop) (I22 : Sl → Sl → Int → Ptr → Int → Heap → Prop) (a1 : Sl) (a2 : Sl) (a3 : Int) (a4 : Ptr) (a5 : Int) (Q : Sl → Int → Int → Heap → Prop) (h : Heap), zf40.b22 U I17 I22 a1 a2 a3 a4 a5 Q h = pts (zf40.E U Q [(22, ([7, 12, 13, 14, 15], zf40.k22 I22)), (18, ([7, 12, 13], zf40.k18 (fun a1 a2 a3 h => zf40.j18 U I17 a1 a2 a3 Q h)))]) 3000 true (atPos (posC zf40.code []) 22) (frAt [7, 12, 13, 14, 15] [.sl a1, .sl a2, .int .i64 a3, .ptr (some a4), .int .i64 a5]) h := by
  intros; kernel_rfl

theorem zf40.s22 {W0 : World} {U : Ifc} (hU : IfcOK sg W0 glsT U) (Q : Sl → Int → Int → Heap → Prop) (I17 : Sl → Sl → Int → Heap → Prop) (h17 : CutOK sg W0 110 (entered 7) (Post sg W0 (zf40.ret Q)) (posC zf40.code []) 17 [7, 12, 13] (zf40.k17 I17)) : CutOK sg W0 110 (entered 7) (Post sg W0 (zf40.ret Q)) (posC zf40.code []) 22 [7, 12, 13, 14, 15] (zf40.k22 (fun a1 a2 a3 a4 a5 h => zf40.j22 U I17 a1 a2 a3 a4 a5 Q h)) := by
  refine cutOK_head (fun vs h hk => ?_)
  unfold zf40.k22 at hk
  split at hk
  · rename_i a1 a2 a3 a4 a5
    refine hk (fun a1 a2 a3 a4 a5 h => Head sg W0 110 (entered 7) (Post sg W0 (zf40.ret Q)) (posC zf40.code []) 22 [7, 12, 13, 14, 15] [.sl a1, .sl a2, .int .i64 a3, .ptr (some a4), .int .i64 a5] h) ?_
    intro a1 a2 a3 a4 a5 h hb todo hm ρ a w s f hp
    have hself : CutOK sg W0 110 (entered 7) (Post sg W0 (zf40.ret Q)) (posC zf40.code []) 22 [7, 12, 13, 14, 15] (zf40.k22 (fun a1 a2 a3 a4 a5 h => Head sg W0 110 (entered 7) (Post sg W0 (zf40.ret Q)) (posC zf40.code []) 22 [7, 12, 13, 14, 15] [.sl a1, .sl a2, .int .i64 a3, .ptr (some a4), .int .i64 a5] h)) := cutOK_head (fun vs h hk => by unfold zf40.k22 at hk; split at hk; exact hk; exact hk.elim)
    exact piece (E := zf40.E U Q [(22, ([7, 12, 13, 14, 15], zf40.k22 (fun a1 a2 a3 a4 a5 h => Head sg W0 110 (entered 7) (Post sg W0 (zf40.ret Q)) (posC zf40.code []) 22 [7, 12, 13, 14, 15] [.sl a1, .sl a2, .int .i64 a3, .ptr (some a4), .int .i64 a5] h))), (18, ([7, 12, 13], zf40.k18 (fun a1 a2 a3 h => zf40.j18 U I17 a1 a2 a3 Q h)))]) (vs := [.sl a1, .sl a2, .int .i64 a3, .ptr (some a4), .int .i64 a5]) (envOK seatOK (zf40.callsOK hU) hU) (fnOK seatOK zf40.fun) ⟨hself, (zf40.s18 hU Q I17 h17), trivial⟩ zf40.p22 (fuel := 3000) (by rw [← zf40.e22]; exact hb) hm s f hp
  · exact hk.elim

theorem zf40.p30 : (posC zf40.code []).filter (fun p => Nat.beq p.1 30) = [(30, atPos (posC zf40.code []) 30)] := by kernel_rfl

theorem zf40.e30 : ∀ (U : Ifc) (I17 : Sl → Sl → Int → Heap → Prop) (a1 : Sl) (a2 : Sl) (a3 : Int) (a4 : Ptr) (Q : Sl → Int → Int → Heap → Prop) (h : Heap), zf40.j30 U I17 a1 a2 a3 a4 Q h = pts (zf40.E U Q [(18, ([7, 12, 13], zf40.k18 (fun a1 a2 a3 h => zf40.j18 U I17 a1 a2 a3 Q h)))]) 3000 true (atPos (posC zf40.code []) 30) (frAt [7, 12, 13, 14] [.sl a1, .sl a2, .int .i64 a3, .ptr (some a4)]) h := by
  intros; kernel_rfl

theorem zf40.s30 {W0 : World} {U : Ifc} (hU : IfcOK sg W0 glsT U) (Q : Sl → Int → Int → Heap → Prop) (I17 : Sl → Sl → Int → Heap → Prop) (h17 : CutOK sg W0 110 (entered 7) (Post sg W0 (zf40.ret Q)) (posC zf40.code []) 17 [7, 12, 13] (zf40.k17 I17)) : CutOK sg W0 110 (entered 7) (Post sg W0 (zf40.ret Q)) (posC zf40.code []) 30 [7, 12, 13, 14] (zf40.k30 (fun a1 a2 a3 a4 h => zf40.j30 U I17 a1 a2 a3 a4 Q h)) := by
  refine cutOK_head (fun vs h hk => ?_)
  unfold zf40.k30 at hk
  split at hk
  · rename_i a1 a2 a3 a4
    intro todo hm ρ a w s f hp
    exact piece (E := zf40.E U Q [(18, ([7, 12, 13], zf40.k18 (fun a1 a2 a3 h => zf40.j18 U I17 a1 a2 a3 Q h)))]) (vs := [.sl a1, .sl a2, .int .i64 a3, .ptr (some a4)]) (envOK seatOK (zf40.callsOK hU) hU) (fnOK seatOK zf40.fun) ⟨(zf40.s18 hU Q I17 h17), trivial⟩ zf40.p30 (fuel := 3000) (by rw [← zf40.e30]; exact hk) hm s f hp
  · exact hk.elim

theorem zf40.p17 : (posC zf40.code []).filter (fun p => Nat.beq p.1 17) = [(17, atPos (posC zf40.code []) 17)] := by kernel_rfl

theorem zf40.e17 : ∀ (U : Ifc)  (I17 : Sl → Sl → Int → Heap → Prop) (a1 : Sl) (a2 : Sl) (a3 : Int) (Q : Sl → Int → Int → Heap → Prop) (h : Heap), zf40.b17 U  I17 a1 a2 a3 Q h = pts (zf40.E U Q [(22, ([7, 12, 13, 14, 15], zf40.k22 (fun a1 a2 a3 a4 a5 h => zf40.j22 U I17 a1 a2 a3 a4 a5 Q h))), (30, ([7, 12, 13, 14], zf40.k30 (fun a1 a2 a3 a4 h => zf40.j30 U I17 a1 a2 a3 a4 Q h)))]) 3000 true (atPos (posC zf40.code []) 17) (frAt [7, 12, 13] [.sl a1, .sl a2, .int .i64 a3]) h := by
  intros; kernel_rfl

theorem zf40.s17 {W0 : World} {U : Ifc} (hU : IfcOK sg W0 glsT U) (Q : Sl → Int → Int → Heap → Prop)   : CutOK sg W0 110 (entered 7) (Post sg W0 (zf40.ret Q)) (posC zf40.code []) 17 [7, 12, 13] (zf40.k17 (fun a1 a2 a3 h => zf40.j17 U  a1 a2 a3 Q h)) := by
  refine cutOK_head (fun vs h hk => ?_)
  unfold zf40.k17 at hk
  split at hk
  · rename_i a1 a2 a3
    refine hk (fun a1 a2 a3 h => Head sg W0 110 (entered 7) (Post sg W0 (zf40.ret Q)) (posC zf40.code []) 17 [7, 12, 13] [.sl a1, .sl a2, .int .i64 a3] h) ?_
    intro a1 a2 a3 h hb todo hm ρ a w s f hp
    have hself : CutOK sg W0 110 (entered 7) (Post sg W0 (zf40.ret Q)) (posC zf40.code []) 17 [7, 12, 13] (zf40.k17 (fun a1 a2 a3 h => Head sg W0 110 (entered 7) (Post sg W0 (zf40.ret Q)) (posC zf40.code []) 17 [7, 12, 13] [.sl a1, .sl a2, .int .i64 a3] h)) := cutOK_head (fun vs h hk => by unfold zf40.k17 at hk; split at hk; exact hk; exact hk.elim)
    exact piece (E := zf40.E U Q [(22, ([7, 12, 13, 14, 15], zf40.k22 (fun a1 a2 a3 a4 a5 h => zf40.j22 U (fun a1 a2 a3 h => Head sg W0 110 (entered 7) (Post sg W0 (zf40.ret Q)) (posC zf40.code []) 17 [7, 12, 13] [.sl a1, .sl a2, .int .i64 a3] h) a1 a2 a3 a4 a5 Q h))), (30, ([7, 12, 13, 14], zf40.k30 (fun a1 a2 a3 a4 h => zf40.j30 U (fun a1 a2 a3 h => Head sg W0 110 (entered 7) (Post sg W0 (zf40.ret Q)) (posC zf40.code []) 17 [7, 12, 13] [.sl a1, .sl a2, .int .i64 a3] h) a1 a2 a3 a4 Q h)))]) (vs := [.sl a1, .sl a2, .int .i64 a3]) (envOK seatOK (zf40.callsOK hU) hU) (fnOK seatOK zf40.fun) ⟨(zf40.s22 hU Q (fun a1 a2 a3 h => Head sg W0 110 (entered 7) (Post sg W0 (zf40.ret Q)) (posC zf40.code []) 17 [7, 12, 13] [.sl a1, .sl a2, .int .i64 a3] h) hself), (zf40.s30 hU Q (fun a1 a2 a3 h => Head sg W0 110 (entered 7) (Post sg W0 (zf40.ret Q)) (posC zf40.code []) 17 [7, 12, 13] [.sl a1, .sl a2, .int .i64 a3] h) hself), trivial⟩ zf40.p17 (fuel := 3000) (by rw [← zf40.e17]; exact hb) hm s f hp
  · exact hk.elim

theorem zf40.p10 : (posC zf40.code []).filter (fun p => Nat.beq p.1 10) = [(10, atPos (posC zf40.code []) 10)] := by kernel_rfl

theorem zf40.e10 : ∀ (U : Ifc)  (I10 : Sl → Int → Int → Heap → Prop) (a1 : Sl) (a2 : Int) (a3 : Int) (Q : Sl → Int → Int → Heap → Prop) (h : Heap), zf40.b10 U  I10 a1 a2 a3 Q h = pts (zf40.E U Q [(10, ([7, 10, 11], zf40.k10 I10)), (17, ([7, 12, 13], zf40.k17 (fun a1 a2 a3 h => zf40.j17 U  a1 a2 a3 Q h)))]) 3000 true (atPos (posC zf40.code []) 10) (frAt [7, 10, 11] [.sl a1, .int .i64 a2, .int .i64 a3]) h := by
  intros; kernel_rfl

theorem zf40.s10 {W0 : World} {U : Ifc} (hU : IfcOK sg W0 glsT U) (Q : Sl → Int → Int → Heap → Prop)   : CutOK sg W0 110 (entered 7) (Post sg W0 (zf40.ret Q)) (posC zf40.code []) 10 [7, 10, 11] (zf40.k10 (fun a1 a2 a3 h => zf40.j10 U  a1 a2 a3 Q h)) := by
  refine cutOK_head (fun vs h hk => ?_)
  unfold zf40.k10 at hk
  split at hk
  · rename_i a1 a2 a3
    refine hk (fun a1 a2 a3 h => Head sg W0 110 (entered 7) (Post sg W0 (zf40.ret Q)) (posC zf40.code []) 10 [7, 10, 11] [.sl a1, .int .i64 a2, .int .i64 a3] h) ?_
    intro a1 a2 a3 h hb todo hm ρ a w s f hp
    have hself : CutOK sg W0 110 (entered 7) (Post sg W0 (zf40.ret Q)) (posC zf40.code []) 10 [7, 10, 11] (zf40.k10 (fun a1 a2 a3 h => Head sg W0 110 (entered 7) (Post sg W0 (zf40.ret Q)) (posC zf40.code []) 10 [7, 10, 11] [.sl a1, .int .i64 a2, .int .i64 a3] h)) := cutOK_head (fun vs h hk => by unfold zf40.k10 at hk; split at hk; exact hk; exact hk.elim)
    exact piece (E := zf40.E U Q [(10, ([7, 10, 11], zf40.k10 (fun a1 a2 a3 h => Head sg W0 110 (entered 7) (Post sg W0 (zf40.ret Q)) (posC zf40.code []) 10 [7, 10, 11] [.sl a1, .int .i64 a2, .int .i64 a3] h))), (17, ([7, 12, 13], zf40.k17 (fun a1 a2 a3 h => zf40.j17 U  a1 a2 a3 Q h)))]) (vs := [.sl a1, .int .i64 a2, .int .i64 a3]) (envOK seatOK (zf40.callsOK hU) hU) (fnOK seatOK zf40.fun) ⟨hself, (zf40.s17 hU Q  ), trivial⟩ zf40.p10 (fuel := 3000) (by rw [← zf40.e10]; exact hb) hm s f hp
  · exact hk.elim

theorem zf40.p9 : (posC zf40.code []).filter (fun p => Nat.beq p.1 9) = [(9, atPos (posC zf40.code []) 9)] := by kernel_rfl

theorem zf40.e9 : ∀ (U : Ifc)  (a1 : Sl) (a2 : Int) (Q : Sl → Int → Int → Heap → Prop) (h : Heap), zf40.j9 U  a1 a2 Q h = pts (zf40.E U Q [(10, ([7, 10, 11], zf40.k10 (fun a1 a2 a3 h => zf40.j10 U  a1 a2 a3 Q h)))]) 3000 true (atPos (posC zf40.code []) 9) (frAt [7, 10] [.sl a1, .int .i64 a2]) h := by
  intros; kernel_rfl

theorem zf40.s9 {W0 : World} {U : Ifc} (hU : IfcOK sg W0 glsT U) (Q : Sl → Int → Int → Heap → Prop)   : CutOK sg W0 110 (entered 7) (Post sg W0 (zf40.ret Q)) (posC zf40.code []) 9 [7, 10] (zf40.k9 (fun a1 a2 h => zf40.j9 U  a1 a2 Q h)) := by
  refine cutOK_head (fun vs h hk => ?_)
  unfold zf40.k9 at hk
  split at hk
  · rename_i a1 a2
    intro todo hm ρ a w s f hp
    exact piece (E := zf40.E U Q [(10, ([7, 10, 11], zf40.k10 (fun a1 a2 a3 h => zf40.j10 U  a1 a2 a3 Q h)))]) (vs := [.sl a1, .int .i64 a2]) (envOK seatOK (zf40.callsOK hU) hU) (fnOK seatOK zf40.fun) ⟨(zf40.s10 hU Q  ), trivial⟩ zf40.p9 (fuel := 3000) (by rw [← zf40.e9]; exact hk) hm s f hp
  · exact hk.elim

theorem zf40.e : ∀ (U : Ifc) (a1 : List UInt8) (a2 : Int) (Q : Sl → Int → Int → Heap → Prop) (h : Heap), zf40 U a1 a2 Q h = pts (zf40.E U Q [(2, ([], zf40.k2 (fun  h => zf40.j2 U   Q h))), (9, ([7, 10], zf40.k9 (fun a1 a2 h => zf40.j9 U  a1 a2 Q h)))]) 3000 true [.code zf40.code] (frOf 0 [.str a1, .int .u64 a2]) h := by
  intros; kernel_rfl

theorem zf40.S {W0 : World} {U : Ifc} (hU : IfcOK sg W0 glsT U) : FnS sg W0 374 (zf40.C U) := by
  intro vs κ h wv hx w s
  unfold zf40.C at hx
  split at hx
  · rename_i a1 a2
    refine postImp (ret := zf40.ret (fun r1 r2 r3 h => κ (.tup [.sl r1, .int .i64 r2, .int .i64 r3]) h)) (fun v h hr => by unfold zf40.ret at hr; split at hr; exact hr; exact hr.elim) ?_
    exact calls_of_pts (E := zf40.E U (fun r1 r2 r3 h => κ (.tup [.sl r1, .int .i64 r2, .int .i64 r3]) h) [(2, ([], zf40.k2 (fun  h => zf40.j2 U   (fun r1 r2 r3 h => κ (.tup [.sl r1, .int .i64 r2, .int .i64 r3]) h) h))), (9, ([7, 10], zf40.k9 (fun a1 a2 h => zf40.j9 U  a1 a2 (fun r1 r2 r3 h => κ (.tup [.sl r1, .int .i64 r2, .int .i64 r3]) h) h)))]) (envOK seatOK (zf40.callsOK hU) hU) seatOK.mixed zf40.fun (Nat.le_of_ble_eq_true rfl) wv (cutL_ok ⟨(zf40.s2 hU (fun r1 r2 r3 h => κ (.tup [.sl r1, .int .i64 r2, .int .i64 r3]) h)), (zf40.s9 hU (fun r1 r2 r3 h => κ (.tup [.sl r1, .int .i64 r2, .int .i64 r3]) h)), trivial⟩) s (fuel := 3000) (by rw [← zf40.e]; exact hx)
  · exact hx.elim

noncomputable def zf1.code : Code := Go.Proofs.Tryz.f8.body.getD .skip

theorem zf1.fun : Fun sg.P 8 38 [.tmp 6, .tmp 7] zf1.code := mkFun Go.Proofs.Tryz.func8 (by kernel_rfl) (by kernel_rfl) (by kernel_rfl) (by kernel_rfl)

def zf1.ret (Q : Int → Bool → Heap → Prop) (v : V) (h : Heap) : Prop :=
  match v with
  | .tup [.int .u64 r1, .bool r2] => Q r1 r2 h
  | _ => False

def zf1.C (U : Ifc) (vs : List V) (κ : V → Heap → Prop) (h : Heap) : Prop :=
  match vs with
  | [.str a1, .int .u64 a2, .str a3] => zf1 U a1 a2 a3 (fun r1 r2 h => κ (.tup [.int .u64 r1, .bool r2]) h) h
  | _ => False

noncomputable def zf1.calls (U : Ifc) : List (Nat × (List V → (V → Heap → Prop) → Heap → Prop)) := [(360, zf3.C U)]

noncomputable def zf1.E (U : Ifc) (Q : Int → Bool → Heap → Prop) (cuts : List (Nat × (List Nat × (List V → Heap → Prop)))) : Env := { tis := tisT, fns := fnsT, tys := tysT, gls := glsT, rts := rtsT, unk := [], nxt := [], calls := zf1.calls U, ifc := U, cuts := cuts, ret := zf1.ret Q, rets := [.tmp 6, .tmp 7], n := 38 }

theorem zf1.callsOK {W0 : World} {U : Ifc} (hU : IfcOK sg W0 glsT U) : CallsOK sg W0 (zf1.calls U) := ⟨(zf3.S hU), trivial⟩

def zf1.k5 (I : Int → Int → Bool → Heap → Prop) (vs : List V) (h : Heap) : Prop :=
  match vs with
  | [.int .u64 a1, .int .i64 a2, .bool a3] => I a1 a2 a3 h
  | _ => False

theorem zf1.p5 : (posC zf1.code []).filter (fun p => Nat.beq p.1 5) = [(5, atPos (posC zf1.code []) 5)] := by kernel_rfl

theorem zf1.e5 : ∀ (U : Ifc)  (a1 : Int) (a2 : Int) (a3 : Bool) (Q : Int → Bool → Heap → Prop) (h : Heap), zf1.j5 U  a1 a2 a3 Q h = pts (zf1.E U Q []) 3000 true (atPos (posC zf1.code []) 5) (frAt [1, 11, 12] [.int .u64 a1, .int .i64 a2, .bool a3]) h := by
  intros; kernel_rfl

theorem zf1.s5 {W0 : World} {U : Ifc} (hU : IfcOK sg W0 glsT U) (Q : Int → Bool → Heap → Prop)   : CutOK sg W0 38 (entered 8) (Post sg W0 (zf1.ret Q)) (posC zf1.code []) 5 [1, 11, 12] (zf1.k5 (fun a1 a2 a3 h => zf1.j5 U  a1 a2 a3 Q h)) := by
  refine cutOK_head (fun vs h hk => ?_)
  unfold zf1.k5 at hk
  split at hk
  · rename_i a1 a2 a3
    intro todo hm ρ a w s f hp
    exact piece (E := zf1.E U Q []) (vs := [.int .u64 a1, .int .i64 a2, .bool a3]) (envOK seatOK (zf1.callsOK hU) hU) (fnOK seatOK zf1.fun) trivial zf1.p5 (fuel := 3000) (by rw [← zf1.e5]; exact hk) hm s f hp
  · exact hk.elim

theorem zf1.e : ∀ (U : Ifc) (a1 : List UInt8) (a2 : Int) (a3 : List UInt8) (Q : Int → Bool → Heap → Prop) (h : Heap), zf1 U a1 a2 a3 Q h = pts (zf1.E U Q [(5, ([1, 11, 12], zf1.k5 (fun a1 a2 a3 h => zf1.j5 U  a1 a2 a3 Q h)))]) 3000 true [.code zf1.code] (frOf 0 [.str a1, .int .u64 a2, .str a3]) h := by
  intros; kernel_rfl

theorem zf1.S {W0 : World} {U : Ifc} (hU : IfcOK sg W0 glsT U) : FnS sg W0 375 (zf1.C U) := by
  intro vs κ h wv hx w s
  unfold zf1.C at hx
  split at hx
  · rename_i a1 a2 a3
    refine postImp (ret := zf1.ret (fun r1 r2 h => κ (.tup [.int .u64 r1, .bool r2]) h)) (fun v h hr => by unfold zf1.ret at hr; split at hr; exact hr; exact hr.elim) ?_
    exact calls_of_pts (E := zf1.E U (fun r1 r2 h => κ (.tup [.int .u64 r1, .bool r2]) h) [(5, ([1, 11, 12], zf1.k5 (fun a1 a2 a3 h => zf1.j5 U  a1 a2 a3 (fun r1 r2 h => κ (.tup [.int .u64 r1, .bool r2]) h) h)))]) (envOK seatOK (zf1.callsOK hU) hU) seatOK.mixed zf1.fun (Nat.le_of_ble_eq_true rfl) wv (cutL_ok ⟨(zf1.s5 hU (fun r1 r2 h => κ (.tup [.int .u64 r1, .bool r2]) h)), trivial⟩) s (fuel := 3000) (by rw [← zf1.e]; exact hx)
  · exact hx.elim

noncomputable def zf42.code : Code := Go.Proofs.Tryz.f9.body.getD .skip

theorem zf42.fun : Fun sg.P 9 40 [.tmp 6, .tmp 7] zf42.code := mkFun Go.Proofs.Tryz.func9 (by kernel_rfl) (by kernel_rfl) (by kernel_rfl) (by kernel_rfl)

def zf42.ret (Q : Int → Bool → Heap → Prop) (v : V) (h : Heap) : Prop :=
  match v with
  | .tup [.int .u64 r1, .bool r2] => Q r1 r2 h
  | _ => False

def zf42.C (U : Ifc) (vs : List V) (κ : V → Heap → Prop) (h : Heap) : Prop :=
  match vs with
  | [.str a1, .int .u64 a2, .str a3] => zf42 U a1 a2 a3 (fun r1 r2 h => κ (.tup [.int .u64 r1, .bool r2]) h) h
  | _ => False

noncomputable def zf42.calls (U : Ifc) : List (Nat × (List V → (V → Heap → Prop) → Heap → Prop)) := [(374, zf40.C U), (372, zf49.C U), (373, zf48.C)]

noncomputable def zf42.E (U : Ifc) (Q : Int → Bool → Heap → Prop) (cuts : List (Nat × (List Nat × (List V → Heap → Prop)))) : Env := { tis := tisT, fns := fnsT, tys := tysT, gls := glsT, rts := rtsT, unk := [], nxt := [], calls := zf42.calls U, ifc := U, cuts := cuts, ret := zf42.ret Q, rets := [.tmp 6, .tmp 7], n := 40 }

theorem zf42.callsOK {W0 : World} {U : Ifc} (hU : IfcOK sg W0 glsT U) : CallsOK sg W0 (zf42.calls U) := ⟨(zf40.S hU), (zf49.S hU), zf48.S, trivial⟩

def zf42.k6 (I : Int → Int → Heap → Prop) (vs : List V) (h : Heap) : Prop :=
  match vs with
  | [.int .u64 a1, .int .i64 a2] => I a1 a2 h
  | _ => False

theorem zf42.p6 : (posC zf42.code []).filter (fun p => Nat.beq p.1 6) = [(6, atPos (posC zf42.code []) 6)] := by kernel_rfl

theorem zf42.e6 : ∀ (U : Ifc)  (a1 : Int) (a2 : Int) (Q : Int → Bool → Heap → Prop) (h : Heap), zf42.j6 U  a1 a2 Q h = pts (zf42.E U Q []) 3000 true (atPos (posC zf42.code []) 6) (frAt [1, 14] [.int .u64 a1, .int .i64 a2]) h := by
  intros; kernel_rfl

theorem zf42.s6 {W0 : World} {U : Ifc} (hU : IfcOK sg W0 glsT U) (Q : Int → Bool → Heap → Prop)   : CutOK sg W0 40 (entered 9) (Post sg W0 (zf42.ret Q)) (posC zf42.code []) 6 [1, 14] (zf42.k6 (fun a1 a2 h => zf42.j6 U  a1 a2 Q h)) := by
  refine cutOK_head (fun vs h hk => ?_)
  unfold zf42.k6 at hk
  split at hk
  · rename_i a1 a2
    intro todo hm ρ a w s f hp
    exact piece (E := zf42.E U Q []) (vs := [.int .u64 a1, .int .i64 a2]) (envOK seatOK (zf42.callsOK hU) hU) (fnOK seatOK zf42.fun) trivial zf42.p6 (fuel := 3000) (by rw [← zf42.e6]; exact hk) hm s f hp
  · exact hk.elim

theorem zf42.e : ∀ (U : Ifc) (a1 : List UInt8) (a2 : Int) (a3 : List UInt8) (Q : Int → Bool → Heap → Prop) (h : Heap), zf42 U a1 a2 a3 Q h = pts (zf42.E U Q [(6, ([1, 14], zf42.k6 (fun a1 a2 h => zf42.j6 U  a1 a2 Q h)))]) 3000 true [.code zf42.code] (frOf 0 [.str a1, .int .u64 a2, .str a3]) h := by
  intros; kernel_rfl

theorem zf42.S {W0 : World} {U : Ifc} (hU : IfcOK sg W0 glsT U) : FnS sg W0 376 (zf42.C U) := by
  intro vs κ h wv hx w s
  unfold zf42.C at hx
  split at hx
  · rename_i a1 a2 a3
    refine postImp (ret := zf42.ret (fun r1 r2 h => κ (.tup [.int .u64 r1, .bool r2]) h)) (fun v h hr => by unfold zf42.ret at hr; split at hr; exact hr; exact hr.elim) ?_
    exact calls_of_pts (E := zf42.E U (fun r1 r2 h => κ (.tup [.int .u64 r1, .bool r2]) h) [(6, ([1, 14], zf42.k6 (fun a1 a2 h => zf42.j6 U  a1 a2 (fun r1 r2 h => κ (.tup [.int .u64 r1, .bool r2]) h) h)))]) (envOK seatOK (zf42.callsOK hU) hU) seatOK.mixed zf42.fun (Nat.le_of_ble_eq_true rfl) wv (cutL_ok ⟨(zf42.s6 hU (fun r1 r2 h => κ (.tup [.int .u64 r1, .bool r2]) h)), trivial⟩) s (fuel := 3000) (by rw [← zf42.e]; exact hx)
  · exact hx.elim

noncomputable def zf32.code : Code := Go.Proofs.Tryz.f10.body.getD .skip

theorem zf32.fun : Fun sg.P 10 1 [.tmp 0] zf32.code := mkFun Go.Proofs.Tryz.func10 (by kernel_rfl) (by kernel_rfl) (by kernel_rfl) (by kernel_rfl)

def zf32.ret (Q : Bool → Heap → Prop) (v : V) (h : Heap) : Prop :=
  match v with
  | .bool r1 => Q r1 h
  | _ => False

def zf32.C (vs : List V) (κ : V → Heap → Prop) (h : Heap) : Prop :=
  match vs with
  | [] => zf32  (fun r1 h => κ (.bool r1) h) h
  | _ => False

noncomputable def zf32.calls : List (Nat × (List V → (V → Heap → Prop) → Heap → Prop)) := []

noncomputable def zf32.E (Q : Bool → Heap → Prop) (cuts : List (Nat × (List Nat × (List V → Heap → Prop)))) : Env := { tis := tisT, fns := fnsT, tys := tysT, gls := [], rts := rtsT, unk := [], nxt := [], calls := zf32.calls, ifc := noIfc, cuts := cuts, ret := zf32.ret Q, rets := [.tmp 0], n := 1 }

theorem zf32.callsOK {W0 : World} : CallsOK sg W0 zf32.calls := trivial

theorem zf32.e : ∀  (Q : Bool → Heap → Prop) (h : Heap), zf32  Q h = pts (zf32.E Q []) 3000 true [.code zf32.code] (frOf 0 []) h := by
  intros; kernel_rfl

theorem zf32.S {W0 : World} : FnS sg W0 377 zf32.C := by
  intro vs κ h wv hx w s
  unfold zf32.C at hx
  split at hx
  · skip
    refine postImp (ret := zf32.ret (fun r1 h => κ (.bool r1) h)) (fun v h hr => by unfold zf32.ret at hr; split at hr; exact hr; exact hr.elim) ?_
    exact calls_of_pts (E := zf32.E (fun r1 h => κ (.bool r1) h) []) (envOK seatOK zf32.callsOK noIfc_ok) seatOK.mixed zf32.fun (Nat.le_of_ble_eq_true rfl) wv (cutL_ok trivial) s (fuel := 3000) (by rw [← zf32.e]; exact hx)
  · exact hx.elim

noncomputable def zf29.code : Code := Go.Proofs.Tryz.f3.body.getD .skip

theorem zf29.fun : Fun sg.P 3 87 [.tmp 6] zf29.code := mkFun Go.Proofs.Tryz.func3 (by kernel_rfl) (by kernel_rfl) (by kernel_rfl) (by kernel_rfl)

def zf29.ret (Q : Bool → Heap → Prop) (v : V) (h : Heap) : Prop :=
  match v with
  | .bool r1 => Q r1 h
  | _ => False

def zf29.C (U : Ifc) (vs : List V) (κ : V → Heap → Prop) (h : Heap) : Prop :=
  match vs with
  | [.str a1, .int .u64 a2, .str a3] => zf29 U a1 a2 a3 (fun r1 h => κ (.bool r1) h) h
  | _ => False

noncomputable def zf29.calls (U : Ifc) : List (Nat × (List V → (V → Heap → Prop) → Heap → Prop)) := [(361, zf0.C U), (374, zf40.C U), (375, zf1.C U), (376, zf42.C U), (377, zf32.C)]

noncomputable def zf29.E (U : Ifc) (Q : Bool → Heap → Prop) (cuts : List (Nat × (List Nat × (List V → Heap → Prop)))) : Env := { tis := tisT, fns := fnsT, tys := tysT, gls := glsT, rts := rtsT, unk := [], nxt := [], calls := zf29.calls U, ifc := U, cuts := cuts, ret := zf29.ret Q, rets := [.tmp 6], n := 87 }

theorem zf29.callsOK {W0 : World} {U : Ifc} (hU : IfcOK sg W0 glsT U) : CallsOK sg W0 (zf29.calls U) := ⟨(zf0.S hU), (zf40.S hU), (zf1.S hU), (zf42.S hU), zf32.S, trivial⟩

def zf29.k6 (I : Heap → Prop) (vs : List V) (h : Heap) : Prop :=
  match vs with
  | [] => I  h
  | _ => False

def zf29.k8 (I : Sl → Sl → Int → Heap → Prop) (vs : List V) (h : Heap) : Prop :=
  match vs with
  | [.sl a1, .sl a2, .int .i64 a3] => I a1 a2 a3 h
  | _ => False

def zf29.k7 (I : Sl → Sl → Heap → Prop) (vs : List V) (h : Heap) : Prop :=
  match vs with
  | [.sl a1, .sl a2] => I a1 a2 h
  | _ => False

def zf29.k4 (I : (List UInt8) → Int → (List UInt8) → Sl → Int → Int → Sl → Int → Int → Int → Bool → Heap → Prop) (vs : List V) (h : Heap) : Prop :=
  match vs with
  | [.str a1, .int .u64 a2, .str a3, .sl a4, .int .i64 a5, .int .i64 a6, .sl a7, .int .i64 a8, .int .i64 a9, .int .u64 a10, .bool a11] => I a1 a2 a3 a4 a5 a6 a7 a8 a9 a10 a11 h
  | _ => False

theorem zf29.p6 : (posC zf29.code []).filter (fun p => Nat.beq p.1 6) = [(6, atPos (posC zf29.code []) 6)] := by kernel_rfl

theorem zf29.e6 : ∀ (U : Ifc)   (Q : Bool → Heap → Prop) (h : Heap), zf29.j6 U   Q h = pts (zf29.E U Q []) 3000 true (atPos (posC zf29.code []) 6) (frAt [] []) h := by
  intros; kernel_rfl

theorem zf29.s6 {W0 : World} {U : Ifc} (hU : IfcOK sg W0 glsT U) (Q : Bool → Heap → Prop)   : CutOK sg W0 87 (entered 3) (Post sg W0 (zf29.ret Q)) (posC zf29.code []) 6 [] (zf29.k6 (fun  h => zf29.j6 U   Q h)) := by
  refine cutOK_head (fun vs h hk => ?_)
  unfold zf29.k6 at hk
  split at hk
  · skip
    intro todo hm ρ a w s f hp
    exact piece (E := zf29.E U Q []) (vs := []) (envOK seatOK (zf29.callsOK hU) hU) (fnOK seatOK zf29.fun) trivial zf29.p6 (fuel := 3000) (by rw [← zf29.e6]; exact hk) hm s f hp
  · exact hk.elim

theorem zf29.p8 : (posC zf29.code []).filter (fun p => Nat.beq p.1 8) = [(8, atPos (posC zf29.code []) 8)] := by kernel_rfl

theorem zf29.e8 : ∀ (U : Ifc)  (I8 : Sl → Sl → Int → Heap → Prop) (a1 : Sl) (a2 : Sl) (a3 : Int) (Q : Bool → Heap → Prop) (h : Heap), zf29.b8 U  I8 a1 a2 a3 Q h = pts (zf29.E U Q [(8, ([7, 10, 17], zf29.k8 I8))]) 3000 true (atPos (posC zf29.code []) 8) (frAt [7, 10, 17] [.sl a1, .sl a2, .int .i64 a3]) h := by
  intros; kernel_rfl

theorem zf29.s8 {W0 : World} {U : Ifc} (hU : IfcOK sg W0 glsT U) (Q : Bool → Heap → Prop)   : CutOK sg W0 87 (entered 3) (Post sg W0 (zf29.ret Q)) (posC zf29.code []) 8 [7, 10, 17] (zf29.k8 (fun a1 a2 a3 h => zf29.j8 U  a1 a2 a3 Q h)) := by
  refine cutOK_head (fun vs h hk => ?_)
  unfold zf29.k8 at hk
  split at hk
  · rename_i a1 a2 a3
    refine hk (fun a1 a2 a3 h => Head sg W0 87 (entered 3) (Post sg W0 (zf29.ret Q)) (posC zf29.code []) 8 [7, 10, 17] [.sl a1, .sl a2, .int .i64 a3] h) ?_
    intro a1 a2 a3 h hb todo hm ρ a w s f hp
    have hself : CutOK sg W0 87 (entered 3) (Post sg W0 (zf29.ret Q)) (posC zf29.code []) 8 [7, 10, 17] (zf29.k8 (fun a1 a2 a3 h => Head sg W0 87 (entered 3) (Post sg W0 (zf29.ret Q)) (posC zf29.code []) 8 [7, 10, 17] [.sl a1, .sl a2, .int .i64 a3] h)) := cutOK_head (fun vs h hk => by unfold zf29.k8 at hk; split at hk; exact hk; exact hk.elim)
    exact piece (E := zf29.E U Q [(8, ([7, 10, 17], zf29.k8 (fun a1 a2 a3 h => Head sg W0 87 (entered 3) (Post sg W0 (zf29.ret Q)) (posC zf29.code []) 8 [7, 10, 17] [.sl a1, .sl a2, .int .i64 a3] h)))]) (vs := [.sl a1, .sl a2, .int .i64 a3]) (envOK seatOK (zf29.callsOK hU) hU) (fnOK seatOK zf29.fun) ⟨hself, trivial⟩ zf29.p8 (fuel := 3000) (by rw [← zf29.e8]; exact hb) hm s f hp
  · exact hk.elim

theorem zf29.p7 : (posC zf29.code []).filter (fun p => Nat.beq p.1 7) = [(7, atPos (posC zf29.code []) 7)] := by kernel_rfl

theorem zf29.e7 : ∀ (U : Ifc)  (a1 : Sl) (a2 : Sl) (Q : Bool → Heap → Prop) (h : Heap), zf29.j7 U  a1 a2 Q h = pts (zf29.E U Q [(8, ([7, 10, 17], zf29.k8 (fun a1 a2 a3 h => zf29.j8 U  a1 a2 a3 Q h)))]) 3000 true (atPos (posC zf29.code []) 7) (frAt [7, 10] [.sl a1, .sl a2]) h := by
  intros; kernel_rfl

theorem zf29.s7 {W0 : World} {U : Ifc} (hU : IfcOK sg W0 glsT U) (Q : Bool → Heap → Prop)   : CutOK sg W0 87 (entered 3) (Post sg W0 (zf29.ret Q)) (posC zf29.code []) 7 [7, 10] (zf29.k7 (fun a1 a2 h => zf29.j7 U  a1 a2 Q h)) := by
  refine cutOK_head (fun vs h hk => ?_)
  unfold zf29.k7 at hk
  split at hk
  · rename_i a1 a2
    intro todo hm ρ a w s f hp
    exact piece (E := zf29.E U Q [(8, ([7, 10, 17], zf29.k8 (fun a1 a2 a3 h => zf29.j8 U  a1 a2 a3 Q h)))]) (vs := [.sl a1, .sl a2]) (envOK seatOK (zf29.callsOK hU) hU) (fnOK seatOK zf29.fun) ⟨(zf29.s8 hU Q  ), trivial⟩ zf29.p7 (fuel := 3000) (by rw [← zf29.e7]; exact hk) hm s f hp
  · exact hk.elim

theorem zf29.p4 : (posC zf29.code []).filter (fun p => Nat.beq p.1 4) = [(4, atPos (posC zf29.code []) 4)] := by kernel_rfl

theorem zf29.e4 : ∀ (U : Ifc)  (a1 : List UInt8) (a2 : Int) (a3 : List UInt8) (a4 : Sl) (a5 : Int) (a6 : Int) (a7 : Sl) (a8 : Int) (a9 : Int) (a10 : Int) (a11 : Bool) (Q : Bool → Heap → Prop) (h : Heap), zf29.j4 U  a1 a2 a3 a4 a5 a6 a7 a8 a9 a10 a11 Q h = pts (zf29.E U Q [(6, ([], zf29.k6 (fun  h => zf29.j6 U   Q h))), (7, ([7, 10], zf29.k7 (fun a1 a2 h => zf29.j7 U  a1 a2 Q h)))]) 3000 true (atPos (posC zf29.code []) 4) (frAt [0, 1, 2, 7, 8, 9, 10, 11, 12, 13, 14] [.str a1, .int .u64 a2, .str a3, .sl a4, .int .i64 a5, .int .i64 a6, .sl a7, .int .i64 a8, .int .i64 a9, .int .u64 a10, .bool a11]) h := by
  intros; kernel_rfl

theorem zf29.s4 {W0 : World} {U : Ifc} (hU : IfcOK sg W0 glsT U) (Q : Bool → Heap → Prop)   : CutOK sg W0 87 (entered 3) (Post sg W0 (zf29.ret Q)) (posC zf29.code []) 4 [0, 1, 2, 7, 8, 9, 10, 11, 12, 13, 14] (zf29.k4 (fun a1 a2 a3 a4 a5 a6 a7 a8 a9 a10 a11 h => zf29.j4 U  a1 a2 a3 a4 a5 a6 a7 a8 a9 a10 a11 Q h)) := by
  refine cutOK_head (fun vs h hk => ?_)
  unfold zf29.k4 at hk
  split at hk
  · rename_i a1 a2 a3 a4 a5 a6 a7 a8 a9 a10 a11
    intro todo hm ρ a w s f hp
    exact piece (E := zf29.E U Q [(6, ([], zf29.k6 (fun  h => zf29.j6 U   Q h))), (7, ([7, 10], zf29.k7 (fun a1 a2 h => zf29.j7 U  a1 a2 Q h)))]) (vs := [.str a1, .int .u64 a2, .str a3, .sl a4, .int .i64 a5, .int .i64 a6, .sl a7, .int .i64 a8, .int .i64 a9, .int .u64 a10, .bool a11]) (envOK seatOK (zf29.callsOK hU) hU) (fnOK seatOK zf29.fun) ⟨(zf29.s6 hU Q  ), (zf29.s7 hU Q  ), trivial⟩ zf29.p4 (fuel := 3000) (by rw [← zf29.e4]; exact hk) hm s f hp
  · exact hk.elim

theorem zf29.e : ∀ (U : Ifc) (a1 : List UInt8) (a2 : Int) (a3 : List UInt8) (Q : Bool → Heap → Prop) (h : Heap), zf29 U a1 a2 a3 Q h = pts (zf29.E U Q [(4, ([0, 1, 2, 7, 8, 9, 10, 11, 12, 13, 14], zf29.k4 (fun a1 a2 a3 a4 a5 a6 a7 a8 a9 a10 a11 h => zf29.j4 U  a1 a2 a3 a4 a5 a6 a7 a8 a9 a10 a11 Q h)))]) 3000 true [.code zf29.code] (frOf 0 [.str a1, .int .u64 a2, .str a3]) h := by
  intros; kernel_rfl

theorem zf29.S {W0 : World} {U : Ifc} (hU : IfcOK sg W0 glsT U) : FnS sg W0 378 (zf29.C U) := by
  intro vs κ h wv hx w s
  unfold zf29.C at hx
  split at hx
  · rename_i a1 a2 a3
    refine postImp (ret := zf29.ret (fun r1 h => κ (.bool r1) h)) (fun v h hr => by unfold zf29.ret at hr; split at hr; exact hr; exact hr.elim) ?_
    exact calls_of_pts (E := zf29.E U (fun r1 h => κ (.bool r1) h) [(4, ([0, 1, 2, 7, 8, 9, 10, 11, 12, 13, 14], zf29.k4 (fun a1 a2 a3 a4 a5 a6 a7 a8 a9 a10 a11 h => zf29.j4 U  a1 a2 a3 a4 a5 a6 a7 a8 a9 a10 a11 (fun r1 h => κ (.bool r1) h) h)))]) (envOK seatOK (zf29.callsOK hU) hU) seatOK.mixed zf29.fun (Nat.le_of_ble_eq_true rfl) wv (cutL_ok ⟨(zf29.s4 hU (fun r1 h => κ (.bool r1) h)), trivial⟩) s (fuel := 3000) (by rw [← zf29.e]; exact hx)
  · exact hx.elim

noncomputable def zf31.code : Code := Go.Proofs.Tryz.f4.body.getD .skip

theorem zf31.fun : Fun sg.P 4 130 [.tmp 6] zf31.code := mkFun Go.Proofs.Tryz.func4 (by kernel_rfl) (by kernel_rfl) (by kernel_rfl) (by kernel_rfl)

def zf31.ret (Q : Bool → Heap → Prop) (v : V) (h : Heap) : Prop :=
  match v with
  | .bool r1 => Q r1 h
  | _ => False

def zf31.C (U : Ifc) (vs : List V) (κ : V → Heap → Prop) (h : Heap) : Prop :=
  match vs with
  | [.int .i64 a1, .int .u64 a2, .str a3] => zf31 U a1 a2 a3 (fun r1 h => κ (.bool r1) h) h
  | _ => False

noncomputable def zf31.calls (U : Ifc) : List (Nat × (List V → (V → Heap → Prop) → Heap → Prop)) := [(361, zf0.C U), (375, zf1.C U)]

noncomputable def zf31.E (U : Ifc) (Q : Bool → Heap → Prop) (cuts : List (Nat × (List Nat × (List V → Heap → Prop)))) : Env := { tis := tisT, fns := fnsT, tys := tysT, gls := glsT, rts := rtsT, unk := [], nxt := [], calls := zf31.calls U, ifc := U, cuts := cuts, ret := zf31.ret Q, rets := [.tmp 6], n := 130 }

theorem zf31.callsOK {W0 : World} {U : Ifc} (hU : IfcOK sg W0 glsT U) : CallsOK sg W0 (zf31.calls U) := ⟨(zf0.S hU), (zf1.S hU), trivial⟩

def zf31.k18 (I : Int → Int → Sl → Int → Int → Int → Bool → Bool → Heap → Prop) (vs : List V) (h : Heap) : Prop :=
  match vs with
  | [.int .i64 a1, .int .u64 a2, .sl a3, .int .i64 a4, .int .i64 a5, .int .u64 a6, .bool a7, .bool a8] => I a1 a2 a3 a4 a5 a6 a7 a8 h
  | _ => False

def zf31.k14 (I : Int → Int → (List UInt8) → (List UInt8) → Heap → Prop) (vs : List V) (h : Heap) : Prop :=
  match vs with
  | [.int .i64 a1, .int .u64 a2, .str a3, .str a4] => I a1 a2 a3 a4 h
  | _ => False

def zf31.k12 (I : Int → Int → (List UInt8) → (List UInt8) → Heap → Prop) (vs : List V) (h : Heap) : Prop :=
  match vs with
  | [.int .i64 a1, .int .u64 a2, .str a3, .str a4] => I a1 a2 a3 a4 h
  | _ => False

def zf31.k4 (I : Int → Int → (List UInt8) → Int → Heap → Prop) (vs : List V) (h : Heap) : Prop :=
  match vs with
  | [.int .i64 a1, .int .u64 a2, .str a3, .int .i64 a4] => I a1 a2 a3 a4 h
  | _ => False

theorem zf31.p18 : (posC zf31.code []).filter (fun p => Nat.beq p.1 18) = [(18, atPos (posC zf31.code []) 18)] := by kernel_rfl

theorem zf31.e18 : ∀ (U : Ifc)  (a1 : Int) (a2 : Int) (a3 : Sl) (a4 : Int) (a5 : Int) (a6 : Int) (a7 : Bool) (a8 : Bool) (Q : Bool → Heap → Prop) (h : Heap), zf31.j18 U  a1 a2 a3 a4 a5 a6 a7 a8 Q h = pts (zf31.E U Q []) 3000 true (atPos (posC zf31.code []) 18) (frAt [0, 1, 10, 11, 12, 13, 14, 16] [.int .i64 a1, .int .u64 a2, .sl a3, .int .i64 a4, .int .i64 a5, .int .u64 a6, .bool a7, .bool a8]) h := by
  intros; kernel_rfl

theorem zf31.s18 {W0 : World} {U : Ifc} (hU : IfcOK sg W0 glsT U) (Q : Bool → Heap → Prop)   : CutOK sg W0 130 (entered 4) (Post sg W0 (zf31.ret Q)) (posC zf31.code []) 18 [0, 1, 10, 11, 12, 13, 14, 16] (zf31.k18 (fun a1 a2 a3 a4 a5 a6 a7 a8 h => zf31.j18 U  a1 a2 a3 a4 a5 a6 a7 a8 Q h)) := by
  refine cutOK_head (fun vs h hk => ?_)
  unfold zf31.k18 at hk
  split at hk
  · rename_i a1 a2 a3 a4 a5 a6 a7 a8
    intro todo hm ρ a w s f hp
    exact piece (E := zf31.E U Q []) (vs := [.int .i64 a1, .int .u64 a2, .sl a3, .int .i64 a4, .int .i64 a5, .int .u64 a6, .bool a7, .bool a8]) (envOK seatOK (zf31.callsOK hU) hU) (fnOK seatOK zf31.fun) trivial zf31.p18 (fuel := 3000) (by rw [← zf31.e18]; exact hk) hm s f hp
  · exact hk.elim

theorem zf31.p14 : (posC zf31.code []).filter (fun p => Nat.beq p.1 14) = [(14, atPos (posC zf31.code []) 14)] := by kernel_rfl

theorem zf31.e14 : ∀ (U : Ifc)  (a1 : Int) (a2 : Int) (a3 : List UInt8) (a4 : List UInt8) (Q : Bool → Heap → Prop) (h : Heap), zf31.j14 U  a1 a2 a3 a4 Q h = pts (zf31.E U Q [(18, ([0, 1, 10, 11, 12, 13, 14, 16], zf31.k18 (fun a1 a2 a3 a4 a5 a6 a7 a8 h => zf31.j18 U  a1 a2 a3 a4 a5 a6 a7 a8 Q h)))]) 3000 true (atPos (posC zf31.code []) 14) (frAt [0, 1, 2, 9] [.int .i64 a1, .int .u64 a2, .str a3, .str a4]) h := by
  intros; kernel_rfl

theorem zf31.s14 {W0 : World} {U : Ifc} (hU : IfcOK sg W0 glsT U) (Q : Bool → Heap → Prop)   : CutOK sg W0 130 (entered 4) (Post sg W0 (zf31.ret Q)) (posC zf31.code []) 14 [0, 1, 2, 9] (zf31.k14 (fun a1 a2 a3 a4 h => zf31.j14 U  a1 a2 a3 a4 Q h)) := by
  refine cutOK_head (fun vs h hk => ?_)
  unfold zf31.k14 at hk
  split at hk
  · rename_i a1 a2 a3 a4
    intro todo hm ρ a w s f hp
    exact piece (E := zf31.E U Q [(18, ([0, 1, 10, 11, 12, 13, 14, 16], zf31.k18 (fun a1 a2 a3 a4 a5 a6 a7 a8 h => zf31.j18 U  a1 a2 a3 a4 a5 a6 a7 a8 Q h)))]) (vs := [.int .i64 a1, .int .u64 a2, .str a3, .str a4]) (envOK seatOK (zf31.callsOK hU) hU) (fnOK seatOK zf31.fun) ⟨(zf31.s18 hU Q  ), trivial⟩ zf31.p14 (fuel := 3000) (by rw [← zf31.e14]; exact hk) hm s f hp
  · exact hk.elim

theorem zf31.p12 : (posC zf31.code []).filter (fun p => Nat.beq p.1 12) = [(12, atPos (posC zf31.code []) 12)] := by kernel_rfl

theorem zf31.e12 : ∀ (U : Ifc)  (I12 : Int → Int → (List UInt8) → (List UInt8) → Heap → Prop) (a1 : Int) (a2 : Int) (a3 : List UInt8) (a4 : List UInt8) (Q : Bool → Heap → Prop) (h : Heap), zf31.b12 U  I12 a1 a2 a3 a4 Q h = pts (zf31.E U Q [(12, ([0, 1, 2, 9], zf31.k12 I12)), (14, ([0, 1, 2, 9], zf31.k14 (fun a1 a2 a3 a4 h => zf31.j14 U  a1 a2 a3 a4 Q h)))]) 3000 true (atPos (posC zf31.code []) 12) (frAt [0, 1, 2, 9] [.int .i64 a1, .int .u64 a2, .str a3, .str a4]) h := by
  intros; kernel_rfl

theorem zf31.s12 {W0 : World} {U : Ifc} (hU : IfcOK sg W0 glsT U) (Q : Bool → Heap → Prop)   : CutOK sg W0 130 (entered 4) (Post sg W0 (zf31.ret Q)) (posC zf31.code []) 12 [0, 1, 2, 9] (zf31.k12 (fun a1 a2 a3 a4 h => zf31.j12 U  a1 a2 a3 a4 Q h)) := by
  refine cutOK_head (fun vs h hk => ?_)
  unfold zf31.k12 at hk
  split at hk
  · rename_i a1 a2 a3 a4
    refine hk (fun a1 a2 a3 a4 h => Head sg W0 130 (entered 4) (Post sg W0 (zf31.ret Q)) (posC zf31.code []) 12 [0, 1, 2, 9] [.int .i64 a1, .int .u64 a2, .str a3, .str a4] h) ?_
    intro a1 a2 a3 a4 h hb todo hm ρ a w s f hp
    have hself : CutOK sg W0 130 (entered 4) (Post sg W0 (zf31.ret Q)) (posC zf31.code []) 12 [0, 1, 2, 9] (zf31.k12 (fun a1 a2 a3 a4 h => Head sg W0 130 (entered 4) (Post sg W0 (zf31.ret Q)) (posC zf31.code []) 12 [0, 1, 2, 9] [.int .i64 a1, .int .u64 a2, .str a3, .str a4] h)) := cutOK_head (fun vs h hk => by unfold zf31.k12 at hk; split at hk; exact hk; exact hk.elim)
    exact piece (E := zf31.E U Q [(12, ([0, 1, 2, 9], zf31.k12 (fun a1 a2 a3 a4 h => Head sg W0 130 (entered 4) (Post sg W0 (zf31.ret Q)) (posC zf31.code []) 12 [0, 1, 2, 9] [.int .i64 a1, .int .u64 a2, .str a3, .str a4] h))), (14, ([0, 1, 2, 9], zf31.k14 (fun a1 a2 a3 a4 h => zf31.j14 U  a1 a2 a3 a4 Q h)))]) (vs := [.int .i64 a1, .int .u64 a2, .str a3, .str a4]) (envOK seatOK (zf31.callsOK hU) hU) (fnOK seatOK zf31.fun) ⟨hself, (zf31.s14 hU Q  ), trivial⟩ zf31.p12 (fuel := 3000) (by rw [← zf31.e12]; exact hb) hm s f hp
  · exact hk.elim

theorem zf31.p4 : (posC zf31.code []).filter (fun p => Nat.beq p.1 4) = [(4, atPos (posC zf31.code []) 4)] := by kernel_rfl

theorem zf31.e4 : ∀ (U : Ifc)  (I4 : Int → Int → (List UInt8) → Int → Heap → Prop) (a1 : Int) (a2 : Int) (a3 : List UInt8) (a4 : Int) (Q : Bool → Heap → Prop) (h : Heap), zf31.b4 U  I4 a1 a2 a3 a4 Q h = pts (zf31.E U Q [(4, ([0, 1, 2, 7], zf31.k4 I4)), (12, ([0, 1, 2, 9], zf31.k12 (fun a1 a2 a3 a4 h => zf31.j12 U  a1 a2 a3 a4 Q h)))]) 3000 true (atPos (posC zf31.code []) 4) (frAt [0, 1, 2, 7] [.int .i64 a1, .int .u64 a2, .str a3, .int .i64 a4]) h := by
  intros; kernel_rfl

theorem zf31.s4 {W0 : World} {U : Ifc} (hU : IfcOK sg W0 glsT U) (Q : Bool → Heap → Prop)   : CutOK sg W0 130 (entered 4) (Post sg W0 (zf31.ret Q)) (posC zf31.code []) 4 [0, 1, 2, 7] (zf31.k4 (fun a1 a2 a3 a4 h => zf31.j4 U  a1 a2 a3 a4 Q h)) := by
  refine cutOK_head (fun vs h hk => ?_)
  unfold zf31.k4 at hk
  split at hk
  · rename_i a1 a2 a3 a4
    refine hk (fun a1 a2 a3 a4 h => Head sg W0 130 (entered 4) (Post sg W0 (zf31.ret Q)) (posC zf31.code []) 4 [0, 1, 2, 7] [.int .i64 a1, .int .u64 a2, .str a3, .int .i64 a4] h) ?_
    intro a1 a2 a3 a4 h hb todo hm ρ a w s f hp
    have hself : CutOK sg W0 130 (entered 4) (Post sg W0 (zf31.ret Q)) (posC zf31.code []) 4 [0, 1, 2, 7] (zf31.k4 (fun a1 a2 a3 a4 h => Head sg W0 130 (entered 4) (Post sg W0 (zf31.ret Q)) (posC zf31.code []) 4 [0, 1, 2, 7] [.int .i64 a1, .int .u64 a2, .str a3, .int .i64 a4] h)) := cutOK_head (fun vs h hk => by unfold zf31.k4 at hk; split at hk; exact hk; exact hk.elim)
    exact piece (E := zf31.E U Q [(4, ([0, 1, 2, 7], zf31.k4 (fun a1 a2 a3 a4 h => Head sg W0 130 (entered 4) (Post sg W0 (zf31.ret Q)) (posC zf31.code []) 4 [0, 1, 2, 7] [.int .i64 a1, .int .u64 a2, .str a3, .int .i64 a4] h))), (12, ([0, 1, 2, 9], zf31.k12 (fun a1 a2 a3 a4 h => zf31.j12 U  a1 a2 a3 a4 Q h)))]) (vs := [.int .i64 a1, .int .u64 a2, .str a3, .int .i64 a4]) (envOK seatOK (zf31.callsOK hU) hU) (fnOK seatOK zf31.fun) ⟨hself, (zf31.s12 hU Q  ), trivial⟩ zf31.p4 (fuel := 3000) (by rw [← zf31.e4]; exact hb) hm s f hp
  · exact hk.elim

theorem zf31.e : ∀ (U : Ifc) (a1 : Int) (a2 : Int) (a3 : List UInt8) (Q : Bool → Heap → Prop) (h : Heap), zf31 U a1 a2 a3 Q h = pts (zf31.E U Q [(4, ([0, 1, 2, 7], zf31.k4 (fun a1 a2 a3 a4 h => zf31.j4 U  a1 a2 a3 a4 Q h)))]) 3000 true [.code zf31.code] (frOf 0 [.int .i64 a1, .int .u64 a2, .str a3]) h := by
  intros; kernel_rfl

theorem zf31.S {W0 : World} {U : Ifc} (hU : IfcOK sg W0 glsT U) : FnS sg W0 379 (zf31.C U) := by
  intro vs κ h wv hx w s
  unfold zf31.C at hx
  split at hx
  · rename_i a1 a2 a3
    refine postImp (ret := zf31.ret (fun r1 h => κ (.bool r1) h)) (fun v h hr => by unfold zf31.ret at hr; split at hr; exact hr; exact hr.elim) ?_
    exact calls_of_pts (E := zf31.E U (fun r1 h => κ (.bool r1) h) [(4, ([0, 1, 2, 7], zf31.k4 (fun a1 a2 a3 a4 h => zf31.j4 U  a1 a2 a3 a4 (fun r1 h => κ (.bool r1) h) h)))]) (envOK seatOK (zf31.callsOK hU) hU) seatOK.mixed zf31.fun (Nat.le_of_ble_eq_true rfl) wv (cutL_ok ⟨(zf31.s4 hU (fun r1 h => κ (.bool r1) h)), trivial⟩) s (fuel := 3000) (by rw [← zf31.e]; exact hx)
  · exact hx.elim

noncomputable def zf73.code : Code := Go.Proofs.Tryz.f32.body.getD .skip

theorem zf73.fun : Fun sg.P 32 19 [.tmp 6] zf73.code := mkFun Go.Proofs.Tryz.func32 (by kernel_rfl) (by kernel_rfl) (by kernel_rfl) (by kernel_rfl)

def zf73.ret (Q : Int → Heap → Prop) (v : V) (h : Heap) : Prop :=
  match v with
  | .int .i64 r1 => Q r1 h
  | _ => False

def zf73.C (vs : List V) (κ : V → Heap → Prop) (h : Heap) : Prop :=
  match vs with
  | [.int .u32 a1, .int .i64 a2, .int .i64 a3] => zf73 a1 a2 a3 (fun r1 h => κ (.int .i64 r1) h) h
  | _ => False

noncomputable def zf73.calls : List (Nat × (List V → (V → Heap → Prop) → Heap → Prop)) := [(170, zf77.C), (171, zf78.C)]

noncomputable def zf73.E (Q : Int → Heap → Prop) (cuts : List (Nat × (List Nat × (List V → Heap → Prop)))) : Env := { tis := tisT, fns := fnsT, tys := tysT, gls := [], rts := rtsT, unk := [], nxt := [], calls := zf73.calls, ifc := noIfc, cuts := cuts, ret := zf73.ret Q, rets := [.tmp 6], n := 19 }

theorem zf73.callsOK {W0 : World} : CallsOK sg W0 zf73.calls := ⟨zf77.S, zf78.S, trivial⟩

theorem zf73.e : ∀ (a1 : Int) (a2 : Int) (a3 : Int) (Q : Int → Heap → Prop) (h : Heap), zf73 a1 a2 a3 Q h = pts (zf73.E Q []) 3000 true [.code zf73.code] (frOf 0 [.int .u32 a1, .int .i64 a2, .int .i64 a3]) h := by
  intros; kernel_rfl

theorem zf73.S {W0 : World} : FnS sg W0 172 zf73.C := by
  intro vs κ h wv hx w s
  unfold zf73.C at hx
  split at hx
  · rename_i a1 a2 a3
    refine postImp (ret := zf73.ret (fun r1 h => κ (.int .i64 r1) h)) (fun v h hr => by unfold zf73.ret at hr; split at hr; exact hr; exact hr.elim) ?_
    exact calls_of_pts (E := zf73.E (fun r1 h => κ (.int .i64 r1) h) []) (envOK seatOK zf73.callsOK noIfc_ok) seatOK.mixed zf73.fun (Nat.le_of_ble_eq_true rfl) wv (cutL_ok trivial) s (fuel := 3000) (by rw [← zf73.e]; exact hx)
  · exact hx.elim

noncomputable def zf15.code : Code := Go.Proofs.Tryz.f17.body.getD .skip

theorem zf15.fun : Fun sg.P 17 55 [.cell 2 52, .tmp 3] zf15.code := mkFun Go.Proofs.Tryz.func17 (by kernel_rfl) (by kernel_rfl) (by kernel_rfl) (by kernel_rfl)

def zf15.ret (Q : Int → Int → Int → Int → Int → Int → Heap → Prop) (v : V) (h : Heap) : Prop :=
  match v with
  | .tup [.agg [.int .i64 r1, .int .i64 r2, .int .i64 r3, .int .i64 r4, .int .i64 r5], .int .i64 r6] => Q r1 r2 r3 r4 r5 r6 h
  | _ => False

def zf15.C (vs : List V) (κ : V → Heap → Prop) (h : Heap) : Prop :=
  match vs with
  | [.int .u32 a1] => zf15 a1 (fun r1 r2 r3 r4 r5 r6 h => κ (.tup [.agg [.int .i64 r1, .int .i64 r2, .int .i64 r3, .int .i64 r4, .int .i64 r5], .int .i64 r6]) h) h
  | _ => False

noncomputable def zf15.calls : List (Nat × (List V → (V → Heap → Prop) → Heap → Prop)) := [(172, zf73.C), (175, zf17.C), (176, zf76.C), (181, zf16.C)]

noncomputable def zf15.E (Q : Int → Int → Int → Int → Int → Int → Heap → Prop) (cuts : List (Nat × (List Nat × (List V → Heap → Prop)))) : Env := { tis := tisT, fns := fnsT, tys := tysT, gls := [], rts := rtsT, unk := [], nxt := [], calls := zf15.calls, ifc := noIfc, cuts := cuts, ret := zf15.ret Q, rets := [.cell 2 52, .tmp 3], n := 55 }

theorem zf15.callsOK {W0 : World} : CallsOK sg W0 zf15.calls := ⟨zf73.S, zf17.S, zf76.S, zf16.S, trivial⟩

def zf15.k8 (I : Int → Ptr → Ptr → Heap → Prop) (vs : List V) (h : Heap) : Prop :=
  match vs with
  | [.int .u32 a1, .ptr (some a2), .ptr (some a3)] => I a1 a2 a3 h
  | _ => False

theorem zf15.p8 : (posC zf15.code []).filter (fun p => Nat.beq p.1 8) = [(8, atPos (posC zf15.code []) 8)] := by kernel_rfl

theorem zf15.e8 : ∀  (a1 : Int) (a2 : Ptr) (a3 : Ptr) (Q : Int → Int → Int → Int → Int → Int → Heap → Prop) (h : Heap), zf15.j8  a1 a2 a3 Q h = pts (zf15.E Q []) 3000 true (atPos (posC zf15.code []) 8) (frAt [0, 2, 4] [.int .u32 a1, .ptr (some a2), .ptr (some a3)]) h := by
  intros; kernel_rfl

theorem zf15.s8 {W0 : World} (Q : Int → Int → Int → Int → Int → Int → Heap → Prop)   : CutOK sg W0 55 (entered 17) (Post sg W0 (zf15.ret Q)) (posC zf15.code []) 8 [0, 2, 4] (zf15.k8 (fun a1 a2 a3 h => zf15.j8  a1 a2 a3 Q h)) := by
  refine cutOK_head (fun vs h hk => ?_)
  unfold zf15.k8 at hk
  split at hk
  · rename_i a1 a2 a3
    intro todo hm ρ a w s f hp
    exact piece (E := zf15.E Q []) (vs := [.int .u32 a1, .ptr (some a2), .ptr (some a3)]) (envOK seatOK zf15.callsOK noIfc_ok) (fnOK seatOK zf15.fun) trivial zf15.p8 (fuel := 3000) (by rw [← zf15.e8]; exact hk) hm s f hp
  · exact hk.elim

theorem zf15.e : ∀ (a1 : Int) (Q : Int → Int → Int → Int → Int → Int → Heap → Prop) (h : Heap), zf15 a1 Q h = pts (zf15.E Q [(8, ([0, 2, 4], zf15.k8 (fun a1 a2 a3 h => zf15.j8  a1 a2 a3 Q h)))]) 3000 true [.code zf15.code] (frOf 0 [.int .u32 a1]) h := by
  intros; kernel_rfl

theorem zf15.S {W0 : World} : FnS sg W0 182 zf15.C := by
  intro vs κ h wv hx w s
  unfold zf15.C at hx
  split at hx
  · rename_i a1
    refine postImp (ret := zf15.ret (fun r1 r2 r3 r4 r5 r6 h => κ (.tup [.agg [.int .i64 r1, .int .i64 r2, .int .i64 r3, .int .i64 r4, .int .i64 r5], .int .i64 r6]) h)) (fun v h hr => by unfold zf15.ret at hr; split at hr; exact hr; exact hr.elim) ?_
    exact calls_of_pts (E := zf15.E (fun r1 r2 r3 r4 r5 r6 h => κ (.tup [.agg [.int .i64 r1, .int .i64 r2, .int .i64 r3, .int .i64 r4, .int .i64 r5], .int .i64 r6]) h) [(8, ([0, 2, 4], zf15.k8 (fun a1 a2 a3 h => zf15.j8  a1 a2 a3 (fun r1 r2 r3 r4 r5 r6 h => κ (.tup [.agg [.int .i64 r1, .int .i64 r2, .int .i64 r3, .int .i64 r4, .int .i64 r5], .int .i64 r6]) h) h)))]) (envOK seatOK zf15.callsOK noIfc_ok) seatOK.mixed zf15.fun (Nat.le_of_ble_eq_true rfl) wv (cutL_ok ⟨(zf15.s8 (fun r1 r2 r3 r4 r5 r6 h => κ (.tup [.agg [.int .i64 r1, .int .i64 r2, .int .i64 r3, .int .i64 r4, .int .i64 r5], .int .i64 r6]) h)), trivial⟩) s (fuel := 3000) (by rw [← zf15.e]; exact hx)
  · exact hx.elim

noncomputable def zf58.code : Code := Go.Proofs.Tryz.f18.body.getD .skip

theorem zf58.fun : Fun sg.P 18 5 [.tmp 2] zf58.code := mkFun Go.Proofs.Tryz.func18 (by kernel_rfl) (by kernel_rfl) (by kernel_rfl) (by kernel_rfl)

def zf58.ret (Q : (List UInt8) → Heap → Prop) (v : V) (h : Heap) : Prop :=
  match v with
  | .str r1 => Q r1 h
  | _ => False

def zf58.C (U : Ifc) (vs : List V) (κ : V → Heap → Prop) (h : Heap) : Prop :=
  match vs with
  | [.int .i64 a1] => zf58 U a1 (fun r1 h => κ (.str r1) h) h
  | _ => False

theorem zf58.S {W0 : World} {U : Ifc} (hU : IfcOK sg W0 glsT U) : FnS sg W0 335 (zf58.C U) := by
  intro vs κ h wv hx w s
  refine itoa_S (g := 335) (c := 3) (gn := 3) hU lays171 (by kernel_rfl) (by kernel_rfl) rfl zf58.fun vs κ h wv ?_ w s
  unfold zf58.C at hx
  split at hx
  · exact hx
  · exact hx.elim

noncomputable def zf67.code : Code := Go.Proofs.Tryz.f21.body.getD .skip

theorem zf67.fun : Fun sg.P 21 75 [.tmp 4] zf67.code := mkFun Go.Proofs.Tryz.func21 (by kernel_rfl) (by kernel_rfl) (by kernel_rfl) (by kernel_rfl)

def zf67.ret (Q : (List UInt8) → Heap → Prop) (v : V) (h : Heap) : Prop :=
  match v with
  | .str r1 => Q r1 h
  | _ => False

def zf67.C (vs : List V) (κ : V → Heap → Prop) (h : Heap) : Prop :=
  match vs with
  | [.sl a1, .str a2] => zf67 a1 a2 (fun r1 h => κ (.str r1) h) h
  | _ => False

theorem zf67.S {W0 : World} : FnS sg W0 340 (zf67.C) := by
  intro vs κ h wv hx w s
  refine join_S (g := 340) lays156 extra_lays156 rfl zf67.fun vs κ h wv ?_ w s
  unfold zf67.C at hx
  split at hx
  · exact hx
  · exact hx.elim

noncomputable def zf2.code : Code := Go.Proofs.Tryz.f11.body.getD .skip

theorem zf2.fun : Fun sg.P 11 65 [.tmp 2] zf2.code := mkFun Go.Proofs.Tryz.func11 (by kernel_rfl) (by kernel_rfl) (by kernel_rfl) (by kernel_rfl)

def zf2.ret (Q : (List UInt8) → Heap → Prop) (v : V) (h : Heap) : Prop :=
  match v with
  | .str r1 => Q r1 h
  | _ => False

def zf2.C (U : Ifc) (vs : List V) (κ : V → Heap → Prop) (h : Heap) : Prop :=
  match vs with
  | [.int .u32 a1] => zf2 U a1 (fun r1 h => κ (.str r1) h) h
  | _ => False

noncomputable def zf2.calls (U : Ifc) : List (Nat × (List V → (V → Heap → Prop) → Heap → Prop)) := [(182, zf15.C), (335, zf58.C U), (336, zf62.C U), (339, zf8.C), (340, zf67.C)]

noncomputable def zf2.E (U : Ifc) (Q : (List UInt8) → Heap → Prop) (cuts : List (Nat × (List Nat × (List V → Heap → Prop)))) : Env := { tis := tisT, fns := fnsT, tys := tysT, gls := glsT, rts := rtsT, unk := [], nxt := [], calls := zf2.calls U, ifc := U, cuts := cuts, ret := zf2.ret Q, rets := [.tmp 2], n := 65 }

theorem zf2.callsOK {W0 : World} {U : Ifc} (hU : IfcOK sg W0 glsT U) : CallsOK sg W0 (zf2.calls U) := ⟨zf15.S, (zf58.S hU), (zf62.S hU), zf8.S, zf67.S, trivial⟩

def zf2.k11 (I : Ptr → Sl → Int → Ptr → Heap → Prop) (vs : List V) (h : Heap) : Prop :=
  match vs with
  | [.ptr (some a1), .sl a2, .int .i64 a3, .ptr (some a4)] => I a1 a2 a3 a4 h
  | _ => False

def zf2.k12 (I : Ptr → Sl → Ptr → Heap → Prop) (vs : List V) (h : Heap) : Prop :=
  match vs with
  | [.ptr (some a1), .sl a2, .ptr (some a3)] => I a1 a2 a3 h
  | _ => False

def zf2.k6 (I : Ptr → Sl → Ptr → Heap → Prop) (vs : List V) (h : Heap) : Prop :=
  match vs with
  | [.ptr (some a1), .sl a2, .ptr (some a3)] => I a1 a2 a3 h
  | _ => False

theorem zf2.p11 : (posC zf2.code []).filter (fun p => Nat.beq p.1 11) = [(11, atPos (posC zf2.code []) 11)] := by kernel_rfl

theorem zf2.e11 : ∀ (U : Ifc) (I6 : Ptr → Sl → Ptr → Heap → Prop) (a1 : Ptr) (a2 : Sl) (a3 : Int) (a4 : Ptr) (Q : (List UInt8) → Heap → Prop) (h : Heap), zf2.j11 U I6 a1 a2 a3 a4 Q h = pts (zf2.E U Q [(6, ([3, 5, 32], zf2.k6 I6))]) 3000 true (atPos (posC zf2.code []) 11) (frAt [3, 5, 9, 32] [.ptr (some a1), .sl a2, .int .i64 a3, .ptr (some a4)]) h := by
  intros; kernel_rfl

theorem zf2.s11 {W0 : World} {U : Ifc} (hU : IfcOK sg W0 glsT U) (Q : (List UInt8) → Heap → Prop) (I6 : Ptr → Sl → Ptr → Heap → Prop) (h6 : CutOK sg W0 65 (entered 11) (Post sg W0 (zf2.ret Q)) (posC zf2.code []) 6 [3, 5, 32] (zf2.k6 I6)) : CutOK sg W0 65 (entered 11) (Post sg W0 (zf2.ret Q)) (posC zf2.code []) 11 [3, 5, 9, 32] (zf2.k11 (fun a1 a2 a3 a4 h => zf2.j11 U I6 a1 a2 a3 a4 Q h)) := by
  refine cutOK_head (fun vs h hk => ?_)
  unfold zf2.k11 at hk
  split at hk
  · rename_i a1 a2 a3 a4
    intro todo hm ρ a w s f hp
    exact piece (E := zf2.E U Q [(6, ([3, 5, 32], zf2.k6 I6))]) (vs := [.ptr (some a1), .sl a2, .int .i64 a3, .ptr (some a4)]) (envOK seatOK (zf2.callsOK hU) hU) (fnOK seatOK zf2.fun) ⟨h6, trivial⟩ zf2.p11 (fuel := 3000) (by rw [← zf2.e11]; exact hk) hm s f hp
  · exact hk.elim

theorem zf2.p12 : (posC zf2.code []).filter (fun p => Nat.beq p.1 12) = [(12, atPos (posC zf2.code []) 12)] := by kernel_rfl

theorem zf2.e12 : ∀ (U : Ifc) (I6 : Ptr → Sl → Ptr → Heap → Prop) (a1 : Ptr) (a2 : Sl) (a3 : Ptr) (Q : (List UInt8) → Heap → Prop) (h : Heap), zf2.j12 U I6 a1 a2 a3 Q h = pts (zf2.E U Q [(6, ([3, 5, 32], zf2.k6 I6))]) 3000 true (atPos (posC zf2.code []) 12) (frAt [3, 5, 32] [.ptr (some a1), .sl a2, .ptr (some a3)]) h := by
  intros; kernel_rfl

theorem zf2.s12 {W0 : World} {U : Ifc} (hU : IfcOK sg W0 glsT U) (Q : (List UInt8) → Heap → Prop) (I6 : Ptr → Sl → Ptr → Heap → Prop) (h6 : CutOK sg W0 65 (entered 11) (Post sg W0 (zf2.ret Q)) (posC zf2.code []) 6 [3, 5, 32] (zf2.k6 I6)) : CutOK sg W0 65 (entered 11) (Post sg W0 (zf2.ret Q)) (posC zf2.code []) 12 [3, 5, 32] (zf2.k12 (fun a1 a2 a3 h => zf2.j12 U I6 a1 a2 a3 Q h)) := by
  refine cutOK_head (fun vs h hk => ?_)
  unfold zf2.k12 at hk
  split at hk
  · rename_i a1 a2 a3
    intro todo hm ρ a w s f hp
    exact piece (E := zf2.E U Q [(6, ([3, 5, 32], zf2.k6 I6))]) (vs := [.ptr (some a1), .sl a2, .ptr (some a3)]) (envOK seatOK (zf2.callsOK hU) hU) (fnOK seatOK zf2.fun) ⟨h6, trivial⟩ zf2.p12 (fuel := 3000) (by rw [← zf2.e12]; exact hk) hm s f hp
  · exact hk.elim

theorem zf2.p6 : (posC zf2.code []).filter (fun p => Nat.beq p.1 6) = [(6, atPos (posC zf2.code []) 6)] := by kernel_rfl

theorem zf2.e6 : ∀ (U : Ifc)  (I6 : Ptr → Sl → Ptr → Heap → Prop) (a1 : Ptr) (a2 : Sl) (a3 : Ptr) (Q : (List UInt8) → Heap → Prop) (h : Heap), zf2.b6 U  I6 a1 a2 a3 Q h = pts (zf2.E U Q [(11, ([3, 5, 9, 32], zf2.k11 (fun a1 a2 a3 a4 h => zf2.j11 U I6 a1 a2 a3 a4 Q h))), (12, ([3, 5, 32], zf2.k12 (fun a1 a2 a3 h => zf2.j12 U I6 a1 a2 a3 Q h)))]) 3000 true (atPos (posC zf2.code []) 6) (frAt [3, 5, 32] [.ptr (some a1), .sl a2, .ptr (some a3)]) h := by
  intros; kernel_rfl

theorem zf2.s6 {W0 : World} {U : Ifc} (hU : IfcOK sg W0 glsT U) (Q : (List UInt8) → Heap → Prop)   : CutOK sg W0 65 (entered 11) (Post sg W0 (zf2.ret Q)) (posC zf2.code []) 6 [3, 5, 32] (zf2.k6 (fun a1 a2 a3 h => zf2.j6 U  a1 a2 a3 Q h)) := by
  refine cutOK_head (fun vs h hk => ?_)
  unfold zf2.k6 at hk
  split at hk
  · rename_i a1 a2 a3
    refine hk (fun a1 a2 a3 h => Head sg W0 65 (entered 11) (Post sg W0 (zf2.ret Q)) (posC zf2.code []) 6 [3, 5, 32] [.ptr (some a1), .sl a2, .ptr (some a3)] h) ?_
    intro a1 a2 a3 h hb todo hm ρ a w s f hp
    have hself : CutOK sg W0 65 (entered 11) (Post sg W0 (zf2.ret Q)) (posC zf2.code []) 6 [3, 5, 32] (zf2.k6 (fun a1 a2 a3 h => Head sg W0 65 (entered 11) (Post sg W0 (zf2.ret Q)) (posC zf2.code []) 6 [3, 5, 32] [.ptr (some a1), .sl a2, .ptr (some a3)] h)) := cutOK_head (fun vs h hk => by unfold zf2.k6 at hk; split at hk; exact hk; exact hk.elim)
    exact piece (E := zf2.E U Q [(11, ([3, 5, 9, 32], zf2.k11 (fun a1 a2 a3 a4 h => zf2.j11 U (fun a1 a2 a3 h => Head sg W0 65 (entered 11) (Post sg W0 (zf2.ret Q)) (posC zf2.code []) 6 [3, 5, 32] [.ptr (some a1), .sl a2, .ptr (some a3)] h) a1 a2 a3 a4 Q h))), (12, ([3, 5, 32], zf2.k12 (fun a1 a2 a3 h => zf2.j12 U (fun a1 a2 a3 h => Head sg W0 65 (entered 11) (Post sg W0 (zf2.ret Q)) (posC zf2.code []) 6 [3, 5, 32] [.ptr (some a1), .sl a2, .ptr (some a3)] h) a1 a2 a3 Q h)))]) (vs := [.ptr (some a1), .sl a2, .ptr (some a3)]) (envOK seatOK (zf2.callsOK hU) hU) (fnOK seatOK zf2.fun) ⟨(zf2.s11 hU Q (fun a1 a2 a3 h => Head sg W0 65 (entered 11) (Post sg W0 (zf2.ret Q)) (posC zf2.code []) 6 [3, 5, 32] [.ptr (some a1), .sl a2, .ptr (some a3)] h) hself), (zf2.s12 hU Q (fun a1 a2 a3 h => Head sg W0 65 (entered 11) (Post sg W0 (zf2.ret Q)) (posC zf2.code []) 6 [3, 5, 32] [.ptr (some a1), .sl a2, .ptr (some a3)] h) hself), trivial⟩ zf2.p6 (fuel := 3000) (by rw [← zf2.e6]; exact hb) hm s f hp
  · exact hk.elim

theorem zf2.e : ∀ (U : Ifc) (a1 : Int) (Q : (List UInt8) → Heap → Prop) (h : Heap), zf2 U a1 Q h = pts (zf2.E U Q [(6, ([3, 5, 32], zf2.k6 (fun a1 a2 a3 h => zf2.j6 U  a1 a2 a3 Q h)))]) 3000 true [.code zf2.code] (frOf 0 [.int .u32 a1]) h := by
  intros; kernel_rfl

theorem zf2.S {W0 : World} {U : Ifc} (hU : IfcOK sg W0 glsT U) : FnS sg W0 341 (zf2.C U) := by
  intro vs κ h wv hx w s
  unfold zf2.C at hx
  split at hx
  · rename_i a1
    refine postImp (ret := zf2.ret (fun r1 h => κ (.str r1) h)) (fun v h hr => by unfold zf2.ret at hr; split at hr; exact hr; exact hr.elim) ?_
    exact calls_of_pts (E := zf2.E U (fun r1 h => κ (.str r1) h) [(6, ([3, 5, 32], zf2.k6 (fun a1 a2 a3 h => zf2.j6 U  a1 a2 a3 (fun r1 h => κ (.str r1) h) h)))]) (envOK seatOK (zf2.callsOK hU) hU) seatOK.mixed zf2.fun (Nat.le_of_ble_eq_true rfl) wv (cutL_ok ⟨(zf2.s6 hU (fun r1 h => κ (.str r1) h)), trivial⟩) s (fuel := 3000) (by rw [← zf2.e]; exact hx)
  · exact hx.elim

noncomputable def zf30.code : Code := Go.Proofs.Tryz.f5.body.getD .skip

theorem zf30.fun : Fun sg.P 5 77 [.tmp 2] zf30.code := mkFun Go.Proofs.Tryz.func5 (by kernel_rfl) (by kernel_rfl) (by kernel_rfl) (by kernel_rfl)

def zf30.ret (Q : Bool → Heap → Prop) (v : V) (h : Heap) : Prop :=
  match v with
  | .bool r1 => Q r1 h
  | _ => False

def zf30.C (U : Ifc) (vs : List V) (κ : V → Heap → Prop) (h : Heap) : Prop :=
  match vs with
  | [.sl a1] => zf30 U a1 (fun r1 h => κ (.bool r1) h) h
  | _ => False

noncomputable def zf30.calls (U : Ifc) : List (Nat × (List V → (V → Heap → Prop) → Heap → Prop)) := [(361, zf0.C U), (341, zf2.C U)]

noncomputable def zf30.E (U : Ifc) (Q : Bool → Heap → Prop) (cuts : List (Nat × (List Nat × (List V → Heap → Prop)))) : Env := { tis := tisT, fns := fnsT, tys := tysT, gls := glsT, rts := rtsT, unk := [], nxt := [], calls := zf30.calls U, ifc := U, cuts := cuts, ret := zf30.ret Q, rets := [.tmp 2], n := 77 }

theorem zf30.callsOK {W0 : World} {U : Ifc} (hU : IfcOK sg W0 glsT U) : CallsOK sg W0 (zf30.calls U) := ⟨(zf0.S hU), (zf2.S hU), trivial⟩

def zf30.k10 (I : Heap → Prop) (vs : List V) (h : Heap) : Prop :=
  match vs with
  | [] => I  h
  | _ => False

def zf30.k12 (I : Sl → Sl → Int → Heap → Prop) (vs : List V) (h : Heap) : Prop :=
  match vs with
  | [.sl a1, .sl a2, .int .i64 a3] => I a1 a2 a3 h
  | _ => False

def zf30.k11 (I : Sl → Sl → Heap → Prop) (vs : List V) (h : Heap) : Prop :=
  match vs with
  | [.sl a1, .sl a2] => I a1 a2 h
  | _ => False

def zf30.k5 (I : Sl → (List UInt8) → Int → Heap → Prop) (vs : List V) (h : Heap) : Prop :=
  match vs with
  | [.sl a1, .str a2, .int .i64 a3] => I a1 a2 a3 h
  | _ => False

def zf30.k3 (I : Sl → Heap → Prop) (vs : List V) (h : Heap) : Prop :=
  match vs with
  | [.sl a1] => I a1 h
  | _ => False

theorem zf30.p10 : (posC zf30.code []).filter (fun p => Nat.beq p.1 10) = [(10, atPos (posC zf30.code []) 10)] := by kernel_rfl

theorem zf30.e10 : ∀ (U : Ifc)   (Q : Bool → Heap → Prop) (h : Heap), zf30.j10 U   Q h = pts (zf30.E U Q []) 3000 true (atPos (posC zf30.code []) 10) (frAt [] []) h := by
  intros; kernel_rfl

theorem zf30.s10 {W0 : World} {U : Ifc} (hU : IfcOK sg W0 glsT U) (Q : Bool → Heap → Prop)   : CutOK sg W0 77 (entered 5) (Post sg W0 (zf30.ret Q)) (posC zf30.code []) 10 [] (zf30.k10 (fun  h => zf30.j10 U   Q h)) := by
  refine cutOK_head (fun vs h hk => ?_)
  unfold zf30.k10 at hk
  split at hk
  · skip
    intro todo hm ρ a w s f hp
    exact piece (E := zf30.E U Q []) (vs := []) (envOK seatOK (zf30.callsOK hU) hU) (fnOK seatOK zf30.fun) trivial zf30.p10 (fuel := 3000) (by rw [← zf30.e10]; exact hk) hm s f hp
  · exact hk.elim

theorem zf30.p12 : (posC zf30.code []).filter (fun p => Nat.beq p.1 12) = [(12, atPos (posC zf30.code []) 12)] := by kernel_rfl

theorem zf30.e12 : ∀ (U : Ifc)  (I12 : Sl → Sl → Int → Heap → Prop) (a1 : Sl) (a2 : Sl) (a3 : Int) (Q : Bool → Heap → Prop) (h : Heap), zf30.b12 U  I12 a1 a2 a3 Q h = pts (zf30.E U Q [(12, ([0, 5, 8], zf30.k12 I12))]) 3000 true (atPos (posC zf30.code []) 12) (frAt [0, 5, 8] [.sl a1, .sl a2, .int .i64 a3]) h := by
  intros; kernel_rfl

theorem zf30.s12 {W0 : World} {U : Ifc} (hU : IfcOK sg W0 glsT U) (Q : Bool → Heap → Prop)   : CutOK sg W0 77 (entered 5) (Post sg W0 (zf30.ret Q)) (posC zf30.code []) 12 [0, 5, 8] (zf30.k12 (fun a1 a2 a3 h => zf30.j12 U  a1 a2 a3 Q h)) := by
  refine cutOK_head (fun vs h hk => ?_)
  unfold zf30.k12 at hk
  split at hk
  · rename_i a1 a2 a3
    refine hk (fun a1 a2 a3 h => Head sg W0 77 (entered 5) (Post sg W0 (zf30.ret Q)) (posC zf30.code []) 12 [0, 5, 8] [.sl a1, .sl a2, .int .i64 a3] h) ?_
    intro a1 a2 a3 h hb todo hm ρ a w s f hp
    have hself : CutOK sg W0 77 (entered 5) (Post sg W0 (zf30.ret Q)) (posC zf30.code []) 12 [0, 5, 8] (zf30.k12 (fun a1 a2 a3 h => Head sg W0 77 (entered 5) (Post sg W0 (zf30.ret Q)) (posC zf30.code []) 12 [0, 5, 8] [.sl a1, .sl a2, .int .i64 a3] h)) := cutOK_head (fun vs h hk => by unfold zf30.k12 at hk; split at hk; exact hk; exact hk.elim)
    exact piece (E := zf30.E U Q [(12, ([0, 5, 8], zf30.k12 (fun a1 a2 a3 h => Head sg W0 77 (entered 5) (Post sg W0 (zf30.ret Q)) (posC zf30.code []) 12 [0, 5, 8] [.sl a1, .sl a2, .int .i64 a3] h)))]) (vs := [.sl a1, .sl a2, .int .i64 a3]) (envOK seatOK (zf30.callsOK hU) hU) (fnOK seatOK zf30.fun) ⟨hself, trivial⟩ zf30.p12 (fuel := 3000) (by rw [← zf30.e12]; exact hb) hm s f hp
  · exact hk.elim

theorem zf30.p11 : (posC zf30.code []).filter (fun p => Nat.beq p.1 11) = [(11, atPos (posC zf30.code []) 11)] := by kernel_rfl

theorem zf30.e11 : ∀ (U : Ifc)  (a1 : Sl) (a2 : Sl) (Q : Bool → Heap → Prop) (h : Heap), zf30.j11 U  a1 a2 Q h = pts (zf30.E U Q [(12, ([0, 5, 8], zf30.k12 (fun a1 a2 a3 h => zf30.j12 U  a1 a2 a3 Q h)))]) 3000 true (atPos (posC zf30.code []) 11) (frAt [0, 5] [.sl a1, .sl a2]) h := by
  intros; kernel_rfl

theorem zf30.s11 {W0 : World} {U : Ifc} (hU : IfcOK sg W0 glsT U) (Q : Bool → Heap → Prop)   : CutOK sg W0 77 (entered 5) (Post sg W0 (zf30.ret Q)) (posC zf30.code []) 11 [0, 5] (zf30.k11 (fun a1 a2 h => zf30.j11 U  a1 a2 Q h)) := by
  refine cutOK_head (fun vs h hk => ?_)
  unfold zf30.k11 at hk
  split at hk
  · rename_i a1 a2
    intro todo hm ρ a w s f hp
    exact piece (E := zf30.E U Q [(12, ([0, 5, 8], zf30.k12 (fun a1 a2 a3 h => zf30.j12 U  a1 a2 a3 Q h)))]) (vs := [.sl a1, .sl a2]) (envOK seatOK (zf30.callsOK hU) hU) (fnOK seatOK zf30.fun) ⟨(zf30.s12 hU Q  ), trivial⟩ zf30.p11 (fuel := 3000) (by rw [← zf30.e11]; exact hk) hm s f hp
  · exact hk.elim

theorem zf30.p5 : (posC zf30.code []).filter (fun p => Nat.beq p.1 5) = [(5, atPos (posC zf30.code []) 5)] := by kernel_rfl

theorem zf30.e5 : ∀ (U : Ifc)  (I5 : Sl → (List UInt8) → Int → Heap → Prop) (a1 : Sl) (a2 : List UInt8) (a3 : Int) (Q : Bool → Heap → Prop) (h : Heap), zf30.b5 U  I5 a1 a2 a3 Q h = pts (zf30.E U Q [(5, ([0, 3, 4], zf30.k5 I5)), (10, ([], zf30.k10 (fun  h => zf30.j10 U   Q h))), (11, ([0, 5], zf30.k11 (fun a1 a2 h => zf30.j11 U  a1 a2 Q h)))]) 3000 true (atPos (posC zf30.code []) 5) (frAt [0, 3, 4] [.sl a1, .str a2, .int .i64 a3]) h := by
  intros; kernel_rfl

theorem zf30.s5 {W0 : World} {U : Ifc} (hU : IfcOK sg W0 glsT U) (Q : Bool → Heap → Prop)   : CutOK sg W0 77 (entered 5) (Post sg W0 (zf30.ret Q)) (posC zf30.code []) 5 [0, 3, 4] (zf30.k5 (fun a1 a2 a3 h => zf30.j5 U  a1 a2 a3 Q h)) := by
  refine cutOK_head (fun vs h hk => ?_)
  unfold zf30.k5 at hk
  split at hk
  · rename_i a1 a2 a3
    refine hk (fun a1 a2 a3 h => Head sg W0 77 (entered 5) (Post sg W0 (zf30.ret Q)) (posC zf30.code []) 5 [0, 3, 4] [.sl a1, .str a2, .int .i64 a3] h) ?_
    intro a1 a2 a3 h hb todo hm ρ a w s f hp
    have hself : CutOK sg W0 77 (entered 5) (Post sg W0 (zf30.ret Q)) (posC zf30.code []) 5 [0, 3, 4] (zf30.k5 (fun a1 a2 a3 h => Head sg W0 77 (entered 5) (Post sg W0 (zf30.ret Q)) (posC zf30.code []) 5 [0, 3, 4] [.sl a1, .str a2, .int .i64 a3] h)) := cutOK_head (fun vs h hk => by unfold zf30.k5 at hk; split at hk; exact hk; exact hk.elim)
    exact piece (E := zf30.E U Q [(5, ([0, 3, 4], zf30.k5 (fun a1 a2 a3 h => Head sg W0 77 (entered 5) (Post sg W0 (zf30.ret Q)) (posC zf30.code []) 5 [0, 3, 4] [.sl a1, .str a2, .int .i64 a3] h))), (10, ([], zf30.k10 (fun  h => zf30.j10 U   Q h))), (11, ([0, 5], zf30.k11 (fun a1 a2 h => zf30.j11 U  a1 a2 Q h)))]) (vs := [.sl a1, .str a2, .int .i64 a3]) (envOK seatOK (zf30.callsOK hU) hU) (fnOK seatOK zf30.fun) ⟨hself, (zf30.s10 hU Q  ), (zf30.s11 hU Q  ), trivial⟩ zf30.p5 (fuel := 3000) (by rw [← zf30.e5]; exact hb) hm s f hp
  · exact hk.elim

theorem zf30.p3 : (posC zf30.code []).filter (fun p => Nat.beq p.1 3) = [(3, atPos (posC zf30.code []) 3)] := by kernel_rfl

theorem zf30.e3 : ∀ (U : Ifc)  (a1 : Sl) (Q : Bool → Heap → Prop) (h : Heap), zf30.j3 U  a1 Q h = pts (zf30.E U Q [(5, ([0, 3, 4], zf30.k5 (fun a1 a2 a3 h => zf30.j5 U  a1 a2 a3 Q h)))]) 3000 true (atPos (posC zf30.code []) 3) (frAt [0] [.sl a1]) h := by
  intros; kernel_rfl

theorem zf30.s3 {W0 : World} {U : Ifc} (hU : IfcOK sg W0 glsT U) (Q : Bool → Heap → Prop)   : CutOK sg W0 77 (entered 5) (Post sg W0 (zf30.ret Q)) (posC zf30.code []) 3 [0] (zf30.k3 (fun a1 h => zf30.j3 U  a1 Q h)) := by
  refine cutOK_head (fun vs h hk => ?_)
  unfold zf30.k3 at hk
  split at hk
  · rename_i a1
    intro todo hm ρ a w s f hp
    exact piece (E := zf30.E U Q [(5, ([0, 3, 4], zf30.k5 (fun a1 a2 a3 h => zf30.j5 U  a1 a2 a3 Q h)))]) (vs := [.sl a1]) (envOK seatOK (zf30.callsOK hU) hU) (fnOK seatOK zf30.fun) ⟨(zf30.s5 hU Q  ), trivial⟩ zf30.p3 (fuel := 3000) (by rw [← zf30.e3]; exact hk) hm s f hp
  · exact hk.elim

theorem zf30.e : ∀ (U : Ifc) (a1 : Sl) (Q : Bool → Heap → Prop) (h : Heap), zf30 U a1 Q h = pts (zf30.E U Q [(3, ([0], zf30.k3 (fun a1 h => zf30.j3 U  a1 Q h)))]) 3000 true [.code zf30.code] (frOf 0 [.sl a1]) h := by
  intros; kernel_rfl

theorem zf30.S {W0 : World} {U : Ifc} (hU : IfcOK sg W0 glsT U) : FnS sg W0 380 (zf30.C U) := by
  intro vs κ h wv hx w s
  unfold zf30.C at hx
  split at hx
  · rename_i a1
    refine postImp (ret := zf30.ret (fun r1 h => κ (.bool r1) h)) (fun v h hr => by unfold zf30.ret at hr; split at hr; exact hr; exact hr.elim) ?_
    exact calls_of_pts (E := zf30.E U (fun r1 h => κ (.bool r1) h) [(3, ([0], zf30.k3 (fun a1 h => zf30.j3 U  a1 (fun r1 h => κ (.bool r1) h) h)))]) (envOK seatOK (zf30.callsOK hU) hU) seatOK.mixed zf30.fun (Nat.le_of_ble_eq_true rfl) wv (cutL_ok ⟨(zf30.s3 hU (fun r1 h => κ (.bool r1) h)), trivial⟩) s (fuel := 3000) (by rw [← zf30.e]; exact hx)
  · exact hx.elim

end Go.Fn
