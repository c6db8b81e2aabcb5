/- The links of the shallow functions to the machine. PRINTED by lift.py. -/
import Derived.Test.YtcaeaolgijjjnaaGreatDoorGb3

set_option linter.unusedVariables false
set_option maxRecDepth 100000
namespace Go.Fn
open Go.Lift

noncomputable def zf34.code : Code := Go.Proofs.Tryz.f16.body.getD .skip

theorem zf34.fun : Fun sg.P 16 35 [.tmp 2, .tmp 3] zf34.code := mkFun Go.Proofs.Tryz.func16 (by kernel_rfl) (by kernel_rfl) (by kernel_rfl) (by kernel_rfl)

def zf34.ret (Q : Int → Int → Heap → Prop) (v : V) (h : Heap) : Prop :=
  match v with
  | .tup [.int .u32 r1, .int .i64 r2] => Q r1 r2 h
  | _ => False

def zf34.C (vs : List V) (κ : V → Heap → Prop) (h : Heap) : Prop :=
  match vs with
  | [.agg [.int .i64 a1, .int .i64 a2, .int .i64 a3, .int .i64 a4, .int .i64 a5]] => zf34 a1 a2 a3 a4 a5 (fun r1 r2 h => κ (.tup [.int .u32 r1, .int .i64 r2]) h) h
  | _ => False

noncomputable def zf34.calls : List (Nat × (List V → (V → Heap → Prop) → Heap → Prop)) := [(226, zf36.C), (227, zf33.C), (222, zf35.C)]

noncomputable def zf34.E (Q : Int → Int → Heap → Prop) (cuts : List (Nat × (List Nat × (List V → Heap → Prop)))) : Env := { tis := tisT, fns := fnsT, tys := tysT, gls := [], rts := rtsT, unk := [], nxt := [], calls := zf34.calls, ifc := noIfc, cuts := cuts, ret := zf34.ret Q, rets := [.tmp 2, .tmp 3], n := 35 }

theorem zf34.callsOK {W0 : World} : CallsOK sg W0 zf34.calls := ⟨zf36.S, zf33.S, zf35.S, trivial⟩

def zf34.k9 (I : Ptr → Int → Heap → Prop) (vs : List V) (h : Heap) : Prop :=
  match vs with
  | [.ptr (some a1), .int .u32 a2] => I a1 a2 h
  | _ => False

theorem zf34.p9 : (posC zf34.code []).filter (fun p => Nat.beq p.1 9) = [(9, atPos (posC zf34.code []) 9)] := by kernel_rfl

theorem zf34.e9 : ∀  (a1 : Ptr) (a2 : Int) (Q : Int → Int → Heap → Prop) (h : Heap), zf34.j9  a1 a2 Q h = pts (zf34.E Q []) 3000 true (atPos (posC zf34.code []) 9) (frAt [1, 4] [.ptr (some a1), .int .u32 a2]) h := by
  intros; kernel_rfl

theorem zf34.s9 {W0 : World} (Q : Int → Int → Heap → Prop)   : CutOK sg W0 35 (entered 16) (Post sg W0 (zf34.ret Q)) (posC zf34.code []) 9 [1, 4] (zf34.k9 (fun a1 a2 h => zf34.j9  a1 a2 Q h)) := by
  refine cutOK_head (fun vs h hk => ?_)
  unfold zf34.k9 at hk
  split at hk
  · rename_i a1 a2
    intro todo hm ρ a w s f hp
    exact piece (E := zf34.E Q []) (vs := [.ptr (some a1), .int .u32 a2]) (envOK seatOK zf34.callsOK noIfc_ok) (fnOK seatOK zf34.fun) trivial zf34.p9 (fuel := 3000) (by rw [← zf34.e9]; exact hk) hm s f hp
  · exact hk.elim

theorem zf34.e : ∀ (a1 : Int) (a2 : Int) (a3 : Int) (a4 : Int) (a5 : Int) (Q : Int → Int → Heap → Prop) (h : Heap), zf34 a1 a2 a3 a4 a5 Q h = pts (zf34.E Q [(9, ([1, 4], zf34.k9 (fun a1 a2 h => zf34.j9  a1 a2 Q h)))]) 3000 true [.code zf34.code] (frOf 0 [.agg [.int .i64 a1, .int .i64 a2, .int .i64 a3, .int .i64 a4, .int .i64 a5]]) h := by
  intros; kernel_rfl

theorem zf34.S {W0 : World} : FnS sg W0 228 zf34.C := by
  intro vs κ h wv hx w s
  unfold zf34.C at hx
  split at hx
  · rename_i a1 a2 a3 a4 a5
    refine postImp (ret := zf34.ret (fun r1 r2 h => κ (.tup [.int .u32 r1, .int .i64 r2]) h)) (fun v h hr => by unfold zf34.ret at hr; split at hr; exact hr; exact hr.elim) ?_
    exact calls_of_pts (E := zf34.E (fun r1 r2 h => κ (.tup [.int .u32 r1, .int .i64 r2]) h) [(9, ([1, 4], zf34.k9 (fun a1 a2 h => zf34.j9  a1 a2 (fun r1 r2 h => κ (.tup [.int .u32 r1, .int .i64 r2]) h) h)))]) (envOK seatOK zf34.callsOK noIfc_ok) seatOK.mixed zf34.fun (Nat.le_of_ble_eq_true rfl) wv (cutL_ok ⟨(zf34.s9 (fun r1 r2 h => κ (.tup [.int .u32 r1, .int .i64 r2]) h)), trivial⟩) s (fuel := 3000) (by rw [← zf34.e]; exact hx)
  · exact hx.elim

noncomputable def zf39.code : Code := Go.Proofs.Tryz.f7.body.getD .skip

theorem zf39.fun : Fun sg.P 7 110 [.tmp 4, .tmp 5, .tmp 6] zf39.code := mkFun Go.Proofs.Tryz.func7 (by kernel_rfl) (by kernel_rfl) (by kernel_rfl) (by kernel_rfl)

def zf39.ret (Q : Sl → Int → Int → Heap → Prop) (v : V) (h : Heap) : Prop :=
  match v with
  | .tup [.sl r1, .int .i64 r2, .int .i64 r3] => Q r1 r2 r3 h
  | _ => False

def zf39.C (U : Ifc) (vs : List V) (κ : V → Heap → Prop) (h : Heap) : Prop :=
  match vs with
  | [.str a1, .int .u64 a2] => zf39 U a1 a2 (fun r1 r2 r3 h => κ (.tup [.sl r1, .int .i64 r2, .int .i64 r3]) h) h
  | _ => False

noncomputable def zf39.calls (U : Ifc) : List (Nat × (List V → (V → Heap → Prop) → Heap → Prop)) := [(372, zf48.C U), (373, zf47.C), (228, zf34.C)]

noncomputable def zf39.E (U : Ifc) (Q : Sl → Int → Int → Heap → Prop) (cuts : List (Nat × (List Nat × (List V → Heap → Prop)))) : Env := { tis := tisT, fns := fnsT, tys := tysT, gls := glsT, rts := rtsT, unk := [], nxt := [], calls := zf39.calls U, ifc := U, cuts := cuts, ret := zf39.ret Q, rets := [.tmp 4, .tmp 5, .tmp 6], n := 110 }

theorem zf39.callsOK {W0 : World} {U : Ifc} (hU : IfcOK sg W0 glsT U) : CallsOK sg W0 (zf39.calls U) := ⟨(zf48.S hU), zf47.S, zf34.S, trivial⟩

def zf39.k2 (I : Heap → Prop) (vs : List V) (h : Heap) : Prop :=
  match vs with
  | [] => I  h
  | _ => False

def zf39.k18 (I : Sl → Sl → Int → Heap → Prop) (vs : List V) (h : Heap) : Prop :=
  match vs with
  | [.sl a1, .sl a2, .int .i64 a3] => I a1 a2 a3 h
  | _ => False

def zf39.k22 (I : Sl → Sl → Int → Ptr → Int → Heap → Prop) (vs : List V) (h : Heap) : Prop :=
  match vs with
  | [.sl a1, .sl a2, .int .i64 a3, .ptr (some a4), .int .i64 a5] => I a1 a2 a3 a4 a5 h
  | _ => False

def zf39.k30 (I : Sl → Sl → Int → Ptr → Heap → Prop) (vs : List V) (h : Heap) : Prop :=
  match vs with
  | [.sl a1, .sl a2, .int .i64 a3, .ptr (some a4)] => I a1 a2 a3 a4 h
  | _ => False

def zf39.k17 (I : Sl → Sl → Int → Heap → Prop) (vs : List V) (h : Heap) : Prop :=
  match vs with
  | [.sl a1, .sl a2, .int .i64 a3] => I a1 a2 a3 h
  | _ => False

def zf39.k10 (I : Sl → Int → Int → Heap → Prop) (vs : List V) (h : Heap) : Prop :=
  match vs with
  | [.sl a1, .int .i64 a2, .int .i64 a3] => I a1 a2 a3 h
  | _ => False

def zf39.k9 (I : Sl → Int → Heap → Prop) (vs : List V) (h : Heap) : Prop :=
  match vs with
  | [.sl a1, .int .i64 a2] => I a1 a2 h
  | _ => False

theorem zf39.p2 : (posC zf39.code []).filter (fun p => Nat.beq p.1 2) = [(2, atPos (posC zf39.code []) 2)] := by kernel_rfl

theorem zf39.e2 : ∀ (U : Ifc)   (Q : Sl → Int → Int → Heap → Prop) (h : Heap), zf39.j2 U   Q h = pts (zf39.E U Q []) 3000 true (atPos (posC zf39.code []) 2) (frAt [] []) h := by
  intros; kernel_rfl

theorem zf39.s2 {W0 : World} {U : Ifc} (hU : IfcOK sg W0 glsT U) (Q : Sl → Int → Int → Heap → Prop)   : CutOK sg W0 110 (entered 7) (Post sg W0 (zf39.ret Q)) (posC zf39.code []) 2 [] (zf39.k2 (fun  h => zf39.j2 U   Q h)) := by
  refine cutOK_head (fun vs h hk => ?_)
  unfold zf39.k2 at hk
  split at hk
  · skip
    intro todo hm ρ a w s f hp
    exact piece (E := zf39.E U Q []) (vs := []) (envOK seatOK (zf39.callsOK hU) hU) (fnOK seatOK zf39.fun) trivial zf39.p2 (fuel := 3000) (by rw [← zf39.e2]; exact hk) hm s f hp
  · exact hk.elim

theorem zf39.p18 : (posC zf39.code []).filter (fun p => Nat.beq p.1 18) = [(18, atPos (posC zf39.code []) 18)] := by kernel_rfl

theorem zf39.e18 : ∀ (U : Ifc) (I17 : Sl → Sl → Int → Heap → Prop) (a1 : Sl) (a2 : Sl) (a3 : Int) (Q : Sl → Int → Int → Heap → Prop) (h : Heap), zf39.j18 U I17 a1 a2 a3 Q h = pts (zf39.E U Q [(17, ([7, 12, 13], zf39.k17 I17))]) 3000 true (atPos (posC zf39.code []) 18) (frAt [7, 12, 13] [.sl a1, .sl a2, .int .i64 a3]) h := by
  intros; kernel_rfl

theorem zf39.s18 {W0 : World} {U : Ifc} (hU : IfcOK sg W0 glsT U) (Q : Sl → Int → Int → Heap → Prop) (I17 : Sl → Sl → Int → Heap → Prop) (h17 : CutOK sg W0 110 (entered 7) (Post sg W0 (zf39.ret Q)) (posC zf39.code []) 17 [7, 12, 13] (zf39.k17 I17)) : CutOK sg W0 110 (entered 7) (Post sg W0 (zf39.ret Q)) (posC zf39.code []) 18 [7, 12, 13] (zf39.k18 (fun a1 a2 a3 h => zf39.j18 U I17 a1 a2 a3 Q h)) := by
  refine cutOK_head (fun vs h hk => ?_)
  unfold zf39.k18 at hk
  split at hk
  · rename_i a1 a2 a3
    intro todo hm ρ a w s f hp
    exact piece (E := zf39.E U Q [(17, ([7, 12, 13], zf39.k17 I17))]) (vs := [.sl a1, .sl a2, .int .i64 a3]) (envOK seatOK (zf39.callsOK hU) hU) (fnOK seatOK zf39.fun) ⟨h17, trivial⟩ zf39.p18 (fuel := 3000) (by rw [← zf39.e18]; exact hk) hm s f hp
  · exact hk.elim

theorem zf39.p22 : (posC zf39.code []).filter (fun p => Nat.beq p.1 22) = [(22, atPos (posC zf39.code []) 22)] := by kernel_rfl

theorem zf39.e22 : ∀ (U : Ifc) (I17 : Sl → Sl → Int → Heap → Prop) (I22 : Sl → Sl → Int → Ptr → Int → Heap → Prop) (a1 : Sl) (a2 : Sl) (a3 : Int) (a4 : Ptr) (a5 : Int) (Q : Sl → Int → Int → Heap → Prop) (h : Heap), zf39.b22 U I17 I22 a1 a2 a3 a4 a5 Q h = pts (zf39.E U Q [(22, ([7, 12, 13, 14, 15], zf39.k22 I22)), (18, ([7, 12, 13], zf39.k18 (fun a1 a2 a3 h => zf39.j18 U I17 a1 a2 a3 Q h)))]) 3000 true (atPos (posC zf39.code []) 22) (frAt [7, 12, 13, 14, 15] [.sl a1, .sl a2, .int .i64 a3, .ptr (some a4), .int .i64 a5]) h := by
  intros; kernel_rfl

theorem zf39.s22 {W0 : World} {U : Ifc} (hU : IfcOK sg W0 glsT U) (Q : Sl → Int → Int → Heap → Prop) (I17 : Sl → Sl → Int → Heap → Prop) (h17 : CutOK sg W0 110 (entered 7) (Post sg W0 (zf39.ret Q)) (posC zf39.code []) 17 [7, 12, 13] (zf39.k17 I17)) : CutOK sg W0 110 (entered 7) (Post sg W0 (zf39.ret Q)) (posC zf39.code []) 22 [7, 12, 13, 14, 15] (zf39.k22 (fun a1 a2 a3 a4 a5 h => zf39.j22 U I17 a1 a2 a3 a4 a5 Q h)) := by
  refine cutOK_head (fun vs h hk => ?_)
  unfold zf39.k22 at hk
  split at hk
  · rename_i a1 a2 a3 a4 a5
    refine hk (fun a1 a2 a3 a4 a5 h => Head sg W0 110 (entered 7) (Post sg W0 (zf39.ret Q)) (posC zf39.code []) 22 [7, 12, 13, 14, 15] [.sl a1, .sl a2, .int .i64 a3, .ptr (some a4), .int .i64 a5] h) ?_
    intro a1 a2 a3 a4 a5 h hb todo hm ρ a w s f hp
    have hself : CutOK sg W0 110 (entered 7) (Post sg W0 (zf39.ret Q)) (posC zf39.code []) 22 [7, 12, 13, 14, 15] (zf39.k22 (fun a1 a2 a3 a4 a5 h => Head sg W0 110 (entered 7) (Post sg W0 (zf39.ret Q)) (posC zf39.code []) 22 [7, 12, 13, 14, 15] [.sl a1, .sl a2, .int .i64 a3, .ptr (some a4), .int .i64 a5] h)) := cutOK_head (fun vs h hk => by unfold zf39.k22 at hk; split at hk; exact hk; exact hk.elim)
    exact piece (E := zf39.E U Q [(22, ([7, 12, 13, 14, 15], zf39.k22 (fun a1 a2 a3 a4 a5 h => Head sg W0 110 (entered 7) (Post sg W0 (zf39.ret Q)) (posC zf39.code []) 22 [7, 12, 13, 14, 15] [.sl a1, .sl a2, .int .i64 a3, .ptr (some a4), .int .i64 a5] h))), (18, ([7, 12, 13], zf39.k18 (fun a1 a2 a3 h => zf39.j18 U I17 a1 a2 a3 Q h)))]) (vs := [.sl a1, .sl a2, .int .i64 a3, .ptr (some a4), .int .i64 a5]) (envOK seatOK (zf39.callsOK hU) hU) (fnOK seatOK zf39.fun) ⟨hself, (zf39.s18 hU Q I17 h17), trivial⟩ zf39.p22 (fuel := 3000) (by rw [← zf39.e22]; exact hb) hm s f hp
  · exact hk.elim

theorem zf39.p30 : (posC zf39.code []).filter (fun p => Nat.beq p.1 30) = [(30, atPos (posC zf39.code []) 30)] := by kernel_rfl

theorem zf39.e30 : ∀ (U : Ifc) (I17 : Sl → Sl → Int → Heap → Prop) (a1 : Sl) (a2 : Sl) (a3 : Int) (a4 : Ptr) (Q : Sl → Int → Int → Heap → Prop) (h : Heap), zf39.j30 U I17 a1 a2 a3 a4 Q h = pts (zf39.E U Q [(18, ([7, 12, 13], zf39.k18 (fun a1 a2 a3 h => zf39.j18 U I17 a1 a2 a3 Q h)))]) 3000 true (atPos (posC zf39.code []) 30) (frAt [7, 12, 13, 14] [.sl a1, .sl a2, .int .i64 a3, .ptr (some a4)]) h := by
  intros; kernel_rfl

theorem zf39.s30 {W0 : World} {U : Ifc} (hU : IfcOK sg W0 glsT U) (Q : Sl → Int → Int → Heap → Prop) (I17 : Sl → Sl → Int → Heap → Prop) (h17 : CutOK sg W0 110 (entered 7) (Post sg W0 (zf39.ret Q)) (posC zf39.code []) 17 [7, 12, 13] (zf39.k17 I17)) : CutOK sg W0 110 (entered 7) (Post sg W0 (zf39.ret Q)) (posC zf39.code []) 30 [7, 12, 13, 14] (zf39.k30 (fun a1 a2 a3 a4 h => zf39.j30 U I17 a1 a2 a3 a4 Q h)) := by
  refine cutOK_head (fun vs h hk => ?_)
  unfold zf39.k30 at hk
  split at hk
  · rename_i a1 a2 a3 a4
    intro todo hm ρ a w s f hp
    exact piece (E := zf39.E U Q [(18, ([7, 12, 13], zf39.k18 (fun a1 a2 a3 h => zf39.j18 U I17 a1 a2 a3 Q h)))]) (vs := [.sl a1, .sl a2, .int .i64 a3, .ptr (some a4)]) (envOK seatOK (zf39.callsOK hU) hU) (fnOK seatOK zf39.fun) ⟨(zf39.s18 hU Q I17 h17), trivial⟩ zf39.p30 (fuel := 3000) (by rw [← zf39.e30]; exact hk) hm s f hp
  · exact hk.elim

theorem zf39.p17 : (posC zf39.code []).filter (fun p => Nat.beq p.1 17) = [(17, atPos (posC zf39.code []) 17)] := by kernel_rfl

theorem zf39.e17 : ∀ (U : Ifc)  (I17 : Sl → Sl → Int → Heap → Prop) (a1 : Sl) (a2 : Sl) (a3 : Int) (Q : Sl → Int → Int → Heap → Prop) (h : Heap), zf39.b17 U  I17 a1 a2 a3 Q h = pts (zf39.E U Q [(22, ([7, 12, 13, 14, 15], zf39.k22 (fun a1 a2 a3 a4 a5 h => zf39.j22 U I17 a1 a2 a3 a4 a5 Q h))), (30, ([7, 12, 13, 14], zf39.k30 (fun a1 a2 a3 a4 h => zf39.j30 U I17 a1 a2 a3 a4 Q h)))]) 3000 true (atPos (posC zf39.code []) 17) (frAt [7, 12, 13] [.sl a1, .sl a2, .int .i64 a3]) h := by
  intros; kernel_rfl

theorem zf39.s17 {W0 : World} {U : Ifc} (hU : IfcOK sg W0 glsT U) (Q : Sl → Int → Int → Heap → Prop)   : CutOK sg W0 110 (entered 7) (Post sg W0 (zf39.ret Q)) (posC zf39.code []) 17 [7, 12, 13] (zf39.k17 (fun a1 a2 a3 h => zf39.j17 U  a1 a2 a3 Q h)) := by
  refine cutOK_head (fun vs h hk => ?_)
  unfold zf39.k17 at hk
  split at hk
  · rename_i a1 a2 a3
    refine hk (fun a1 a2 a3 h => Head sg W0 110 (entered 7) (Post sg W0 (zf39.ret Q)) (posC zf39.code []) 17 [7, 12, 13] [.sl a1, .sl a2, .int .i64 a3] h) ?_
    intro a1 a2 a3 h hb todo hm ρ a w s f hp
    have hself : CutOK sg W0 110 (entered 7) (Post sg W0 (zf39.ret Q)) (posC zf39.code []) 17 [7, 12, 13] (zf39.k17 (fun a1 a2 a3 h => Head sg W0 110 (entered 7) (Post sg W0 (zf39.ret Q)) (posC zf39.code []) 17 [7, 12, 13] [.sl a1, .sl a2, .int .i64 a3] h)) := cutOK_head (fun vs h hk => by unfold zf39.k17 at hk; split at hk; exact hk; exact hk.elim)
    exact piece (E := zf39.E U Q [(22, ([7, 12, 13, 14, 15], zf39.k22 (fun a1 a2 a3 a4 a5 h => zf39.j22 U (fun a1 a2 a3 h => Head sg W0 110 (entered 7) (Post sg W0 (zf39.ret Q)) (posC zf39.code []) 17 [7, 12, 13] [.sl a1, .sl a2, .int .i64 a3] h) a1 a2 a3 a4 a5 Q h))), (30, ([7, 12, 13, 14], zf39.k30 (fun a1 a2 a3 a4 h => zf39.j30 U (fun a1 a2 a3 h => Head sg W0 110 (entered 7) (Post sg W0 (zf39.ret Q)) (posC zf39.code []) 17 [7, 12, 13] [.sl a1, .sl a2, .int .i64 a3] h) a1 a2 a3 a4 Q h)))]) (vs := [.sl a1, .sl a2, .int .i64 a3]) (envOK seatOK (zf39.callsOK hU) hU) (fnOK seatOK zf39.fun) ⟨(zf39.s22 hU Q (fun a1 a2 a3 h => Head sg W0 110 (entered 7) (Post sg W0 (zf39.ret Q)) (posC zf39.code []) 17 [7, 12, 13] [.sl a1, .sl a2, .int .i64 a3] h) hself), (zf39.s30 hU Q (fun a1 a2 a3 h => Head sg W0 110 (entered 7) (Post sg W0 (zf39.ret Q)) (posC zf39.code []) 17 [7, 12, 13] [.sl a1, .sl a2, .int .i64 a3] h) hself), trivial⟩ zf39.p17 (fuel := 3000) (by rw [← zf39.e17]; exact hb) hm s f hp
  · exact hk.elim

theorem zf39.p10 : (posC zf39.code []).filter (fun p => Nat.beq p.1 10) = [(10, atPos (posC zf39.code []) 10)] := by kernel_rfl

theorem zf39.e10 : ∀ (U : Ifc)  (I10 : Sl → Int → Int → Heap → Prop) (a1 : Sl) (a2 : Int) (a3 : Int) (Q : Sl → Int → Int → Heap → Prop) (h : Heap), zf39.b10 U  I10 a1 a2 a3 Q h = pts (zf39.E U Q [(10, ([7, 10, 11], zf39.k10 I10)), (17, ([7, 12, 13], zf39.k17 (fun a1 a2 a3 h => zf39.j17 U  a1 a2 a3 Q h)))]) 3000 true (atPos (posC zf39.code []) 10) (frAt [7, 10, 11] [.sl a1, .int .i64 a2, .int .i64 a3]) h := by
  intros; kernel_rfl

theorem zf39.s10 {W0 : World} {U : Ifc} (hU : IfcOK sg W0 glsT U) (Q : Sl → Int → Int → Heap → Prop)   : CutOK sg W0 110 (entered 7) (Post sg W0 (zf39.ret Q)) (posC zf39.code []) 10 [7, 10, 11] (zf39.k10 (fun a1 a2 a3 h => zf39.j10 U  a1 a2 a3 Q h)) := by
  refine cutOK_head (fun vs h hk => ?_)
  unfold zf39.k10 at hk
  split at hk
  · rename_i a1 a2 a3
    refine hk (fun a1 a2 a3 h => Head sg W0 110 (entered 7) (Post sg W0 (zf39.ret Q)) (posC zf39.code []) 10 [7, 10, 11] [.sl a1, .int .i64 a2, .int .i64 a3] h) ?_
    intro a1 a2 a3 h hb todo hm ρ a w s f hp
    have hself : CutOK sg W0 110 (entered 7) (Post sg W0 (zf39.ret Q)) (posC zf39.code []) 10 [7, 10, 11] (zf39.k10 (fun a1 a2 a3 h => Head sg W0 110 (entered 7) (Post sg W0 (zf39.ret Q)) (posC zf39.code []) 10 [7, 10, 11] [.sl a1, .int .i64 a2, .int .i64 a3] h)) := cutOK_head (fun vs h hk => by unfold zf39.k10 at hk; split at hk; exact hk; exact hk.elim)
    exact piece (E := zf39.E U Q [(10, ([7, 10, 11], zf39.k10 (fun a1 a2 a3 h => Head sg W0 110 (entered 7) (Post sg W0 (zf39.ret Q)) (posC zf39.code []) 10 [7, 10, 11] [.sl a1, .int .i64 a2, .int .i64 a3] h))), (17, ([7, 12, 13], zf39.k17 (fun a1 a2 a3 h => zf39.j17 U  a1 a2 a3 Q h)))]) (vs := [.sl a1, .int .i64 a2, .int .i64 a3]) (envOK seatOK (zf39.callsOK hU) hU) (fnOK seatOK zf39.fun) ⟨hself, (zf39.s17 hU Q  ), trivial⟩ zf39.p10 (fuel := 3000) (by rw [← zf39.e10]; exact hb) hm s f hp
  · exact hk.elim

theorem zf39.p9 : (posC zf39.code []).filter (fun p => Nat.beq p.1 9) = [(9, atPos (posC zf39.code []) 9)] := by kernel_rfl

theorem zf39.e9 : ∀ (U : Ifc)  (a1 : Sl) (a2 : Int) (Q : Sl → Int → Int → Heap → Prop) (h : Heap), zf39.j9 U  a1 a2 Q h = pts (zf39.E U Q [(10, ([7, 10, 11], zf39.k10 (fun a1 a2 a3 h => zf39.j10 U  a1 a2 a3 Q h)))]) 3000 true (atPos (posC zf39.code []) 9) (frAt [7, 10] [.sl a1, .int .i64 a2]) h := by
  intros; kernel_rfl

theorem zf39.s9 {W0 : World} {U : Ifc} (hU : IfcOK sg W0 glsT U) (Q : Sl → Int → Int → Heap → Prop)   : CutOK sg W0 110 (entered 7) (Post sg W0 (zf39.ret Q)) (posC zf39.code []) 9 [7, 10] (zf39.k9 (fun a1 a2 h => zf39.j9 U  a1 a2 Q h)) := by
  refine cutOK_head (fun vs h hk => ?_)
  unfold zf39.k9 at hk
  split at hk
  · rename_i a1 a2
    intro todo hm ρ a w s f hp
    exact piece (E := zf39.E U Q [(10, ([7, 10, 11], zf39.k10 (fun a1 a2 a3 h => zf39.j10 U  a1 a2 a3 Q h)))]) (vs := [.sl a1, .int .i64 a2]) (envOK seatOK (zf39.callsOK hU) hU) (fnOK seatOK zf39.fun) ⟨(zf39.s10 hU Q  ), trivial⟩ zf39.p9 (fuel := 3000) (by rw [← zf39.e9]; exact hk) hm s f hp
  · exact hk.elim

theorem zf39.e : ∀ (U : Ifc) (a1 : List UInt8) (a2 : Int) (Q : Sl → Int → Int → Heap → Prop) (h : Heap), zf39 U a1 a2 Q h = pts (zf39.E U Q [(2, ([], zf39.k2 (fun  h => zf39.j2 U   Q h))), (9, ([7, 10], zf39.k9 (fun a1 a2 h => zf39.j9 U  a1 a2 Q h)))]) 3000 true [.code zf39.code] (frOf 0 [.str a1, .int .u64 a2]) h := by
  intros; kernel_rfl

theorem zf39.S {W0 : World} {U : Ifc} (hU : IfcOK sg W0 glsT U) : FnS sg W0 374 (zf39.C U) := by
  intro vs κ h wv hx w s
  unfold zf39.C at hx
  split at hx
  · rename_i a1 a2
    refine postImp (ret := zf39.ret (fun r1 r2 r3 h => κ (.tup [.sl r1, .int .i64 r2, .int .i64 r3]) h)) (fun v h hr => by unfold zf39.ret at hr; split at hr; exact hr; exact hr.elim) ?_
    exact calls_of_pts (E := zf39.E U (fun r1 r2 r3 h => κ (.tup [.sl r1, .int .i64 r2, .int .i64 r3]) h) [(2, ([], zf39.k2 (fun  h => zf39.j2 U   (fun r1 r2 r3 h => κ (.tup [.sl r1, .int .i64 r2, .int .i64 r3]) h) h))), (9, ([7, 10], zf39.k9 (fun a1 a2 h => zf39.j9 U  a1 a2 (fun r1 r2 r3 h => κ (.tup [.sl r1, .int .i64 r2, .int .i64 r3]) h) h)))]) (envOK seatOK (zf39.callsOK hU) hU) seatOK.mixed zf39.fun (Nat.le_of_ble_eq_true rfl) wv (cutL_ok ⟨(zf39.s2 hU (fun r1 r2 r3 h => κ (.tup [.sl r1, .int .i64 r2, .int .i64 r3]) h)), (zf39.s9 hU (fun r1 r2 r3 h => κ (.tup [.sl r1, .int .i64 r2, .int .i64 r3]) h)), trivial⟩) s (fuel := 3000) (by rw [← zf39.e]; exact hx)
  · exact hx.elim

noncomputable def zf1.code : Code := Go.Proofs.Tryz.f8.body.getD .skip

theorem zf1.fun : Fun sg.P 8 38 [.tmp 6, .tmp 7] zf1.code := mkFun Go.Proofs.Tryz.func8 (by kernel_rfl) (by kernel_rfl) (by kernel_rfl) (by kernel_rfl)

def zf1.ret (Q : Int → Bool → Heap → Prop) (v : V) (h : Heap) : Prop :=
  match v with
  | .tup [.int .u64 r1, .bool r2] => Q r1 r2 h
  | _ => False

def zf1.C (U : Ifc) (vs : List V) (κ : V → Heap → Prop) (h : Heap) : Prop :=
  match vs with
  | [.str a1, .int .u64 a2, .str a3] => zf1 U a1 a2 a3 (fun r1 r2 h => κ (.tup [.int .u64 r1, .bool r2]) h) h
  | _ => False

noncomputable def zf1.calls (U : Ifc) : List (Nat × (List V → (V → Heap → Prop) → Heap → Prop)) := [(360, zf3.C U)]

noncomputable def zf1.E (U : Ifc) (Q : Int → Bool → Heap → Prop) (cuts : List (Nat × (List Nat × (List V → Heap → Prop)))) : Env := { tis := tisT, fns := fnsT, tys := tysT, gls := glsT, rts := rtsT, unk := [], nxt := [], calls := zf1.calls U, ifc := U, cuts := cuts, ret := zf1.ret Q, rets := [.tmp 6, .tmp 7], n := 38 }

theorem zf1.callsOK {W0 : World} {U : Ifc} (hU : IfcOK sg W0 glsT U) : CallsOK sg W0 (zf1.calls U) := ⟨(zf3.S hU), trivial⟩

def zf1.k5 (I : Int → Int → Bool → Heap → Prop) (vs : List V) (h : Heap) : Prop :=
  match vs with
  | [.int .u64 a1, .int .i64 a2, .bool a3] => I a1 a2 a3 h
  | _ => False

theorem zf1.p5 : (posC zf1.code []).filter (fun p => Nat.beq p.1 5) = [(5, atPos (posC zf1.code []) 5)] := by kernel_rfl

theorem zf1.e5 : ∀ (U : Ifc)  (a1 : Int) (a2 : Int) (a3 : Bool) (Q : Int → Bool → Heap → Prop) (h : Heap), zf1.j5 U  a1 a2 a3 Q h = pts (zf1.E U Q []) 3000 true (atPos (posC zf1.code []) 5) (frAt [1, 11, 12] [.int .u64 a1, .int .i64 a2, .bool a3]) h := by
  intros; kernel_rfl

theorem zf1.s5 {W0 : World} {U : Ifc} (hU : IfcOK sg W0 glsT U) (Q : Int → Bool → Heap → Prop)   : CutOK sg W0 38 (entered 8) (Post sg W0 (zf1.ret Q)) (posC zf1.code []) 5 [1, 11, 12] (zf1.k5 (fun a1 a2 a3 h => zf1.j5 U  a1 a2 a3 Q h)) := by
  refine cutOK_head (fun vs h hk => ?_)
  unfold zf1.k5 at hk
  split at hk
  · rename_i a1 a2 a3
    intro todo hm ρ a w s f hp
    exact piece (E := zf1.E U Q []) (vs := [.int .u64 a1, .int .i64 a2, .bool a3]) (envOK seatOK (zf1.callsOK hU) hU) (fnOK seatOK zf1.fun) trivial zf1.p5 (fuel := 3000) (by rw [← zf1.e5]; exact hk) hm s f hp
  · exact hk.elim

theorem zf1.e : ∀ (U : Ifc) (a1 : List UInt8) (a2 : Int) (a3 : List UInt8) (Q : Int → Bool → Heap → Prop) (h : Heap), zf1 U a1 a2 a3 Q h = pts (zf1.E U Q [(5, ([1, 11, 12], zf1.k5 (fun a1 a2 a3 h => zf1.j5 U  a1 a2 a3 Q h)))]) 3000 true [.code zf1.code] (frOf 0 [.str a1, .int .u64 a2, .str a3]) h := by
  intros; kernel_rfl

theorem zf1.S {W0 : World} {U : Ifc} (hU : IfcOK sg W0 glsT U) : FnS sg W0 375 (zf1.C U) := by
  intro vs κ h wv hx w s
  unfold zf1.C at hx
  split at hx
  · rename_i a1 a2 a3
    refine postImp (ret := zf1.ret (fun r1 r2 h => κ (.tup [.int .u64 r1, .bool r2]) h)) (fun v h hr => by unfold zf1.ret at hr; split at hr; exact hr; exact hr.elim) ?_
    exact calls_of_pts (E := zf1.E U (fun r1 r2 h => κ (.tup [.int .u64 r1, .bool r2]) h) [(5, ([1, 11, 12], zf1.k5 (fun a1 a2 a3 h => zf1.j5 U  a1 a2 a3 (fun r1 r2 h => κ (.tup [.int .u64 r1, .bool r2]) h) h)))]) (envOK seatOK (zf1.callsOK hU) hU) seatOK.mixed zf1.fun (Nat.le_of_ble_eq_true rfl) wv (cutL_ok ⟨(zf1.s5 hU (fun r1 r2 h => κ (.tup [.int .u64 r1, .bool r2]) h)), trivial⟩) s (fuel := 3000) (by rw [← zf1.e]; exact hx)
  · exact hx.elim

noncomputable def zf41.code : Code := Go.Proofs.Tryz.f9.body.getD .skip

theorem zf41.fun : Fun sg.P 9 40 [.tmp 6, .tmp 7] zf41.code := mkFun Go.Proofs.Tryz.func9 (by kernel_rfl) (by kernel_rfl) (by kernel_rfl) (by kernel_rfl)

def zf41.ret (Q : Int → Bool → Heap → Prop) (v : V) (h : Heap) : Prop :=
  match v with
  | .tup [.int .u64 r1, .bool r2] => Q r1 r2 h
  | _ => False

def zf41.C (U : Ifc) (vs : List V) (κ : V → Heap → Prop) (h : Heap) : Prop :=
  match vs with
  | [.str a1, .int .u64 a2, .str a3] => zf41 U a1 a2 a3 (fun r1 r2 h => κ (.tup [.int .u64 r1, .bool r2]) h) h
  | _ => False

noncomputable def zf41.calls (U : Ifc) : List (Nat × (List V → (V → Heap → Prop) → Heap → Prop)) := [(374, zf39.C U), (372, zf48.C U), (373, zf47.C)]

noncomputable def zf41.E (U : Ifc) (Q : Int → Bool → Heap → Prop) (cuts : List (Nat × (List Nat × (List V → Heap → Prop)))) : Env := { tis := tisT, fns := fnsT, tys := tysT, gls := glsT, rts := rtsT, unk := [], nxt := [], calls := zf41.calls U, ifc := U, cuts := cuts, ret := zf41.ret Q, rets := [.tmp 6, .tmp 7], n := 40 }

theorem zf41.callsOK {W0 : World} {U : Ifc} (hU : IfcOK sg W0 glsT U) : CallsOK sg W0 (zf41.calls U) := ⟨(zf39.S hU), (zf48.S hU), zf47.S, trivial⟩

def zf41.k6 (I : Int → Int → Heap → Prop) (vs : List V) (h : Heap) : Prop :=
  match vs with
  | [.int .u64 a1, .int .i64 a2] => I a1 a2 h
  | _ => False

theorem zf41.p6 : (posC zf41.code []).filter (fun p => Nat.beq p.1 6) = [(6, atPos (posC zf41.code []) 6)] := by kernel_rfl

theorem zf41.e6 : ∀ (U : Ifc)  (a1 : Int) (a2 : Int) (Q : Int → Bool → Heap → Prop) (h : Heap), zf41.j6 U  a1 a2 Q h = pts (zf41.E U Q []) 3000 true (atPos (posC zf41.code []) 6) (frAt [1, 14] [.int .u64 a1, .int .i64 a2]) h := by
  intros; kernel_rfl

theorem zf41.s6 {W0 : World} {U : Ifc} (hU : IfcOK sg W0 glsT U) (Q : Int → Bool → Heap → Prop)   : CutOK sg W0 40 (entered 9) (Post sg W0 (zf41.ret Q)) (posC zf41.code []) 6 [1, 14] (zf41.k6 (fun a1 a2 h => zf41.j6 U  a1 a2 Q h)) := by
  refine cutOK_head (fun vs h hk => ?_)
  unfold zf41.k6 at hk
  split at hk
  · rename_i a1 a2
    intro todo hm ρ a w s f hp
    exact piece (E := zf41.E U Q []) (vs := [.int .u64 a1, .int .i64 a2]) (envOK seatOK (zf41.callsOK hU) hU) (fnOK seatOK zf41.fun) trivial zf41.p6 (fuel := 3000) (by rw [← zf41.e6]; exact hk) hm s f hp
  · exact hk.elim

theorem zf41.e : ∀ (U : Ifc) (a1 : List UInt8) (a2 : Int) (a3 : List UInt8) (Q : Int → Bool → Heap → Prop) (h : Heap), zf41 U a1 a2 a3 Q h = pts (zf41.E U Q [(6, ([1, 14], zf41.k6 (fun a1 a2 h => zf41.j6 U  a1 a2 Q h)))]) 3000 true [.code zf41.code] (frOf 0 [.str a1, .int .u64 a2, .str a3]) h := by
  intros; kernel_rfl

theorem zf41.S {W0 : World} {U : Ifc} (hU : IfcOK sg W0 glsT U) : FnS sg W0 376 (zf41.C U) := by
  intro vs κ h wv hx w s
  unfold zf41.C at hx
  split at hx
  · rename_i a1 a2 a3
    refine postImp (ret := zf41.ret (fun r1 r2 h => κ (.tup [.int .u64 r1, .bool r2]) h)) (fun v h hr => by unfold zf41.ret at hr; split at hr; exact hr; exact hr.elim) ?_
    exact calls_of_pts (E := zf41.E U (fun r1 r2 h => κ (.tup [.int .u64 r1, .bool r2]) h) [(6, ([1, 14], zf41.k6 (fun a1 a2 h => zf41.j6 U  a1 a2 (fun r1 r2 h => κ (.tup [.int .u64 r1, .bool r2]) h) h)))]) (envOK seatOK (zf41.callsOK hU) hU) seatOK.mixed zf41.fun (Nat.le_of_ble_eq_true rfl) wv (cutL_ok ⟨(zf41.s6 hU (fun r1 r2 h => κ (.tup [.int .u64 r1, .bool r2]) h)), trivial⟩) s (fuel := 3000) (by rw [← zf41.e]; exact hx)
  · exact hx.elim

noncomputable def zf31.code : Code := Go.Proofs.Tryz.f10.body.getD .skip

theorem zf31.fun : Fun sg.P 10 1 [.tmp 0] zf31.code := mkFun Go.Proofs.Tryz.func10 (by kernel_rfl) (by kernel_rfl) (by kernel_rfl) (by kernel_rfl)

def zf31.ret (Q : Bool → Heap → Prop) (v : V) (h : Heap) : Prop :=
  match v with
  | .bool r1 => Q r1 h
  | _ => False

def zf31.C (vs : List V) (κ : V → Heap → Prop) (h : Heap) : Prop :=
  match vs with
  | [] => zf31  (fun r1 h => κ (.bool r1) h) h
  | _ => False

noncomputable def zf31.calls : List (Nat × (List V → (V → Heap → Prop) → Heap → Prop)) := []

noncomputable def zf31.E (Q : Bool → Heap → Prop) (cuts : List (Nat × (List Nat × (List V → Heap → Prop)))) : Env := { tis := tisT, fns := fnsT, tys := tysT, gls := [], rts := rtsT, unk := [], nxt := [], calls := zf31.calls, ifc := noIfc, cuts := cuts, ret := zf31.ret Q, rets := [.tmp 0], n := 1 }

theorem zf31.callsOK {W0 : World} : CallsOK sg W0 zf31.calls := trivial

theorem zf31.e : ∀  (Q : Bool → Heap → Prop) (h : Heap), zf31  Q h = pts (zf31.E Q []) 3000 true [.code zf31.code] (frOf 0 []) h := by
  intros; kernel_rfl

theorem zf31.S {W0 : World} : FnS sg W0 377 zf31.C := by
  intro vs κ h wv hx w s
  unfold zf31.C at hx
  split at hx
  · skip
    refine postImp (ret := zf31.ret (fun r1 h => κ (.bool r1) h)) (fun v h hr => by unfold zf31.ret at hr; split at hr; exact hr; exact hr.elim) ?_
    exact calls_of_pts (E := zf31.E (fun r1 h => κ (.bool r1) h) []) (envOK seatOK zf31.callsOK noIfc_ok) seatOK.mixed zf31.fun (Nat.le_of_ble_eq_true rfl) wv (cutL_ok trivial) s (fuel := 3000) (by rw [← zf31.e]; exact hx)
  · exact hx.elim

noncomputable def zf28.code : Code := Go.Proofs.Tryz.f3.body.getD .skip

theorem zf28.fun : Fun sg.P 3 87 [.tmp 6] zf28.code := mkFun Go.Proofs.Tryz.func3 (by kernel_rfl) (by kernel_rfl) (by kernel_rfl) (by kernel_rfl)

def zf28.ret (Q : Bool → Heap → Prop) (v : V) (h : Heap) : Prop :=
  match v with
  | .bool r1 => Q r1 h
  | _ => False

def zf28.C (U : Ifc) (vs : List V) (κ : V → Heap → Prop) (h : Heap) : Prop :=
  match vs with
  | [.str a1, .int .u64 a2, .str a3] => zf28 U a1 a2 a3 (fun r1 h => κ (.bool r1) h) h
  | _ => False

noncomputable def zf28.calls (U : Ifc) : List (Nat × (List V → (V → Heap → Prop) → Heap → Prop)) := [(361, zf0.C U), (374, zf39.C U), (375, zf1.C U), (376, zf41.C U), (377, zf31.C)]

noncomputable def zf28.E (U : Ifc) (Q : Bool → Heap → Prop) (cuts : List (Nat × (List Nat × (List V → Heap → Prop)))) : Env := { tis := tisT, fns := fnsT, tys := tysT, gls := glsT, rts := rtsT, unk := [], nxt := [], calls := zf28.calls U, ifc := U, cuts := cuts, ret := zf28.ret Q, rets := [.tmp 6], n := 87 }

theorem zf28.callsOK {W0 : World} {U : Ifc} (hU : IfcOK sg W0 glsT U) : CallsOK sg W0 (zf28.calls U) := ⟨(zf0.S hU), (zf39.S hU), (zf1.S hU), (zf41.S hU), zf31.S, trivial⟩

def zf28.k6 (I : Heap → Prop) (vs : List V) (h : Heap) : Prop :=
  match vs with
  | [] => I  h
  | _ => False

def zf28.k8 (I : Sl → Sl → Int → Heap → Prop) (vs : List V) (h : Heap) : Prop :=
  match vs with
  | [.sl a1, .sl a2, .int .i64 a3] => I a1 a2 a3 h
  | _ => False

def zf28.k7 (I : Sl → Sl → Heap → Prop) (vs : List V) (h : Heap) : Prop :=
  match vs with
  | [.sl a1, .sl a2] => I a1 a2 h
  | _ => False

def zf28.k4 (I : (List UInt8) → Int → (List UInt8) → Sl → Int → Int → Sl → Int → Int → Int → Bool → Heap → Prop) (vs : List V) (h : Heap) : Prop :=
  match vs with
  | [.str a1, .int .u64 a2, .str a3, .sl a4, .int .i64 a5, .int .i64 a6, .sl a7, .int .i64 a8, .int .i64 a9, .int .u64 a10, .bool a11] => I a1 a2 a3 a4 a5 a6 a7 a8 a9 a10 a11 h
  | _ => False

theorem zf28.p6 : (posC zf28.code []).filter (fun p => Nat.beq p.1 6) = [(6, atPos (posC zf28.code []) 6)] := by kernel_rfl

theorem zf28.e6 : ∀ (U : Ifc)   (Q : Bool → Heap → Prop) (h : Heap), zf28.j6 U   Q h = pts (zf28.E U Q []) 3000 true (atPos (posC zf28.code []) 6) (frAt [] []) h := by
  intros; kernel_rfl

theorem zf28.s6 {W0 : World} {U : Ifc} (hU : IfcOK sg W0 glsT U) (Q : Bool → Heap → Prop)   : CutOK sg W0 87 (entered 3) (Post sg W0 (zf28.ret Q)) (posC zf28.code []) 6 [] (zf28.k6 (fun  h => zf28.j6 U   Q h)) := by
  refine cutOK_head (fun vs h hk => ?_)
  unfold zf28.k6 at hk
  split at hk
  · skip
    intro todo hm ρ a w s f hp
    exact piece (E := zf28.E U Q []) (vs := []) (envOK seatOK (zf28.callsOK hU) hU) (fnOK seatOK zf28.fun) trivial zf28.p6 (fuel := 3000) (by rw [← zf28.e6]; exact hk) hm s f hp
  · exact hk.elim

theorem zf28.p8 : (posC zf28.code []).filter (fun p => Nat.beq p.1 8) = [(8, atPos (posC zf28.code []) 8)] := by kernel_rfl

theorem zf28.e8 : ∀ (U : Ifc)  (I8 : Sl → Sl → Int → Heap → Prop) (a1 : Sl) (a2 : Sl) (a3 : Int) (Q : Bool → Heap → Prop) (h : Heap), zf28.b8 U  I8 a1 a2 a3 Q h = pts (zf28.E U Q [(8, ([7, 10, 17], zf28.k8 I8))]) 3000 true (atPos (posC zf28.code []) 8) (frAt [7, 10, 17] [.sl a1, .sl a2, .int .i64 a3]) h := by
  intros; kernel_rfl

theorem zf28.s8 {W0 : World} {U : Ifc} (hU : IfcOK sg W0 glsT U) (Q : Bool → Heap → Prop)   : CutOK sg W0 87 (entered 3) (Post sg W0 (zf28.ret Q)) (posC zf28.code []) 8 [7, 10, 17] (zf28.k8 (fun a1 a2 a3 h => zf28.j8 U  a1 a2 a3 Q h)) := by
  refine cutOK_head (fun vs h hk => ?_)
  unfold zf28.k8 at hk
  split at hk
  · rename_i a1 a2 a3
    refine hk (fun a1 a2 a3 h => Head sg W0 87 (entered 3) (Post sg W0 (zf28.ret Q)) (posC zf28.code []) 8 [7, 10, 17] [.sl a1, .sl a2, .int .i64 a3] h) ?_
    intro a1 a2 a3 h hb todo hm ρ a w s f hp
    have hself : CutOK sg W0 87 (entered 3) (Post sg W0 (zf28.ret Q)) (posC zf28.code []) 8 [7, 10, 17] (zf28.k8 (fun a1 a2 a3 h => Head sg W0 87 (entered 3) (Post sg W0 (zf28.ret Q)) (posC zf28.code []) 8 [7, 10, 17] [.sl a1, .sl a2, .int .i64 a3] h)) := cutOK_head (fun vs h hk => by unfold zf28.k8 at hk; split at hk; exact hk; exact hk.elim)
    exact piece (E := zf28.E U Q [(8, ([7, 10, 17], zf28.k8 (fun a1 a2 a3 h => Head sg W0 87 (entered 3) (Post sg W0 (zf28.ret Q)) (posC zf28.code []) 8 [7, 10, 17] [.sl a1, .sl a2, .int .i64 a3] h)))]) (vs := [.sl a1, .sl a2, .int .i64 a3]) (envOK seatOK (zf28.callsOK hU) hU) (fnOK seatOK zf28.fun) ⟨hself, trivial⟩ zf28.p8 (fuel := 3000) (by rw [← zf28.e8]; exact hb) hm s f hp
  · exact hk.elim

theorem zf28.p7 : (posC zf28.code []).filter (fun p => Nat.beq p.1 7) = [(7, atPos (posC zf28.code []) 7)] := by kernel_rfl

theorem zf28.e7 : ∀ (U : Ifc)  (a1 : Sl) (a2 : Sl) (Q : Bool → Heap → Prop) (h : Heap), zf28.j7 U  a1 a2 Q h = pts (zf28.E U Q [(8, ([7, 10, 17], zf28.k8 (fun a1 a2 a3 h => zf28.j8 U  a1 a2 a3 Q h)))]) 3000 true (atPos (posC zf28.code []) 7) (frAt [7, 10] [.sl a1, .sl a2]) h := by
  intros; kernel_rfl

theorem zf28.s7 {W0 : World} {U : Ifc} (hU : IfcOK sg W0 glsT U) (Q : Bool → Heap → Prop)   : CutOK sg W0 87 (entered 3) (Post sg W0 (zf28.ret Q)) (posC zf28.code []) 7 [7, 10] (zf28.k7 (fun a1 a2 h => zf28.j7 U  a1 a2 Q h)) := by
  refine cutOK_head (fun vs h hk => ?_)
  unfold zf28.k7 at hk
  split at hk
  · rename_i a1 a2
    intro todo hm ρ a w s f hp
    exact piece (E := zf28.E U Q [(8, ([7, 10, 17], zf28.k8 (fun a1 a2 a3 h => zf28.j8 U  a1 a2 a3 Q h)))]) (vs := [.sl a1, .sl a2]) (envOK seatOK (zf28.callsOK hU) hU) (fnOK seatOK zf28.fun) ⟨(zf28.s8 hU Q  ), trivial⟩ zf28.p7 (fuel := 3000) (by rw [← zf28.e7]; exact hk) hm s f hp
  · exact hk.elim

theorem zf28.p4 : (posC zf28.code []).filter (fun p => Nat.beq p.1 4) = [(4, atPos (posC zf28.code []) 4)] := by kernel_rfl

theorem zf28.e4 : ∀ (U : Ifc)  (a1 : List UInt8) (a2 : Int) (a3 : List UInt8) (a4 : Sl) (a5 : Int) (a6 : Int) (a7 : Sl) (a8 : Int) (a9 : Int) (a10 : Int) (a11 : Bool) (Q : Bool → Heap → Prop) (h : Heap), zf28.j4 U  a1 a2 a3 a4 a5 a6 a7 a8 a9 a10 a11 Q h = pts (zf28.E U Q [(6, ([], zf28.k6 (fun  h => zf28.j6 U   Q h))), (7, ([7, 10], zf28.k7 (fun a1 a2 h => zf28.j7 U  a1 a2 Q h)))]) 3000 true (atPos (posC zf28.code []) 4) (frAt [0, 1, 2, 7, 8, 9, 10, 11, 12, 13, 14] [.str a1, .int .u64 a2, .str a3, .sl a4, .int .i64 a5, .int .i64 a6, .sl a7, .int .i64 a8, .int .i64 a9, .int .u64 a10, .bool a11]) h := by
  intros; kernel_rfl

theorem zf28.s4 {W0 : World} {U : Ifc} (hU : IfcOK sg W0 glsT U) (Q : Bool → Heap → Prop)   : CutOK sg W0 87 (entered 3) (Post sg W0 (zf28.ret Q)) (posC zf28.code []) 4 [0, 1, 2, 7, 8, 9, 10, 11, 12, 13, 14] (zf28.k4 (fun a1 a2 a3 a4 a5 a6 a7 a8 a9 a10 a11 h => zf28.j4 U  a1 a2 a3 a4 a5 a6 a7 a8 a9 a10 a11 Q h)) := by
  refine cutOK_head (fun vs h hk => ?_)
  unfold zf28.k4 at hk
  split at hk
  · rename_i a1 a2 a3 a4 a5 a6 a7 a8 a9 a10 a11
    intro todo hm ρ a w s f hp
    exact piece (E := zf28.E U Q [(6, ([], zf28.k6 (fun  h => zf28.j6 U   Q h))), (7, ([7, 10], zf28.k7 (fun a1 a2 h => zf28.j7 U  a1 a2 Q h)))]) (vs := [.str a1, .int .u64 a2, .str a3, .sl a4, .int .i64 a5, .int .i64 a6, .sl a7, .int .i64 a8, .int .i64 a9, .int .u64 a10, .bool a11]) (envOK seatOK (zf28.callsOK hU) hU) (fnOK seatOK zf28.fun) ⟨(zf28.s6 hU Q  ), (zf28.s7 hU Q  ), trivial⟩ zf28.p4 (fuel := 3000) (by rw [← zf28.e4]; exact hk) hm s f hp
  · exact hk.elim

theorem zf28.e : ∀ (U : Ifc) (a1 : List UInt8) (a2 : Int) (a3 : List UInt8) (Q : Bool → Heap → Prop) (h : Heap), zf28 U a1 a2 a3 Q h = pts (zf28.E U Q [(4, ([0, 1, 2, 7, 8, 9, 10, 11, 12, 13, 14], zf28.k4 (fun a1 a2 a3 a4 a5 a6 a7 a8 a9 a10 a11 h => zf28.j4 U  a1 a2 a3 a4 a5 a6 a7 a8 a9 a10 a11 Q h)))]) 3000 true [.code zf28.code] (frOf 0 [.str a1, .int .u64 a2, .str a3]) h := by
  intros; kernel_rfl

theorem zf28.S {W0 : World} {U : Ifc} (hU : IfcOK sg W0 glsT U) : FnS sg W0 378 (zf28.C U) := by
  intro vs κ h wv hx w s
  unfold zf28.C at hx
  split at hx
  · rename_i a1 a2 a3
    refine postImp (ret := zf28.ret (fun r1 h => κ (.bool r1) h)) (fun v h hr => by unfold zf28.ret at hr; split at hr; exact hr; exact hr.elim) ?_
    exact calls_of_pts (E := zf28.E U (fun r1 h => κ (.bool r1) h) [(4, ([0, 1, 2, 7, 8, 9, 10, 11, 12, 13, 14], zf28.k4 (fun a1 a2 a3 a4 a5 a6 a7 a8 a9 a10 a11 h => zf28.j4 U  a1 a2 a3 a4 a5 a6 a7 a8 a9 a10 a11 (fun r1 h => κ (.bool r1) h) h)))]) (envOK seatOK (zf28.callsOK hU) hU) seatOK.mixed zf28.fun (Nat.le_of_ble_eq_true rfl) wv (cutL_ok ⟨(zf28.s4 hU (fun r1 h => κ (.bool r1) h)), trivial⟩) s (fuel := 3000) (by rw [← zf28.e]; exact hx)
  · exact hx.elim

noncomputable def zf30.code : Code := Go.Proofs.Tryz.f4.body.getD .skip

theorem zf30.fun : Fun sg.P 4 130 [.tmp 6] zf30.code := mkFun Go.Proofs.Tryz.func4 (by kernel_rfl) (by kernel_rfl) (by kernel_rfl) (by kernel_rfl)

def zf30.ret (Q : Bool → Heap → Prop) (v : V) (h : Heap) : Prop :=
  match v with
  | .bool r1 => Q r1 h
  | _ => False

def zf30.C (U : Ifc) (vs : List V) (κ : V → Heap → Prop) (h : Heap) : Prop :=
  match vs with
  | [.int .i64 a1, .int .u64 a2, .str a3] => zf30 U a1 a2 a3 (fun r1 h => κ (.bool r1) h) h
  | _ => False

noncomputable def zf30.calls (U : Ifc) : List (Nat × (List V → (V → Heap → Prop) → Heap → Prop)) := [(361, zf0.C U), (375, zf1.C U)]

noncomputable def zf30.E (U : Ifc) (Q : Bool → Heap → Prop) (cuts : List (Nat × (List Nat × (List V → Heap → Prop)))) : Env := { tis := tisT, fns := fnsT, tys := tysT, gls := glsT, rts := rtsT, unk := [], nxt := [], calls := zf30.calls U, ifc := U, cuts := cuts, ret := zf30.ret Q, rets := [.tmp 6], n := 130 }

theorem zf30.callsOK {W0 : World} {U : Ifc} (hU : IfcOK sg W0 glsT U) : CallsOK sg W0 (zf30.calls U) := ⟨(zf0.S hU), (zf1.S hU), trivial⟩

def zf30.k18 (I : Int → Int → Sl → Int → Int → Int → Bool → Bool → Heap → Prop) (vs : List V) (h : Heap) : Prop :=
  match vs with
  | [.int .i64 a1, .int .u64 a2, .sl a3, .int .i64 a4, .int .i64 a5, .int .u64 a6, .bool a7, .bool a8] => I a1 a2 a3 a4 a5 a6 a7 a8 h
  | _ => False

def zf30.k14 (I : Int → Int → (List UInt8) → (List UInt8) → Heap → Prop) (vs : List V) (h : Heap) : Prop :=
  match vs with
  | [.int .i64 a1, .int .u64 a2, .str a3, .str a4] => I a1 a2 a3 a4 h
  | _ => False

def zf30.k12 (I : Int → Int → (List UInt8) → (List UInt8) → Heap → Prop) (vs : List V) (h : Heap) : Prop :=
  match vs with
  | [.int .i64 a1, .int .u64 a2, .str a3, .str a4] => I a1 a2 a3 a4 h
  | _ => False

def zf30.k4 (I : Int → Int → (List UInt8) → Int → Heap → Prop) (vs : List V) (h : Heap) : Prop :=
  match vs with
  | [.int .i64 a1, .int .u64 a2, .str a3, .int .i64 a4] => I a1 a2 a3 a4 h
  | _ => False

theorem zf30.p18 : (posC zf30.code []).filter (fun p => Nat.beq p.1 18) = [(18, atPos (posC zf30.code []) 18)] := by kernel_rfl

theorem zf30.e18 : ∀ (U : Ifc)  (a1 : Int) (a2 : Int) (a3 : Sl) (a4 : Int) (a5 : Int) (a6 : Int) (a7 : Bool) (a8 : Bool) (Q : Bool → Heap → Prop) (h : Heap), zf30.j18 U  a1 a2 a3 a4 a5 a6 a7 a8 Q h = pts (zf30.E U Q []) 3000 true (atPos (posC zf30.code []) 18) (frAt [0, 1, 10, 11, 12, 13, 14, 16] [.int .i64 a1, .int .u64 a2, .sl a3, .int .i64 a4, .int .i64 a5, .int .u64 a6, .bool a7, .bool a8]) h := by
  intros; kernel_rfl

theorem zf30.s18 {W0 : World} {U : Ifc} (hU : IfcOK sg W0 glsT U) (Q : Bool → Heap → Prop)   : CutOK sg W0 130 (entered 4) (Post sg W0 (zf30.ret Q)) (posC zf30.code []) 18 [0, 1, 10, 11, 12, 13, 14, 16] (zf30.k18 (fun a1 a2 a3 a4 a5 a6 a7 a8 h => zf30.j18 U  a1 a2 a3 a4 a5 a6 a7 a8 Q h)) := by
  refine cutOK_head (fun vs h hk => ?_)
  unfold zf30.k18 at hk
  split at hk
  · rename_i a1 a2 a3 a4 a5 a6 a7 a8
    intro todo hm ρ a w s f hp
    exact piece (E := zf30.E U Q []) (vs := [.int .i64 a1, .int .u64 a2, .sl a3, .int .i64 a4, .int .i64 a5, .int .u64 a6, .bool a7, .bool a8]) (envOK seatOK (zf30.callsOK hU) hU) (fnOK seatOK zf30.fun) trivial zf30.p18 (fuel := 3000) (by rw [← zf30.e18]; exact hk) hm s f hp
  · exact hk.elim

theorem zf30.p14 : (posC zf30.code []).filter (fun p => Nat.beq p.1 14) = [(14, atPos (posC zf30.code []) 14)] := by kernel_rfl

theorem zf30.e14 : ∀ (U : Ifc)  (a1 : Int) (a2 : Int) (a3 : List UInt8) (a4 : List UInt8) (Q : Bool → Heap → Prop) (h : Heap), zf30.j14 U  a1 a2 a3 a4 Q h = pts (zf30.E U Q [(18, ([0, 1, 10, 11, 12, 13, 14, 16], zf30.k18 (fun a1 a2 a3 a4 a5 a6 a7 a8 h => zf30.j18 U  a1 a2 a3 a4 a5 a6 a7 a8 Q h)))]) 3000 true (atPos (posC zf30.code []) 14) (frAt [0, 1, 2, 9] [.int .i64 a1, .int .u64 a2, .str a3, .str a4]) h := by
  intros; kernel_rfl

theorem zf30.s14 {W0 : World} {U : Ifc} (hU : IfcOK sg W0 glsT U) (Q : Bool → Heap → Prop)   : CutOK sg W0 130 (entered 4) (Post sg W0 (zf30.ret Q)) (posC zf30.code []) 14 [0, 1, 2, 9] (zf30.k14 (fun a1 a2 a3 a4 h => zf30.j14 U  a1 a2 a3 a4 Q h)) := by
  refine cutOK_head (fun vs h hk => ?_)
  unfold zf30.k14 at hk
  split at hk
  · rename_i a1 a2 a3 a4
    intro todo hm ρ a w s f hp
    exact piece (E := zf30.E U Q [(18, ([0, 1, 10, 11, 12, 13, 14, 16], zf30.k18 (fun a1 a2 a3 a4 a5 a6 a7 a8 h => zf30.j18 U  a1 a2 a3 a4 a5 a6 a7 a8 Q h)))]) (vs := [.int .i64 a1, .int .u64 a2, .str a3, .str a4]) (envOK seatOK (zf30.callsOK hU) hU) (fnOK seatOK zf30.fun) ⟨(zf30.s18 hU Q  ), trivial⟩ zf30.p14 (fuel := 3000) (by rw [← zf30.e14]; exact hk) hm s f hp
  · exact hk.elim

theorem zf30.p12 : (posC zf30.code []).filter (fun p => Nat.beq p.1 12) = [(12, atPos (posC zf30.code []) 12)] := by kernel_rfl

theorem zf30.e12 : ∀ (U : Ifc)  (I12 : Int → Int → (List UInt8) → (List UInt8) → Heap → Prop) (a1 : Int) (a2 : Int) (a3 : List UInt8) (a4 : List UInt8) (Q : Bool → Heap → Prop) (h : Heap), zf30.b12 U  I12 a1 a2 a3 a4 Q h = pts (zf30.E U Q [(12, ([0, 1, 2, 9], zf30.k12 I12)), (14, ([0, 1, 2, 9], zf30.k14 (fun a1 a2 a3 a4 h => zf30.j14 U  a1 a2 a3 a4 Q h)))]) 3000 true (atPos (posC zf30.code []) 12) (frAt [0, 1, 2, 9] [.int .i64 a1, .int .u64 a2, .str a3, .str a4]) h := by
  intros; kernel_rfl

theorem zf30.s12 {W0 : World} {U : Ifc} (hU : IfcOK sg W0 glsT U) (Q : Bool → Heap → Prop)   : CutOK sg W0 130 (entered 4) (Post sg W0 (zf30.ret Q)) (posC zf30.code []) 12 [0, 1, 2, 9] (zf30.k12 (fun a1 a2 a3 a4 h => zf30.j12 U  a1 a2 a3 a4 Q h)) := by
  refine cutOK_head (fun vs h hk => ?_)
  unfold zf30.k12 at hk
  split at hk
  · rename_i a1 a2 a3 a4
    refine hk (fun a1 a2 a3 a4 h => Head sg W0 130 (entered 4) (Post sg W0 (zf30.ret Q)) (posC zf30.code []) 12 [0, 1, 2, 9] [.int .i64 a1, .int .u64 a2, .str a3, .str a4] h) ?_
    intro a1 a2 a3 a4 h hb todo hm ρ a w s f hp
    have hself : CutOK sg W0 130 (entered 4) (Post sg W0 (zf30.ret Q)) (posC zf30.code []) 12 [0, 1, 2, 9] (zf30.k12 (fun a1 a2 a3 a4 h => Head sg W0 130 (entered 4) (Post sg W0 (zf30.ret Q)) (posC zf30.code []) 12 [0, 1, 2, 9] [.int .i64 a1, .int .u64 a2, .str a3, .str a4] h)) := cutOK_head (fun vs h hk => by unfold zf30.k12 at hk; split at hk; exact hk; exact hk.elim)
    exact piece (E := zf30.E U Q [(12, ([0, 1, 2, 9], zf30.k12 (fun a1 a2 a3 a4 h => Head sg W0 130 (entered 4) (Post sg W0 (zf30.ret Q)) (posC zf30.code []) 12 [0, 1, 2, 9] [.int .i64 a1, .int .u64 a2, .str a3, .str a4] h))), (14, ([0, 1, 2, 9], zf30.k14 (fun a1 a2 a3 a4 h => zf30.j14 U  a1 a2 a3 a4 Q h)))]) (vs := [.int .i64 a1, .int .u64 a2, .str a3, .str a4]) (envOK seatOK (zf30.callsOK hU) hU) (fnOK seatOK zf30.fun) ⟨hself, (zf30.s14 hU Q  ), trivial⟩ zf30.p12 (fuel := 3000) (by rw [← zf30.e12]; exact hb) hm s f hp
  · exact hk.elim

theorem zf30.p4 : (posC zf30.code []).filter (fun p => Nat.beq p.1 4) = [(4, atPos (posC zf30.code []) 4)] := by kernel_rfl

theorem zf30.e4 : ∀ (U : Ifc)  (I4 : Int → Int → (List UInt8) → Int → Heap → Prop) (a1 : Int) (a2 : Int) (a3 : List UInt8) (a4 : Int) (Q : Bool → Heap → Prop) (h : Heap), zf30.b4 U  I4 a1 a2 a3 a4 Q h = pts (zf30.E U Q [(4, ([0, 1, 2, 7], zf30.k4 I4)), (12, ([0, 1, 2, 9], zf30.k12 (fun a1 a2 a3 a4 h => zf30.j12 U  a1 a2 a3 a4 Q h)))]) 3000 true (atPos (posC zf30.code []) 4) (frAt [0, 1, 2, 7] [.int .i64 a1, .int .u64 a2, .str a3, .int .i64 a4]) h := by
  intros; kernel_rfl

theorem zf30.s4 {W0 : World} {U : Ifc} (hU : IfcOK sg W0 glsT U) (Q : Bool → Heap → Prop)   : CutOK sg W0 130 (entered 4) (Post sg W0 (zf30.ret Q)) (posC zf30.code []) 4 [0, 1, 2, 7] (zf30.k4 (fun a1 a2 a3 a4 h => zf30.j4 U  a1 a2 a3 a4 Q h)) := by
  refine cutOK_head (fun vs h hk => ?_)
  unfold zf30.k4 at hk
  split at hk
  · rename_i a1 a2 a3 a4
    refine hk (fun a1 a2 a3 a4 h => Head sg W0 130 (entered 4) (Post sg W0 (zf30.ret Q)) (posC zf30.code []) 4 [0, 1, 2, 7] [.int .i64 a1, .int .u64 a2, .str a3, .int .i64 a4] h) ?_
    intro a1 a2 a3 a4 h hb todo hm ρ a w s f hp
    have hself : CutOK sg W0 130 (entered 4) (Post sg W0 (zf30.ret Q)) (posC zf30.code []) 4 [0, 1, 2, 7] (zf30.k4 (fun a1 a2 a3 a4 h => Head sg W0 130 (entered 4) (Post sg W0 (zf30.ret Q)) (posC zf30.code []) 4 [0, 1, 2, 7] [.int .i64 a1, .int .u64 a2, .str a3, .int .i64 a4] h)) := cutOK_head (fun vs h hk => by unfold zf30.k4 at hk; split at hk; exact hk; exact hk.elim)
    exact piece (E := zf30.E U Q [(4, ([0, 1, 2, 7], zf30.k4 (fun a1 a2 a3 a4 h => Head sg W0 130 (entered 4) (Post sg W0 (zf30.ret Q)) (posC zf30.code []) 4 [0, 1, 2, 7] [.int .i64 a1, .int .u64 a2, .str a3, .int .i64 a4] h))), (12, ([0, 1, 2, 9], zf30.k12 (fun a1 a2 a3 a4 h => zf30.j12 U  a1 a2 a3 a4 Q h)))]) (vs := [.int .i64 a1, .int .u64 a2, .str a3, .int .i64 a4]) (envOK seatOK (zf30.callsOK hU) hU) (fnOK seatOK zf30.fun) ⟨hself, (zf30.s12 hU Q  ), trivial⟩ zf30.p4 (fuel := 3000) (by rw [← zf30.e4]; exact hb) hm s f hp
  · exact hk.elim

theorem zf30.e : ∀ (U : Ifc) (a1 : Int) (a2 : Int) (a3 : List UInt8) (Q : Bool → Heap → Prop) (h : Heap), zf30 U a1 a2 a3 Q h = pts (zf30.E U Q [(4, ([0, 1, 2, 7], zf30.k4 (fun a1 a2 a3 a4 h => zf30.j4 U  a1 a2 a3 a4 Q h)))]) 3000 true [.code zf30.code] (frOf 0 [.int .i64 a1, .int .u64 a2, .str a3]) h := by
  intros; kernel_rfl

theorem zf30.S {W0 : World} {U : Ifc} (hU : IfcOK sg W0 glsT U) : FnS sg W0 379 (zf30.C U) := by
  intro vs κ h wv hx w s
  unfold zf30.C at hx
  split at hx
  · rename_i a1 a2 a3
    refine postImp (ret := zf30.ret (fun r1 h => κ (.bool r1) h)) (fun v h hr => by unfold zf30.ret at hr; split at hr; exact hr; exact hr.elim) ?_
    exact calls_of_pts (E := zf30.E U (fun r1 h => κ (.bool r1) h) [(4, ([0, 1, 2, 7], zf30.k4 (fun a1 a2 a3 a4 h => zf30.j4 U  a1 a2 a3 a4 (fun r1 h => κ (.bool r1) h) h)))]) (envOK seatOK (zf30.callsOK hU) hU) seatOK.mixed zf30.fun (Nat.le_of_ble_eq_true rfl) wv (cutL_ok ⟨(zf30.s4 hU (fun r1 h => κ (.bool r1) h)), trivial⟩) s (fuel := 3000) (by rw [← zf30.e]; exact hx)
  · exact hx.elim

noncomputable def zf72.code : Code := Go.Proofs.Tryz.f32.body.getD .skip

theorem zf72.fun : Fun sg.P 32 19 [.tmp 6] zf72.code := mkFun Go.Proofs.Tryz.func32 (by kernel_rfl) (by kernel_rfl) (by kernel_rfl) (by kernel_rfl)

def zf72.ret (Q : Int → Heap → Prop) (v : V) (h : Heap) : Prop :=
  match v with
  | .int .i64 r1 => Q r1 h
  | _ => False

def zf72.C (vs : List V) (κ : V → Heap → Prop) (h : Heap) : Prop :=
  match vs with
  | [.int .u32 a1, .int .i64 a2, .int .i64 a3] => zf72 a1 a2 a3 (fun r1 h => κ (.int .i64 r1) h) h
  | _ => False

noncomputable def zf72.calls : List (Nat × (List V → (V → Heap → Prop) → Heap → Prop)) := [(170, zf76.C), (171, zf77.C)]

noncomputable def zf72.E (Q : Int → Heap → Prop) (cuts : List (Nat × (List Nat × (List V → Heap → Prop)))) : Env := { tis := tisT, fns := fnsT, tys := tysT, gls := [], rts := rtsT, unk := [], nxt := [], calls := zf72.calls, ifc := noIfc, cuts := cuts, ret := zf72.ret Q, rets := [.tmp 6], n := 19 }

theorem zf72.callsOK {W0 : World} : CallsOK sg W0 zf72.calls := ⟨zf76.S, zf77.S, trivial⟩

theorem zf72.e : ∀ (a1 : Int) (a2 : Int) (a3 : Int) (Q : Int → Heap → Prop) (h : Heap), zf72 a1 a2 a3 Q h = pts (zf72.E Q []) 3000 true [.code zf72.code] (frOf 0 [.int .u32 a1, .int .i64 a2, .int .i64 a3]) h := by
  intros; kernel_rfl

theorem zf72.S {W0 : World} : FnS sg W0 172 zf72.C := by
  intro vs κ h wv hx w s
  unfold zf72.C at hx
  split at hx
  · rename_i a1 a2 a3
    refine postImp (ret := zf72.ret (fun r1 h => κ (.int .i64 r1) h)) (fun v h hr => by unfold zf72.ret at hr; split at hr; exact hr; exact hr.elim) ?_
    exact calls_of_pts (E := zf72.E (fun r1 h => κ (.int .i64 r1) h) []) (envOK seatOK zf72.callsOK noIfc_ok) seatOK.mixed zf72.fun (Nat.le_of_ble_eq_true rfl) wv (cutL_ok trivial) s (fuel := 3000) (by rw [← zf72.e]; exact hx)
  · exact hx.elim

noncomputable def zf14.code : Code := Go.Proofs.Tryz.f17.body.getD .skip

theorem zf14.fun : Fun sg.P 17 55 [.cell 2 52, .tmp 3] zf14.code := mkFun Go.Proofs.Tryz.func17 (by kernel_rfl) (by kernel_rfl) (by kernel_rfl) (by kernel_rfl)

def zf14.ret (Q : Int → Int → Int → Int → Int → Int → Heap → Prop) (v : V) (h : Heap) : Prop :=
  match v with
  | .tup [.agg [.int .i64 r1, .int .i64 r2, .int .i64 r3, .int .i64 r4, .int .i64 r5], .int .i64 r6] => Q r1 r2 r3 r4 r5 r6 h
  | _ => False

def zf14.C (vs : List V) (κ : V → Heap → Prop) (h : Heap) : Prop :=
  match vs with
  | [.int .u32 a1] => zf14 a1 (fun r1 r2 r3 r4 r5 r6 h => κ (.tup [.agg [.int .i64 r1, .int .i64 r2, .int .i64 r3, .int .i64 r4, .int .i64 r5], .int .i64 r6]) h) h
  | _ => False

noncomputable def zf14.calls : List (Nat × (List V → (V → Heap → Prop) → Heap → Prop)) := [(172, zf72.C), (175, zf16.C), (176, zf75.C), (181, zf15.C)]

noncomputable def zf14.E (Q : Int → Int → Int → Int → Int → Int → Heap → Prop) (cuts : List (Nat × (List Nat × (List V → Heap → Prop)))) : Env := { tis := tisT, fns := fnsT, tys := tysT, gls := [], rts := rtsT, unk := [], nxt := [], calls := zf14.calls, ifc := noIfc, cuts := cuts, ret := zf14.ret Q, rets := [.cell 2 52, .tmp 3], n := 55 }

theorem zf14.callsOK {W0 : World} : CallsOK sg W0 zf14.calls := ⟨zf72.S, zf16.S, zf75.S, zf15.S, trivial⟩

def zf14.k8 (I : Int → Ptr → Ptr → Heap → Prop) (vs : List V) (h : Heap) : Prop :=
  match vs with
  | [.int .u32 a1, .ptr (some a2), .ptr (some a3)] => I a1 a2 a3 h
  | _ => False

theorem zf14.p8 : (posC zf14.code []).filter (fun p => Nat.beq p.1 8) = [(8, atPos (posC zf14.code []) 8)] := by kernel_rfl

theorem zf14.e8 : ∀  (a1 : Int) (a2 : Ptr) (a3 : Ptr) (Q : Int → Int → Int → Int → Int → Int → Heap → Prop) (h : Heap), zf14.j8  a1 a2 a3 Q h = pts (zf14.E Q []) 3000 true (atPos (posC zf14.code []) 8) (frAt [0, 2, 4] [.int .u32 a1, .ptr (some a2), .ptr (some a3)]) h := by
  intros; kernel_rfl

theorem zf14.s8 {W0 : World} (Q : Int → Int → Int → Int → Int → Int → Heap → Prop)   : CutOK sg W0 55 (entered 17) (Post sg W0 (zf14.ret Q)) (posC zf14.code []) 8 [0, 2, 4] (zf14.k8 (fun a1 a2 a3 h => zf14.j8  a1 a2 a3 Q h)) := by
  refine cutOK_head (fun vs h hk => ?_)
  unfold zf14.k8 at hk
  split at hk
  · rename_i a1 a2 a3
    intro todo hm ρ a w s f hp
    exact piece (E := zf14.E Q []) (vs := [.int .u32 a1, .ptr (some a2), .ptr (some a3)]) (envOK seatOK zf14.callsOK noIfc_ok) (fnOK seatOK zf14.fun) trivial zf14.p8 (fuel := 3000) (by rw [← zf14.e8]; exact hk) hm s f hp
  · exact hk.elim

theorem zf14.e : ∀ (a1 : Int) (Q : Int → Int → Int → Int → Int → Int → Heap → Prop) (h : Heap), zf14 a1 Q h = pts (zf14.E Q [(8, ([0, 2, 4], zf14.k8 (fun a1 a2 a3 h => zf14.j8  a1 a2 a3 Q h)))]) 3000 true [.code zf14.code] (frOf 0 [.int .u32 a1]) h := by
  intros; kernel_rfl

theorem zf14.S {W0 : World} : FnS sg W0 182 zf14.C := by
  intro vs κ h wv hx w s
  unfold zf14.C at hx
  split at hx
  · rename_i a1
    refine postImp (ret := zf14.ret (fun r1 r2 r3 r4 r5 r6 h => κ (.tup [.agg [.int .i64 r1, .int .i64 r2, .int .i64 r3, .int .i64 r4, .int .i64 r5], .int .i64 r6]) h)) (fun v h hr => by unfold zf14.ret at hr; split at hr; exact hr; exact hr.elim) ?_
    exact calls_of_pts (E := zf14.E (fun r1 r2 r3 r4 r5 r6 h => κ (.tup [.agg [.int .i64 r1, .int .i64 r2, .int .i64 r3, .int .i64 r4, .int .i64 r5], .int .i64 r6]) h) [(8, ([0, 2, 4], zf14.k8 (fun a1 a2 a3 h => zf14.j8  a1 a2 a3 (fun r1 r2 r3 r4 r5 r6 h => κ (.tup [.agg [.int .i64 r1, .int .i64 r2, .int .i64 r3, .int .i64 r4, .int .i64 r5], .int .i64 r6]) h) h)))]) (envOK seatOK zf14.callsOK noIfc_ok) seatOK.mixed zf14.fun (Nat.le_of_ble_eq_true rfl) wv (cutL_ok ⟨(zf14.s8 (fun r1 r2 r3 r4 r5 r6 h => κ (.tup [.agg [.int .i64 r1, .int .i64 r2, .int .i64 r3, .int .i64 r4, .int .i64 r5], .int .i64 r6]) h)), trivial⟩) s (fuel := 3000) (by rw [← zf14.e]; exact hx)
  · exact hx.elim

noncomputable def zf57.code : Code := Go.Proofs.Tryz.f18.body.getD .skip

theorem zf57.fun : Fun sg.P 18 5 [.tmp 2] zf57.code := mkFun Go.Proofs.Tryz.func18 (by kernel_rfl) (by kernel_rfl) (by kernel_rfl) (by kernel_rfl)

def zf57.ret (Q : (List UInt8) → Heap → Prop) (v : V) (h : Heap) : Prop :=
  match v with
  | .str r1 => Q r1 h
  | _ => False

def zf57.C (U : Ifc) (vs : List V) (κ : V → Heap → Prop) (h : Heap) : Prop :=
  match vs with
  | [.int .i64 a1] => zf57 U a1 (fun r1 h => κ (.str r1) h) h
  | _ => False

theorem zf57.S {W0 : World} {U : Ifc} (hU : IfcOK sg W0 glsT U) : FnS sg W0 335 (zf57.C U) := by
  intro vs κ h wv hx w s
  refine itoa_S (g := 335) (c := 3) (gn := 3) hU lays171 (by kernel_rfl) (by kernel_rfl) rfl zf57.fun vs κ h wv ?_ w s
  unfold zf57.C at hx
  split at hx
  · exact hx
  · exact hx.elim

noncomputable def zf66.code : Code := Go.Proofs.Tryz.f21.body.getD .skip

theorem zf66.fun : Fun sg.P 21 75 [.tmp 4] zf66.code := mkFun Go.Proofs.Tryz.func21 (by kernel_rfl) (by kernel_rfl) (by kernel_rfl) (by kernel_rfl)

def zf66.ret (Q : (List UInt8) → Heap → Prop) (v : V) (h : Heap) : Prop :=
  match v with
  | .str r1 => Q r1 h
  | _ => False

def zf66.C (vs : List V) (κ : V → Heap → Prop) (h : Heap) : Prop :=
  match vs with
  | [.sl a1, .str a2] => zf66 a1 a2 (fun r1 h => κ (.str r1) h) h
  | _ => False

theorem zf66.S {W0 : World} : FnS sg W0 340 (zf66.C) := by
  intro vs κ h wv hx w s
  refine join_S (g := 340) lays156 extra_lays156 rfl zf66.fun vs κ h wv ?_ w s
  unfold zf66.C at hx
  split at hx
  · exact hx
  · exact hx.elim

noncomputable def zf2.code : Code := Go.Proofs.Tryz.f11.body.getD .skip

theorem zf2.fun : Fun sg.P 11 65 [.tmp 2] zf2.code := mkFun Go.Proofs.Tryz.func11 (by kernel_rfl) (by kernel_rfl) (by kernel_rfl) (by kernel_rfl)

def zf2.ret (Q : (List UInt8) → Heap → Prop) (v : V) (h : Heap) : Prop :=
  match v with
  | .str r1 => Q r1 h
  | _ => False

def zf2.C (U : Ifc) (vs : List V) (κ : V → Heap → Prop) (h : Heap) : Prop :=
  match vs with
  | [.int .u32 a1] => zf2 U a1 (fun r1 h => κ (.str r1) h) h
  | _ => False

noncomputable def zf2.calls (U : Ifc) : List (Nat × (List V → (V → Heap → Prop) → Heap → Prop)) := [(182, zf14.C), (335, zf57.C U), (336, zf61.C U), (339, zf8.C), (340, zf66.C)]

noncomputable def zf2.E (U : Ifc) (Q : (List UInt8) → Heap → Prop) (cuts : List (Nat × (List Nat × (List V → Heap → Prop)))) : Env := { tis := tisT, fns := fnsT, tys := tysT, gls := glsT, rts := rtsT, unk := [], nxt := [], calls := zf2.calls U, ifc := U, cuts := cuts, ret := zf2.ret Q, rets := [.tmp 2], n := 65 }

theorem zf2.callsOK {W0 : World} {U : Ifc} (hU : IfcOK sg W0 glsT U) : CallsOK sg W0 (zf2.calls U) := ⟨zf14.S, (zf57.S hU), (zf61.S hU), zf8.S, zf66.S, trivial⟩

def zf2.k11 (I : Ptr → Sl → Int → Ptr → Heap → Prop) (vs : List V) (h : Heap) : Prop :=
  match vs with
  | [.ptr (some a1), .sl a2, .int .i64 a3, .ptr (some a4)] => I a1 a2 a3 a4 h
  | _ => False

def zf2.k12 (I : Ptr → Sl → Ptr → Heap → Prop) (vs : List V) (h : Heap) : Prop :=
  match vs with
  | [.ptr (some a1), .sl a2, .ptr (some a3)] => I a1 a2 a3 h
  | _ => False

def zf2.k6 (I : Ptr → Sl → Ptr → Heap → Prop) (vs : List V) (h : Heap) : Prop :=
  match vs with
  | [.ptr (some a1), .sl a2, .ptr (some a3)] => I a1 a2 a3 h
  | _ => False

theorem zf2.p11 : (posC zf2.code []).filter (fun p => Nat.beq p.1 11) = [(11, atPos (posC zf2.code []) 11)] := by kernel_rfl

theorem zf2.e11 : ∀ (U : Ifc) (I6 : Ptr → Sl → Ptr → Heap → Prop) (a1 : Ptr) (a2 : Sl) (a3 : Int) (a4 : Ptr) (Q : (List UInt8) → Heap → Prop) (h : Heap), zf2.j11 U I6 a1 a2 a3 a4 Q h = pts (zf2.E U Q [(6, ([3, 5, 32], zf2.k6 I6))]) 3000 true (atPos (posC zf2.code []) 11) (frAt [3, 5, 9, 32] [.ptr (some a1), .sl a2, .int .i64 a3, .ptr (some a4)]) h := by
  intros; kernel_rfl

theorem zf2.s11 {W0 : World} {U : Ifc} (hU : IfcOK sg W0 glsT U) (Q : (List UInt8) → Heap → Prop) (I6 : Ptr → Sl → Ptr → Heap → Prop) (h6 : CutOK sg W0 65 (entered 11) (Post sg W0 (zf2.ret Q)) (posC zf2.code []) 6 [3, 5, 32] (zf2.k6 I6)) : CutOK sg W0 65 (entered 11) (Post sg W0 (zf2.ret Q)) (posC zf2.code []) 11 [3, 5, 9, 32] (zf2.k11 (fun a1 a2 a3 a4 h => zf2.j11 U I6 a1 a2 a3 a4 Q h)) := by
  refine cutOK_head (fun vs h hk => ?_)
  unfold zf2.k11 at hk
  split at hk
  · rename_i a1 a2 a3 a4
    intro todo hm ρ a w s f hp
    exact piece (E := zf2.E U Q [(6, ([3, 5, 32], zf2.k6 I6))]) (vs := [.ptr (some a1), .sl a2, .int .i64 a3, .ptr (some a4)]) (envOK seatOK (zf2.callsOK hU) hU) (fnOK seatOK zf2.fun) ⟨h6, trivial⟩ zf2.p11 (fuel := 3000) (by rw [← zf2.e11]; exact hk) hm s f hp
  · exact hk.elim

theorem zf2.p12 : (posC zf2.code []).filter (fun p => Nat.beq p.1 12) = [(12, atPos (posC zf2.code []) 12)] := by kernel_rfl

theorem zf2.e12 : ∀ (U : Ifc) (I6 : Ptr → Sl → Ptr → Heap → Prop) (a1 : Ptr) (a2 : Sl) (a3 : Ptr) (Q : (List UInt8) → Heap → Prop) (h : Heap), zf2.j12 U I6 a1 a2 a3 Q h = pts (zf2.E U Q [(6, ([3, 5, 32], zf2.k6 I6))]) 3000 true (atPos (posC zf2.code []) 12) (frAt [3, 5, 32] [.ptr (some a1), .sl a2, .ptr (some a3)]) h := by
  intros; kernel_rfl

theorem zf2.s12 {W0 : World} {U : Ifc} (hU : IfcOK sg W0 glsT U) (Q : (List UInt8) → Heap → Prop) (I6 : Ptr → Sl → Ptr → Heap → Prop) (h6 : CutOK sg W0 65 (entered 11) (Post sg W0 (zf2.ret Q)) (posC zf2.code []) 6 [3, 5, 32] (zf2.k6 I6)) : CutOK sg W0 65 (entered 11) (Post sg W0 (zf2.ret Q)) (posC zf2.code []) 12 [3, 5, 32] (zf2.k12 (fun a1 a2 a3 h => zf2.j12 U I6 a1 a2 a3 Q h)) := by
  refine cutOK_head (fun vs h hk => ?_)
  unfold zf2.k12 at hk
  split at hk
  · rename_i a1 a2 a3
    intro todo hm ρ a w s f hp
    exact piece (E := zf2.E U Q [(6, ([3, 5, 32], zf2.k6 I6))]) (vs := [.ptr (some a1), .sl a2, .ptr (some a3)]) (envOK seatOK (zf2.callsOK hU) hU) (fnOK seatOK zf2.fun) ⟨h6, trivial⟩ zf2.p12 (fuel := 3000) (by rw [← zf2.e12]; exact hk) hm s f hp
  · exact hk.elim

theorem zf2.p6 : (posC zf2.code []).filter (fun p => Nat.beq p.1 6) = [(6, atPos (posC zf2.code []) 6)] := by kernel_rfl

theorem zf2.e6 : ∀ (U : Ifc)  (I6 : Ptr → Sl → Ptr → Heap → Prop) (a1 : Ptr) (a2 : Sl) (a3 : Ptr) (Q : (List UInt8) → Heap → Prop) (h : Heap), zf2.b6 U  I6 a1 a2 a3 Q h = pts (zf2.E U Q [(11, ([3, 5, 9, 32], zf2.k11 (fun a1 a2 a3 a4 h => zf2.j11 U I6 a1 a2 a3 a4 Q h))), (12, ([3, 5, 32], zf2.k12 (fun a1 a2 a3 h => zf2.j12 U I6 a1 a2 a3 Q h)))]) 3000 true (atPos (posC zf2.code []) 6) (frAt [3, 5, 32] [.ptr (some a1), .sl a2, .ptr (some a3)]) h := by
  intros; kernel_rfl

theorem zf2.s6 {W0 : World} {U : Ifc} (hU : IfcOK sg W0 glsT U) (Q : (List UInt8) → Heap → Prop)   : CutOK sg W0 65 (entered 11) (Post sg W0 (zf2.ret Q)) (posC zf2.code []) 6 [3, 5, 32] (zf2.k6 (fun a1 a2 a3 h => zf2.j6 U  a1 a2 a3 Q h)) := by
  refine cutOK_head (fun vs h hk => ?_)
  unfold zf2.k6 at hk
  split at hk
  · rename_i a1 a2 a3
    refine hk (fun a1 a2 a3 h => Head sg W0 65 (entered 11) (Post sg W0 (zf2.ret Q)) (posC zf2.code []) 6 [3, 5, 32] [.ptr (some a1), .sl a2, .ptr (some a3)] h) ?_
    intro a1 a2 a3 h hb todo hm ρ a w s f hp
    have hself : CutOK sg W0 65 (entered 11) (Post sg W0 (zf2.ret Q)) (posC zf2.code []) 6 [3, 5, 32] (zf2.k6 (fun a1 a2 a3 h => Head sg W0 65 (entered 11) (Post sg W0 (zf2.ret Q)) (posC zf2.code []) 6 [3, 5, 32] [.ptr (some a1), .sl a2, .ptr (some a3)] h)) := cutOK_head (fun vs h hk => by unfold zf2.k6 at hk; split at hk; exact hk; exact hk.elim)
    exact piece (E := zf2.E U Q [(11, ([3, 5, 9, 32], zf2.k11 (fun a1 a2 a3 a4 h => zf2.j11 U (fun a1 a2 a3 h => Head sg W0 65 (entered 11) (Post sg W0 (zf2.ret Q)) (posC zf2.code []) 6 [3, 5, 32] [.ptr (some a1), .sl a2, .ptr (some a3)] h) a1 a2 a3 a4 Q h))), (12, ([3, 5, 32], zf2.k12 (fun a1 a2 a3 h => zf2.j12 U (fun a1 a2 a3 h => Head sg W0 65 (entered 11) (Post sg W0 (zf2.ret Q)) (posC zf2.code []) 6 [3, 5, 32] [.ptr (some a1), .sl a2, .ptr (some a3)] h) a1 a2 a3 Q h)))]) (vs := [.ptr (some a1), .sl a2, .ptr (some a3)]) (envOK seatOK (zf2.callsOK hU) hU) (fnOK seatOK zf2.fun) ⟨(zf2.s11 hU Q (fun a1 a2 a3 h => Head sg W0 65 (entered 11) (Post sg W0 (zf2.ret Q)) (posC zf2.code []) 6 [3, 5, 32] [.ptr (some a1), .sl a2, .ptr (some a3)] h) hself), (zf2.s12 hU Q (fun a1 a2 a3 h => Head sg W0 65 (entered 11) (Post sg W0 (zf2.ret Q)) (posC zf2.code []) 6 [3, 5, 32] [.ptr (some a1), .sl a2, .ptr (some a3)] h) hself), trivial⟩ zf2.p6 (fuel := 3000) (by rw [← zf2.e6]; exact hb) hm s f hp
  · exact hk.elim

theorem zf2.e : ∀ (U : Ifc) (a1 : Int) (Q : (List UInt8) → Heap → Prop) (h : Heap), zf2 U a1 Q h = pts (zf2.E U Q [(6, ([3, 5, 32], zf2.k6 (fun a1 a2 a3 h => zf2.j6 U  a1 a2 a3 Q h)))]) 3000 true [.code zf2.code] (frOf 0 [.int .u32 a1]) h := by
  intros; kernel_rfl

theorem zf2.S {W0 : World} {U : Ifc} (hU : IfcOK sg W0 glsT U) : FnS sg W0 341 (zf2.C U) := by
  intro vs κ h wv hx w s
  unfold zf2.C at hx
  split at hx
  · rename_i a1
    refine postImp (ret := zf2.ret (fun r1 h => κ (.str r1) h)) (fun v h hr => by unfold zf2.ret at hr; split at hr; exact hr; exact hr.elim) ?_
    exact calls_of_pts (E := zf2.E U (fun r1 h => κ (.str r1) h) [(6, ([3, 5, 32], zf2.k6 (fun a1 a2 a3 h => zf2.j6 U  a1 a2 a3 (fun r1 h => κ (.str r1) h) h)))]) (envOK seatOK (zf2.callsOK hU) hU) seatOK.mixed zf2.fun (Nat.le_of_ble_eq_true rfl) wv (cutL_ok ⟨(zf2.s6 hU (fun r1 h => κ (.str r1) h)), trivial⟩) s (fuel := 3000) (by rw [← zf2.e]; exact hx)
  · exact hx.elim

noncomputable def zf29.code : Code := Go.Proofs.Tryz.f5.body.getD .skip

theorem zf29.fun : Fun sg.P 5 77 [.tmp 2] zf29.code := mkFun Go.Proofs.Tryz.func5 (by kernel_rfl) (by kernel_rfl) (by kernel_rfl) (by kernel_rfl)

def zf29.ret (Q : Bool → Heap → Prop) (v : V) (h : Heap) : Prop :=
  match v with
  | .bool r1 => Q r1 h
  | _ => False

def zf29.C (U : Ifc) (vs : List V) (κ : V → Heap → Prop) (h : Heap) : Prop :=
  match vs with
  | [.sl a1] => zf29 U a1 (fun r1 h => κ (.bool r1) h) h
  | _ => False

noncomputable def zf29.calls (U : Ifc) : List (Nat × (List V → (V → Heap → Prop) → Heap → Prop)) := [(361, zf0.C U), (341, zf2.C U)]

noncomputable def zf29.E (U : Ifc) (Q : Bool → Heap → Prop) (cuts : List (Nat × (List Nat × (List V → Heap → Prop)))) : Env := { tis := tisT, fns := fnsT, tys := tysT, gls := glsT, rts := rtsT, unk := [], nxt := [], calls := zf29.calls U, ifc := U, cuts := cuts, ret := zf29.ret Q, rets := [.tmp 2], n := 77 }

theorem zf29.callsOK {W0 : World} {U : Ifc} (hU : IfcOK sg W0 glsT U) : CallsOK sg W0 (zf29.calls U) := ⟨(zf0.S hU), (zf2.S hU), trivial⟩

def zf29.k10 (I : Heap → Prop) (vs : List V) (h : Heap) : Prop :=
  match vs with
  | [] => I  h
  | _ => False

def zf29.k12 (I : Sl → Sl → Int → Heap → Prop) (vs : List V) (h : Heap) : Prop :=
  match vs with
  | [.sl a1, .sl a2, .int .i64 a3] => I a1 a2 a3 h
  | _ => False

def zf29.k11 (I : Sl → Sl → Heap → Prop) (vs : List V) (h : Heap) : Prop :=
  match vs with
  | [.sl a1, .sl a2] => I a1 a2 h
  | _ => False

def zf29.k5 (I : Sl → (List UInt8) → Int → Heap → Prop) (vs : List V) (h : Heap) : Prop :=
  match vs with
  | [.sl a1, .str a2, .int .i64 a3] => I a1 a2 a3 h
  | _ => False

def zf29.k3 (I : Sl → Heap → Prop) (vs : List V) (h : Heap) : Prop :=
  match vs with
  | [.sl a1] => I a1 h
  | _ => False

theorem zf29.p10 : (posC zf29.code []).filter (fun p => Nat.beq p.1 10) = [(10, atPos (posC zf29.code []) 10)] := by kernel_rfl

theorem zf29.e10 : ∀ (U : Ifc)   (Q : Bool → Heap → Prop) (h : Heap), zf29.j10 U   Q h = pts (zf29.E U Q []) 3000 true (atPos (posC zf29.code []) 10) (frAt [] []) h := by
  intros; kernel_rfl

theorem zf29.s10 {W0 : World} {U : Ifc} (hU : IfcOK sg W0 glsT U) (Q : Bool → Heap → Prop)   : CutOK sg W0 77 (entered 5) (Post sg W0 (zf29.ret Q)) (posC zf29.code []) 10 [] (zf29.k10 (fun  h => zf29.j10 U   Q h)) := by
  refine cutOK_head (fun vs h hk => ?_)
  unfold zf29.k10 at hk
  split at hk
  · skip
    intro todo hm ρ a w s f hp
    exact piece (E := zf29.E U Q []) (vs := []) (envOK seatOK (zf29.callsOK hU) hU) (fnOK seatOK zf29.fun) trivial zf29.p10 (fuel := 3000) (by rw [← zf29.e10]; exact hk) hm s f hp
  · exact hk.elim

theorem zf29.p12 : (posC zf29.code []).filter (fun p => Nat.beq p.1 12) = [(12, atPos (posC zf29.code []) 12)] := by kernel_rfl

theorem zf29.e12 : ∀ (U : Ifc)  (I12 : Sl → Sl → Int → Heap → Prop) (a1 : Sl) (a2 : Sl) (a3 : Int) (Q : Bool → Heap → Prop) (h : Heap), zf29.b12 U  I12 a1 a2 a3 Q h = pts (zf29.E U Q [(12, ([0, 5, 8], zf29.k12 I12))]) 3000 true (atPos (posC zf29.code []) 12) (frAt [0, 5, 8] [.sl a1, .sl a2, .int .i64 a3]) h := by
  intros; kernel_rfl

theorem zf29.s12 {W0 : World} {U : Ifc} (hU : IfcOK sg W0 glsT U) (Q : Bool → Heap → Prop)   : CutOK sg W0 77 (entered 5) (Post sg W0 (zf29.ret Q)) (posC zf29.code []) 12 [0, 5, 8] (zf29.k12 (fun a1 a2 a3 h => zf29.j12 U  a1 a2 a3 Q h)) := by
  refine cutOK_head (fun vs h hk => ?_)
  unfold zf29.k12 at hk
  split at hk
  · rename_i a1 a2 a3
    refine hk (fun a1 a2 a3 h => Head sg W0 77 (entered 5) (Post sg W0 (zf29.ret Q)) (posC zf29.code []) 12 [0, 5, 8] [.sl a1, .sl a2, .int .i64 a3] h) ?_
    intro a1 a2 a3 h hb todo hm ρ a w s f hp
    have hself : CutOK sg W0 77 (entered 5) (Post sg W0 (zf29.ret Q)) (posC zf29.code []) 12 [0, 5, 8] (zf29.k12 (fun a1 a2 a3 h => Head sg W0 77 (entered 5) (Post sg W0 (zf29.ret Q)) (posC zf29.code []) 12 [0, 5, 8] [.sl a1, .sl a2, .int .i64 a3] h)) := cutOK_head (fun vs h hk => by unfold zf29.k12 at hk; split at hk; exact hk; exact hk.elim)
    exact piece (E := zf29.E U Q [(12, ([0, 5, 8], zf29.k12 (fun a1 a2 a3 h => Head sg W0 77 (entered 5) (Post sg W0 (zf29.ret Q)) (posC zf29.code []) 12 [0, 5, 8] [.sl a1, .sl a2, .int .i64 a3] h)))]) (vs := [.sl a1, .sl a2, .int .i64 a3]) (envOK seatOK (zf29.callsOK hU) hU) (fnOK seatOK zf29.fun) ⟨hself, trivial⟩ zf29.p12 (fuel := 3000) (by rw [← zf29.e12]; exact hb) hm s f hp
  · exact hk.elim

theorem zf29.p11 : (posC zf29.code []).filter (fun p => Nat.beq p.1 11) = [(11, atPos (posC zf29.code []) 11)] := by kernel_rfl

theorem zf29.e11 : ∀ (U : Ifc)  (a1 : Sl) (a2 : Sl) (Q : Bool → Heap → Prop) (h : Heap), zf29.j11 U  a1 a2 Q h = pts (zf29.E U Q [(12, ([0, 5, 8], zf29.k12 (fun a1 a2 a3 h => zf29.j12 U  a1 a2 a3 Q h)))]) 3000 true (atPos (posC zf29.code []) 11) (frAt [0, 5] [.sl a1, .sl a2]) h := by
  intros; kernel_rfl

theorem zf29.s11 {W0 : World} {U : Ifc} (hU : IfcOK sg W0 glsT U) (Q : Bool → Heap → Prop)   : CutOK sg W0 77 (entered 5) (Post sg W0 (zf29.ret Q)) (posC zf29.code []) 11 [0, 5] (zf29.k11 (fun a1 a2 h => zf29.j11 U  a1 a2 Q h)) := by
  refine cutOK_head (fun vs h hk => ?_)
  unfold zf29.k11 at hk
  split at hk
  · rename_i a1 a2
    intro todo hm ρ a w s f hp
    exact piece (E := zf29.E U Q [(12, ([0, 5, 8], zf29.k12 (fun a1 a2 a3 h => zf29.j12 U  a1 a2 a3 Q h)))]) (vs := [.sl a1, .sl a2]) (envOK seatOK (zf29.callsOK hU) hU) (fnOK seatOK zf29.fun) ⟨(zf29.s12 hU Q  ), trivial⟩ zf29.p11 (fuel := 3000) (by rw [← zf29.e11]; exact hk) hm s f hp
  · exact hk.elim

theorem zf29.p5 : (posC zf29.code []).filter (fun p => Nat.beq p.1 5) = [(5, atPos (posC zf29.code []) 5)] := by kernel_rfl

theorem zf29.e5 : ∀ (U : Ifc)  (I5 : Sl → (List UInt8) → Int → Heap → Prop) (a1 : Sl) (a2 : List UInt8) (a3 : Int) (Q : Bool → Heap → Prop) (h : Heap), zf29.b5 U  I5 a1 a2 a3 Q h = pts (zf29.E U Q [(5, ([0, 3, 4], zf29.k5 I5)), (10, ([], zf29.k10 (fun  h => zf29.j10 U   Q h))), (11, ([0, 5], zf29.k11 (fun a1 a2 h => zf29.j11 U  a1 a2 Q h)))]) 3000 true (atPos (posC zf29.code []) 5) (frAt [0, 3, 4] [.sl a1, .str a2, .int .i64 a3]) h := by
  intros; kernel_rfl

theorem zf29.s5 {W0 : World} {U : Ifc} (hU : IfcOK sg W0 glsT U) (Q : Bool → Heap → Prop)   : CutOK sg W0 77 (entered 5) (Post sg W0 (zf29.ret Q)) (posC zf29.code []) 5 [0, 3, 4] (zf29.k5 (fun a1 a2 a3 h => zf29.j5 U  a1 a2 a3 Q h)) := by
  refine cutOK_head (fun vs h hk => ?_)
  unfold zf29.k5 at hk
  split at hk
  · rename_i a1 a2 a3
    refine hk (fun a1 a2 a3 h => Head sg W0 77 (entered 5) (Post sg W0 (zf29.ret Q)) (posC zf29.code []) 5 [0, 3, 4] [.sl a1, .str a2, .int .i64 a3] h) ?_
    intro a1 a2 a3 h hb todo hm ρ a w s f hp
    have hself : CutOK sg W0 77 (entered 5) (Post sg W0 (zf29.ret Q)) (posC zf29.code []) 5 [0, 3, 4] (zf29.k5 (fun a1 a2 a3 h => Head sg W0 77 (entered 5) (Post sg W0 (zf29.ret Q)) (posC zf29.code []) 5 [0, 3, 4] [.sl a1, .str a2, .int .i64 a3] h)) := cutOK_head (fun vs h hk => by unfold zf29.k5 at hk; split at hk; exact hk; exact hk.elim)
    exact piece (E := zf29.E U Q [(5, ([0, 3, 4], zf29.k5 (fun a1 a2 a3 h => Head sg W0 77 (entered 5) (Post sg W0 (zf29.ret Q)) (posC zf29.code []) 5 [0, 3, 4] [.sl a1, .str a2, .int .i64 a3] h))), (10, ([], zf29.k10 (fun  h => zf29.j10 U   Q h))), (11, ([0, 5], zf29.k11 (fun a1 a2 h => zf29.j11 U  a1 a2 Q h)))]) (vs := [.sl a1, .str a2, .int .i64 a3]) (envOK seatOK (zf29.callsOK hU) hU) (fnOK seatOK zf29.fun) ⟨hself, (zf29.s10 hU Q  ), (zf29.s11 hU Q  ), trivial⟩ zf29.p5 (fuel := 3000) (by rw [← zf29.e5]; exact hb) hm s f hp
  · exact hk.elim

theorem zf29.p3 : (posC zf29.code []).filter (fun p => Nat.beq p.1 3) = [(3, atPos (posC zf29.code []) 3)] := by kernel_rfl

theorem zf29.e3 : ∀ (U : Ifc)  (a1 : Sl) (Q : Bool → Heap → Prop) (h : Heap), zf29.j3 U  a1 Q h = pts (zf29.E U Q [(5, ([0, 3, 4], zf29.k5 (fun a1 a2 a3 h => zf29.j5 U  a1 a2 a3 Q h)))]) 3000 true (atPos (posC zf29.code []) 3) (frAt [0] [.sl a1]) h := by
  intros; kernel_rfl

theorem zf29.s3 {W0 : World} {U : Ifc} (hU : IfcOK sg W0 glsT U) (Q : Bool → Heap → Prop)   : CutOK sg W0 77 (entered 5) (Post sg W0 (zf29.ret Q)) (posC zf29.code []) 3 [0] (zf29.k3 (fun a1 h => zf29.j3 U  a1 Q h)) := by
  refine cutOK_head (fun vs h hk => ?_)
  unfold zf29.k3 at hk
  split at hk
  · rename_i a1
    intro todo hm ρ a w s f hp
    exact piece (E := zf29.E U Q [(5, ([0, 3, 4], zf29.k5 (fun a1 a2 a3 h => zf29.j5 U  a1 a2 a3 Q h)))]) (vs := [.sl a1]) (envOK seatOK (zf29.callsOK hU) hU) (fnOK seatOK zf29.fun) ⟨(zf29.s5 hU Q  ), trivial⟩ zf29.p3 (fuel := 3000) (by rw [← zf29.e3]; exact hk) hm s f hp
  · exact hk.elim

theorem zf29.e : ∀ (U : Ifc) (a1 : Sl) (Q : Bool → Heap → Prop) (h : Heap), zf29 U a1 Q h = pts (zf29.E U Q [(3, ([0], zf29.k3 (fun a1 h => zf29.j3 U  a1 Q h)))]) 3000 true [.code zf29.code] (frOf 0 [.sl a1]) h := by
  intros; kernel_rfl

theorem zf29.S {W0 : World} {U : Ifc} (hU : IfcOK sg W0 glsT U) : FnS sg W0 380 (zf29.C U) := by
  intro vs κ h wv hx w s
  unfold zf29.C at hx
  split at hx
  · rename_i a1
    refine postImp (ret := zf29.ret (fun r1 h => κ (.bool r1) h)) (fun v h hr => by unfold zf29.ret at hr; split at hr; exact hr; exact hr.elim) ?_
    exact calls_of_pts (E := zf29.E U (fun r1 h => κ (.bool r1) h) [(3, ([0], zf29.k3 (fun a1 h => zf29.j3 U  a1 (fun r1 h => κ (.bool r1) h) h)))]) (envOK seatOK (zf29.callsOK hU) hU) seatOK.mixed zf29.fun (Nat.le_of_ble_eq_true rfl) wv (cutL_ok ⟨(zf29.s3 hU (fun r1 h => κ (.bool r1) h)), trivial⟩) s (fuel := 3000) (by rw [← zf29.e]; exact hx)
  · exact hx.elim

end Go.Fn
