/- The links of the shallow functions to the machine. PRINTED by lift.py. -/
import Derived.Test.YtmpjgafkdhineaaDoorGb2

set_option linter.unusedVariables false
set_option maxRecDepth 100000
namespace Go.Fn
open Go.Lift

noncomputable def zf31.code : Code := Go.Proofs.Tryd.f4.body.getD .skip

theorem zf31.fun : Fun sg.P 4 212 [.tmp 6] zf31.code := mkFun Go.Proofs.Tryd.func4 (by kernel_rfl) (by kernel_rfl) (by kernel_rfl) (by kernel_rfl)

def zf31.ret (Q : Bool → Heap → Prop) (v : V) (h : Heap) : Prop :=
  match v with
  | .bool r1 => Q r1 h
  | _ => False

def zf31.C (U : Ifc) (vs : List V) (κ : V → Heap → Prop) (h : Heap) : Prop :=
  match vs with
  | [.sl a1, .int .i64 a2, .bool a3] => zf31 U a1 a2 a3 (fun r1 h => κ (.bool r1) h) h
  | _ => False

noncomputable def zf31.calls (U : Ifc) : List (Nat × (List V → (V → Heap → Prop) → Heap → Prop)) := [(265, zf38.C), (298, zf35.C), (301, zf39.C U), (297, zf34.C U), (302, zf37.C U), (295, zf32.C), (351, zf50.C), (35, zf40.C), (352, zf5.C), (299, zf36.C U), (281, zf0.C U), (353, zf53.C), (283, zf2.C U)]

noncomputable def zf31.E (U : Ifc) (Q : Bool → Heap → Prop) (cuts : List (Nat × (List Nat × (List V → Heap → Prop)))) : Env := { tis := tisT, fns := fnsT, tys := tysT, gls := glsT, rts := rtsT, unk := [], nxt := [], calls := zf31.calls U, ifc := U, cuts := cuts, ret := zf31.ret Q, rets := [.tmp 6], n := 212 }

theorem zf31.callsOK {W0 : World} {U : Ifc} (hU : IfcOK sg W0 glsT U) : CallsOK sg W0 (zf31.calls U) := ⟨zf38.S, zf35.S, (zf39.S hU), (zf34.S hU), (zf37.S hU), zf32.S, zf50.S, zf40.S, zf5.S, (zf36.S hU), (zf0.S hU), zf53.S, (zf2.S hU), trivial⟩

def zf31.k7 (I : Heap → Prop) (vs : List V) (h : Heap) : Prop :=
  match vs with
  | [] => I  h
  | _ => False

def zf31.k14 (I : Heap → Prop) (vs : List V) (h : Heap) : Prop :=
  match vs with
  | [] => I  h
  | _ => False

def zf31.k21 (I : Heap → Prop) (vs : List V) (h : Heap) : Prop :=
  match vs with
  | [] => I  h
  | _ => False

def zf31.k28 (I : Sl → Int → (Option Ptr) → Int → (Option Ptr) → Int → Int → Heap → Prop) (vs : List V) (h : Heap) : Prop :=
  match vs with
  | [.sl a1, .int .i64 a2, .ptr a3, .int .i64 a4, .ptr a5, .int .i64 a6, .int .u64 a7] => I a1 a2 a3 a4 a5 a6 a7 h
  | _ => False

def zf31.k22 (I : Sl → Int → Bool → (Option Ptr) → (Option Ptr) → (Option Ptr) → Heap → Prop) (vs : List V) (h : Heap) : Prop :=
  match vs with
  | [.sl a1, .int .i64 a2, .bool a3, .ptr a4, .ptr a5, .ptr a6] => I a1 a2 a3 a4 a5 a6 h
  | _ => False

def zf31.k16 (I : Sl → Int → Bool → (Option Ptr) → (Option Ptr) → (Option Ptr) → (Option Ptr) → (Option Ptr) → Heap → Prop) (vs : List V) (h : Heap) : Prop :=
  match vs with
  | [.sl a1, .int .i64 a2, .bool a3, .ptr a4, .ptr a5, .ptr a6, .ptr a7, .ptr a8] => I a1 a2 a3 a4 a5 a6 a7 a8 h
  | _ => False

def zf31.k13 (I : Sl → Int → Bool → (Option Ptr) → (Option Ptr) → (Option Ptr) → Int → (Option Ptr) → Int → Heap → Prop) (vs : List V) (h : Heap) : Prop :=
  match vs with
  | [.sl a1, .int .i64 a2, .bool a3, .ptr a4, .ptr a5, .ptr a6, .int .i64 a7, .ptr a8, .int .i64 a9] => I a1 a2 a3 a4 a5 a6 a7 a8 a9 h
  | _ => False

def zf31.k10 (I : Sl → Int → Bool → (Option Ptr) → (Option Ptr) → Heap → Prop) (vs : List V) (h : Heap) : Prop :=
  match vs with
  | [.sl a1, .int .i64 a2, .bool a3, .ptr a4, .ptr a5] => I a1 a2 a3 a4 a5 h
  | _ => False

def zf31.k5 (I : Sl → Int → Bool → (Option Ptr) → Sl → Heap → Prop) (vs : List V) (h : Heap) : Prop :=
  match vs with
  | [.sl a1, .int .i64 a2, .bool a3, .ptr a4, .sl a5] => I a1 a2 a3 a4 a5 h
  | _ => False

theorem zf31.p7 : (posC zf31.code []).filter (fun p => Nat.beq p.1 7) = [(7, atPos (posC zf31.code []) 7)] := by kernel_rfl

theorem zf31.e7 : ∀ (U : Ifc)   (Q : Bool → Heap → Prop) (h : Heap), zf31.j7 U   Q h = pts (zf31.E U Q []) 3000 true (atPos (posC zf31.code []) 7) (frAt [] []) h := by
  intros; kernel_rfl

theorem zf31.s7 {W0 : World} {U : Ifc} (hU : IfcOK sg W0 glsT U) (Q : Bool → Heap → Prop)   : CutOK sg W0 212 (entered 4) (Post sg W0 (zf31.ret Q)) (posC zf31.code []) 7 [] (zf31.k7 (fun  h => zf31.j7 U   Q h)) := by
  refine cutOK_head (fun vs h hk => ?_)
  unfold zf31.k7 at hk
  split at hk
  · skip
    intro todo hm ρ a w s f hp
    exact piece (E := zf31.E U Q []) (vs := []) (envOK seatOK (zf31.callsOK hU) hU) (fnOK seatOK zf31.fun) trivial zf31.p7 (fuel := 3000) (by rw [← zf31.e7]; exact hk) hm s f hp
  · exact hk.elim

theorem zf31.p14 : (posC zf31.code []).filter (fun p => Nat.beq p.1 14) = [(14, atPos (posC zf31.code []) 14)] := by kernel_rfl

theorem zf31.e14 : ∀ (U : Ifc)   (Q : Bool → Heap → Prop) (h : Heap), zf31.j14 U   Q h = pts (zf31.E U Q []) 3000 true (atPos (posC zf31.code []) 14) (frAt [] []) h := by
  intros; kernel_rfl

theorem zf31.s14 {W0 : World} {U : Ifc} (hU : IfcOK sg W0 glsT U) (Q : Bool → Heap → Prop)   : CutOK sg W0 212 (entered 4) (Post sg W0 (zf31.ret Q)) (posC zf31.code []) 14 [] (zf31.k14 (fun  h => zf31.j14 U   Q h)) := by
  refine cutOK_head (fun vs h hk => ?_)
  unfold zf31.k14 at hk
  split at hk
  · skip
    intro todo hm ρ a w s f hp
    exact piece (E := zf31.E U Q []) (vs := []) (envOK seatOK (zf31.callsOK hU) hU) (fnOK seatOK zf31.fun) trivial zf31.p14 (fuel := 3000) (by rw [← zf31.e14]; exact hk) hm s f hp
  · exact hk.elim

theorem zf31.p21 : (posC zf31.code []).filter (fun p => Nat.beq p.1 21) = [(21, atPos (posC zf31.code []) 21)] := by kernel_rfl

theorem zf31.e21 : ∀ (U : Ifc)   (Q : Bool → Heap → Prop) (h : Heap), zf31.j21 U   Q h = pts (zf31.E U Q []) 3000 true (atPos (posC zf31.code []) 21) (frAt [] []) h := by
  intros; kernel_rfl

theorem zf31.s21 {W0 : World} {U : Ifc} (hU : IfcOK sg W0 glsT U) (Q : Bool → Heap → Prop)   : CutOK sg W0 212 (entered 4) (Post sg W0 (zf31.ret Q)) (posC zf31.code []) 21 [] (zf31.k21 (fun  h => zf31.j21 U   Q h)) := by
  refine cutOK_head (fun vs h hk => ?_)
  unfold zf31.k21 at hk
  split at hk
  · skip
    intro todo hm ρ a w s f hp
    exact piece (E := zf31.E U Q []) (vs := []) (envOK seatOK (zf31.callsOK hU) hU) (fnOK seatOK zf31.fun) trivial zf31.p21 (fuel := 3000) (by rw [← zf31.e21]; exact hk) hm s f hp
  · exact hk.elim

theorem zf31.p28 : (posC zf31.code []).filter (fun p => Nat.beq p.1 28) = [(28, atPos (posC zf31.code []) 28)] := by kernel_rfl

theorem zf31.e28 : ∀ (U : Ifc)  (a1 : Sl) (a2 : Int) (a3 : Option Ptr) (a4 : Int) (a5 : Option Ptr) (a6 : Int) (a7 : Int) (Q : Bool → Heap → Prop) (h : Heap), zf31.j28 U  a1 a2 a3 a4 a5 a6 a7 Q h = pts (zf31.E U Q []) 3000 true (atPos (posC zf31.code []) 28) (frAt [0, 1, 9, 10, 18, 21, 22] [.sl a1, .int .i64 a2, .ptr a3, .int .i64 a4, .ptr a5, .int .i64 a6, .int .u64 a7]) h := by
  intros; kernel_rfl

theorem zf31.s28 {W0 : World} {U : Ifc} (hU : IfcOK sg W0 glsT U) (Q : Bool → Heap → Prop)   : CutOK sg W0 212 (entered 4) (Post sg W0 (zf31.ret Q)) (posC zf31.code []) 28 [0, 1, 9, 10, 18, 21, 22] (zf31.k28 (fun a1 a2 a3 a4 a5 a6 a7 h => zf31.j28 U  a1 a2 a3 a4 a5 a6 a7 Q h)) := by
  refine cutOK_head (fun vs h hk => ?_)
  unfold zf31.k28 at hk
  split at hk
  · rename_i a1 a2 a3 a4 a5 a6 a7
    intro todo hm ρ a w s f hp
    exact piece (E := zf31.E U Q []) (vs := [.sl a1, .int .i64 a2, .ptr a3, .int .i64 a4, .ptr a5, .int .i64 a6, .int .u64 a7]) (envOK seatOK (zf31.callsOK hU) hU) (fnOK seatOK zf31.fun) trivial zf31.p28 (fuel := 3000) (by rw [← zf31.e28]; exact hk) hm s f hp
  · exact hk.elim

theorem zf31.p22 : (posC zf31.code []).filter (fun p => Nat.beq p.1 22) = [(22, atPos (posC zf31.code []) 22)] := by kernel_rfl

theorem zf31.e22 : ∀ (U : Ifc)  (a1 : Sl) (a2 : Int) (a3 : Bool) (a4 : Option Ptr) (a5 : Option Ptr) (a6 : Option Ptr) (Q : Bool → Heap → Prop) (h : Heap), zf31.j22 U  a1 a2 a3 a4 a5 a6 Q h = pts (zf31.E U Q [(28, ([0, 1, 9, 10, 18, 21, 22], zf31.k28 (fun a1 a2 a3 a4 a5 a6 a7 h => zf31.j28 U  a1 a2 a3 a4 a5 a6 a7 Q h)))]) 3000 true (atPos (posC zf31.code []) 22) (frAt [0, 1, 2, 9, 15, 18] [.sl a1, .int .i64 a2, .bool a3, .ptr a4, .ptr a5, .ptr a6]) h := by
  intros; kernel_rfl

theorem zf31.s22 {W0 : World} {U : Ifc} (hU : IfcOK sg W0 glsT U) (Q : Bool → Heap → Prop)   : CutOK sg W0 212 (entered 4) (Post sg W0 (zf31.ret Q)) (posC zf31.code []) 22 [0, 1, 2, 9, 15, 18] (zf31.k22 (fun a1 a2 a3 a4 a5 a6 h => zf31.j22 U  a1 a2 a3 a4 a5 a6 Q h)) := by
  refine cutOK_head (fun vs h hk => ?_)
  unfold zf31.k22 at hk
  split at hk
  · rename_i a1 a2 a3 a4 a5 a6
    intro todo hm ρ a w s f hp
    exact piece (E := zf31.E U Q [(28, ([0, 1, 9, 10, 18, 21, 22], zf31.k28 (fun a1 a2 a3 a4 a5 a6 a7 h => zf31.j28 U  a1 a2 a3 a4 a5 a6 a7 Q h)))]) (vs := [.sl a1, .int .i64 a2, .bool a3, .ptr a4, .ptr a5, .ptr a6]) (envOK seatOK (zf31.callsOK hU) hU) (fnOK seatOK zf31.fun) ⟨(zf31.s28 hU Q  ), trivial⟩ zf31.p22 (fuel := 3000) (by rw [← zf31.e22]; exact hk) hm s f hp
  · exact hk.elim

theorem zf31.p16 : (posC zf31.code []).filter (fun p => Nat.beq p.1 16) = [(16, atPos (posC zf31.code []) 16)] := by kernel_rfl

theorem zf31.e16 : ∀ (U : Ifc)  (a1 : Sl) (a2 : Int) (a3 : Bool) (a4 : Option Ptr) (a5 : Option Ptr) (a6 : Option Ptr) (a7 : Option Ptr) (a8 : Option Ptr) (Q : Bool → Heap → Prop) (h : Heap), zf31.j16 U  a1 a2 a3 a4 a5 a6 a7 a8 Q h = pts (zf31.E U Q [(21, ([], zf31.k21 (fun  h => zf31.j21 U   Q h))), (22, ([0, 1, 2, 9, 15, 18], zf31.k22 (fun a1 a2 a3 a4 a5 a6 h => zf31.j22 U  a1 a2 a3 a4 a5 a6 Q h)))]) 3000 true (atPos (posC zf31.code []) 16) (frAt [0, 1, 2, 9, 13, 15, 17, 18] [.sl a1, .int .i64 a2, .bool a3, .ptr a4, .ptr a5, .ptr a6, .ptr a7, .ptr a8]) h := by
  intros; kernel_rfl

theorem zf31.s16 {W0 : World} {U : Ifc} (hU : IfcOK sg W0 glsT U) (Q : Bool → Heap → Prop)   : CutOK sg W0 212 (entered 4) (Post sg W0 (zf31.ret Q)) (posC zf31.code []) 16 [0, 1, 2, 9, 13, 15, 17, 18] (zf31.k16 (fun a1 a2 a3 a4 a5 a6 a7 a8 h => zf31.j16 U  a1 a2 a3 a4 a5 a6 a7 a8 Q h)) := by
  refine cutOK_head (fun vs h hk => ?_)
  unfold zf31.k16 at hk
  split at hk
  · rename_i a1 a2 a3 a4 a5 a6 a7 a8
    intro todo hm ρ a w s f hp
    exact piece (E := zf31.E U Q [(21, ([], zf31.k21 (fun  h => zf31.j21 U   Q h))), (22, ([0, 1, 2, 9, 15, 18], zf31.k22 (fun a1 a2 a3 a4 a5 a6 h => zf31.j22 U  a1 a2 a3 a4 a5 a6 Q h)))]) (vs := [.sl a1, .int .i64 a2, .bool a3, .ptr a4, .ptr a5, .ptr a6, .ptr a7, .ptr a8]) (envOK seatOK (zf31.callsOK hU) hU) (fnOK seatOK zf31.fun) ⟨(zf31.s21 hU Q  ), (zf31.s22 hU Q  ), trivial⟩ zf31.p16 (fuel := 3000) (by rw [← zf31.e16]; exact hk) hm s f hp
  · exact hk.elim

theorem zf31.p13 : (posC zf31.code []).filter (fun p => Nat.beq p.1 13) = [(13, atPos (posC zf31.code []) 13)] := by kernel_rfl

theorem zf31.e13 : ∀ (U : Ifc)  (a1 : Sl) (a2 : Int) (a3 : Bool) (a4 : Option Ptr) (a5 : Option Ptr) (a6 : Option Ptr) (a7 : Int) (a8 : Option Ptr) (a9 : Int) (Q : Bool → Heap → Prop) (h : Heap), zf31.j13 U  a1 a2 a3 a4 a5 a6 a7 a8 a9 Q h = pts (zf31.E U Q [(14, ([], zf31.k14 (fun  h => zf31.j14 U   Q h))), (16, ([0, 1, 2, 9, 13, 15, 17, 18], zf31.k16 (fun a1 a2 a3 a4 a5 a6 a7 a8 h => zf31.j16 U  a1 a2 a3 a4 a5 a6 a7 a8 Q h)))]) 3000 true (atPos (posC zf31.code []) 13) (frAt [0, 1, 2, 7, 9, 13, 14, 15, 16] [.sl a1, .int .i64 a2, .bool a3, .ptr a4, .ptr a5, .ptr a6, .int .i64 a7, .ptr a8, .int .i64 a9]) h := by
  intros; kernel_rfl

theorem zf31.s13 {W0 : World} {U : Ifc} (hU : IfcOK sg W0 glsT U) (Q : Bool → Heap → Prop)   : CutOK sg W0 212 (entered 4) (Post sg W0 (zf31.ret Q)) (posC zf31.code []) 13 [0, 1, 2, 7, 9, 13, 14, 15, 16] (zf31.k13 (fun a1 a2 a3 a4 a5 a6 a7 a8 a9 h => zf31.j13 U  a1 a2 a3 a4 a5 a6 a7 a8 a9 Q h)) := by
  refine cutOK_head (fun vs h hk => ?_)
  unfold zf31.k13 at hk
  split at hk
  · rename_i a1 a2 a3 a4 a5 a6 a7 a8 a9
    intro todo hm ρ a w s f hp
    exact piece (E := zf31.E U Q [(14, ([], zf31.k14 (fun  h => zf31.j14 U   Q h))), (16, ([0, 1, 2, 9, 13, 15, 17, 18], zf31.k16 (fun a1 a2 a3 a4 a5 a6 a7 a8 h => zf31.j16 U  a1 a2 a3 a4 a5 a6 a7 a8 Q h)))]) (vs := [.sl a1, .int .i64 a2, .bool a3, .ptr a4, .ptr a5, .ptr a6, .int .i64 a7, .ptr a8, .int .i64 a9]) (envOK seatOK (zf31.callsOK hU) hU) (fnOK seatOK zf31.fun) ⟨(zf31.s14 hU Q  ), (zf31.s16 hU Q  ), trivial⟩ zf31.p13 (fuel := 3000) (by rw [← zf31.e13]; exact hk) hm s f hp
  · exact hk.elim

theorem zf31.p10 : (posC zf31.code []).filter (fun p => Nat.beq p.1 10) = [(10, atPos (posC zf31.code []) 10)] := by kernel_rfl

theorem zf31.e10 : ∀ (U : Ifc)  (a1 : Sl) (a2 : Int) (a3 : Bool) (a4 : Option Ptr) (a5 : Option Ptr) (Q : Bool → Heap → Prop) (h : Heap), zf31.j10 U  a1 a2 a3 a4 a5 Q h = pts (zf31.E U Q [(13, ([0, 1, 2, 7, 9, 13, 14, 15, 16], zf31.k13 (fun a1 a2 a3 a4 a5 a6 a7 a8 a9 h => zf31.j13 U  a1 a2 a3 a4 a5 a6 a7 a8 a9 Q h)))]) 3000 true (atPos (posC zf31.code []) 10) (frAt [0, 1, 2, 7, 9] [.sl a1, .int .i64 a2, .bool a3, .ptr a4, .ptr a5]) h := by
  intros; kernel_rfl

theorem zf31.s10 {W0 : World} {U : Ifc} (hU : IfcOK sg W0 glsT U) (Q : Bool → Heap → Prop)   : CutOK sg W0 212 (entered 4) (Post sg W0 (zf31.ret Q)) (posC zf31.code []) 10 [0, 1, 2, 7, 9] (zf31.k10 (fun a1 a2 a3 a4 a5 h => zf31.j10 U  a1 a2 a3 a4 a5 Q h)) := by
  refine cutOK_head (fun vs h hk => ?_)
  unfold zf31.k10 at hk
  split at hk
  · rename_i a1 a2 a3 a4 a5
    intro todo hm ρ a w s f hp
    exact piece (E := zf31.E U Q [(13, ([0, 1, 2, 7, 9, 13, 14, 15, 16], zf31.k13 (fun a1 a2 a3 a4 a5 a6 a7 a8 a9 h => zf31.j13 U  a1 a2 a3 a4 a5 a6 a7 a8 a9 Q h)))]) (vs := [.sl a1, .int .i64 a2, .bool a3, .ptr a4, .ptr a5]) (envOK seatOK (zf31.callsOK hU) hU) (fnOK seatOK zf31.fun) ⟨(zf31.s13 hU Q  ), trivial⟩ zf31.p10 (fuel := 3000) (by rw [← zf31.e10]; exact hk) hm s f hp
  · exact hk.elim

theorem zf31.p5 : (posC zf31.code []).filter (fun p => Nat.beq p.1 5) = [(5, atPos (posC zf31.code []) 5)] := by kernel_rfl

theorem zf31.e5 : ∀ (U : Ifc)  (a1 : Sl) (a2 : Int) (a3 : Bool) (a4 : Option Ptr) (a5 : Sl) (Q : Bool → Heap → Prop) (h : Heap), zf31.j5 U  a1 a2 a3 a4 a5 Q h = pts (zf31.E U Q [(7, ([], zf31.k7 (fun  h => zf31.j7 U   Q h))), (10, ([0, 1, 2, 7, 9], zf31.k10 (fun a1 a2 a3 a4 a5 h => zf31.j10 U  a1 a2 a3 a4 a5 Q h)))]) 3000 true (atPos (posC zf31.code []) 5) (frAt [0, 1, 2, 7, 8] [.sl a1, .int .i64 a2, .bool a3, .ptr a4, .sl a5]) h := by
  intros; kernel_rfl

theorem zf31.s5 {W0 : World} {U : Ifc} (hU : IfcOK sg W0 glsT U) (Q : Bool → Heap → Prop)   : CutOK sg W0 212 (entered 4) (Post sg W0 (zf31.ret Q)) (posC zf31.code []) 5 [0, 1, 2, 7, 8] (zf31.k5 (fun a1 a2 a3 a4 a5 h => zf31.j5 U  a1 a2 a3 a4 a5 Q h)) := by
  refine cutOK_head (fun vs h hk => ?_)
  unfold zf31.k5 at hk
  split at hk
  · rename_i a1 a2 a3 a4 a5
    intro todo hm ρ a w s f hp
    exact piece (E := zf31.E U Q [(7, ([], zf31.k7 (fun  h => zf31.j7 U   Q h))), (10, ([0, 1, 2, 7, 9], zf31.k10 (fun a1 a2 a3 a4 a5 h => zf31.j10 U  a1 a2 a3 a4 a5 Q h)))]) (vs := [.sl a1, .int .i64 a2, .bool a3, .ptr a4, .sl a5]) (envOK seatOK (zf31.callsOK hU) hU) (fnOK seatOK zf31.fun) ⟨(zf31.s7 hU Q  ), (zf31.s10 hU Q  ), trivial⟩ zf31.p5 (fuel := 3000) (by rw [← zf31.e5]; exact hk) hm s f hp
  · exact hk.elim

theorem zf31.e : ∀ (U : Ifc) (a1 : Sl) (a2 : Int) (a3 : Bool) (Q : Bool → Heap → Prop) (h : Heap), zf31 U a1 a2 a3 Q h = pts (zf31.E U Q [(5, ([0, 1, 2, 7, 8], zf31.k5 (fun a1 a2 a3 a4 a5 h => zf31.j5 U  a1 a2 a3 a4 a5 Q h)))]) 3000 true [.code zf31.code] (frOf 0 [.sl a1, .int .i64 a2, .bool a3]) h := by
  intros; kernel_rfl

theorem zf31.S {W0 : World} {U : Ifc} (hU : IfcOK sg W0 glsT U) : FnS sg W0 356 (zf31.C U) := by
  intro vs κ h wv hx w s
  unfold zf31.C at hx
  split at hx
  · rename_i a1 a2 a3
    refine postImp (ret := zf31.ret (fun r1 h => κ (.bool r1) h)) (fun v h hr => by unfold zf31.ret at hr; split at hr; exact hr; exact hr.elim) ?_
    exact calls_of_pts (E := zf31.E U (fun r1 h => κ (.bool r1) h) [(5, ([0, 1, 2, 7, 8], zf31.k5 (fun a1 a2 a3 a4 a5 h => zf31.j5 U  a1 a2 a3 a4 a5 (fun r1 h => κ (.bool r1) h) h)))]) (envOK seatOK (zf31.callsOK hU) hU) seatOK.mixed zf31.fun (Nat.le_of_ble_eq_true rfl) wv (cutL_ok ⟨(zf31.s5 hU (fun r1 h => κ (.bool r1) h)), trivial⟩) s (fuel := 3000) (by rw [← zf31.e]; exact hx)
  · exact hx.elim

noncomputable def zf11.code : Code := Go.Proofs.Tryd.f36.body.getD .skip

theorem zf11.fun : Fun sg.P 36 27 [.tmp 6] zf11.code := mkFun Go.Proofs.Tryd.func36 (by kernel_rfl) (by kernel_rfl) (by kernel_rfl) (by kernel_rfl)

def zf11.ret (Q : Int → Heap → Prop) (v : V) (h : Heap) : Prop :=
  match v with
  | .int .i64 r1 => Q r1 h
  | _ => False

def zf11.C (U : Ifc) (vs : List V) (κ : V → Heap → Prop) (h : Heap) : Prop :=
  match vs with
  | [a1, .agg [.int .i64 a2, .sl a3], .int .u8 a4] => zf11 U a1 a2 a3 a4 (fun r1 h => κ (.int .i64 r1) h) h
  | _ => False

noncomputable def zf11.calls (U : Ifc) : List (Nat × (List V → (V → Heap → Prop) → Heap → Prop)) := []

noncomputable def zf11.E (U : Ifc) (Q : Int → Heap → Prop) (cuts : List (Nat × (List Nat × (List V → Heap → Prop)))) : Env := { tis := tisT, fns := fnsT, tys := tysT, gls := glsT, rts := rtsT, unk := [], nxt := [], calls := zf11.calls U, ifc := U, cuts := cuts, ret := zf11.ret Q, rets := [.tmp 6], n := 27 }

theorem zf11.callsOK {W0 : World} {U : Ifc} (hU : IfcOK sg W0 glsT U) : CallsOK sg W0 (zf11.calls U) := trivial

theorem zf11.e : ∀ (U : Ifc) (a1 : V) (a2 : Int) (a3 : Sl) (a4 : Int) (Q : Int → Heap → Prop) (h : Heap), zf11 U a1 a2 a3 a4 Q h = pts (zf11.E U Q []) 3000 true [.code zf11.code] (frOf 0 [a1, .agg [.int .i64 a2, .sl a3], .int .u8 a4]) h := by
  intros; kernel_rfl

theorem zf11.S {W0 : World} {U : Ifc} (hU : IfcOK sg W0 glsT U) : FnS sg W0 274 (zf11.C U) := by
  intro vs κ h wv hx w s
  unfold zf11.C at hx
  split at hx
  · rename_i a1 a2 a3 a4
    refine postImp (ret := zf11.ret (fun r1 h => κ (.int .i64 r1) h)) (fun v h hr => by unfold zf11.ret at hr; split at hr; exact hr; exact hr.elim) ?_
    exact calls_of_pts (E := zf11.E U (fun r1 h => κ (.int .i64 r1) h) []) (envOK seatOK (zf11.callsOK hU) hU) seatOK.mixed zf11.fun (Nat.le_of_ble_eq_true rfl) wv (cutL_ok trivial) s (fuel := 3000) (by rw [← zf11.e]; exact hx)
  · exact hx.elim

noncomputable def zf22.code : Code := Go.Proofs.Tryd.f40.body.getD .skip

theorem zf22.fun : Fun sg.P 40 11 [.tmp 2] zf22.code := mkFun Go.Proofs.Tryd.func40 (by kernel_rfl) (by kernel_rfl) (by kernel_rfl) (by kernel_rfl)

def zf22.ret (Q : Int → Heap → Prop) (v : V) (h : Heap) : Prop :=
  match v with
  | .int .i64 r1 => Q r1 h
  | _ => False

def zf22.C (vs : List V) (κ : V → Heap → Prop) (h : Heap) : Prop :=
  match vs with
  | [.ptr a1] => zf22 a1 (fun r1 h => κ (.int .i64 r1) h) h
  | _ => False

noncomputable def zf22.calls : List (Nat × (List V → (V → Heap → Prop) → Heap → Prop)) := [(31, zf26.C)]

noncomputable def zf22.E (Q : Int → Heap → Prop) (cuts : List (Nat × (List Nat × (List V → Heap → Prop)))) : Env := { tis := tisT, fns := fnsT, tys := tysT, gls := [], rts := rtsT, unk := [], nxt := [], calls := zf22.calls, ifc := noIfc, cuts := cuts, ret := zf22.ret Q, rets := [.tmp 2], n := 11 }

theorem zf22.callsOK {W0 : World} : CallsOK sg W0 zf22.calls := ⟨zf26.S, trivial⟩

theorem zf22.e : ∀ (a1 : Option Ptr) (Q : Int → Heap → Prop) (h : Heap), zf22 a1 Q h = pts (zf22.E Q []) 3000 true [.code zf22.code] (frOf 0 [.ptr a1]) h := by
  intros; kernel_rfl

theorem zf22.S {W0 : World} : FnS sg W0 55 zf22.C := by
  intro vs κ h wv hx w s
  unfold zf22.C at hx
  split at hx
  · rename_i a1
    refine postImp (ret := zf22.ret (fun r1 h => κ (.int .i64 r1) h)) (fun v h hr => by unfold zf22.ret at hr; split at hr; exact hr; exact hr.elim) ?_
    exact calls_of_pts (E := zf22.E (fun r1 h => κ (.int .i64 r1) h) []) (envOK seatOK zf22.callsOK noIfc_ok) seatOK.mixed zf22.fun (Nat.le_of_ble_eq_true rfl) wv (cutL_ok trivial) s (fuel := 3000) (by rw [← zf22.e]; exact hx)
  · exact hx.elim

noncomputable def zf9.code : Code := Go.Proofs.Tryd.f56.body.getD .skip

theorem zf9.fun : Fun sg.P 56 17 [.tmp 2] zf9.code := mkFun Go.Proofs.Tryd.func56 (by kernel_rfl) (by kernel_rfl) (by kernel_rfl) (by kernel_rfl)

def zf9.ret (Q : Int → Heap → Prop) (v : V) (h : Heap) : Prop :=
  match v with
  | .int .u64 r1 => Q r1 h
  | _ => False

def zf9.C (vs : List V) (κ : V → Heap → Prop) (h : Heap) : Prop :=
  match vs with
  | [.sl a1] => zf9 a1 (fun r1 h => κ (.int .u64 r1) h) h
  | _ => False

noncomputable def zf9.calls : List (Nat × (List V → (V → Heap → Prop) → Heap → Prop)) := []

noncomputable def zf9.E (Q : Int → Heap → Prop) (cuts : List (Nat × (List Nat × (List V → Heap → Prop)))) : Env := { tis := tisT, fns := fnsT, tys := tysT, gls := [], rts := rtsT, unk := [], nxt := [], calls := zf9.calls, ifc := noIfc, cuts := cuts, ret := zf9.ret Q, rets := [.tmp 2], n := 17 }

theorem zf9.callsOK {W0 : World} : CallsOK sg W0 zf9.calls := trivial

def zf9.k2 (I : Sl → Int → Int → Heap → Prop) (vs : List V) (h : Heap) : Prop :=
  match vs with
  | [.sl a1, .int .u64 a2, .int .i64 a3] => I a1 a2 a3 h
  | _ => False

theorem zf9.p2 : (posC zf9.code []).filter (fun p => Nat.beq p.1 2) = [(2, atPos (posC zf9.code []) 2)] := by kernel_rfl

theorem zf9.e2 : ∀  (I2 : Sl → Int → Int → Heap → Prop) (a1 : Sl) (a2 : Int) (a3 : Int) (Q : Int → Heap → Prop) (h : Heap), zf9.b2  I2 a1 a2 a3 Q h = pts (zf9.E Q [(2, ([0, 2, 3], zf9.k2 I2))]) 3000 true (atPos (posC zf9.code []) 2) (frAt [0, 2, 3] [.sl a1, .int .u64 a2, .int .i64 a3]) h := by
  intros; kernel_rfl

theorem zf9.s2 {W0 : World} (Q : Int → Heap → Prop)   : CutOK sg W0 17 (entered 56) (Post sg W0 (zf9.ret Q)) (posC zf9.code []) 2 [0, 2, 3] (zf9.k2 (fun a1 a2 a3 h => zf9.j2  a1 a2 a3 Q h)) := by
  refine cutOK_head (fun vs h hk => ?_)
  unfold zf9.k2 at hk
  split at hk
  · rename_i a1 a2 a3
    refine hk (fun a1 a2 a3 h => Head sg W0 17 (entered 56) (Post sg W0 (zf9.ret Q)) (posC zf9.code []) 2 [0, 2, 3] [.sl a1, .int .u64 a2, .int .i64 a3] h) ?_
    intro a1 a2 a3 h hb todo hm ρ a w s f hp
    have hself : CutOK sg W0 17 (entered 56) (Post sg W0 (zf9.ret Q)) (posC zf9.code []) 2 [0, 2, 3] (zf9.k2 (fun a1 a2 a3 h => Head sg W0 17 (entered 56) (Post sg W0 (zf9.ret Q)) (posC zf9.code []) 2 [0, 2, 3] [.sl a1, .int .u64 a2, .int .i64 a3] h)) := cutOK_head (fun vs h hk => by unfold zf9.k2 at hk; split at hk; exact hk; exact hk.elim)
    exact piece (E := zf9.E Q [(2, ([0, 2, 3], zf9.k2 (fun a1 a2 a3 h => Head sg W0 17 (entered 56) (Post sg W0 (zf9.ret Q)) (posC zf9.code []) 2 [0, 2, 3] [.sl a1, .int .u64 a2, .int .i64 a3] h)))]) (vs := [.sl a1, .int .u64 a2, .int .i64 a3]) (envOK seatOK zf9.callsOK noIfc_ok) (fnOK seatOK zf9.fun) ⟨hself, trivial⟩ zf9.p2 (fuel := 3000) (by rw [← zf9.e2]; exact hb) hm s f hp
  · exact hk.elim

theorem zf9.e : ∀ (a1 : Sl) (Q : Int → Heap → Prop) (h : Heap), zf9 a1 Q h = pts (zf9.E Q [(2, ([0, 2, 3], zf9.k2 (fun a1 a2 a3 h => zf9.j2  a1 a2 a3 Q h)))]) 3000 true [.code zf9.code] (frOf 0 [.sl a1]) h := by
  intros; kernel_rfl

theorem zf9.S {W0 : World} : FnS sg W0 267 zf9.C := by
  intro vs κ h wv hx w s
  unfold zf9.C at hx
  split at hx
  · rename_i a1
    refine postImp (ret := zf9.ret (fun r1 h => κ (.int .u64 r1) h)) (fun v h hr => by unfold zf9.ret at hr; split at hr; exact hr; exact hr.elim) ?_
    exact calls_of_pts (E := zf9.E (fun r1 h => κ (.int .u64 r1) h) [(2, ([0, 2, 3], zf9.k2 (fun a1 a2 a3 h => zf9.j2  a1 a2 a3 (fun r1 h => κ (.int .u64 r1) h) h)))]) (envOK seatOK zf9.callsOK noIfc_ok) seatOK.mixed zf9.fun (Nat.le_of_ble_eq_true rfl) wv (cutL_ok ⟨(zf9.s2 (fun r1 h => κ (.int .u64 r1) h)), trivial⟩) s (fuel := 3000) (by rw [← zf9.e]; exact hx)
  · exact hx.elim

noncomputable def zf33.code : Code := Go.Proofs.Tryd.f104.body.getD .skip

theorem zf33.fun : Fun sg.P 104 24 [.tmp 6, .tmp 7] zf33.code := mkFun Go.Proofs.Tryd.func104 (by kernel_rfl) (by kernel_rfl) (by kernel_rfl) (by kernel_rfl)

def zf33.ret (Q : Int → Bool → Heap → Prop) (v : V) (h : Heap) : Prop :=
  match v with
  | .tup [.int .i64 r1, .bool r2] => Q r1 r2 h
  | _ => False

def zf33.C (vs : List V) (κ : V → Heap → Prop) (h : Heap) : Prop :=
  match vs with
  | [.ptr a1, .int .i64 a2, .bool a3] => zf33 a1 a2 a3 (fun r1 r2 h => κ (.tup [.int .i64 r1, .bool r2]) h) h
  | _ => False

noncomputable def zf33.calls : List (Nat × (List V → (V → Heap → Prop) → Heap → Prop)) := []

noncomputable def zf33.E (Q : Int → Bool → Heap → Prop) (cuts : List (Nat × (List Nat × (List V → Heap → Prop)))) : Env := { tis := tisT, fns := fnsT, tys := tysT, gls := [], rts := rtsT, unk := [], nxt := [], calls := zf33.calls, ifc := noIfc, cuts := cuts, ret := zf33.ret Q, rets := [.tmp 6, .tmp 7], n := 24 }

theorem zf33.callsOK {W0 : World} : CallsOK sg W0 zf33.calls := trivial

theorem zf33.e : ∀ (a1 : Option Ptr) (a2 : Int) (a3 : Bool) (Q : Int → Bool → Heap → Prop) (h : Heap), zf33 a1 a2 a3 Q h = pts (zf33.E Q []) 3000 true [.code zf33.code] (frOf 0 [.ptr a1, .int .i64 a2, .bool a3]) h := by
  intros; kernel_rfl

theorem zf33.S {W0 : World} : FnS sg W0 296 zf33.C := by
  intro vs κ h wv hx w s
  unfold zf33.C at hx
  split at hx
  · rename_i a1 a2 a3
    refine postImp (ret := zf33.ret (fun r1 r2 h => κ (.tup [.int .i64 r1, .bool r2]) h)) (fun v h hr => by unfold zf33.ret at hr; split at hr; exact hr; exact hr.elim) ?_
    exact calls_of_pts (E := zf33.E (fun r1 r2 h => κ (.tup [.int .i64 r1, .bool r2]) h) []) (envOK seatOK zf33.callsOK noIfc_ok) seatOK.mixed zf33.fun (Nat.le_of_ble_eq_true rfl) wv (cutL_ok trivial) s (fuel := 3000) (by rw [← zf33.e]; exact hx)
  · exact hx.elim

noncomputable def zf8.code : Code := Go.Proofs.Tryd.f54.body.getD .skip

theorem zf8.fun : Fun sg.P 54 47 [.tmp 6, .tmp 7] zf8.code := mkFun Go.Proofs.Tryd.func54 (by kernel_rfl) (by kernel_rfl) (by kernel_rfl) (by kernel_rfl)

def zf8.ret (Q : Sl → Bool → Heap → Prop) (v : V) (h : Heap) : Prop :=
  match v with
  | .tup [.sl r1, .bool r2] => Q r1 r2 h
  | _ => False

def zf8.C (U : Ifc) (vs : List V) (κ : V → Heap → Prop) (h : Heap) : Prop :=
  match vs with
  | [a1, .agg [.int .i64 a2, .sl a3], .int .i64 a4] => zf8 U a1 a2 a3 a4 (fun r1 r2 h => κ (.tup [.sl r1, .bool r2]) h) h
  | _ => False

noncomputable def zf8.calls (U : Ifc) : List (Nat × (List V → (V → Heap → Prop) → Heap → Prop)) := []

noncomputable def zf8.E (U : Ifc) (Q : Sl → Bool → Heap → Prop) (cuts : List (Nat × (List Nat × (List V → Heap → Prop)))) : Env := { tis := tisT, fns := fnsT, tys := tysT, gls := glsT, rts := rtsT, unk := [], nxt := [], calls := zf8.calls U, ifc := U, cuts := cuts, ret := zf8.ret Q, rets := [.tmp 6, .tmp 7], n := 47 }

theorem zf8.callsOK {W0 : World} {U : Ifc} (hU : IfcOK sg W0 glsT U) : CallsOK sg W0 (zf8.calls U) := trivial

def zf8.k8 (I : Heap → Prop) (vs : List V) (h : Heap) : Prop :=
  match vs with
  | [] => I  h
  | _ => False

def zf8.k9 (I : V → Int → Sl → Sl → Sl → Int → Int → Heap → Prop) (vs : List V) (h : Heap) : Prop :=
  match vs with
  | [a1, .int .i64 a2, .sl a3, .sl a4, .sl a5, .int .i64 a6, .int .i64 a7] => I a1 a2 a3 a4 a5 a6 a7 h
  | _ => False

def zf8.k3 (I : V → Int → Sl → Sl → Int → Int → Heap → Prop) (vs : List V) (h : Heap) : Prop :=
  match vs with
  | [a1, .int .i64 a2, .sl a3, .sl a4, .int .i64 a5, .int .i64 a6] => I a1 a2 a3 a4 a5 a6 h
  | _ => False

theorem zf8.p8 : (posC zf8.code []).filter (fun p => Nat.beq p.1 8) = [(8, atPos (posC zf8.code []) 8)] := by kernel_rfl

theorem zf8.e8 : ∀ (U : Ifc) (I3 : V → Int → Sl → Sl → Int → Int → Heap → Prop)  (Q : Sl → Bool → Heap → Prop) (h : Heap), zf8.j8 U I3  Q h = pts (zf8.E U Q []) 3000 true (atPos (posC zf8.code []) 8) (frAt [] []) h := by
  intros; kernel_rfl

theorem zf8.s8 {W0 : World} {U : Ifc} (hU : IfcOK sg W0 glsT U) (Q : Sl → Bool → Heap → Prop) (I3 : V → Int → Sl → Sl → Int → Int → Heap → Prop) (h3 : CutOK sg W0 47 (entered 54) (Post sg W0 (zf8.ret Q)) (posC zf8.code []) 3 [0, 2, 8, 14, 15, 16] (zf8.k3 I3)) : CutOK sg W0 47 (entered 54) (Post sg W0 (zf8.ret Q)) (posC zf8.code []) 8 [] (zf8.k8 (fun  h => zf8.j8 U I3  Q h)) := by
  refine cutOK_head (fun vs h hk => ?_)
  unfold zf8.k8 at hk
  split at hk
  · skip
    intro todo hm ρ a w s f hp
    exact piece (E := zf8.E U Q []) (vs := []) (envOK seatOK (zf8.callsOK hU) hU) (fnOK seatOK zf8.fun) trivial zf8.p8 (fuel := 3000) (by rw [← zf8.e8]; exact hk) hm s f hp
  · exact hk.elim

theorem zf8.p9 : (posC zf8.code []).filter (fun p => Nat.beq p.1 9) = [(9, atPos (posC zf8.code []) 9)] := by kernel_rfl

theorem zf8.e9 : ∀ (U : Ifc) (I3 : V → Int → Sl → Sl → Int → Int → Heap → Prop) (a1 : V) (a2 : Int) (a3 : Sl) (a4 : Sl) (a5 : Sl) (a6 : Int) (a7 : Int) (Q : Sl → Bool → Heap → Prop) (h : Heap), zf8.j9 U I3 a1 a2 a3 a4 a5 a6 a7 Q h = pts (zf8.E U Q [(3, ([0, 2, 8, 14, 15, 16], zf8.k3 I3))]) 3000 true (atPos (posC zf8.code []) 9) (frAt [0, 2, 8, 11, 14, 15, 16] [a1, .int .i64 a2, .sl a3, .sl a4, .sl a5, .int .i64 a6, .int .i64 a7]) h := by
  intros; kernel_rfl

theorem zf8.s9 {W0 : World} {U : Ifc} (hU : IfcOK sg W0 glsT U) (Q : Sl → Bool → Heap → Prop) (I3 : V → Int → Sl → Sl → Int → Int → Heap → Prop) (h3 : CutOK sg W0 47 (entered 54) (Post sg W0 (zf8.ret Q)) (posC zf8.code []) 3 [0, 2, 8, 14, 15, 16] (zf8.k3 I3)) : CutOK sg W0 47 (entered 54) (Post sg W0 (zf8.ret Q)) (posC zf8.code []) 9 [0, 2, 8, 11, 14, 15, 16] (zf8.k9 (fun a1 a2 a3 a4 a5 a6 a7 h => zf8.j9 U I3 a1 a2 a3 a4 a5 a6 a7 Q h)) := by
  refine cutOK_head (fun vs h hk => ?_)
  unfold zf8.k9 at hk
  split at hk
  · rename_i a1 a2 a3 a4 a5 a6 a7
    intro todo hm ρ a w s f hp
    exact piece (E := zf8.E U Q [(3, ([0, 2, 8, 14, 15, 16], zf8.k3 I3))]) (vs := [a1, .int .i64 a2, .sl a3, .sl a4, .sl a5, .int .i64 a6, .int .i64 a7]) (envOK seatOK (zf8.callsOK hU) hU) (fnOK seatOK zf8.fun) ⟨h3, trivial⟩ zf8.p9 (fuel := 3000) (by rw [← zf8.e9]; exact hk) hm s f hp
  · exact hk.elim

theorem zf8.p3 : (posC zf8.code []).filter (fun p => Nat.beq p.1 3) = [(3, atPos (posC zf8.code []) 3)] := by kernel_rfl

theorem zf8.e3 : ∀ (U : Ifc)  (I3 : V → Int → Sl → Sl → Int → Int → Heap → Prop) (a1 : V) (a2 : Int) (a3 : Sl) (a4 : Sl) (a5 : Int) (a6 : Int) (Q : Sl → Bool → Heap → Prop) (h : Heap), zf8.b3 U  I3 a1 a2 a3 a4 a5 a6 Q h = pts (zf8.E U Q [(3, ([0, 2, 8, 14, 15, 16], zf8.k3 I3)), (8, ([], zf8.k8 (fun  h => zf8.j8 U I3  Q h))), (9, ([0, 2, 8, 11, 14, 15, 16], zf8.k9 (fun a1 a2 a3 a4 a5 a6 a7 h => zf8.j9 U I3 a1 a2 a3 a4 a5 a6 a7 Q h)))]) 3000 true (atPos (posC zf8.code []) 3) (frAt [0, 2, 8, 14, 15, 16] [a1, .int .i64 a2, .sl a3, .sl a4, .int .i64 a5, .int .i64 a6]) h := by
  intros; kernel_rfl

theorem zf8.s3 {W0 : World} {U : Ifc} (hU : IfcOK sg W0 glsT U) (Q : Sl → Bool → Heap → Prop)   : CutOK sg W0 47 (entered 54) (Post sg W0 (zf8.ret Q)) (posC zf8.code []) 3 [0, 2, 8, 14, 15, 16] (zf8.k3 (fun a1 a2 a3 a4 a5 a6 h => zf8.j3 U  a1 a2 a3 a4 a5 a6 Q h)) := by
  refine cutOK_head (fun vs h hk => ?_)
  unfold zf8.k3 at hk
  split at hk
  · rename_i a1 a2 a3 a4 a5 a6
    refine hk (fun a1 a2 a3 a4 a5 a6 h => Head sg W0 47 (entered 54) (Post sg W0 (zf8.ret Q)) (posC zf8.code []) 3 [0, 2, 8, 14, 15, 16] [a1, .int .i64 a2, .sl a3, .sl a4, .int .i64 a5, .int .i64 a6] h) ?_
    intro a1 a2 a3 a4 a5 a6 h hb todo hm ρ a w s f hp
    have hself : CutOK sg W0 47 (entered 54) (Post sg W0 (zf8.ret Q)) (posC zf8.code []) 3 [0, 2, 8, 14, 15, 16] (zf8.k3 (fun a1 a2 a3 a4 a5 a6 h => Head sg W0 47 (entered 54) (Post sg W0 (zf8.ret Q)) (posC zf8.code []) 3 [0, 2, 8, 14, 15, 16] [a1, .int .i64 a2, .sl a3, .sl a4, .int .i64 a5, .int .i64 a6] h)) := cutOK_head (fun vs h hk => by unfold zf8.k3 at hk; split at hk; exact hk; exact hk.elim)
    exact piece (E := zf8.E U Q [(3, ([0, 2, 8, 14, 15, 16], zf8.k3 (fun a1 a2 a3 a4 a5 a6 h => Head sg W0 47 (entered 54) (Post sg W0 (zf8.ret Q)) (posC zf8.code []) 3 [0, 2, 8, 14, 15, 16] [a1, .int .i64 a2, .sl a3, .sl a4, .int .i64 a5, .int .i64 a6] h))), (8, ([], zf8.k8 (fun  h => zf8.j8 U (fun a1 a2 a3 a4 a5 a6 h => Head sg W0 47 (entered 54) (Post sg W0 (zf8.ret Q)) (posC zf8.code []) 3 [0, 2, 8, 14, 15, 16] [a1, .int .i64 a2, .sl a3, .sl a4, .int .i64 a5, .int .i64 a6] h)  Q h))), (9, ([0, 2, 8, 11, 14, 15, 16], zf8.k9 (fun a1 a2 a3 a4 a5 a6 a7 h => zf8.j9 U (fun a1 a2 a3 a4 a5 a6 h => Head sg W0 47 (entered 54) (Post sg W0 (zf8.ret Q)) (posC zf8.code []) 3 [0, 2, 8, 14, 15, 16] [a1, .int .i64 a2, .sl a3, .sl a4, .int .i64 a5, .int .i64 a6] h) a1 a2 a3 a4 a5 a6 a7 Q h)))]) (vs := [a1, .int .i64 a2, .sl a3, .sl a4, .int .i64 a5, .int .i64 a6]) (envOK seatOK (zf8.callsOK hU) hU) (fnOK seatOK zf8.fun) ⟨hself, (zf8.s8 hU Q (fun a1 a2 a3 a4 a5 a6 h => Head sg W0 47 (entered 54) (Post sg W0 (zf8.ret Q)) (posC zf8.code []) 3 [0, 2, 8, 14, 15, 16] [a1, .int .i64 a2, .sl a3, .sl a4, .int .i64 a5, .int .i64 a6] h) hself), (zf8.s9 hU Q (fun a1 a2 a3 a4 a5 a6 h => Head sg W0 47 (entered 54) (Post sg W0 (zf8.ret Q)) (posC zf8.code []) 3 [0, 2, 8, 14, 15, 16] [a1, .int .i64 a2, .sl a3, .sl a4, .int .i64 a5, .int .i64 a6] h) hself), trivial⟩ zf8.p3 (fuel := 3000) (by rw [← zf8.e3]; exact hb) hm s f hp
  · exact hk.elim

theorem zf8.e : ∀ (U : Ifc) (a1 : V) (a2 : Int) (a3 : Sl) (a4 : Int) (Q : Sl → Bool → Heap → Prop) (h : Heap), zf8 U a1 a2 a3 a4 Q h = pts (zf8.E U Q [(3, ([0, 2, 8, 14, 15, 16], zf8.k3 (fun a1 a2 a3 a4 a5 a6 h => zf8.j3 U  a1 a2 a3 a4 a5 a6 Q h)))]) 3000 true [.code zf8.code] (frOf 0 [a1, .agg [.int .i64 a2, .sl a3], .int .i64 a4]) h := by
  intros; kernel_rfl

theorem zf8.S {W0 : World} {U : Ifc} (hU : IfcOK sg W0 glsT U) : FnS sg W0 287 (zf8.C U) := by
  intro vs κ h wv hx w s
  unfold zf8.C at hx
  split at hx
  · rename_i a1 a2 a3 a4
    refine postImp (ret := zf8.ret (fun r1 r2 h => κ (.tup [.sl r1, .bool r2]) h)) (fun v h hr => by unfold zf8.ret at hr; split at hr; exact hr; exact hr.elim) ?_
    exact calls_of_pts (E := zf8.E U (fun r1 r2 h => κ (.tup [.sl r1, .bool r2]) h) [(3, ([0, 2, 8, 14, 15, 16], zf8.k3 (fun a1 a2 a3 a4 a5 a6 h => zf8.j3 U  a1 a2 a3 a4 a5 a6 (fun r1 r2 h => κ (.tup [.sl r1, .bool r2]) h) h)))]) (envOK seatOK (zf8.callsOK hU) hU) seatOK.mixed zf8.fun (Nat.le_of_ble_eq_true rfl) wv (cutL_ok ⟨(zf8.s3 hU (fun r1 r2 h => κ (.tup [.sl r1, .bool r2]) h)), trivial⟩) s (fuel := 3000) (by rw [← zf8.e]; exact hx)
  · exact hx.elim

noncomputable def zf48.code : Code := Go.Proofs.Tryd.f75.body.getD .skip

theorem zf48.fun : Fun sg.P 75 8 [.tmp 2] zf48.code := mkFun Go.Proofs.Tryd.func75 (by kernel_rfl) (by kernel_rfl) (by kernel_rfl) (by kernel_rfl)

def zf48.ret (Q : Sl → Heap → Prop) (v : V) (h : Heap) : Prop :=
  match v with
  | .sl r1 => Q r1 h
  | _ => False

def zf48.C (vs : List V) (κ : V → Heap → Prop) (h : Heap) : Prop :=
  match vs with
  | [.sl a1] => zf48 a1 (fun r1 h => κ (.sl r1) h) h
  | _ => False

noncomputable def zf48.calls : List (Nat × (List V → (V → Heap → Prop) → Heap → Prop)) := []

noncomputable def zf48.E (Q : Sl → Heap → Prop) (cuts : List (Nat × (List Nat × (List V → Heap → Prop)))) : Env := { tis := tisT, fns := fnsT, tys := tysT, gls := [], rts := rtsT, unk := [], nxt := [], calls := zf48.calls, ifc := noIfc, cuts := cuts, ret := zf48.ret Q, rets := [.tmp 2], n := 8 }

theorem zf48.callsOK {W0 : World} : CallsOK sg W0 zf48.calls := trivial

theorem zf48.e : ∀ (a1 : Sl) (Q : Sl → Heap → Prop) (h : Heap), zf48 a1 Q h = pts (zf48.E Q []) 3000 true [.code zf48.code] (frOf 0 [.sl a1]) h := by
  intros; kernel_rfl

theorem zf48.S {W0 : World} : FnS sg W0 58 zf48.C := by
  intro vs κ h wv hx w s
  unfold zf48.C at hx
  split at hx
  · rename_i a1
    refine postImp (ret := zf48.ret (fun r1 h => κ (.sl r1) h)) (fun v h hr => by unfold zf48.ret at hr; split at hr; exact hr; exact hr.elim) ?_
    exact calls_of_pts (E := zf48.E (fun r1 h => κ (.sl r1) h) []) (envOK seatOK zf48.callsOK noIfc_ok) seatOK.mixed zf48.fun (Nat.le_of_ble_eq_true rfl) wv (cutL_ok trivial) s (fuel := 3000) (by rw [← zf48.e]; exact hx)
  · exact hx.elim

noncomputable def zf55.code : Code := Go.Proofs.Tryd.f81.body.getD .skip

theorem zf55.fun : Fun sg.P 81 23 [.tmp 8] zf55.code := mkFun Go.Proofs.Tryd.func81 (by kernel_rfl) (by kernel_rfl) (by kernel_rfl) (by kernel_rfl)

def zf55.ret (Q : Bool → Heap → Prop) (v : V) (h : Heap) : Prop :=
  match v with
  | .bool r1 => Q r1 h
  | _ => False

def zf55.C (vs : List V) (κ : V → Heap → Prop) (h : Heap) : Prop :=
  match vs with
  | [.ptr a1, .int .i64 a2, .int .i64 a3, .sl a4] => zf55 a1 a2 a3 a4 (fun r1 h => κ (.bool r1) h) h
  | _ => False

noncomputable def zf55.calls : List (Nat × (List V → (V → Heap → Prop) → Heap → Prop)) := [(58, zf48.C)]

noncomputable def zf55.E (Q : Bool → Heap → Prop) (cuts : List (Nat × (List Nat × (List V → Heap → Prop)))) : Env := { tis := tisT, fns := fnsT, tys := tysT, gls := [], rts := rtsT, unk := [], nxt := [], calls := zf55.calls, ifc := noIfc, cuts := cuts, ret := zf55.ret Q, rets := [.tmp 8], n := 23 }

theorem zf55.callsOK {W0 : World} : CallsOK sg W0 zf55.calls := ⟨zf48.S, trivial⟩

theorem zf55.e : ∀ (a1 : Option Ptr) (a2 : Int) (a3 : Int) (a4 : Sl) (Q : Bool → Heap → Prop) (h : Heap), zf55 a1 a2 a3 a4 Q h = pts (zf55.E Q []) 3000 true [.code zf55.code] (frOf 0 [.ptr a1, .int .i64 a2, .int .i64 a3, .sl a4]) h := by
  intros; kernel_rfl

theorem zf55.S {W0 : World} : FnS sg W0 288 zf55.C := by
  intro vs κ h wv hx w s
  unfold zf55.C at hx
  split at hx
  · rename_i a1 a2 a3 a4
    refine postImp (ret := zf55.ret (fun r1 h => κ (.bool r1) h)) (fun v h hr => by unfold zf55.ret at hr; split at hr; exact hr; exact hr.elim) ?_
    exact calls_of_pts (E := zf55.E (fun r1 h => κ (.bool r1) h) []) (envOK seatOK zf55.callsOK noIfc_ok) seatOK.mixed zf55.fun (Nat.le_of_ble_eq_true rfl) wv (cutL_ok trivial) s (fuel := 3000) (by rw [← zf55.e]; exact hx)
  · exact hx.elim

noncomputable def zf54.code : Code := Go.Proofs.Tryd.f80.body.getD .skip

theorem zf54.fun : Fun sg.P 80 48 [.tmp 6] zf54.code := mkFun Go.Proofs.Tryd.func80 (by kernel_rfl) (by kernel_rfl) (by kernel_rfl) (by kernel_rfl)

def zf54.ret (Q : Int → Heap → Prop) (v : V) (h : Heap) : Prop :=
  match v with
  | .int .i64 r1 => Q r1 h
  | _ => False

def zf54.C (vs : List V) (κ : V → Heap → Prop) (h : Heap) : Prop :=
  match vs with
  | [.ptr a1, .int .i64 a2, .sl a3] => zf54 a1 a2 a3 (fun r1 h => κ (.int .i64 r1) h) h
  | _ => False

noncomputable def zf54.calls : List (Nat × (List V → (V → Heap → Prop) → Heap → Prop)) := [(288, zf55.C)]

noncomputable def zf54.E (Q : Int → Heap → Prop) (cuts : List (Nat × (List Nat × (List V → Heap → Prop)))) : Env := { tis := tisT, fns := fnsT, tys := tysT, gls := [], rts := rtsT, unk := [], nxt := [], calls := zf54.calls, ifc := noIfc, cuts := cuts, ret := zf54.ret Q, rets := [.tmp 6], n := 48 }

theorem zf54.callsOK {W0 : World} : CallsOK sg W0 zf54.calls := ⟨zf55.S, trivial⟩

def zf54.k7 (I : (Option Ptr) → Int → Sl → Int → Int → Int → Heap → Prop) (vs : List V) (h : Heap) : Prop :=
  match vs with
  | [.ptr a1, .int .i64 a2, .sl a3, .int .i64 a4, .int .i64 a5, .int .i64 a6] => I a1 a2 a3 a4 a5 a6 h
  | _ => False

def zf54.k6 (I : (Option Ptr) → Int → Sl → Int → Int → Int → Heap → Prop) (vs : List V) (h : Heap) : Prop :=
  match vs with
  | [.ptr a1, .int .i64 a2, .sl a3, .int .i64 a4, .int .i64 a5, .int .i64 a6] => I a1 a2 a3 a4 a5 a6 h
  | _ => False

def zf54.k3 (I : (Option Ptr) → Int → Sl → Int → Int → Int → Heap → Prop) (vs : List V) (h : Heap) : Prop :=
  match vs with
  | [.ptr a1, .int .i64 a2, .sl a3, .int .i64 a4, .int .i64 a5, .int .i64 a6] => I a1 a2 a3 a4 a5 a6 h
  | _ => False

theorem zf54.p7 : (posC zf54.code []).filter (fun p => Nat.beq p.1 7) = [(7, atPos (posC zf54.code []) 7)] := by kernel_rfl

theorem zf54.e7 : ∀ (I3 : (Option Ptr) → Int → Sl → Int → Int → Int → Heap → Prop) (a1 : Option Ptr) (a2 : Int) (a3 : Sl) (a4 : Int) (a5 : Int) (a6 : Int) (Q : Int → Heap → Prop) (h : Heap), zf54.j7 I3 a1 a2 a3 a4 a5 a6 Q h = pts (zf54.E Q [(3, ([0, 1, 2, 7, 13, 14], zf54.k3 I3))]) 3000 true (atPos (posC zf54.code []) 7) (frAt [0, 1, 2, 7, 13, 14] [.ptr a1, .int .i64 a2, .sl a3, .int .i64 a4, .int .i64 a5, .int .i64 a6]) h := by
  intros; kernel_rfl

theorem zf54.s7 {W0 : World} (Q : Int → Heap → Prop) (I3 : (Option Ptr) → Int → Sl → Int → Int → Int → Heap → Prop) (h3 : CutOK sg W0 48 (entered 80) (Post sg W0 (zf54.ret Q)) (posC zf54.code []) 3 [0, 1, 2, 7, 13, 14] (zf54.k3 I3)) : CutOK sg W0 48 (entered 80) (Post sg W0 (zf54.ret Q)) (posC zf54.code []) 7 [0, 1, 2, 7, 13, 14] (zf54.k7 (fun a1 a2 a3 a4 a5 a6 h => zf54.j7 I3 a1 a2 a3 a4 a5 a6 Q h)) := by
  refine cutOK_head (fun vs h hk => ?_)
  unfold zf54.k7 at hk
  split at hk
  · rename_i a1 a2 a3 a4 a5 a6
    intro todo hm ρ a w s f hp
    exact piece (E := zf54.E Q [(3, ([0, 1, 2, 7, 13, 14], zf54.k3 I3))]) (vs := [.ptr a1, .int .i64 a2, .sl a3, .int .i64 a4, .int .i64 a5, .int .i64 a6]) (envOK seatOK zf54.callsOK noIfc_ok) (fnOK seatOK zf54.fun) ⟨h3, trivial⟩ zf54.p7 (fuel := 3000) (by rw [← zf54.e7]; exact hk) hm s f hp
  · exact hk.elim

theorem zf54.p6 : (posC zf54.code []).filter (fun p => Nat.beq p.1 6) = [(6, atPos (posC zf54.code []) 6)] := by kernel_rfl

theorem zf54.e6 : ∀ (I3 : (Option Ptr) → Int → Sl → Int → Int → Int → Heap → Prop) (a1 : Option Ptr) (a2 : Int) (a3 : Sl) (a4 : Int) (a5 : Int) (a6 : Int) (Q : Int → Heap → Prop) (h : Heap), zf54.j6 I3 a1 a2 a3 a4 a5 a6 Q h = pts (zf54.E Q [(7, ([0, 1, 2, 7, 13, 14], zf54.k7 (fun a1 a2 a3 a4 a5 a6 h => zf54.j7 I3 a1 a2 a3 a4 a5 a6 Q h)))]) 3000 true (atPos (posC zf54.code []) 6) (frAt [0, 1, 2, 7, 13, 14] [.ptr a1, .int .i64 a2, .sl a3, .int .i64 a4, .int .i64 a5, .int .i64 a6]) h := by
  intros; kernel_rfl

theorem zf54.s6 {W0 : World} (Q : Int → Heap → Prop) (I3 : (Option Ptr) → Int → Sl → Int → Int → Int → Heap → Prop) (h3 : CutOK sg W0 48 (entered 80) (Post sg W0 (zf54.ret Q)) (posC zf54.code []) 3 [0, 1, 2, 7, 13, 14] (zf54.k3 I3)) : CutOK sg W0 48 (entered 80) (Post sg W0 (zf54.ret Q)) (posC zf54.code []) 6 [0, 1, 2, 7, 13, 14] (zf54.k6 (fun a1 a2 a3 a4 a5 a6 h => zf54.j6 I3 a1 a2 a3 a4 a5 a6 Q h)) := by
  refine cutOK_head (fun vs h hk => ?_)
  unfold zf54.k6 at hk
  split at hk
  · rename_i a1 a2 a3 a4 a5 a6
    intro todo hm ρ a w s f hp
    exact piece (E := zf54.E Q [(7, ([0, 1, 2, 7, 13, 14], zf54.k7 (fun a1 a2 a3 a4 a5 a6 h => zf54.j7 I3 a1 a2 a3 a4 a5 a6 Q h)))]) (vs := [.ptr a1, .int .i64 a2, .sl a3, .int .i64 a4, .int .i64 a5, .int .i64 a6]) (envOK seatOK zf54.callsOK noIfc_ok) (fnOK seatOK zf54.fun) ⟨(zf54.s7 Q I3 h3), trivial⟩ zf54.p6 (fuel := 3000) (by rw [← zf54.e6]; exact hk) hm s f hp
  · exact hk.elim

theorem zf54.p3 : (posC zf54.code []).filter (fun p => Nat.beq p.1 3) = [(3, atPos (posC zf54.code []) 3)] := by kernel_rfl

theorem zf54.e3 : ∀  (I3 : (Option Ptr) → Int → Sl → Int → Int → Int → Heap → Prop) (a1 : Option Ptr) (a2 : Int) (a3 : Sl) (a4 : Int) (a5 : Int) (a6 : Int) (Q : Int → Heap → Prop) (h : Heap), zf54.b3  I3 a1 a2 a3 a4 a5 a6 Q h = pts (zf54.E Q [(6, ([0, 1, 2, 7, 13, 14], zf54.k6 (fun a1 a2 a3 a4 a5 a6 h => zf54.j6 I3 a1 a2 a3 a4 a5 a6 Q h))), (7, ([0, 1, 2, 7, 13, 14], zf54.k7 (fun a1 a2 a3 a4 a5 a6 h => zf54.j7 I3 a1 a2 a3 a4 a5 a6 Q h)))]) 3000 true (atPos (posC zf54.code []) 3) (frAt [0, 1, 2, 7, 13, 14] [.ptr a1, .int .i64 a2, .sl a3, .int .i64 a4, .int .i64 a5, .int .i64 a6]) h := by
  intros; kernel_rfl

theorem zf54.s3 {W0 : World} (Q : Int → Heap → Prop)   : CutOK sg W0 48 (entered 80) (Post sg W0 (zf54.ret Q)) (posC zf54.code []) 3 [0, 1, 2, 7, 13, 14] (zf54.k3 (fun a1 a2 a3 a4 a5 a6 h => zf54.j3  a1 a2 a3 a4 a5 a6 Q h)) := by
  refine cutOK_head (fun vs h hk => ?_)
  unfold zf54.k3 at hk
  split at hk
  · rename_i a1 a2 a3 a4 a5 a6
    refine hk (fun a1 a2 a3 a4 a5 a6 h => Head sg W0 48 (entered 80) (Post sg W0 (zf54.ret Q)) (posC zf54.code []) 3 [0, 1, 2, 7, 13, 14] [.ptr a1, .int .i64 a2, .sl a3, .int .i64 a4, .int .i64 a5, .int .i64 a6] h) ?_
    intro a1 a2 a3 a4 a5 a6 h hb todo hm ρ a w s f hp
    have hself : CutOK sg W0 48 (entered 80) (Post sg W0 (zf54.ret Q)) (posC zf54.code []) 3 [0, 1, 2, 7, 13, 14] (zf54.k3 (fun a1 a2 a3 a4 a5 a6 h => Head sg W0 48 (entered 80) (Post sg W0 (zf54.ret Q)) (posC zf54.code []) 3 [0, 1, 2, 7, 13, 14] [.ptr a1, .int .i64 a2, .sl a3, .int .i64 a4, .int .i64 a5, .int .i64 a6] h)) := cutOK_head (fun vs h hk => by unfold zf54.k3 at hk; split at hk; exact hk; exact hk.elim)
    exact piece (E := zf54.E Q [(6, ([0, 1, 2, 7, 13, 14], zf54.k6 (fun a1 a2 a3 a4 a5 a6 h => zf54.j6 (fun a1 a2 a3 a4 a5 a6 h => Head sg W0 48 (entered 80) (Post sg W0 (zf54.ret Q)) (posC zf54.code []) 3 [0, 1, 2, 7, 13, 14] [.ptr a1, .int .i64 a2, .sl a3, .int .i64 a4, .int .i64 a5, .int .i64 a6] h) a1 a2 a3 a4 a5 a6 Q h))), (7, ([0, 1, 2, 7, 13, 14], zf54.k7 (fun a1 a2 a3 a4 a5 a6 h => zf54.j7 (fun a1 a2 a3 a4 a5 a6 h => Head sg W0 48 (entered 80) (Post sg W0 (zf54.ret Q)) (posC zf54.code []) 3 [0, 1, 2, 7, 13, 14] [.ptr a1, .int .i64 a2, .sl a3, .int .i64 a4, .int .i64 a5, .int .i64 a6] h) a1 a2 a3 a4 a5 a6 Q h)))]) (vs := [.ptr a1, .int .i64 a2, .sl a3, .int .i64 a4, .int .i64 a5, .int .i64 a6]) (envOK seatOK zf54.callsOK noIfc_ok) (fnOK seatOK zf54.fun) ⟨(zf54.s6 Q (fun a1 a2 a3 a4 a5 a6 h => Head sg W0 48 (entered 80) (Post sg W0 (zf54.ret Q)) (posC zf54.code []) 3 [0, 1, 2, 7, 13, 14] [.ptr a1, .int .i64 a2, .sl a3, .int .i64 a4, .int .i64 a5, .int .i64 a6] h) hself), (zf54.s7 Q (fun a1 a2 a3 a4 a5 a6 h => Head sg W0 48 (entered 80) (Post sg W0 (zf54.ret Q)) (posC zf54.code []) 3 [0, 1, 2, 7, 13, 14] [.ptr a1, .int .i64 a2, .sl a3, .int .i64 a4, .int .i64 a5, .int .i64 a6] h) hself), trivial⟩ zf54.p3 (fuel := 3000) (by rw [← zf54.e3]; exact hb) hm s f hp
  · exact hk.elim

theorem zf54.e : ∀ (a1 : Option Ptr) (a2 : Int) (a3 : Sl) (Q : Int → Heap → Prop) (h : Heap), zf54 a1 a2 a3 Q h = pts (zf54.E Q [(3, ([0, 1, 2, 7, 13, 14], zf54.k3 (fun a1 a2 a3 a4 a5 a6 h => zf54.j3  a1 a2 a3 a4 a5 a6 Q h)))]) 3000 true [.code zf54.code] (frOf 0 [.ptr a1, .int .i64 a2, .sl a3]) h := by
  intros; kernel_rfl

theorem zf54.S {W0 : World} : FnS sg W0 289 zf54.C := by
  intro vs κ h wv hx w s
  unfold zf54.C at hx
  split at hx
  · rename_i a1 a2 a3
    refine postImp (ret := zf54.ret (fun r1 h => κ (.int .i64 r1) h)) (fun v h hr => by unfold zf54.ret at hr; split at hr; exact hr; exact hr.elim) ?_
    exact calls_of_pts (E := zf54.E (fun r1 h => κ (.int .i64 r1) h) [(3, ([0, 1, 2, 7, 13, 14], zf54.k3 (fun a1 a2 a3 a4 a5 a6 h => zf54.j3  a1 a2 a3 a4 a5 a6 (fun r1 h => κ (.int .i64 r1) h) h)))]) (envOK seatOK zf54.callsOK noIfc_ok) seatOK.mixed zf54.fun (Nat.le_of_ble_eq_true rfl) wv (cutL_ok ⟨(zf54.s3 (fun r1 h => κ (.int .i64 r1) h)), trivial⟩) s (fuel := 3000) (by rw [← zf54.e]; exact hx)
  · exact hx.elim

noncomputable def zf52.code : Code := Go.Proofs.Tryd.f55.body.getD .skip

theorem zf52.fun : Fun sg.P 55 74 [.tmp 8, .tmp 9] zf52.code := mkFun Go.Proofs.Tryd.func55 (by kernel_rfl) (by kernel_rfl) (by kernel_rfl) (by kernel_rfl)

def zf52.ret (Q : Int → Int → Heap → Prop) (v : V) (h : Heap) : Prop :=
  match v with
  | .tup [.int .i64 r1, .int .i64 r2] => Q r1 r2 h
  | _ => False

def zf52.C (vs : List V) (κ : V → Heap → Prop) (h : Heap) : Prop :=
  match vs with
  | [.ptr a1, .int .i64 a2, .int .i64 a3, .sl a4] => zf52 a1 a2 a3 a4 (fun r1 r2 h => κ (.tup [.int .i64 r1, .int .i64 r2]) h) h
  | _ => False

noncomputable def zf52.calls : List (Nat × (List V → (V → Heap → Prop) → Heap → Prop)) := [(282, zf56.C), (289, zf54.C), (288, zf55.C)]

noncomputable def zf52.E (Q : Int → Int → Heap → Prop) (cuts : List (Nat × (List Nat × (List V → Heap → Prop)))) : Env := { tis := tisT, fns := fnsT, tys := tysT, gls := [], rts := rtsT, unk := [], nxt := [], calls := zf52.calls, ifc := noIfc, cuts := cuts, ret := zf52.ret Q, rets := [.tmp 8, .tmp 9], n := 74 }

theorem zf52.callsOK {W0 : World} : CallsOK sg W0 zf52.calls := ⟨zf56.S, zf54.S, zf55.S, trivial⟩

def zf52.k9 (I : Heap → Prop) (vs : List V) (h : Heap) : Prop :=
  match vs with
  | [] => I  h
  | _ => False

def zf52.k15 (I : Heap → Prop) (vs : List V) (h : Heap) : Prop :=
  match vs with
  | [] => I  h
  | _ => False

def zf52.k16 (I : Heap → Prop) (vs : List V) (h : Heap) : Prop :=
  match vs with
  | [] => I  h
  | _ => False

def zf52.k10 (I : (Option Ptr) → Int → Int → Sl → Heap → Prop) (vs : List V) (h : Heap) : Prop :=
  match vs with
  | [.ptr a1, .int .i64 a2, .int .i64 a3, .sl a4] => I a1 a2 a3 a4 h
  | _ => False

theorem zf52.p9 : (posC zf52.code []).filter (fun p => Nat.beq p.1 9) = [(9, atPos (posC zf52.code []) 9)] := by kernel_rfl

theorem zf52.e9 : ∀   (Q : Int → Int → Heap → Prop) (h : Heap), zf52.j9   Q h = pts (zf52.E Q []) 3000 true (atPos (posC zf52.code []) 9) (frAt [] []) h := by
  intros; kernel_rfl

theorem zf52.s9 {W0 : World} (Q : Int → Int → Heap → Prop)   : CutOK sg W0 74 (entered 55) (Post sg W0 (zf52.ret Q)) (posC zf52.code []) 9 [] (zf52.k9 (fun  h => zf52.j9   Q h)) := by
  refine cutOK_head (fun vs h hk => ?_)
  unfold zf52.k9 at hk
  split at hk
  · skip
    intro todo hm ρ a w s f hp
    exact piece (E := zf52.E Q []) (vs := []) (envOK seatOK zf52.callsOK noIfc_ok) (fnOK seatOK zf52.fun) trivial zf52.p9 (fuel := 3000) (by rw [← zf52.e9]; exact hk) hm s f hp
  · exact hk.elim

theorem zf52.p15 : (posC zf52.code []).filter (fun p => Nat.beq p.1 15) = [(15, atPos (posC zf52.code []) 15)] := by kernel_rfl

theorem zf52.e15 : ∀   (Q : Int → Int → Heap → Prop) (h : Heap), zf52.j15   Q h = pts (zf52.E Q []) 3000 true (atPos (posC zf52.code []) 15) (frAt [] []) h := by
  intros; kernel_rfl

theorem zf52.s15 {W0 : World} (Q : Int → Int → Heap → Prop)   : CutOK sg W0 74 (entered 55) (Post sg W0 (zf52.ret Q)) (posC zf52.code []) 15 [] (zf52.k15 (fun  h => zf52.j15   Q h)) := by
  refine cutOK_head (fun vs h hk => ?_)
  unfold zf52.k15 at hk
  split at hk
  · skip
    intro todo hm ρ a w s f hp
    exact piece (E := zf52.E Q []) (vs := []) (envOK seatOK zf52.callsOK noIfc_ok) (fnOK seatOK zf52.fun) trivial zf52.p15 (fuel := 3000) (by rw [← zf52.e15]; exact hk) hm s f hp
  · exact hk.elim

theorem zf52.p16 : (posC zf52.code []).filter (fun p => Nat.beq p.1 16) = [(16, atPos (posC zf52.code []) 16)] := by kernel_rfl

theorem zf52.e16 : ∀   (Q : Int → Int → Heap → Prop) (h : Heap), zf52.j16   Q h = pts (zf52.E Q []) 3000 true (atPos (posC zf52.code []) 16) (frAt [] []) h := by
  intros; kernel_rfl

theorem zf52.s16 {W0 : World} (Q : Int → Int → Heap → Prop)   : CutOK sg W0 74 (entered 55) (Post sg W0 (zf52.ret Q)) (posC zf52.code []) 16 [] (zf52.k16 (fun  h => zf52.j16   Q h)) := by
  refine cutOK_head (fun vs h hk => ?_)
  unfold zf52.k16 at hk
  split at hk
  · skip
    intro todo hm ρ a w s f hp
    exact piece (E := zf52.E Q []) (vs := []) (envOK seatOK zf52.callsOK noIfc_ok) (fnOK seatOK zf52.fun) trivial zf52.p16 (fuel := 3000) (by rw [← zf52.e16]; exact hk) hm s f hp
  · exact hk.elim

theorem zf52.p10 : (posC zf52.code []).filter (fun p => Nat.beq p.1 10) = [(10, atPos (posC zf52.code []) 10)] := by kernel_rfl

theorem zf52.e10 : ∀  (a1 : Option Ptr) (a2 : Int) (a3 : Int) (a4 : Sl) (Q : Int → Int → Heap → Prop) (h : Heap), zf52.j10  a1 a2 a3 a4 Q h = pts (zf52.E Q [(15, ([], zf52.k15 (fun  h => zf52.j15   Q h))), (16, ([], zf52.k16 (fun  h => zf52.j16   Q h)))]) 3000 true (atPos (posC zf52.code []) 10) (frAt [0, 1, 2, 3] [.ptr a1, .int .i64 a2, .int .i64 a3, .sl a4]) h := by
  intros; kernel_rfl

theorem zf52.s10 {W0 : World} (Q : Int → Int → Heap → Prop)   : CutOK sg W0 74 (entered 55) (Post sg W0 (zf52.ret Q)) (posC zf52.code []) 10 [0, 1, 2, 3] (zf52.k10 (fun a1 a2 a3 a4 h => zf52.j10  a1 a2 a3 a4 Q h)) := by
  refine cutOK_head (fun vs h hk => ?_)
  unfold zf52.k10 at hk
  split at hk
  · rename_i a1 a2 a3 a4
    intro todo hm ρ a w s f hp
    exact piece (E := zf52.E Q [(15, ([], zf52.k15 (fun  h => zf52.j15   Q h))), (16, ([], zf52.k16 (fun  h => zf52.j16   Q h)))]) (vs := [.ptr a1, .int .i64 a2, .int .i64 a3, .sl a4]) (envOK seatOK zf52.callsOK noIfc_ok) (fnOK seatOK zf52.fun) ⟨(zf52.s15 Q  ), (zf52.s16 Q  ), trivial⟩ zf52.p10 (fuel := 3000) (by rw [← zf52.e10]; exact hk) hm s f hp
  · exact hk.elim

theorem zf52.e : ∀ (a1 : Option Ptr) (a2 : Int) (a3 : Int) (a4 : Sl) (Q : Int → Int → Heap → Prop) (h : Heap), zf52 a1 a2 a3 a4 Q h = pts (zf52.E Q [(9, ([], zf52.k9 (fun  h => zf52.j9   Q h))), (10, ([0, 1, 2, 3], zf52.k10 (fun a1 a2 a3 a4 h => zf52.j10  a1 a2 a3 a4 Q h)))]) 3000 true [.code zf52.code] (frOf 0 [.ptr a1, .int .i64 a2, .int .i64 a3, .sl a4]) h := by
  intros; kernel_rfl

theorem zf52.S {W0 : World} : FnS sg W0 290 zf52.C := by
  intro vs κ h wv hx w s
  unfold zf52.C at hx
  split at hx
  · rename_i a1 a2 a3 a4
    refine postImp (ret := zf52.ret (fun r1 r2 h => κ (.tup [.int .i64 r1, .int .i64 r2]) h)) (fun v h hr => by unfold zf52.ret at hr; split at hr; exact hr; exact hr.elim) ?_
    exact calls_of_pts (E := zf52.E (fun r1 r2 h => κ (.tup [.int .i64 r1, .int .i64 r2]) h) [(9, ([], zf52.k9 (fun  h => zf52.j9   (fun r1 r2 h => κ (.tup [.int .i64 r1, .int .i64 r2]) h) h))), (10, ([0, 1, 2, 3], zf52.k10 (fun a1 a2 a3 a4 h => zf52.j10  a1 a2 a3 a4 (fun r1 r2 h => κ (.tup [.int .i64 r1, .int .i64 r2]) h) h)))]) (envOK seatOK zf52.callsOK noIfc_ok) seatOK.mixed zf52.fun (Nat.le_of_ble_eq_true rfl) wv (cutL_ok ⟨(zf52.s9 (fun r1 r2 h => κ (.tup [.int .i64 r1, .int .i64 r2]) h)), (zf52.s10 (fun r1 r2 h => κ (.tup [.int .i64 r1, .int .i64 r2]) h)), trivial⟩) s (fuel := 3000) (by rw [← zf52.e]; exact hx)
  · exact hx.elim

noncomputable def zf1.code : Code := Go.Proofs.Tryd.f53.body.getD .skip

theorem zf1.fun : Fun sg.P 53 33 [.tmp 4] zf1.code := mkFun Go.Proofs.Tryd.func53 (by kernel_rfl) (by kernel_rfl) (by kernel_rfl) (by kernel_rfl)

def zf1.ret (Q : Int → Heap → Prop) (v : V) (h : Heap) : Prop :=
  match v with
  | .int .i64 r1 => Q r1 h
  | _ => False

def zf1.C (U : Ifc) (vs : List V) (κ : V → Heap → Prop) (h : Heap) : Prop :=
  match vs with
  | [.agg [.int .i64 a1, .sl a2], .ptr (some a3), .ptr (some a4)] => zf1 U a1 a2 a3 a4 (fun r1 h => κ (.int .i64 r1) h) h
  | _ => False

noncomputable def zf1.calls (U : Ifc) : List (Nat × (List V → (V → Heap → Prop) → Heap → Prop)) := [(287, zf8.C U), (290, zf52.C), (267, zf9.C)]

noncomputable def zf1.E (U : Ifc) (Q : Int → Heap → Prop) (cuts : List (Nat × (List Nat × (List V → Heap → Prop)))) : Env := { tis := tisT, fns := fnsT, tys := tysT, gls := glsT, rts := rtsT, unk := [], nxt := [], calls := zf1.calls U, ifc := U, cuts := cuts, ret := zf1.ret Q, rets := [.tmp 4], n := 33 }

theorem zf1.callsOK {W0 : World} {U : Ifc} (hU : IfcOK sg W0 glsT U) : CallsOK sg W0 (zf1.calls U) := ⟨(zf8.S hU), zf52.S, zf9.S, trivial⟩

def zf1.k4 (I : Heap → Prop) (vs : List V) (h : Heap) : Prop :=
  match vs with
  | [] => I  h
  | _ => False

theorem zf1.p4 : (posC zf1.code []).filter (fun p => Nat.beq p.1 4) = [(4, atPos (posC zf1.code []) 4)] := by kernel_rfl

theorem zf1.e4 : ∀ (U : Ifc)   (Q : Int → Heap → Prop) (h : Heap), zf1.j4 U   Q h = pts (zf1.E U Q []) 3000 true (atPos (posC zf1.code []) 4) (frAt [] []) h := by
  intros; kernel_rfl

theorem zf1.s4 {W0 : World} {U : Ifc} (hU : IfcOK sg W0 glsT U) (Q : Int → Heap → Prop)   : CutOK sg W0 33 (entered 53) (Post sg W0 (zf1.ret Q)) (posC zf1.code []) 4 [] (zf1.k4 (fun  h => zf1.j4 U   Q h)) := by
  refine cutOK_head (fun vs h hk => ?_)
  unfold zf1.k4 at hk
  split at hk
  · skip
    intro todo hm ρ a w s f hp
    exact piece (E := zf1.E U Q []) (vs := []) (envOK seatOK (zf1.callsOK hU) hU) (fnOK seatOK zf1.fun) trivial zf1.p4 (fuel := 3000) (by rw [← zf1.e4]; exact hk) hm s f hp
  · exact hk.elim

theorem zf1.e : ∀ (U : Ifc) (a1 : Int) (a2 : Sl) (a3 : Ptr) (a4 : Ptr) (Q : Int → Heap → Prop) (h : Heap), zf1 U a1 a2 a3 a4 Q h = pts (zf1.E U Q [(4, ([], zf1.k4 (fun  h => zf1.j4 U   Q h)))]) 3000 true [.code zf1.code] (frOf 0 [.agg [.int .i64 a1, .sl a2], .ptr (some a3), .ptr (some a4)]) h := by
  intros; kernel_rfl

theorem zf1.S {W0 : World} {U : Ifc} (hU : IfcOK sg W0 glsT U) : FnS sg W0 257 (zf1.C U) := by
  intro vs κ h wv hx w s
  unfold zf1.C at hx
  split at hx
  · rename_i a1 a2 a3 a4
    refine postImp (ret := zf1.ret (fun r1 h => κ (.int .i64 r1) h)) (fun v h hr => by unfold zf1.ret at hr; split at hr; exact hr; exact hr.elim) ?_
    exact calls_of_pts (E := zf1.E U (fun r1 h => κ (.int .i64 r1) h) [(4, ([], zf1.k4 (fun  h => zf1.j4 U   (fun r1 h => κ (.int .i64 r1) h) h)))]) (envOK seatOK (zf1.callsOK hU) hU) seatOK.mixed zf1.fun (Nat.le_of_ble_eq_true rfl) wv (cutL_ok ⟨(zf1.s4 hU (fun r1 h => κ (.int .i64 r1) h)), trivial⟩) s (fuel := 3000) (by rw [← zf1.e]; exact hx)
  · exact hx.elim

end Go.Fn
