/- The links of the shallow functions to the machine. PRINTED by lift.py. -/
import Derived.Test.YtmpjgafkdhineaaDoorGb3

set_option linter.unusedVariables false
set_option maxRecDepth 100000
namespace Go.Fn
open Go.Lift

noncomputable def zf41.code : Code := Go.Proofs.Tryd.f3.body.getD .skip

theorem zf41.fun : Fun sg.P 3 335 [.tmp 2] zf41.code := mkFun Go.Proofs.Tryd.func3 (by kernel_rfl) (by kernel_rfl) (by kernel_rfl) (by kernel_rfl)

def zf41.ret (Q : Bool → Heap → Prop) (v : V) (h : Heap) : Prop :=
  match v with
  | .bool r1 => Q r1 h
  | _ => False

def zf41.C (U : Ifc) (vs : List V) (κ : V → Heap → Prop) (h : Heap) : Prop :=
  match vs with
  | [.sl a1] => zf41 U a1 (fun r1 h => κ (.bool r1) h) h
  | _ => False

noncomputable def zf41.calls (U : Ifc) : List (Nat × (List V → (V → Heap → Prop) → Heap → Prop)) := [(265, zf48.C), (298, zf45.C), (301, zf49.C U), (300, zf50.C U), (275, zf1.C U), (38, zf14.C), (268, zf25.C), (278, zf2.C), (88, zf12.C U), (276, zf0.C U), (297, zf44.C U), (302, zf47.C U), (295, zf42.C)]

noncomputable def zf41.E (U : Ifc) (Q : Bool → Heap → Prop) (cuts : List (Nat × (List Nat × (List V → Heap → Prop)))) : Env := { tis := tisT, fns := fnsT, tys := tysT, gls := glsT, rts := rtsT, unk := [], nxt := [], calls := zf41.calls U, ifc := U, cuts := cuts, ret := zf41.ret Q, rets := [.tmp 2], n := 335 }

theorem zf41.callsOK {W0 : World} {U : Ifc} (hU : IfcOK sg W0 glsT U) : CallsOK sg W0 (zf41.calls U) := ⟨zf48.S, zf45.S, (zf49.S hU), (zf50.S hU), (zf1.S hU), zf14.S, zf25.S, zf2.S, (zf12.S hU), (zf0.S hU), (zf44.S hU), (zf47.S hU), zf42.S, trivial⟩

def zf41.k29 (I : Heap → Prop) (vs : List V) (h : Heap) : Prop :=
  match vs with
  | [] => I  h
  | _ => False

def zf41.k40 (I : Heap → Prop) (vs : List V) (h : Heap) : Prop :=
  match vs with
  | [] => I  h
  | _ => False

def zf41.k12 (I : Sl → (Option Ptr) → Ptr → Ptr → Int → Heap → Prop) (vs : List V) (h : Heap) : Prop :=
  match vs with
  | [.sl a1, .ptr a2, .ptr (some a3), .ptr (some a4), .int .i64 a5] => I a1 a2 a3 a4 a5 h
  | _ => False

def zf41.k41 (I : Sl → (Option Ptr) → Ptr → Ptr → Int → Ptr → Int → (Option Ptr) → Int → Int → Sl → Heap → Prop) (vs : List V) (h : Heap) : Prop :=
  match vs with
  | [.sl a1, .ptr a2, .ptr (some a3), .ptr (some a4), .int .i64 a5, .ptr (some a6), .int .i64 a7, .ptr a8, .int .i64 a9, .int .i64 a10, .sl a11] => I a1 a2 a3 a4 a5 a6 a7 a8 a9 a10 a11 h
  | _ => False

def zf41.k39 (I : Sl → (Option Ptr) → Ptr → Ptr → Int → Ptr → Int → (Option Ptr) → Int → Int → Sl → Int → Int → Bool → Int → Bool → Int → Int → Int → Int → Int → Heap → Prop) (vs : List V) (h : Heap) : Prop :=
  match vs with
  | [.sl a1, .ptr a2, .ptr (some a3), .ptr (some a4), .int .i64 a5, .ptr (some a6), .int .i64 a7, .ptr a8, .int .i64 a9, .int .i64 a10, .sl a11, .int .i64 a12, .int .i64 a13, .bool a14, .int .i64 a15, .bool a16, .int .i64 a17, .int .u64 a18, .int .i64 a19, .int .i64 a20, .int .i64 a21] => I a1 a2 a3 a4 a5 a6 a7 a8 a9 a10 a11 a12 a13 a14 a15 a16 a17 a18 a19 a20 a21 h
  | _ => False

def zf41.k36 (I : Sl → (Option Ptr) → Ptr → Ptr → Int → Ptr → Int → (Option Ptr) → Int → Int → Sl → Int → Int → Bool → Int → Bool → Int → Int → Int → Int → Heap → Prop) (vs : List V) (h : Heap) : Prop :=
  match vs with
  | [.sl a1, .ptr a2, .ptr (some a3), .ptr (some a4), .int .i64 a5, .ptr (some a6), .int .i64 a7, .ptr a8, .int .i64 a9, .int .i64 a10, .sl a11, .int .i64 a12, .int .i64 a13, .bool a14, .int .i64 a15, .bool a16, .int .i64 a17, .int .u64 a18, .int .i64 a19, .int .i64 a20] => I a1 a2 a3 a4 a5 a6 a7 a8 a9 a10 a11 a12 a13 a14 a15 a16 a17 a18 a19 a20 h
  | _ => False

def zf41.k33 (I : Sl → (Option Ptr) → Ptr → Ptr → Int → Ptr → Int → (Option Ptr) → Int → Int → Sl → Int → Bool → Int → Bool → Int → Heap → Prop) (vs : List V) (h : Heap) : Prop :=
  match vs with
  | [.sl a1, .ptr a2, .ptr (some a3), .ptr (some a4), .int .i64 a5, .ptr (some a6), .int .i64 a7, .ptr a8, .int .i64 a9, .int .i64 a10, .sl a11, .int .i64 a12, .bool a13, .int .i64 a14, .bool a15, .int .i64 a16] => I a1 a2 a3 a4 a5 a6 a7 a8 a9 a10 a11 a12 a13 a14 a15 a16 h
  | _ => False

def zf41.k31 (I : Sl → (Option Ptr) → Ptr → Ptr → Int → Ptr → Int → (Option Ptr) → Int → Int → Sl → Int → Ptr → Heap → Prop) (vs : List V) (h : Heap) : Prop :=
  match vs with
  | [.sl a1, .ptr a2, .ptr (some a3), .ptr (some a4), .int .i64 a5, .ptr (some a6), .int .i64 a7, .ptr a8, .int .i64 a9, .int .i64 a10, .sl a11, .int .i64 a12, .ptr (some a13)] => I a1 a2 a3 a4 a5 a6 a7 a8 a9 a10 a11 a12 a13 h
  | _ => False

def zf41.k30 (I : Sl → (Option Ptr) → Ptr → Ptr → Int → Ptr → Int → (Option Ptr) → Int → Int → Sl → Heap → Prop) (vs : List V) (h : Heap) : Prop :=
  match vs with
  | [.sl a1, .ptr a2, .ptr (some a3), .ptr (some a4), .int .i64 a5, .ptr (some a6), .int .i64 a7, .ptr a8, .int .i64 a9, .int .i64 a10, .sl a11] => I a1 a2 a3 a4 a5 a6 a7 a8 a9 a10 a11 h
  | _ => False

def zf41.k26 (I : Sl → (Option Ptr) → Ptr → Ptr → Int → Ptr → Int → (Option Ptr) → Int → Int → Sl → Int → Int → Heap → Prop) (vs : List V) (h : Heap) : Prop :=
  match vs with
  | [.sl a1, .ptr a2, .ptr (some a3), .ptr (some a4), .int .i64 a5, .ptr (some a6), .int .i64 a7, .ptr a8, .int .i64 a9, .int .i64 a10, .sl a11, .int .i64 a12, .int .i64 a13] => I a1 a2 a3 a4 a5 a6 a7 a8 a9 a10 a11 a12 a13 h
  | _ => False

def zf41.k23 (I : Sl → (Option Ptr) → Ptr → Ptr → Int → Ptr → Int → (Option Ptr) → Int → Int → Sl → Int → Heap → Prop) (vs : List V) (h : Heap) : Prop :=
  match vs with
  | [.sl a1, .ptr a2, .ptr (some a3), .ptr (some a4), .int .i64 a5, .ptr (some a6), .int .i64 a7, .ptr a8, .int .i64 a9, .int .i64 a10, .sl a11, .int .u64 a12] => I a1 a2 a3 a4 a5 a6 a7 a8 a9 a10 a11 a12 h
  | _ => False

def zf41.k20 (I : Sl → (Option Ptr) → Ptr → Ptr → Int → Ptr → Int → (Option Ptr) → Int → Int → Sl → Heap → Prop) (vs : List V) (h : Heap) : Prop :=
  match vs with
  | [.sl a1, .ptr a2, .ptr (some a3), .ptr (some a4), .int .i64 a5, .ptr (some a6), .int .i64 a7, .ptr a8, .int .i64 a9, .int .i64 a10, .sl a11] => I a1 a2 a3 a4 a5 a6 a7 a8 a9 a10 a11 h
  | _ => False

def zf41.k16 (I : Sl → (Option Ptr) → Ptr → Ptr → Int → Ptr → Int → (Option Ptr) → Heap → Prop) (vs : List V) (h : Heap) : Prop :=
  match vs with
  | [.sl a1, .ptr a2, .ptr (some a3), .ptr (some a4), .int .i64 a5, .ptr (some a6), .int .i64 a7, .ptr a8] => I a1 a2 a3 a4 a5 a6 a7 a8 h
  | _ => False

def zf41.k11 (I : Sl → (Option Ptr) → Ptr → Ptr → Int → Heap → Prop) (vs : List V) (h : Heap) : Prop :=
  match vs with
  | [.sl a1, .ptr a2, .ptr (some a3), .ptr (some a4), .int .i64 a5] => I a1 a2 a3 a4 a5 h
  | _ => False

def zf41.k6 (I : Sl → (Option Ptr) → Ptr → Int → Heap → Prop) (vs : List V) (h : Heap) : Prop :=
  match vs with
  | [.sl a1, .ptr a2, .ptr (some a3), .int .i64 a4] => I a1 a2 a3 a4 h
  | _ => False

theorem zf41.p29 : (posC zf41.code []).filter (fun p => Nat.beq p.1 29) = [(29, atPos (posC zf41.code []) 29)] := by kernel_rfl

theorem zf41.e29 : ∀ (U : Ifc) (I11 : Sl → (Option Ptr) → Ptr → Ptr → Int → Heap → Prop)  (Q : Bool → Heap → Prop) (h : Heap), zf41.j29 U I11  Q h = pts (zf41.E U Q []) 3000 true (atPos (posC zf41.code []) 29) (frAt [] []) h := by
  intros; kernel_rfl

theorem zf41.s29 {W0 : World} {U : Ifc} (hU : IfcOK sg W0 glsT U) (Q : Bool → Heap → Prop) (I11 : Sl → (Option Ptr) → Ptr → Ptr → Int → Heap → Prop) (h11 : CutOK sg W0 335 (entered 3) (Post sg W0 (zf41.ret Q)) (posC zf41.code []) 11 [0, 3, 4, 6, 7] (zf41.k11 I11)) : CutOK sg W0 335 (entered 3) (Post sg W0 (zf41.ret Q)) (posC zf41.code []) 29 [] (zf41.k29 (fun  h => zf41.j29 U I11  Q h)) := by
  refine cutOK_head (fun vs h hk => ?_)
  unfold zf41.k29 at hk
  split at hk
  · skip
    intro todo hm ρ a w s f hp
    exact piece (E := zf41.E U Q []) (vs := []) (envOK seatOK (zf41.callsOK hU) hU) (fnOK seatOK zf41.fun) trivial zf41.p29 (fuel := 3000) (by rw [← zf41.e29]; exact hk) hm s f hp
  · exact hk.elim

theorem zf41.p40 : (posC zf41.code []).filter (fun p => Nat.beq p.1 40) = [(40, atPos (posC zf41.code []) 40)] := by kernel_rfl

theorem zf41.e40 : ∀ (U : Ifc) (I11 : Sl → (Option Ptr) → Ptr → Ptr → Int → Heap → Prop)  (Q : Bool → Heap → Prop) (h : Heap), zf41.j40 U I11  Q h = pts (zf41.E U Q []) 3000 true (atPos (posC zf41.code []) 40) (frAt [] []) h := by
  intros; kernel_rfl

theorem zf41.s40 {W0 : World} {U : Ifc} (hU : IfcOK sg W0 glsT U) (Q : Bool → Heap → Prop) (I11 : Sl → (Option Ptr) → Ptr → Ptr → Int → Heap → Prop) (h11 : CutOK sg W0 335 (entered 3) (Post sg W0 (zf41.ret Q)) (posC zf41.code []) 11 [0, 3, 4, 6, 7] (zf41.k11 I11)) : CutOK sg W0 335 (entered 3) (Post sg W0 (zf41.ret Q)) (posC zf41.code []) 40 [] (zf41.k40 (fun  h => zf41.j40 U I11  Q h)) := by
  refine cutOK_head (fun vs h hk => ?_)
  unfold zf41.k40 at hk
  split at hk
  · skip
    intro todo hm ρ a w s f hp
    exact piece (E := zf41.E U Q []) (vs := []) (envOK seatOK (zf41.callsOK hU) hU) (fnOK seatOK zf41.fun) trivial zf41.p40 (fuel := 3000) (by rw [← zf41.e40]; exact hk) hm s f hp
  · exact hk.elim

theorem zf41.p12 : (posC zf41.code []).filter (fun p => Nat.beq p.1 12) = [(12, atPos (posC zf41.code []) 12)] := by kernel_rfl

theorem zf41.e12 : ∀ (U : Ifc) (I11 : Sl → (Option Ptr) → Ptr → Ptr → Int → Heap → Prop) (a1 : Sl) (a2 : Option Ptr) (a3 : Ptr) (a4 : Ptr) (a5 : Int) (Q : Bool → Heap → Prop) (h : Heap), zf41.j12 U I11 a1 a2 a3 a4 a5 Q h = pts (zf41.E U Q [(11, ([0, 3, 4, 6, 7], zf41.k11 I11))]) 3000 true (atPos (posC zf41.code []) 12) (frAt [0, 3, 4, 6, 7] [.sl a1, .ptr a2, .ptr (some a3), .ptr (some a4), .int .i64 a5]) h := by
  intros; kernel_rfl

theorem zf41.s12 {W0 : World} {U : Ifc} (hU : IfcOK sg W0 glsT U) (Q : Bool → Heap → Prop) (I11 : Sl → (Option Ptr) → Ptr → Ptr → Int → Heap → Prop) (h11 : CutOK sg W0 335 (entered 3) (Post sg W0 (zf41.ret Q)) (posC zf41.code []) 11 [0, 3, 4, 6, 7] (zf41.k11 I11)) : CutOK sg W0 335 (entered 3) (Post sg W0 (zf41.ret Q)) (posC zf41.code []) 12 [0, 3, 4, 6, 7] (zf41.k12 (fun a1 a2 a3 a4 a5 h => zf41.j12 U I11 a1 a2 a3 a4 a5 Q h)) := by
  refine cutOK_head (fun vs h hk => ?_)
  unfold zf41.k12 at hk
  split at hk
  · rename_i a1 a2 a3 a4 a5
    intro todo hm ρ a w s f hp
    exact piece (E := zf41.E U Q [(11, ([0, 3, 4, 6, 7], zf41.k11 I11))]) (vs := [.sl a1, .ptr a2, .ptr (some a3), .ptr (some a4), .int .i64 a5]) (envOK seatOK (zf41.callsOK hU) hU) (fnOK seatOK zf41.fun) ⟨h11, trivial⟩ zf41.p12 (fuel := 3000) (by rw [← zf41.e12]; exact hk) hm s f hp
  · exact hk.elim

theorem zf41.p41 : (posC zf41.code []).filter (fun p => Nat.beq p.1 41) = [(41, atPos (posC zf41.code []) 41)] := by kernel_rfl

theorem zf41.e41 : ∀ (U : Ifc) (I11 : Sl → (Option Ptr) → Ptr → Ptr → Int → Heap → Prop) (a1 : Sl) (a2 : Option Ptr) (a3 : Ptr) (a4 : Ptr) (a5 : Int) (a6 : Ptr) (a7 : Int) (a8 : Option Ptr) (a9 : Int) (a10 : Int) (a11 : Sl) (Q : Bool → Heap → Prop) (h : Heap), zf41.j41 U I11 a1 a2 a3 a4 a5 a6 a7 a8 a9 a10 a11 Q h = pts (zf41.E U Q [(12, ([0, 3, 4, 6, 7], zf41.k12 (fun a1 a2 a3 a4 a5 h => zf41.j12 U I11 a1 a2 a3 a4 a5 Q h)))]) 3000 true (atPos (posC zf41.code []) 41) (frAt [0, 3, 4, 6, 7, 8, 9, 10, 11, 12, 13] [.sl a1, .ptr a2, .ptr (some a3), .ptr (some a4), .int .i64 a5, .ptr (some a6), .int .i64 a7, .ptr a8, .int .i64 a9, .int .i64 a10, .sl a11]) h := by
  intros; kernel_rfl

theorem zf41.s41 {W0 : World} {U : Ifc} (hU : IfcOK sg W0 glsT U) (Q : Bool → Heap → Prop) (I11 : Sl → (Option Ptr) → Ptr → Ptr → Int → Heap → Prop) (h11 : CutOK sg W0 335 (entered 3) (Post sg W0 (zf41.ret Q)) (posC zf41.code []) 11 [0, 3, 4, 6, 7] (zf41.k11 I11)) : CutOK sg W0 335 (entered 3) (Post sg W0 (zf41.ret Q)) (posC zf41.code []) 41 [0, 3, 4, 6, 7, 8, 9, 10, 11, 12, 13] (zf41.k41 (fun a1 a2 a3 a4 a5 a6 a7 a8 a9 a10 a11 h => zf41.j41 U I11 a1 a2 a3 a4 a5 a6 a7 a8 a9 a10 a11 Q h)) := by
  refine cutOK_head (fun vs h hk => ?_)
  unfold zf41.k41 at hk
  split at hk
  · rename_i a1 a2 a3 a4 a5 a6 a7 a8 a9 a10 a11
    intro todo hm ρ a w s f hp
    exact piece (E := zf41.E U Q [(12, ([0, 3, 4, 6, 7], zf41.k12 (fun a1 a2 a3 a4 a5 h => zf41.j12 U I11 a1 a2 a3 a4 a5 Q h)))]) (vs := [.sl a1, .ptr a2, .ptr (some a3), .ptr (some a4), .int .i64 a5, .ptr (some a6), .int .i64 a7, .ptr a8, .int .i64 a9, .int .i64 a10, .sl a11]) (envOK seatOK (zf41.callsOK hU) hU) (fnOK seatOK zf41.fun) ⟨(zf41.s12 hU Q I11 h11), trivial⟩ zf41.p41 (fuel := 3000) (by rw [← zf41.e41]; exact hk) hm s f hp
  · exact hk.elim

theorem zf41.p39 : (posC zf41.code []).filter (fun p => Nat.beq p.1 39) = [(39, atPos (posC zf41.code []) 39)] := by kernel_rfl

theorem zf41.e39 : ∀ (U : Ifc) (I11 : Sl → (Option Ptr) → Ptr → Ptr → Int → Heap → Prop) (a1 : Sl) (a2 : Option Ptr) (a3 : Ptr) (a4 : Ptr) (a5 : Int) (a6 : Ptr) (a7 : Int) (a8 : Option Ptr) (a9 : Int) (a10 : Int) (a11 : Sl) (a12 : Int) (a13 : Int) (a14 : Bool) (a15 : Int) (a16 : Bool) (a17 : Int) (a18 : Int) (a19 : Int) (a20 : Int) (a21 : Int) (Q : Bool → Heap → Prop) (h : Heap), zf41.j39 U I11 a1 a2 a3 a4 a5 a6 a7 a8 a9 a10 a11 a12 a13 a14 a15 a16 a17 a18 a19 a20 a21 Q h = pts (zf41.E U Q [(40, ([], zf41.k40 (fun  h => zf41.j40 U I11  Q h))), (41, ([0, 3, 4, 6, 7, 8, 9, 10, 11, 12, 13], zf41.k41 (fun a1 a2 a3 a4 a5 a6 a7 a8 a9 a10 a11 h => zf41.j41 U I11 a1 a2 a3 a4 a5 a6 a7 a8 a9 a10 a11 Q h)))]) 3000 true (atPos (posC zf41.code []) 39) (frAt [0, 3, 4, 6, 7, 8, 9, 10, 11, 12, 13, 16, 19, 22, 23, 24, 25, 26, 28, 29, 30] [.sl a1, .ptr a2, .ptr (some a3), .ptr (some a4), .int .i64 a5, .ptr (some a6), .int .i64 a7, .ptr a8, .int .i64 a9, .int .i64 a10, .sl a11, .int .i64 a12, .int .i64 a13, .bool a14, .int .i64 a15, .bool a16, .int .i64 a17, .int .u64 a18, .int .i64 a19, .int .i64 a20, .int .i64 a21]) h := by
  intros; kernel_rfl

theorem zf41.s39 {W0 : World} {U : Ifc} (hU : IfcOK sg W0 glsT U) (Q : Bool → Heap → Prop) (I11 : Sl → (Option Ptr) → Ptr → Ptr → Int → Heap → Prop) (h11 : CutOK sg W0 335 (entered 3) (Post sg W0 (zf41.ret Q)) (posC zf41.code []) 11 [0, 3, 4, 6, 7] (zf41.k11 I11)) : CutOK sg W0 335 (entered 3) (Post sg W0 (zf41.ret Q)) (posC zf41.code []) 39 [0, 3, 4, 6, 7, 8, 9, 10, 11, 12, 13, 16, 19, 22, 23, 24, 25, 26, 28, 29, 30] (zf41.k39 (fun a1 a2 a3 a4 a5 a6 a7 a8 a9 a10 a11 a12 a13 a14 a15 a16 a17 a18 a19 a20 a21 h => zf41.j39 U I11 a1 a2 a3 a4 a5 a6 a7 a8 a9 a10 a11 a12 a13 a14 a15 a16 a17 a18 a19 a20 a21 Q h)) := by
  refine cutOK_head (fun vs h hk => ?_)
  unfold zf41.k39 at hk
  split at hk
  · rename_i a1 a2 a3 a4 a5 a6 a7 a8 a9 a10 a11 a12 a13 a14 a15 a16 a17 a18 a19 a20 a21
    intro todo hm ρ a w s f hp
    exact piece (E := zf41.E U Q [(40, ([], zf41.k40 (fun  h => zf41.j40 U I11  Q h))), (41, ([0, 3, 4, 6, 7, 8, 9, 10, 11, 12, 13], zf41.k41 (fun a1 a2 a3 a4 a5 a6 a7 a8 a9 a10 a11 h => zf41.j41 U I11 a1 a2 a3 a4 a5 a6 a7 a8 a9 a10 a11 Q h)))]) (vs := [.sl a1, .ptr a2, .ptr (some a3), .ptr (some a4), .int .i64 a5, .ptr (some a6), .int .i64 a7, .ptr a8, .int .i64 a9, .int .i64 a10, .sl a11, .int .i64 a12, .int .i64 a13, .bool a14, .int .i64 a15, .bool a16, .int .i64 a17, .int .u64 a18, .int .i64 a19, .int .i64 a20, .int .i64 a21]) (envOK seatOK (zf41.callsOK hU) hU) (fnOK seatOK zf41.fun) ⟨(zf41.s40 hU Q I11 h11), (zf41.s41 hU Q I11 h11), trivial⟩ zf41.p39 (fuel := 3000) (by rw [← zf41.e39]; exact hk) hm s f hp
  · exact hk.elim

theorem zf41.p36 : (posC zf41.code []).filter (fun p => Nat.beq p.1 36) = [(36, atPos (posC zf41.code []) 36)] := by kernel_rfl

theorem zf41.e36 : ∀ (U : Ifc) (I11 : Sl → (Option Ptr) → Ptr → Ptr → Int → Heap → Prop) (a1 : Sl) (a2 : Option Ptr) (a3 : Ptr) (a4 : Ptr) (a5 : Int) (a6 : Ptr) (a7 : Int) (a8 : Option Ptr) (a9 : Int) (a10 : Int) (a11 : Sl) (a12 : Int) (a13 : Int) (a14 : Bool) (a15 : Int) (a16 : Bool) (a17 : Int) (a18 : Int) (a19 : Int) (a20 : Int) (Q : Bool → Heap → Prop) (h : Heap), zf41.j36 U I11 a1 a2 a3 a4 a5 a6 a7 a8 a9 a10 a11 a12 a13 a14 a15 a16 a17 a18 a19 a20 Q h = pts (zf41.E U Q [(39, ([0, 3, 4, 6, 7, 8, 9, 10, 11, 12, 13, 16, 19, 22, 23, 24, 25, 26, 28, 29, 30], zf41.k39 (fun a1 a2 a3 a4 a5 a6 a7 a8 a9 a10 a11 a12 a13 a14 a15 a16 a17 a18 a19 a20 a21 h => zf41.j39 U I11 a1 a2 a3 a4 a5 a6 a7 a8 a9 a10 a11 a12 a13 a14 a15 a16 a17 a18 a19 a20 a21 Q h)))]) 3000 true (atPos (posC zf41.code []) 36) (frAt [0, 3, 4, 6, 7, 8, 9, 10, 11, 12, 13, 16, 19, 22, 23, 24, 25, 26, 28, 29] [.sl a1, .ptr a2, .ptr (some a3), .ptr (some a4), .int .i64 a5, .ptr (some a6), .int .i64 a7, .ptr a8, .int .i64 a9, .int .i64 a10, .sl a11, .int .i64 a12, .int .i64 a13, .bool a14, .int .i64 a15, .bool a16, .int .i64 a17, .int .u64 a18, .int .i64 a19, .int .i64 a20]) h := by
  intros; kernel_rfl

theorem zf41.s36 {W0 : World} {U : Ifc} (hU : IfcOK sg W0 glsT U) (Q : Bool → Heap → Prop) (I11 : Sl → (Option Ptr) → Ptr → Ptr → Int → Heap → Prop) (h11 : CutOK sg W0 335 (entered 3) (Post sg W0 (zf41.ret Q)) (posC zf41.code []) 11 [0, 3, 4, 6, 7] (zf41.k11 I11)) : CutOK sg W0 335 (entered 3) (Post sg W0 (zf41.ret Q)) (posC zf41.code []) 36 [0, 3, 4, 6, 7, 8, 9, 10, 11, 12, 13, 16, 19, 22, 23, 24, 25, 26, 28, 29] (zf41.k36 (fun a1 a2 a3 a4 a5 a6 a7 a8 a9 a10 a11 a12 a13 a14 a15 a16 a17 a18 a19 a20 h => zf41.j36 U I11 a1 a2 a3 a4 a5 a6 a7 a8 a9 a10 a11 a12 a13 a14 a15 a16 a17 a18 a19 a20 Q h)) := by
  refine cutOK_head (fun vs h hk => ?_)
  unfold zf41.k36 at hk
  split at hk
  · rename_i a1 a2 a3 a4 a5 a6 a7 a8 a9 a10 a11 a12 a13 a14 a15 a16 a17 a18 a19 a20
    intro todo hm ρ a w s f hp
    exact piece (E := zf41.E U Q [(39, ([0, 3, 4, 6, 7, 8, 9, 10, 11, 12, 13, 16, 19, 22, 23, 24, 25, 26, 28, 29, 30], zf41.k39 (fun a1 a2 a3 a4 a5 a6 a7 a8 a9 a10 a11 a12 a13 a14 a15 a16 a17 a18 a19 a20 a21 h => zf41.j39 U I11 a1 a2 a3 a4 a5 a6 a7 a8 a9 a10 a11 a12 a13 a14 a15 a16 a17 a18 a19 a20 a21 Q h)))]) (vs := [.sl a1, .ptr a2, .ptr (some a3), .ptr (some a4), .int .i64 a5, .ptr (some a6), .int .i64 a7, .ptr a8, .int .i64 a9, .int .i64 a10, .sl a11, .int .i64 a12, .int .i64 a13, .bool a14, .int .i64 a15, .bool a16, .int .i64 a17, .int .u64 a18, .int .i64 a19, .int .i64 a20]) (envOK seatOK (zf41.callsOK hU) hU) (fnOK seatOK zf41.fun) ⟨(zf41.s39 hU Q I11 h11), trivial⟩ zf41.p36 (fuel := 3000) (by rw [← zf41.e36]; exact hk) hm s f hp
  · exact hk.elim

theorem zf41.p33 : (posC zf41.code []).filter (fun p => Nat.beq p.1 33) = [(33, atPos (posC zf41.code []) 33)] := by kernel_rfl

theorem zf41.e33 : ∀ (U : Ifc) (I11 : Sl → (Option Ptr) → Ptr → Ptr → Int → Heap → Prop) (a1 : Sl) (a2 : Option Ptr) (a3 : Ptr) (a4 : Ptr) (a5 : Int) (a6 : Ptr) (a7 : Int) (a8 : Option Ptr) (a9 : Int) (a10 : Int) (a11 : Sl) (a12 : Int) (a13 : Bool) (a14 : Int) (a15 : Bool) (a16 : Int) (Q : Bool → Heap → Prop) (h : Heap), zf41.j33 U I11 a1 a2 a3 a4 a5 a6 a7 a8 a9 a10 a11 a12 a13 a14 a15 a16 Q h = pts (zf41.E U Q [(36, ([0, 3, 4, 6, 7, 8, 9, 10, 11, 12, 13, 16, 19, 22, 23, 24, 25, 26, 28, 29], zf41.k36 (fun a1 a2 a3 a4 a5 a6 a7 a8 a9 a10 a11 a12 a13 a14 a15 a16 a17 a18 a19 a20 h => zf41.j36 U I11 a1 a2 a3 a4 a5 a6 a7 a8 a9 a10 a11 a12 a13 a14 a15 a16 a17 a18 a19 a20 Q h)))]) 3000 true (atPos (posC zf41.code []) 33) (frAt [0, 3, 4, 6, 7, 8, 9, 10, 11, 12, 13, 16, 22, 23, 24, 25] [.sl a1, .ptr a2, .ptr (some a3), .ptr (some a4), .int .i64 a5, .ptr (some a6), .int .i64 a7, .ptr a8, .int .i64 a9, .int .i64 a10, .sl a11, .int .i64 a12, .bool a13, .int .i64 a14, .bool a15, .int .i64 a16]) h := by
  intros; kernel_rfl

theorem zf41.s33 {W0 : World} {U : Ifc} (hU : IfcOK sg W0 glsT U) (Q : Bool → Heap → Prop) (I11 : Sl → (Option Ptr) → Ptr → Ptr → Int → Heap → Prop) (h11 : CutOK sg W0 335 (entered 3) (Post sg W0 (zf41.ret Q)) (posC zf41.code []) 11 [0, 3, 4, 6, 7] (zf41.k11 I11)) : CutOK sg W0 335 (entered 3) (Post sg W0 (zf41.ret Q)) (posC zf41.code []) 33 [0, 3, 4, 6, 7, 8, 9, 10, 11, 12, 13, 16, 22, 23, 24, 25] (zf41.k33 (fun a1 a2 a3 a4 a5 a6 a7 a8 a9 a10 a11 a12 a13 a14 a15 a16 h => zf41.j33 U I11 a1 a2 a3 a4 a5 a6 a7 a8 a9 a10 a11 a12 a13 a14 a15 a16 Q h)) := by
  refine cutOK_head (fun vs h hk => ?_)
  unfold zf41.k33 at hk
  split at hk
  · rename_i a1 a2 a3 a4 a5 a6 a7 a8 a9 a10 a11 a12 a13 a14 a15 a16
    intro todo hm ρ a w s f hp
    exact piece (E := zf41.E U Q [(36, ([0, 3, 4, 6, 7, 8, 9, 10, 11, 12, 13, 16, 19, 22, 23, 24, 25, 26, 28, 29], zf41.k36 (fun a1 a2 a3 a4 a5 a6 a7 a8 a9 a10 a11 a12 a13 a14 a15 a16 a17 a18 a19 a20 h => zf41.j36 U I11 a1 a2 a3 a4 a5 a6 a7 a8 a9 a10 a11 a12 a13 a14 a15 a16 a17 a18 a19 a20 Q h)))]) (vs := [.sl a1, .ptr a2, .ptr (some a3), .ptr (some a4), .int .i64 a5, .ptr (some a6), .int .i64 a7, .ptr a8, .int .i64 a9, .int .i64 a10, .sl a11, .int .i64 a12, .bool a13, .int .i64 a14, .bool a15, .int .i64 a16]) (envOK seatOK (zf41.callsOK hU) hU) (fnOK seatOK zf41.fun) ⟨(zf41.s36 hU Q I11 h11), trivial⟩ zf41.p33 (fuel := 3000) (by rw [← zf41.e33]; exact hk) hm s f hp
  · exact hk.elim

theorem zf41.p31 : (posC zf41.code []).filter (fun p => Nat.beq p.1 31) = [(31, atPos (posC zf41.code []) 31)] := by kernel_rfl

theorem zf41.e31 : ∀ (U : Ifc) (I11 : Sl → (Option Ptr) → Ptr → Ptr → Int → Heap → Prop) (a1 : Sl) (a2 : Option Ptr) (a3 : Ptr) (a4 : Ptr) (a5 : Int) (a6 : Ptr) (a7 : Int) (a8 : Option Ptr) (a9 : Int) (a10 : Int) (a11 : Sl) (a12 : Int) (a13 : Ptr) (Q : Bool → Heap → Prop) (h : Heap), zf41.j31 U I11 a1 a2 a3 a4 a5 a6 a7 a8 a9 a10 a11 a12 a13 Q h = pts (zf41.E U Q [(33, ([0, 3, 4, 6, 7, 8, 9, 10, 11, 12, 13, 16, 22, 23, 24, 25], zf41.k33 (fun a1 a2 a3 a4 a5 a6 a7 a8 a9 a10 a11 a12 a13 a14 a15 a16 h => zf41.j33 U I11 a1 a2 a3 a4 a5 a6 a7 a8 a9 a10 a11 a12 a13 a14 a15 a16 Q h)))]) 3000 true (atPos (posC zf41.code []) 31) (frAt [0, 3, 4, 6, 7, 8, 9, 10, 11, 12, 13, 16, 21] [.sl a1, .ptr a2, .ptr (some a3), .ptr (some a4), .int .i64 a5, .ptr (some a6), .int .i64 a7, .ptr a8, .int .i64 a9, .int .i64 a10, .sl a11, .int .i64 a12, .ptr (some a13)]) h := by
  intros; kernel_rfl

theorem zf41.s31 {W0 : World} {U : Ifc} (hU : IfcOK sg W0 glsT U) (Q : Bool → Heap → Prop) (I11 : Sl → (Option Ptr) → Ptr → Ptr → Int → Heap → Prop) (h11 : CutOK sg W0 335 (entered 3) (Post sg W0 (zf41.ret Q)) (posC zf41.code []) 11 [0, 3, 4, 6, 7] (zf41.k11 I11)) : CutOK sg W0 335 (entered 3) (Post sg W0 (zf41.ret Q)) (posC zf41.code []) 31 [0, 3, 4, 6, 7, 8, 9, 10, 11, 12, 13, 16, 21] (zf41.k31 (fun a1 a2 a3 a4 a5 a6 a7 a8 a9 a10 a11 a12 a13 h => zf41.j31 U I11 a1 a2 a3 a4 a5 a6 a7 a8 a9 a10 a11 a12 a13 Q h)) := by
  refine cutOK_head (fun vs h hk => ?_)
  unfold zf41.k31 at hk
  split at hk
  · rename_i a1 a2 a3 a4 a5 a6 a7 a8 a9 a10 a11 a12 a13
    intro todo hm ρ a w s f hp
    exact piece (E := zf41.E U Q [(33, ([0, 3, 4, 6, 7, 8, 9, 10, 11, 12, 13, 16, 22, 23, 24, 25], zf41.k33 (fun a1 a2 a3 a4 a5 a6 a7 a8 a9 a10 a11 a12 a13 a14 a15 a16 h => zf41.j33 U I11 a1 a2 a3 a4 a5 a6 a7 a8 a9 a10 a11 a12 a13 a14 a15 a16 Q h)))]) (vs := [.sl a1, .ptr a2, .ptr (some a3), .ptr (some a4), .int .i64 a5, .ptr (some a6), .int .i64 a7, .ptr a8, .int .i64 a9, .int .i64 a10, .sl a11, .int .i64 a12, .ptr (some a13)]) (envOK seatOK (zf41.callsOK hU) hU) (fnOK seatOK zf41.fun) ⟨(zf41.s33 hU Q I11 h11), trivial⟩ zf41.p31 (fuel := 3000) (by rw [← zf41.e31]; exact hk) hm s f hp
  · exact hk.elim

theorem zf41.p30 : (posC zf41.code []).filter (fun p => Nat.beq p.1 30) = [(30, atPos (posC zf41.code []) 30)] := by kernel_rfl

theorem zf41.e30 : ∀ (U : Ifc) (I11 : Sl → (Option Ptr) → Ptr → Ptr → Int → Heap → Prop) (a1 : Sl) (a2 : Option Ptr) (a3 : Ptr) (a4 : Ptr) (a5 : Int) (a6 : Ptr) (a7 : Int) (a8 : Option Ptr) (a9 : Int) (a10 : Int) (a11 : Sl) (Q : Bool → Heap → Prop) (h : Heap), zf41.j30 U I11 a1 a2 a3 a4 a5 a6 a7 a8 a9 a10 a11 Q h = pts (zf41.E U Q [(31, ([0, 3, 4, 6, 7, 8, 9, 10, 11, 12, 13, 16, 21], zf41.k31 (fun a1 a2 a3 a4 a5 a6 a7 a8 a9 a10 a11 a12 a13 h => zf41.j31 U I11 a1 a2 a3 a4 a5 a6 a7 a8 a9 a10 a11 a12 a13 Q h)))]) 3000 true (atPos (posC zf41.code []) 30) (frAt [0, 3, 4, 6, 7, 8, 9, 10, 11, 12, 13] [.sl a1, .ptr a2, .ptr (some a3), .ptr (some a4), .int .i64 a5, .ptr (some a6), .int .i64 a7, .ptr a8, .int .i64 a9, .int .i64 a10, .sl a11]) h := by
  intros; kernel_rfl

theorem zf41.s30 {W0 : World} {U : Ifc} (hU : IfcOK sg W0 glsT U) (Q : Bool → Heap → Prop) (I11 : Sl → (Option Ptr) → Ptr → Ptr → Int → Heap → Prop) (h11 : CutOK sg W0 335 (entered 3) (Post sg W0 (zf41.ret Q)) (posC zf41.code []) 11 [0, 3, 4, 6, 7] (zf41.k11 I11)) : CutOK sg W0 335 (entered 3) (Post sg W0 (zf41.ret Q)) (posC zf41.code []) 30 [0, 3, 4, 6, 7, 8, 9, 10, 11, 12, 13] (zf41.k30 (fun a1 a2 a3 a4 a5 a6 a7 a8 a9 a10 a11 h => zf41.j30 U I11 a1 a2 a3 a4 a5 a6 a7 a8 a9 a10 a11 Q h)) := by
  refine cutOK_head (fun vs h hk => ?_)
  unfold zf41.k30 at hk
  split at hk
  · rename_i a1 a2 a3 a4 a5 a6 a7 a8 a9 a10 a11
    intro todo hm ρ a w s f hp
    exact piece (E := zf41.E U Q [(31, ([0, 3, 4, 6, 7, 8, 9, 10, 11, 12, 13, 16, 21], zf41.k31 (fun a1 a2 a3 a4 a5 a6 a7 a8 a9 a10 a11 a12 a13 h => zf41.j31 U I11 a1 a2 a3 a4 a5 a6 a7 a8 a9 a10 a11 a12 a13 Q h)))]) (vs := [.sl a1, .ptr a2, .ptr (some a3), .ptr (some a4), .int .i64 a5, .ptr (some a6), .int .i64 a7, .ptr a8, .int .i64 a9, .int .i64 a10, .sl a11]) (envOK seatOK (zf41.callsOK hU) hU) (fnOK seatOK zf41.fun) ⟨(zf41.s31 hU Q I11 h11), trivial⟩ zf41.p30 (fuel := 3000) (by rw [← zf41.e30]; exact hk) hm s f hp
  · exact hk.elim

theorem zf41.p26 : (posC zf41.code []).filter (fun p => Nat.beq p.1 26) = [(26, atPos (posC zf41.code []) 26)] := by kernel_rfl

theorem zf41.e26 : ∀ (U : Ifc) (I11 : Sl → (Option Ptr) → Ptr → Ptr → Int → Heap → Prop) (a1 : Sl) (a2 : Option Ptr) (a3 : Ptr) (a4 : Ptr) (a5 : Int) (a6 : Ptr) (a7 : Int) (a8 : Option Ptr) (a9 : Int) (a10 : Int) (a11 : Sl) (a12 : Int) (a13 : Int) (Q : Bool → Heap → Prop) (h : Heap), zf41.j26 U I11 a1 a2 a3 a4 a5 a6 a7 a8 a9 a10 a11 a12 a13 Q h = pts (zf41.E U Q [(29, ([], zf41.k29 (fun  h => zf41.j29 U I11  Q h))), (30, ([0, 3, 4, 6, 7, 8, 9, 10, 11, 12, 13], zf41.k30 (fun a1 a2 a3 a4 a5 a6 a7 a8 a9 a10 a11 h => zf41.j30 U I11 a1 a2 a3 a4 a5 a6 a7 a8 a9 a10 a11 Q h)))]) 3000 true (atPos (posC zf41.code []) 26) (frAt [0, 3, 4, 6, 7, 8, 9, 10, 11, 12, 13, 15, 16] [.sl a1, .ptr a2, .ptr (some a3), .ptr (some a4), .int .i64 a5, .ptr (some a6), .int .i64 a7, .ptr a8, .int .i64 a9, .int .i64 a10, .sl a11, .int .i64 a12, .int .i64 a13]) h := by
  intros; kernel_rfl

theorem zf41.s26 {W0 : World} {U : Ifc} (hU : IfcOK sg W0 glsT U) (Q : Bool → Heap → Prop) (I11 : Sl → (Option Ptr) → Ptr → Ptr → Int → Heap → Prop) (h11 : CutOK sg W0 335 (entered 3) (Post sg W0 (zf41.ret Q)) (posC zf41.code []) 11 [0, 3, 4, 6, 7] (zf41.k11 I11)) : CutOK sg W0 335 (entered 3) (Post sg W0 (zf41.ret Q)) (posC zf41.code []) 26 [0, 3, 4, 6, 7, 8, 9, 10, 11, 12, 13, 15, 16] (zf41.k26 (fun a1 a2 a3 a4 a5 a6 a7 a8 a9 a10 a11 a12 a13 h => zf41.j26 U I11 a1 a2 a3 a4 a5 a6 a7 a8 a9 a10 a11 a12 a13 Q h)) := by
  refine cutOK_head (fun vs h hk => ?_)
  unfold zf41.k26 at hk
  split at hk
  · rename_i a1 a2 a3 a4 a5 a6 a7 a8 a9 a10 a11 a12 a13
    intro todo hm ρ a w s f hp
    exact piece (E := zf41.E U Q [(29, ([], zf41.k29 (fun  h => zf41.j29 U I11  Q h))), (30, ([0, 3, 4, 6, 7, 8, 9, 10, 11, 12, 13], zf41.k30 (fun a1 a2 a3 a4 a5 a6 a7 a8 a9 a10 a11 h => zf41.j30 U I11 a1 a2 a3 a4 a5 a6 a7 a8 a9 a10 a11 Q h)))]) (vs := [.sl a1, .ptr a2, .ptr (some a3), .ptr (some a4), .int .i64 a5, .ptr (some a6), .int .i64 a7, .ptr a8, .int .i64 a9, .int .i64 a10, .sl a11, .int .i64 a12, .int .i64 a13]) (envOK seatOK (zf41.callsOK hU) hU) (fnOK seatOK zf41.fun) ⟨(zf41.s29 hU Q I11 h11), (zf41.s30 hU Q I11 h11), trivial⟩ zf41.p26 (fuel := 3000) (by rw [← zf41.e26]; exact hk) hm s f hp
  · exact hk.elim

theorem zf41.p23 : (posC zf41.code []).filter (fun p => Nat.beq p.1 23) = [(23, atPos (posC zf41.code []) 23)] := by kernel_rfl

theorem zf41.e23 : ∀ (U : Ifc) (I11 : Sl → (Option Ptr) → Ptr → Ptr → Int → Heap → Prop) (a1 : Sl) (a2 : Option Ptr) (a3 : Ptr) (a4 : Ptr) (a5 : Int) (a6 : Ptr) (a7 : Int) (a8 : Option Ptr) (a9 : Int) (a10 : Int) (a11 : Sl) (a12 : Int) (Q : Bool → Heap → Prop) (h : Heap), zf41.j23 U I11 a1 a2 a3 a4 a5 a6 a7 a8 a9 a10 a11 a12 Q h = pts (zf41.E U Q [(26, ([0, 3, 4, 6, 7, 8, 9, 10, 11, 12, 13, 15, 16], zf41.k26 (fun a1 a2 a3 a4 a5 a6 a7 a8 a9 a10 a11 a12 a13 h => zf41.j26 U I11 a1 a2 a3 a4 a5 a6 a7 a8 a9 a10 a11 a12 a13 Q h)))]) 3000 true (atPos (posC zf41.code []) 23) (frAt [0, 3, 4, 6, 7, 8, 9, 10, 11, 12, 13, 14] [.sl a1, .ptr a2, .ptr (some a3), .ptr (some a4), .int .i64 a5, .ptr (some a6), .int .i64 a7, .ptr a8, .int .i64 a9, .int .i64 a10, .sl a11, .int .u64 a12]) h := by
  intros; kernel_rfl

theorem zf41.s23 {W0 : World} {U : Ifc} (hU : IfcOK sg W0 glsT U) (Q : Bool → Heap → Prop) (I11 : Sl → (Option Ptr) → Ptr → Ptr → Int → Heap → Prop) (h11 : CutOK sg W0 335 (entered 3) (Post sg W0 (zf41.ret Q)) (posC zf41.code []) 11 [0, 3, 4, 6, 7] (zf41.k11 I11)) : CutOK sg W0 335 (entered 3) (Post sg W0 (zf41.ret Q)) (posC zf41.code []) 23 [0, 3, 4, 6, 7, 8, 9, 10, 11, 12, 13, 14] (zf41.k23 (fun a1 a2 a3 a4 a5 a6 a7 a8 a9 a10 a11 a12 h => zf41.j23 U I11 a1 a2 a3 a4 a5 a6 a7 a8 a9 a10 a11 a12 Q h)) := by
  refine cutOK_head (fun vs h hk => ?_)
  unfold zf41.k23 at hk
  split at hk
  · rename_i a1 a2 a3 a4 a5 a6 a7 a8 a9 a10 a11 a12
    intro todo hm ρ a w s f hp
    exact piece (E := zf41.E U Q [(26, ([0, 3, 4, 6, 7, 8, 9, 10, 11, 12, 13, 15, 16], zf41.k26 (fun a1 a2 a3 a4 a5 a6 a7 a8 a9 a10 a11 a12 a13 h => zf41.j26 U I11 a1 a2 a3 a4 a5 a6 a7 a8 a9 a10 a11 a12 a13 Q h)))]) (vs := [.sl a1, .ptr a2, .ptr (some a3), .ptr (some a4), .int .i64 a5, .ptr (some a6), .int .i64 a7, .ptr a8, .int .i64 a9, .int .i64 a10, .sl a11, .int .u64 a12]) (envOK seatOK (zf41.callsOK hU) hU) (fnOK seatOK zf41.fun) ⟨(zf41.s26 hU Q I11 h11), trivial⟩ zf41.p23 (fuel := 3000) (by rw [← zf41.e23]; exact hk) hm s f hp
  · exact hk.elim

theorem zf41.p20 : (posC zf41.code []).filter (fun p => Nat.beq p.1 20) = [(20, atPos (posC zf41.code []) 20)] := by kernel_rfl

theorem zf41.e20 : ∀ (U : Ifc) (I11 : Sl → (Option Ptr) → Ptr → Ptr → Int → Heap → Prop) (a1 : Sl) (a2 : Option Ptr) (a3 : Ptr) (a4 : Ptr) (a5 : Int) (a6 : Ptr) (a7 : Int) (a8 : Option Ptr) (a9 : Int) (a10 : Int) (a11 : Sl) (Q : Bool → Heap → Prop) (h : Heap), zf41.j20 U I11 a1 a2 a3 a4 a5 a6 a7 a8 a9 a10 a11 Q h = pts (zf41.E U Q [(23, ([0, 3, 4, 6, 7, 8, 9, 10, 11, 12, 13, 14], zf41.k23 (fun a1 a2 a3 a4 a5 a6 a7 a8 a9 a10 a11 a12 h => zf41.j23 U I11 a1 a2 a3 a4 a5 a6 a7 a8 a9 a10 a11 a12 Q h)))]) 3000 true (atPos (posC zf41.code []) 20) (frAt [0, 3, 4, 6, 7, 8, 9, 10, 11, 12, 13] [.sl a1, .ptr a2, .ptr (some a3), .ptr (some a4), .int .i64 a5, .ptr (some a6), .int .i64 a7, .ptr a8, .int .i64 a9, .int .i64 a10, .sl a11]) h := by
  intros; kernel_rfl

theorem zf41.s20 {W0 : World} {U : Ifc} (hU : IfcOK sg W0 glsT U) (Q : Bool → Heap → Prop) (I11 : Sl → (Option Ptr) → Ptr → Ptr → Int → Heap → Prop) (h11 : CutOK sg W0 335 (entered 3) (Post sg W0 (zf41.ret Q)) (posC zf41.code []) 11 [0, 3, 4, 6, 7] (zf41.k11 I11)) : CutOK sg W0 335 (entered 3) (Post sg W0 (zf41.ret Q)) (posC zf41.code []) 20 [0, 3, 4, 6, 7, 8, 9, 10, 11, 12, 13] (zf41.k20 (fun a1 a2 a3 a4 a5 a6 a7 a8 a9 a10 a11 h => zf41.j20 U I11 a1 a2 a3 a4 a5 a6 a7 a8 a9 a10 a11 Q h)) := by
  refine cutOK_head (fun vs h hk => ?_)
  unfold zf41.k20 at hk
  split at hk
  · rename_i a1 a2 a3 a4 a5 a6 a7 a8 a9 a10 a11
    intro todo hm ρ a w s f hp
    exact piece (E := zf41.E U Q [(23, ([0, 3, 4, 6, 7, 8, 9, 10, 11, 12, 13, 14], zf41.k23 (fun a1 a2 a3 a4 a5 a6 a7 a8 a9 a10 a11 a12 h => zf41.j23 U I11 a1 a2 a3 a4 a5 a6 a7 a8 a9 a10 a11 a12 Q h)))]) (vs := [.sl a1, .ptr a2, .ptr (some a3), .ptr (some a4), .int .i64 a5, .ptr (some a6), .int .i64 a7, .ptr a8, .int .i64 a9, .int .i64 a10, .sl a11]) (envOK seatOK (zf41.callsOK hU) hU) (fnOK seatOK zf41.fun) ⟨(zf41.s23 hU Q I11 h11), trivial⟩ zf41.p20 (fuel := 3000) (by rw [← zf41.e20]; exact hk) hm s f hp
  · exact hk.elim

theorem zf41.p16 : (posC zf41.code []).filter (fun p => Nat.beq p.1 16) = [(16, atPos (posC zf41.code []) 16)] := by kernel_rfl

theorem zf41.e16 : ∀ (U : Ifc) (I11 : Sl → (Option Ptr) → Ptr → Ptr → Int → Heap → Prop) (a1 : Sl) (a2 : Option Ptr) (a3 : Ptr) (a4 : Ptr) (a5 : Int) (a6 : Ptr) (a7 : Int) (a8 : Option Ptr) (Q : Bool → Heap → Prop) (h : Heap), zf41.j16 U I11 a1 a2 a3 a4 a5 a6 a7 a8 Q h = pts (zf41.E U Q [(20, ([0, 3, 4, 6, 7, 8, 9, 10, 11, 12, 13], zf41.k20 (fun a1 a2 a3 a4 a5 a6 a7 a8 a9 a10 a11 h => zf41.j20 U I11 a1 a2 a3 a4 a5 a6 a7 a8 a9 a10 a11 Q h)))]) 3000 true (atPos (posC zf41.code []) 16) (frAt [0, 3, 4, 6, 7, 8, 9, 10] [.sl a1, .ptr a2, .ptr (some a3), .ptr (some a4), .int .i64 a5, .ptr (some a6), .int .i64 a7, .ptr a8]) h := by
  intros; kernel_rfl

theorem zf41.s16 {W0 : World} {U : Ifc} (hU : IfcOK sg W0 glsT U) (Q : Bool → Heap → Prop) (I11 : Sl → (Option Ptr) → Ptr → Ptr → Int → Heap → Prop) (h11 : CutOK sg W0 335 (entered 3) (Post sg W0 (zf41.ret Q)) (posC zf41.code []) 11 [0, 3, 4, 6, 7] (zf41.k11 I11)) : CutOK sg W0 335 (entered 3) (Post sg W0 (zf41.ret Q)) (posC zf41.code []) 16 [0, 3, 4, 6, 7, 8, 9, 10] (zf41.k16 (fun a1 a2 a3 a4 a5 a6 a7 a8 h => zf41.j16 U I11 a1 a2 a3 a4 a5 a6 a7 a8 Q h)) := by
  refine cutOK_head (fun vs h hk => ?_)
  unfold zf41.k16 at hk
  split at hk
  · rename_i a1 a2 a3 a4 a5 a6 a7 a8
    intro todo hm ρ a w s f hp
    exact piece (E := zf41.E U Q [(20, ([0, 3, 4, 6, 7, 8, 9, 10, 11, 12, 13], zf41.k20 (fun a1 a2 a3 a4 a5 a6 a7 a8 a9 a10 a11 h => zf41.j20 U I11 a1 a2 a3 a4 a5 a6 a7 a8 a9 a10 a11 Q h)))]) (vs := [.sl a1, .ptr a2, .ptr (some a3), .ptr (some a4), .int .i64 a5, .ptr (some a6), .int .i64 a7, .ptr a8]) (envOK seatOK (zf41.callsOK hU) hU) (fnOK seatOK zf41.fun) ⟨(zf41.s20 hU Q I11 h11), trivial⟩ zf41.p16 (fuel := 3000) (by rw [← zf41.e16]; exact hk) hm s f hp
  · exact hk.elim

theorem zf41.p11 : (posC zf41.code []).filter (fun p => Nat.beq p.1 11) = [(11, atPos (posC zf41.code []) 11)] := by kernel_rfl

theorem zf41.e11 : ∀ (U : Ifc)  (I11 : Sl → (Option Ptr) → Ptr → Ptr → Int → Heap → Prop) (a1 : Sl) (a2 : Option Ptr) (a3 : Ptr) (a4 : Ptr) (a5 : Int) (Q : Bool → Heap → Prop) (h : Heap), zf41.b11 U  I11 a1 a2 a3 a4 a5 Q h = pts (zf41.E U Q [(16, ([0, 3, 4, 6, 7, 8, 9, 10], zf41.k16 (fun a1 a2 a3 a4 a5 a6 a7 a8 h => zf41.j16 U I11 a1 a2 a3 a4 a5 a6 a7 a8 Q h)))]) 3000 true (atPos (posC zf41.code []) 11) (frAt [0, 3, 4, 6, 7] [.sl a1, .ptr a2, .ptr (some a3), .ptr (some a4), .int .i64 a5]) h := by
  intros; kernel_rfl

theorem zf41.s11 {W0 : World} {U : Ifc} (hU : IfcOK sg W0 glsT U) (Q : Bool → Heap → Prop)   : CutOK sg W0 335 (entered 3) (Post sg W0 (zf41.ret Q)) (posC zf41.code []) 11 [0, 3, 4, 6, 7] (zf41.k11 (fun a1 a2 a3 a4 a5 h => zf41.j11 U  a1 a2 a3 a4 a5 Q h)) := by
  refine cutOK_head (fun vs h hk => ?_)
  unfold zf41.k11 at hk
  split at hk
  · rename_i a1 a2 a3 a4 a5
    refine hk (fun a1 a2 a3 a4 a5 h => Head sg W0 335 (entered 3) (Post sg W0 (zf41.ret Q)) (posC zf41.code []) 11 [0, 3, 4, 6, 7] [.sl a1, .ptr a2, .ptr (some a3), .ptr (some a4), .int .i64 a5] h) ?_
    intro a1 a2 a3 a4 a5 h hb todo hm ρ a w s f hp
    have hself : CutOK sg W0 335 (entered 3) (Post sg W0 (zf41.ret Q)) (posC zf41.code []) 11 [0, 3, 4, 6, 7] (zf41.k11 (fun a1 a2 a3 a4 a5 h => Head sg W0 335 (entered 3) (Post sg W0 (zf41.ret Q)) (posC zf41.code []) 11 [0, 3, 4, 6, 7] [.sl a1, .ptr a2, .ptr (some a3), .ptr (some a4), .int .i64 a5] h)) := cutOK_head (fun vs h hk => by unfold zf41.k11 at hk; split at hk; exact hk; exact hk.elim)
    exact piece (E := zf41.E U Q [(16, ([0, 3, 4, 6, 7, 8, 9, 10], zf41.k16 (fun a1 a2 a3 a4 a5 a6 a7 a8 h => zf41.j16 U (fun a1 a2 a3 a4 a5 h => Head sg W0 335 (entered 3) (Post sg W0 (zf41.ret Q)) (posC zf41.code []) 11 [0, 3, 4, 6, 7] [.sl a1, .ptr a2, .ptr (some a3), .ptr (some a4), .int .i64 a5] h) a1 a2 a3 a4 a5 a6 a7 a8 Q h)))]) (vs := [.sl a1, .ptr a2, .ptr (some a3), .ptr (some a4), .int .i64 a5]) (envOK seatOK (zf41.callsOK hU) hU) (fnOK seatOK zf41.fun) ⟨(zf41.s16 hU Q (fun a1 a2 a3 a4 a5 h => Head sg W0 335 (entered 3) (Post sg W0 (zf41.ret Q)) (posC zf41.code []) 11 [0, 3, 4, 6, 7] [.sl a1, .ptr a2, .ptr (some a3), .ptr (some a4), .int .i64 a5] h) hself), trivial⟩ zf41.p11 (fuel := 3000) (by rw [← zf41.e11]; exact hb) hm s f hp
  · exact hk.elim

theorem zf41.p6 : (posC zf41.code []).filter (fun p => Nat.beq p.1 6) = [(6, atPos (posC zf41.code []) 6)] := by kernel_rfl

theorem zf41.e6 : ∀ (U : Ifc)  (I6 : Sl → (Option Ptr) → Ptr → Int → Heap → Prop) (a1 : Sl) (a2 : Option Ptr) (a3 : Ptr) (a4 : Int) (Q : Bool → Heap → Prop) (h : Heap), zf41.b6 U  I6 a1 a2 a3 a4 Q h = pts (zf41.E U Q [(6, ([0, 3, 4, 5], zf41.k6 I6)), (11, ([0, 3, 4, 6, 7], zf41.k11 (fun a1 a2 a3 a4 a5 h => zf41.j11 U  a1 a2 a3 a4 a5 Q h)))]) 3000 true (atPos (posC zf41.code []) 6) (frAt [0, 3, 4, 5] [.sl a1, .ptr a2, .ptr (some a3), .int .i64 a4]) h := by
  intros; kernel_rfl

theorem zf41.s6 {W0 : World} {U : Ifc} (hU : IfcOK sg W0 glsT U) (Q : Bool → Heap → Prop)   : CutOK sg W0 335 (entered 3) (Post sg W0 (zf41.ret Q)) (posC zf41.code []) 6 [0, 3, 4, 5] (zf41.k6 (fun a1 a2 a3 a4 h => zf41.j6 U  a1 a2 a3 a4 Q h)) := by
  refine cutOK_head (fun vs h hk => ?_)
  unfold zf41.k6 at hk
  split at hk
  · rename_i a1 a2 a3 a4
    refine hk (fun a1 a2 a3 a4 h => Head sg W0 335 (entered 3) (Post sg W0 (zf41.ret Q)) (posC zf41.code []) 6 [0, 3, 4, 5] [.sl a1, .ptr a2, .ptr (some a3), .int .i64 a4] h) ?_
    intro a1 a2 a3 a4 h hb todo hm ρ a w s f hp
    have hself : CutOK sg W0 335 (entered 3) (Post sg W0 (zf41.ret Q)) (posC zf41.code []) 6 [0, 3, 4, 5] (zf41.k6 (fun a1 a2 a3 a4 h => Head sg W0 335 (entered 3) (Post sg W0 (zf41.ret Q)) (posC zf41.code []) 6 [0, 3, 4, 5] [.sl a1, .ptr a2, .ptr (some a3), .int .i64 a4] h)) := cutOK_head (fun vs h hk => by unfold zf41.k6 at hk; split at hk; exact hk; exact hk.elim)
    exact piece (E := zf41.E U Q [(6, ([0, 3, 4, 5], zf41.k6 (fun a1 a2 a3 a4 h => Head sg W0 335 (entered 3) (Post sg W0 (zf41.ret Q)) (posC zf41.code []) 6 [0, 3, 4, 5] [.sl a1, .ptr a2, .ptr (some a3), .int .i64 a4] h))), (11, ([0, 3, 4, 6, 7], zf41.k11 (fun a1 a2 a3 a4 a5 h => zf41.j11 U  a1 a2 a3 a4 a5 Q h)))]) (vs := [.sl a1, .ptr a2, .ptr (some a3), .int .i64 a4]) (envOK seatOK (zf41.callsOK hU) hU) (fnOK seatOK zf41.fun) ⟨hself, (zf41.s11 hU Q  ), trivial⟩ zf41.p6 (fuel := 3000) (by rw [← zf41.e6]; exact hb) hm s f hp
  · exact hk.elim

theorem zf41.e : ∀ (U : Ifc) (a1 : Sl) (Q : Bool → Heap → Prop) (h : Heap), zf41 U a1 Q h = pts (zf41.E U Q [(6, ([0, 3, 4, 5], zf41.k6 (fun a1 a2 a3 a4 h => zf41.j6 U  a1 a2 a3 a4 Q h)))]) 3000 true [.code zf41.code] (frOf 0 [.sl a1]) h := by
  intros; kernel_rfl

theorem zf41.S {W0 : World} {U : Ifc} (hU : IfcOK sg W0 glsT U) : FnS sg W0 349 (zf41.C U) := by
  intro vs κ h wv hx w s
  unfold zf41.C at hx
  split at hx
  · rename_i a1
    refine postImp (ret := zf41.ret (fun r1 h => κ (.bool r1) h)) (fun v h hr => by unfold zf41.ret at hr; split at hr; exact hr; exact hr.elim) ?_
    exact calls_of_pts (E := zf41.E U (fun r1 h => κ (.bool r1) h) [(6, ([0, 3, 4, 5], zf41.k6 (fun a1 a2 a3 a4 h => zf41.j6 U  a1 a2 a3 a4 (fun r1 h => κ (.bool r1) h) h)))]) (envOK seatOK (zf41.callsOK hU) hU) seatOK.mixed zf41.fun (Nat.le_of_ble_eq_true rfl) wv (cutL_ok ⟨(zf41.s6 hU (fun r1 h => κ (.bool r1) h)), trivial⟩) s (fuel := 3000) (by rw [← zf41.e]; exact hx)
  · exact hx.elim

noncomputable def zf13.code : Code := Go.Proofs.Tryd.f42.body.getD .skip

theorem zf13.fun : Fun sg.P 42 7 [.tmp 3] zf13.code := mkFun Go.Proofs.Tryd.func42 (by kernel_rfl) (by kernel_rfl) (by kernel_rfl) (by kernel_rfl)

def zf13.ret (Q : Bool → Heap → Prop) (v : V) (h : Heap) : Prop :=
  match v with
  | .bool r1 => Q r1 h
  | _ => False

def zf13.C (vs : List V) (κ : V → Heap → Prop) (h : Heap) : Prop :=
  match vs with
  | [.agg [.int .i64 a1, .bool a2, .int .i64 a3, .int .i64 a4], .ptr (some a5)] => zf13 a1 a2 a3 a4 a5 (fun r1 h => κ (.bool r1) h) h
  | _ => False

noncomputable def zf13.calls : List (Nat × (List V → (V → Heap → Prop) → Heap → Prop)) := []

noncomputable def zf13.E (Q : Bool → Heap → Prop) (cuts : List (Nat × (List Nat × (List V → Heap → Prop)))) : Env := { tis := tisT, fns := fnsT, tys := tysT, gls := [], rts := rtsT, unk := [], nxt := [], calls := zf13.calls, ifc := noIfc, cuts := cuts, ret := zf13.ret Q, rets := [.tmp 3], n := 7 }

theorem zf13.callsOK {W0 : World} : CallsOK sg W0 zf13.calls := trivial

theorem zf13.e : ∀ (a1 : Int) (a2 : Bool) (a3 : Int) (a4 : Int) (a5 : Ptr) (Q : Bool → Heap → Prop) (h : Heap), zf13 a1 a2 a3 a4 a5 Q h = pts (zf13.E Q []) 3000 true [.code zf13.code] (frOf 0 [.agg [.int .i64 a1, .bool a2, .int .i64 a3, .int .i64 a4], .ptr (some a5)]) h := by
  intros; kernel_rfl

theorem zf13.S {W0 : World} : FnS sg W0 56 zf13.C := by
  intro vs κ h wv hx w s
  unfold zf13.C at hx
  split at hx
  · rename_i a1 a2 a3 a4 a5
    refine postImp (ret := zf13.ret (fun r1 h => κ (.bool r1) h)) (fun v h hr => by unfold zf13.ret at hr; split at hr; exact hr; exact hr.elim) ?_
    exact calls_of_pts (E := zf13.E (fun r1 h => κ (.bool r1) h) []) (envOK seatOK zf13.callsOK noIfc_ok) seatOK.mixed zf13.fun (Nat.le_of_ble_eq_true rfl) wv (cutL_ok trivial) s (fuel := 3000) (by rw [← zf13.e]; exact hx)
  · exact hx.elim

noncomputable def zf16.code : Code := Go.Proofs.Tryd.f74.body.getD .skip

theorem zf16.fun : Fun sg.P 74 5 [.tmp 2] zf16.code := mkFun Go.Proofs.Tryd.func74 (by kernel_rfl) (by kernel_rfl) (by kernel_rfl) (by kernel_rfl)

def zf16.ret (Q : Bool → Heap → Prop) (v : V) (h : Heap) : Prop :=
  match v with
  | .bool r1 => Q r1 h
  | _ => False

def zf16.C (vs : List V) (κ : V → Heap → Prop) (h : Heap) : Prop :=
  match vs with
  | [.int .u8 a1] => zf16 a1 (fun r1 h => κ (.bool r1) h) h
  | _ => False

noncomputable def zf16.calls : List (Nat × (List V → (V → Heap → Prop) → Heap → Prop)) := []

noncomputable def zf16.E (Q : Bool → Heap → Prop) (cuts : List (Nat × (List Nat × (List V → Heap → Prop)))) : Env := { tis := tisT, fns := fnsT, tys := tysT, gls := [], rts := rtsT, unk := [], nxt := [], calls := zf16.calls, ifc := noIfc, cuts := cuts, ret := zf16.ret Q, rets := [.tmp 2], n := 5 }

theorem zf16.callsOK {W0 : World} : CallsOK sg W0 zf16.calls := trivial

theorem zf16.e : ∀ (a1 : Int) (Q : Bool → Heap → Prop) (h : Heap), zf16 a1 Q h = pts (zf16.E Q []) 3000 true [.code zf16.code] (frOf 0 [.int .u8 a1]) h := by
  intros; kernel_rfl

theorem zf16.S {W0 : World} : FnS sg W0 57 zf16.C := by
  intro vs κ h wv hx w s
  unfold zf16.C at hx
  split at hx
  · rename_i a1
    refine postImp (ret := zf16.ret (fun r1 h => κ (.bool r1) h)) (fun v h hr => by unfold zf16.ret at hr; split at hr; exact hr; exact hr.elim) ?_
    exact calls_of_pts (E := zf16.E (fun r1 h => κ (.bool r1) h) []) (envOK seatOK zf16.callsOK noIfc_ok) seatOK.mixed zf16.fun (Nat.le_of_ble_eq_true rfl) wv (cutL_ok trivial) s (fuel := 3000) (by rw [← zf16.e]; exact hx)
  · exact hx.elim

noncomputable def zf18.code : Code := Go.Proofs.Tryd.f86.body.getD .skip

theorem zf18.fun : Fun sg.P 86 9 [.tmp 3] zf18.code := mkFun Go.Proofs.Tryd.func86 (by kernel_rfl) (by kernel_rfl) (by kernel_rfl) (by kernel_rfl)

def zf18.ret (Q : Bool → Heap → Prop) (v : V) (h : Heap) : Prop :=
  match v with
  | .bool r1 => Q r1 h
  | _ => False

def zf18.C (vs : List V) (κ : V → Heap → Prop) (h : Heap) : Prop :=
  match vs with
  | [.agg [.int .i64 a1, .bool a2, .int .i64 a3, .int .i64 a4], .ptr (some a5)] => zf18 a1 a2 a3 a4 a5 (fun r1 h => κ (.bool r1) h) h
  | _ => False

noncomputable def zf18.calls : List (Nat × (List V → (V → Heap → Prop) → Heap → Prop)) := []

noncomputable def zf18.E (Q : Bool → Heap → Prop) (cuts : List (Nat × (List Nat × (List V → Heap → Prop)))) : Env := { tis := tisT, fns := fnsT, tys := tysT, gls := [], rts := rtsT, unk := [], nxt := [], calls := zf18.calls, ifc := noIfc, cuts := cuts, ret := zf18.ret Q, rets := [.tmp 3], n := 9 }

theorem zf18.callsOK {W0 : World} : CallsOK sg W0 zf18.calls := trivial

theorem zf18.e : ∀ (a1 : Int) (a2 : Bool) (a3 : Int) (a4 : Int) (a5 : Ptr) (Q : Bool → Heap → Prop) (h : Heap), zf18 a1 a2 a3 a4 a5 Q h = pts (zf18.E Q []) 3000 true [.code zf18.code] (frOf 0 [.agg [.int .i64 a1, .bool a2, .int .i64 a3, .int .i64 a4], .ptr (some a5)]) h := by
  intros; kernel_rfl

theorem zf18.S {W0 : World} : FnS sg W0 3 zf18.C := by
  intro vs κ h wv hx w s
  unfold zf18.C at hx
  split at hx
  · rename_i a1 a2 a3 a4 a5
    refine postImp (ret := zf18.ret (fun r1 h => κ (.bool r1) h)) (fun v h hr => by unfold zf18.ret at hr; split at hr; exact hr; exact hr.elim) ?_
    exact calls_of_pts (E := zf18.E (fun r1 h => κ (.bool r1) h) []) (envOK seatOK zf18.callsOK noIfc_ok) seatOK.mixed zf18.fun (Nat.le_of_ble_eq_true rfl) wv (cutL_ok trivial) s (fuel := 3000) (by rw [← zf18.e]; exact hx)
  · exact hx.elim

noncomputable def zf43.code : Code := Go.Proofs.Tryd.f104.body.getD .skip

theorem zf43.fun : Fun sg.P 104 24 [.tmp 6, .tmp 7] zf43.code := mkFun Go.Proofs.Tryd.func104 (by kernel_rfl) (by kernel_rfl) (by kernel_rfl) (by kernel_rfl)

def zf43.ret (Q : Int → Bool → Heap → Prop) (v : V) (h : Heap) : Prop :=
  match v with
  | .tup [.int .i64 r1, .bool r2] => Q r1 r2 h
  | _ => False

def zf43.C (vs : List V) (κ : V → Heap → Prop) (h : Heap) : Prop :=
  match vs with
  | [.ptr a1, .int .i64 a2, .bool a3] => zf43 a1 a2 a3 (fun r1 r2 h => κ (.tup [.int .i64 r1, .bool r2]) h) h
  | _ => False

noncomputable def zf43.calls : List (Nat × (List V → (V → Heap → Prop) → Heap → Prop)) := []

noncomputable def zf43.E (Q : Int → Bool → Heap → Prop) (cuts : List (Nat × (List Nat × (List V → Heap → Prop)))) : Env := { tis := tisT, fns := fnsT, tys := tysT, gls := [], rts := rtsT, unk := [], nxt := [], calls := zf43.calls, ifc := noIfc, cuts := cuts, ret := zf43.ret Q, rets := [.tmp 6, .tmp 7], n := 24 }

theorem zf43.callsOK {W0 : World} : CallsOK sg W0 zf43.calls := trivial

theorem zf43.e : ∀ (a1 : Option Ptr) (a2 : Int) (a3 : Bool) (Q : Int → Bool → Heap → Prop) (h : Heap), zf43 a1 a2 a3 Q h = pts (zf43.E Q []) 3000 true [.code zf43.code] (frOf 0 [.ptr a1, .int .i64 a2, .bool a3]) h := by
  intros; kernel_rfl

theorem zf43.S {W0 : World} : FnS sg W0 296 zf43.C := by
  intro vs κ h wv hx w s
  unfold zf43.C at hx
  split at hx
  · rename_i a1 a2 a3
    refine postImp (ret := zf43.ret (fun r1 r2 h => κ (.tup [.int .i64 r1, .bool r2]) h)) (fun v h hr => by unfold zf43.ret at hr; split at hr; exact hr; exact hr.elim) ?_
    exact calls_of_pts (E := zf43.E (fun r1 r2 h => κ (.tup [.int .i64 r1, .bool r2]) h) []) (envOK seatOK zf43.callsOK noIfc_ok) seatOK.mixed zf43.fun (Nat.le_of_ble_eq_true rfl) wv (cutL_ok trivial) s (fuel := 3000) (by rw [← zf43.e]; exact hx)
  · exact hx.elim

end Go.Fn
