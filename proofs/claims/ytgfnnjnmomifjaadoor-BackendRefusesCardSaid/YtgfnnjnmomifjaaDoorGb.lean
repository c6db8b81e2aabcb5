/- The links of the shallow functions to the machine. PRINTED by lift.py. -/
import Derived.Test.YtgfnnjnmomifjaaDoorGb2
set_option linter.unusedVariables false
set_option maxRecDepth 100000
namespace Go.Fn
open Go.Lift

noncomputable def palisadelaw24_BackendRefuses.code : Code := Go.Proofs.Tryd.f4.body.getD .skip

theorem palisadelaw24_BackendRefuses.fun : Fun sg.P 4 223 [.tmp 6] palisadelaw24_BackendRefuses.code := mkFun Go.Proofs.Tryd.func4 (by kernel_rfl) (by kernel_rfl) (by kernel_rfl) (by kernel_rfl)

def palisadelaw24_BackendRefuses.ret (Q : Bool → Heap → Prop) (v : V) (h : Heap) : Prop :=
  match v with
  | .bool r1 => Q r1 h
  | _ => False

def palisadelaw24_BackendRefuses.C (U : Ifc) (vs : List V) (κ : V → Heap → Prop) (h : Heap) : Prop :=
  match vs with
  | [.sl a1, .int .u64 a2, .int .u64 a3] => palisadelaw24_BackendRefuses U a1 a2 a3 (fun r1 h => κ (.bool r1) h) h
  | _ => False

noncomputable def palisadelaw24_BackendRefuses.calls (U : Ifc) : List (Nat × (List V → (V → Heap → Prop) → Heap → Prop)) := [(265, palisadelaw24_begin.C), (301, palisadelaw24_offer.C U), (302, palisadelaw24_back.C U), (300, palisadelaw24_request.C U), (275, backend_Block_Kick.C U), (297, palisadelaw24_Flat_Load.C U), (38, disk_Disk_Pending.C), (303, frames_Frames_Sum.C)]

noncomputable def palisadelaw24_BackendRefuses.E (U : Ifc) (Q : Bool → Heap → Prop) (cuts : List (Nat × (List Nat × (List V → Heap → Prop)))) : Env := { tis := tisT, fns := fnsT, tys := tysT, gls := glsT, rts := rtsT, unk := [], nxt := [], calls := palisadelaw24_BackendRefuses.calls U, ifc := U, cuts := cuts, ret := palisadelaw24_BackendRefuses.ret Q, rets := [.tmp 6], n := 223 }

theorem palisadelaw24_BackendRefuses.callsOK {W0 : World} {U : Ifc} (hU : IfcOK sg W0 glsT U) : CallsOK sg W0 (palisadelaw24_BackendRefuses.calls U) := ⟨palisadelaw24_begin.S, (palisadelaw24_offer.S hU), (palisadelaw24_back.S hU), (palisadelaw24_request.S hU), (backend_Block_Kick.S hU), (palisadelaw24_Flat_Load.S hU), disk_Disk_Pending.S, frames_Frames_Sum.S, trivial⟩

def palisadelaw24_BackendRefuses.k14 (I : (Option Ptr) → Int → Int → Int → Int → Int → Heap → Prop) (vs : List V) (h : Heap) : Prop :=
  match vs with
  | [.ptr a1, .int .i64 a2, .int .i64 a3, .int .u64 a4, .int .i64 a5, .int .u64 a6] => I a1 a2 a3 a4 a5 a6 h
  | _ => False

def palisadelaw24_BackendRefuses.k11 (I : Int → (Option Ptr) → Int → Int → Int → Int → Heap → Prop) (vs : List V) (h : Heap) : Prop :=
  match vs with
  | [.int .u64 a1, .ptr a2, .int .i64 a3, .int .i64 a4, .int .u64 a5, .int .i64 a6] => I a1 a2 a3 a4 a5 a6 h
  | _ => False

def palisadelaw24_BackendRefuses.k7 (I : Int → (Option Ptr) → (Option Ptr) → Sl → Heap → Prop) (vs : List V) (h : Heap) : Prop :=
  match vs with
  | [.int .u64 a1, .ptr a2, .ptr a3, .sl a4] => I a1 a2 a3 a4 h
  | _ => False

def palisadelaw24_BackendRefuses.k18 (I : Sl → (Option Ptr) → (Option Ptr) → Sl → Int → Heap → Prop) (vs : List V) (h : Heap) : Prop :=
  match vs with
  | [.sl a1, .ptr a2, .ptr a3, .sl a4, .int .i64 a5] => I a1 a2 a3 a4 a5 h
  | _ => False

def palisadelaw24_BackendRefuses.k27 (I : Heap → Prop) (vs : List V) (h : Heap) : Prop :=
  match vs with
  | [] => I  h
  | _ => False

def palisadelaw24_BackendRefuses.k28 (I : (Option Ptr) → Int → Ptr → Heap → Prop) (vs : List V) (h : Heap) : Prop :=
  match vs with
  | [.ptr a1, .int .i64 a2, .ptr (some a3)] => I a1 a2 a3 h
  | _ => False

def palisadelaw24_BackendRefuses.k25 (I : (Option Ptr) → (Option Ptr) → Sl → Int → Int → Int → Int → Heap → Prop) (vs : List V) (h : Heap) : Prop :=
  match vs with
  | [.ptr a1, .ptr a2, .sl a3, .int .i64 a4, .int .i64 a5, .int .i64 a6, .int .i64 a7] => I a1 a2 a3 a4 a5 a6 a7 h
  | _ => False

def palisadelaw24_BackendRefuses.k20 (I : (Option Ptr) → (Option Ptr) → Sl → Heap → Prop) (vs : List V) (h : Heap) : Prop :=
  match vs with
  | [.ptr a1, .ptr a2, .sl a3] => I a1 a2 a3 h
  | _ => False

def palisadelaw24_BackendRefuses.k17 (I : Sl → (Option Ptr) → (Option Ptr) → Sl → Int → Heap → Prop) (vs : List V) (h : Heap) : Prop :=
  match vs with
  | [.sl a1, .ptr a2, .ptr a3, .sl a4, .int .i64 a5] => I a1 a2 a3 a4 a5 h
  | _ => False

theorem palisadelaw24_BackendRefuses.p14 : (posC palisadelaw24_BackendRefuses.code []).filter (fun p => Nat.beq p.1 14) = [(14, atPos (posC palisadelaw24_BackendRefuses.code []) 14)] := by kernel_rfl

theorem palisadelaw24_BackendRefuses.e14 : ∀ (U : Ifc)  (a1 : Option Ptr) (a2 : Int) (a3 : Int) (a4 : Int) (a5 : Int) (a6 : Int) (Q : Bool → Heap → Prop) (h : Heap), palisadelaw24_BackendRefuses.j14 U  a1 a2 a3 a4 a5 a6 Q h = pts (palisadelaw24_BackendRefuses.E U Q []) 3000 true (atPos (posC palisadelaw24_BackendRefuses.code []) 14) (frAt [7, 10, 11, 12, 15, 16] [.ptr a1, .int .i64 a2, .int .i64 a3, .int .u64 a4, .int .i64 a5, .int .u64 a6]) h := by
  intros; kernel_rfl

theorem palisadelaw24_BackendRefuses.s14 {W0 : World} {U : Ifc} (hU : IfcOK sg W0 glsT U) (Q : Bool → Heap → Prop)   : CutOK sg W0 223 (entered 4) (Post sg W0 (palisadelaw24_BackendRefuses.ret Q)) (posC palisadelaw24_BackendRefuses.code []) 14 [7, 10, 11, 12, 15, 16] (palisadelaw24_BackendRefuses.k14 (fun a1 a2 a3 a4 a5 a6 h => palisadelaw24_BackendRefuses.j14 U  a1 a2 a3 a4 a5 a6 Q h)) := by
  refine cutOK_head (fun vs h hk => ?_)
  unfold palisadelaw24_BackendRefuses.k14 at hk
  split at hk
  · rename_i a1 a2 a3 a4 a5 a6
    intro todo hm ρ a w s f hp
    exact piece (E := palisadelaw24_BackendRefuses.E U Q []) (vs := [.ptr a1, .int .i64 a2, .int .i64 a3, .int .u64 a4, .int .i64 a5, .int .u64 a6]) (envOK seatOK (palisadelaw24_BackendRefuses.callsOK hU) hU) (fnOK seatOK palisadelaw24_BackendRefuses.fun) trivial palisadelaw24_BackendRefuses.p14 (fuel := 3000) (by rw [← palisadelaw24_BackendRefuses.e14]; exact hk) hm s f hp
  · exact hk.elim

theorem palisadelaw24_BackendRefuses.p11 : (posC palisadelaw24_BackendRefuses.code []).filter (fun p => Nat.beq p.1 11) = [(11, atPos (posC palisadelaw24_BackendRefuses.code []) 11)] := by kernel_rfl

theorem palisadelaw24_BackendRefuses.e11 : ∀ (U : Ifc)  (a1 : Int) (a2 : Option Ptr) (a3 : Int) (a4 : Int) (a5 : Int) (a6 : Int) (Q : Bool → Heap → Prop) (h : Heap), palisadelaw24_BackendRefuses.j11 U  a1 a2 a3 a4 a5 a6 Q h = pts (palisadelaw24_BackendRefuses.E U Q [(14, ([7, 10, 11, 12, 15, 16], palisadelaw24_BackendRefuses.k14 (fun a1 a2 a3 a4 a5 a6 h => palisadelaw24_BackendRefuses.j14 U  a1 a2 a3 a4 a5 a6 Q h)))]) 3000 true (atPos (posC palisadelaw24_BackendRefuses.code []) 11) (frAt [1, 7, 10, 11, 12, 15] [.int .u64 a1, .ptr a2, .int .i64 a3, .int .i64 a4, .int .u64 a5, .int .i64 a6]) h := by
  intros; kernel_rfl

theorem palisadelaw24_BackendRefuses.s11 {W0 : World} {U : Ifc} (hU : IfcOK sg W0 glsT U) (Q : Bool → Heap → Prop)   : CutOK sg W0 223 (entered 4) (Post sg W0 (palisadelaw24_BackendRefuses.ret Q)) (posC palisadelaw24_BackendRefuses.code []) 11 [1, 7, 10, 11, 12, 15] (palisadelaw24_BackendRefuses.k11 (fun a1 a2 a3 a4 a5 a6 h => palisadelaw24_BackendRefuses.j11 U  a1 a2 a3 a4 a5 a6 Q h)) := by
  refine cutOK_head (fun vs h hk => ?_)
  unfold palisadelaw24_BackendRefuses.k11 at hk
  split at hk
  · rename_i a1 a2 a3 a4 a5 a6
    intro todo hm ρ a w s f hp
    exact piece (E := palisadelaw24_BackendRefuses.E U Q [(14, ([7, 10, 11, 12, 15, 16], palisadelaw24_BackendRefuses.k14 (fun a1 a2 a3 a4 a5 a6 h => palisadelaw24_BackendRefuses.j14 U  a1 a2 a3 a4 a5 a6 Q h)))]) (vs := [.int .u64 a1, .ptr a2, .int .i64 a3, .int .i64 a4, .int .u64 a5, .int .i64 a6]) (envOK seatOK (palisadelaw24_BackendRefuses.callsOK hU) hU) (fnOK seatOK palisadelaw24_BackendRefuses.fun) ⟨(palisadelaw24_BackendRefuses.s14 hU Q  ), trivial⟩ palisadelaw24_BackendRefuses.p11 (fuel := 3000) (by rw [← palisadelaw24_BackendRefuses.e11]; exact hk) hm s f hp
  · exact hk.elim

theorem palisadelaw24_BackendRefuses.p7 : (posC palisadelaw24_BackendRefuses.code []).filter (fun p => Nat.beq p.1 7) = [(7, atPos (posC palisadelaw24_BackendRefuses.code []) 7)] := by kernel_rfl

theorem palisadelaw24_BackendRefuses.e7 : ∀ (U : Ifc)  (a1 : Int) (a2 : Option Ptr) (a3 : Option Ptr) (a4 : Sl) (Q : Bool → Heap → Prop) (h : Heap), palisadelaw24_BackendRefuses.j7 U  a1 a2 a3 a4 Q h = pts (palisadelaw24_BackendRefuses.E U Q [(11, ([1, 7, 10, 11, 12, 15], palisadelaw24_BackendRefuses.k11 (fun a1 a2 a3 a4 a5 a6 h => palisadelaw24_BackendRefuses.j11 U  a1 a2 a3 a4 a5 a6 Q h)))]) 3000 true (atPos (posC palisadelaw24_BackendRefuses.code []) 7) (frAt [1, 7, 8, 9] [.int .u64 a1, .ptr a2, .ptr a3, .sl a4]) h := by
  intros; kernel_rfl

theorem palisadelaw24_BackendRefuses.s7 {W0 : World} {U : Ifc} (hU : IfcOK sg W0 glsT U) (Q : Bool → Heap → Prop)   : CutOK sg W0 223 (entered 4) (Post sg W0 (palisadelaw24_BackendRefuses.ret Q)) (posC palisadelaw24_BackendRefuses.code []) 7 [1, 7, 8, 9] (palisadelaw24_BackendRefuses.k7 (fun a1 a2 a3 a4 h => palisadelaw24_BackendRefuses.j7 U  a1 a2 a3 a4 Q h)) := by
  refine cutOK_head (fun vs h hk => ?_)
  unfold palisadelaw24_BackendRefuses.k7 at hk
  split at hk
  · rename_i a1 a2 a3 a4
    intro todo hm ρ a w s f hp
    exact piece (E := palisadelaw24_BackendRefuses.E U Q [(11, ([1, 7, 10, 11, 12, 15], palisadelaw24_BackendRefuses.k11 (fun a1 a2 a3 a4 a5 a6 h => palisadelaw24_BackendRefuses.j11 U  a1 a2 a3 a4 a5 a6 Q h)))]) (vs := [.int .u64 a1, .ptr a2, .ptr a3, .sl a4]) (envOK seatOK (palisadelaw24_BackendRefuses.callsOK hU) hU) (fnOK seatOK palisadelaw24_BackendRefuses.fun) ⟨(palisadelaw24_BackendRefuses.s11 hU Q  ), trivial⟩ palisadelaw24_BackendRefuses.p7 (fuel := 3000) (by rw [← palisadelaw24_BackendRefuses.e7]; exact hk) hm s f hp
  · exact hk.elim

theorem palisadelaw24_BackendRefuses.p18 : (posC palisadelaw24_BackendRefuses.code []).filter (fun p => Nat.beq p.1 18) = [(18, atPos (posC palisadelaw24_BackendRefuses.code []) 18)] := by kernel_rfl

theorem palisadelaw24_BackendRefuses.e18 : ∀ (U : Ifc) (I17 : Sl → (Option Ptr) → (Option Ptr) → Sl → Int → Heap → Prop) (a1 : Sl) (a2 : Option Ptr) (a3 : Option Ptr) (a4 : Sl) (a5 : Int) (Q : Bool → Heap → Prop) (h : Heap), palisadelaw24_BackendRefuses.j18 U I17 a1 a2 a3 a4 a5 Q h = pts (palisadelaw24_BackendRefuses.E U Q [(17, ([0, 7, 8, 17, 18], palisadelaw24_BackendRefuses.k17 I17))]) 3000 true (atPos (posC palisadelaw24_BackendRefuses.code []) 18) (frAt [0, 7, 8, 17, 18] [.sl a1, .ptr a2, .ptr a3, .sl a4, .int .i64 a5]) h := by
  intros; kernel_rfl

theorem palisadelaw24_BackendRefuses.s18 {W0 : World} {U : Ifc} (hU : IfcOK sg W0 glsT U) (Q : Bool → Heap → Prop) (I17 : Sl → (Option Ptr) → (Option Ptr) → Sl → Int → Heap → Prop) (h17 : CutOK sg W0 223 (entered 4) (Post sg W0 (palisadelaw24_BackendRefuses.ret Q)) (posC palisadelaw24_BackendRefuses.code []) 17 [0, 7, 8, 17, 18] (palisadelaw24_BackendRefuses.k17 I17)) : CutOK sg W0 223 (entered 4) (Post sg W0 (palisadelaw24_BackendRefuses.ret Q)) (posC palisadelaw24_BackendRefuses.code []) 18 [0, 7, 8, 17, 18] (palisadelaw24_BackendRefuses.k18 (fun a1 a2 a3 a4 a5 h => palisadelaw24_BackendRefuses.j18 U I17 a1 a2 a3 a4 a5 Q h)) := by
  refine cutOK_head (fun vs h hk => ?_)
  unfold palisadelaw24_BackendRefuses.k18 at hk
  split at hk
  · rename_i a1 a2 a3 a4 a5
    intro todo hm ρ a w s f hp
    exact piece (E := palisadelaw24_BackendRefuses.E U Q [(17, ([0, 7, 8, 17, 18], palisadelaw24_BackendRefuses.k17 I17))]) (vs := [.sl a1, .ptr a2, .ptr a3, .sl a4, .int .i64 a5]) (envOK seatOK (palisadelaw24_BackendRefuses.callsOK hU) hU) (fnOK seatOK palisadelaw24_BackendRefuses.fun) ⟨h17, trivial⟩ palisadelaw24_BackendRefuses.p18 (fuel := 3000) (by rw [← palisadelaw24_BackendRefuses.e18]; exact hk) hm s f hp
  · exact hk.elim

theorem palisadelaw24_BackendRefuses.p27 : (posC palisadelaw24_BackendRefuses.code []).filter (fun p => Nat.beq p.1 27) = [(27, atPos (posC palisadelaw24_BackendRefuses.code []) 27)] := by kernel_rfl

theorem palisadelaw24_BackendRefuses.e27 : ∀ (U : Ifc)   (Q : Bool → Heap → Prop) (h : Heap), palisadelaw24_BackendRefuses.j27 U   Q h = pts (palisadelaw24_BackendRefuses.E U Q []) 3000 true (atPos (posC palisadelaw24_BackendRefuses.code []) 27) (frAt [] []) h := by
  intros; kernel_rfl

theorem palisadelaw24_BackendRefuses.s27 {W0 : World} {U : Ifc} (hU : IfcOK sg W0 glsT U) (Q : Bool → Heap → Prop)   : CutOK sg W0 223 (entered 4) (Post sg W0 (palisadelaw24_BackendRefuses.ret Q)) (posC palisadelaw24_BackendRefuses.code []) 27 [] (palisadelaw24_BackendRefuses.k27 (fun  h => palisadelaw24_BackendRefuses.j27 U   Q h)) := by
  refine cutOK_head (fun vs h hk => ?_)
  unfold palisadelaw24_BackendRefuses.k27 at hk
  split at hk
  · skip
    intro todo hm ρ a w s f hp
    exact piece (E := palisadelaw24_BackendRefuses.E U Q []) (vs := []) (envOK seatOK (palisadelaw24_BackendRefuses.callsOK hU) hU) (fnOK seatOK palisadelaw24_BackendRefuses.fun) trivial palisadelaw24_BackendRefuses.p27 (fuel := 3000) (by rw [← palisadelaw24_BackendRefuses.e27]; exact hk) hm s f hp
  · exact hk.elim

theorem palisadelaw24_BackendRefuses.p28 : (posC palisadelaw24_BackendRefuses.code []).filter (fun p => Nat.beq p.1 28) = [(28, atPos (posC palisadelaw24_BackendRefuses.code []) 28)] := by kernel_rfl

theorem palisadelaw24_BackendRefuses.e28 : ∀ (U : Ifc)  (a1 : Option Ptr) (a2 : Int) (a3 : Ptr) (Q : Bool → Heap → Prop) (h : Heap), palisadelaw24_BackendRefuses.j28 U  a1 a2 a3 Q h = pts (palisadelaw24_BackendRefuses.E U Q []) 3000 true (atPos (posC palisadelaw24_BackendRefuses.code []) 28) (frAt [8, 22, 23] [.ptr a1, .int .i64 a2, .ptr (some a3)]) h := by
  intros; kernel_rfl

theorem palisadelaw24_BackendRefuses.s28 {W0 : World} {U : Ifc} (hU : IfcOK sg W0 glsT U) (Q : Bool → Heap → Prop)   : CutOK sg W0 223 (entered 4) (Post sg W0 (palisadelaw24_BackendRefuses.ret Q)) (posC palisadelaw24_BackendRefuses.code []) 28 [8, 22, 23] (palisadelaw24_BackendRefuses.k28 (fun a1 a2 a3 h => palisadelaw24_BackendRefuses.j28 U  a1 a2 a3 Q h)) := by
  refine cutOK_head (fun vs h hk => ?_)
  unfold palisadelaw24_BackendRefuses.k28 at hk
  split at hk
  · rename_i a1 a2 a3
    intro todo hm ρ a w s f hp
    exact piece (E := palisadelaw24_BackendRefuses.E U Q []) (vs := [.ptr a1, .int .i64 a2, .ptr (some a3)]) (envOK seatOK (palisadelaw24_BackendRefuses.callsOK hU) hU) (fnOK seatOK palisadelaw24_BackendRefuses.fun) trivial palisadelaw24_BackendRefuses.p28 (fuel := 3000) (by rw [← palisadelaw24_BackendRefuses.e28]; exact hk) hm s f hp
  · exact hk.elim

theorem palisadelaw24_BackendRefuses.p25 : (posC palisadelaw24_BackendRefuses.code []).filter (fun p => Nat.beq p.1 25) = [(25, atPos (posC palisadelaw24_BackendRefuses.code []) 25)] := by kernel_rfl

theorem palisadelaw24_BackendRefuses.e25 : ∀ (U : Ifc)  (a1 : Option Ptr) (a2 : Option Ptr) (a3 : Sl) (a4 : Int) (a5 : Int) (a6 : Int) (a7 : Int) (Q : Bool → Heap → Prop) (h : Heap), palisadelaw24_BackendRefuses.j25 U  a1 a2 a3 a4 a5 a6 a7 Q h = pts (palisadelaw24_BackendRefuses.E U Q [(27, ([], palisadelaw24_BackendRefuses.k27 (fun  h => palisadelaw24_BackendRefuses.j27 U   Q h))), (28, ([8, 22, 23], palisadelaw24_BackendRefuses.k28 (fun a1 a2 a3 h => palisadelaw24_BackendRefuses.j28 U  a1 a2 a3 Q h)))]) 3000 true (atPos (posC palisadelaw24_BackendRefuses.code []) 25) (frAt [7, 8, 17, 19, 20, 21, 22] [.ptr a1, .ptr a2, .sl a3, .int .i64 a4, .int .i64 a5, .int .i64 a6, .int .i64 a7]) h := by
  intros; kernel_rfl

theorem palisadelaw24_BackendRefuses.s25 {W0 : World} {U : Ifc} (hU : IfcOK sg W0 glsT U) (Q : Bool → Heap → Prop)   : CutOK sg W0 223 (entered 4) (Post sg W0 (palisadelaw24_BackendRefuses.ret Q)) (posC palisadelaw24_BackendRefuses.code []) 25 [7, 8, 17, 19, 20, 21, 22] (palisadelaw24_BackendRefuses.k25 (fun a1 a2 a3 a4 a5 a6 a7 h => palisadelaw24_BackendRefuses.j25 U  a1 a2 a3 a4 a5 a6 a7 Q h)) := by
  refine cutOK_head (fun vs h hk => ?_)
  unfold palisadelaw24_BackendRefuses.k25 at hk
  split at hk
  · rename_i a1 a2 a3 a4 a5 a6 a7
    intro todo hm ρ a w s f hp
    exact piece (E := palisadelaw24_BackendRefuses.E U Q [(27, ([], palisadelaw24_BackendRefuses.k27 (fun  h => palisadelaw24_BackendRefuses.j27 U   Q h))), (28, ([8, 22, 23], palisadelaw24_BackendRefuses.k28 (fun a1 a2 a3 h => palisadelaw24_BackendRefuses.j28 U  a1 a2 a3 Q h)))]) (vs := [.ptr a1, .ptr a2, .sl a3, .int .i64 a4, .int .i64 a5, .int .i64 a6, .int .i64 a7]) (envOK seatOK (palisadelaw24_BackendRefuses.callsOK hU) hU) (fnOK seatOK palisadelaw24_BackendRefuses.fun) ⟨(palisadelaw24_BackendRefuses.s27 hU Q  ), (palisadelaw24_BackendRefuses.s28 hU Q  ), trivial⟩ palisadelaw24_BackendRefuses.p25 (fuel := 3000) (by rw [← palisadelaw24_BackendRefuses.e25]; exact hk) hm s f hp
  · exact hk.elim

theorem palisadelaw24_BackendRefuses.p20 : (posC palisadelaw24_BackendRefuses.code []).filter (fun p => Nat.beq p.1 20) = [(20, atPos (posC palisadelaw24_BackendRefuses.code []) 20)] := by kernel_rfl

theorem palisadelaw24_BackendRefuses.e20 : ∀ (U : Ifc)  (a1 : Option Ptr) (a2 : Option Ptr) (a3 : Sl) (Q : Bool → Heap → Prop) (h : Heap), palisadelaw24_BackendRefuses.j20 U  a1 a2 a3 Q h = pts (palisadelaw24_BackendRefuses.E U Q [(25, ([7, 8, 17, 19, 20, 21, 22], palisadelaw24_BackendRefuses.k25 (fun a1 a2 a3 a4 a5 a6 a7 h => palisadelaw24_BackendRefuses.j25 U  a1 a2 a3 a4 a5 a6 a7 Q h)))]) 3000 true (atPos (posC palisadelaw24_BackendRefuses.code []) 20) (frAt [7, 8, 17] [.ptr a1, .ptr a2, .sl a3]) h := by
  intros; kernel_rfl

theorem palisadelaw24_BackendRefuses.s20 {W0 : World} {U : Ifc} (hU : IfcOK sg W0 glsT U) (Q : Bool → Heap → Prop)   : CutOK sg W0 223 (entered 4) (Post sg W0 (palisadelaw24_BackendRefuses.ret Q)) (posC palisadelaw24_BackendRefuses.code []) 20 [7, 8, 17] (palisadelaw24_BackendRefuses.k20 (fun a1 a2 a3 h => palisadelaw24_BackendRefuses.j20 U  a1 a2 a3 Q h)) := by
  refine cutOK_head (fun vs h hk => ?_)
  unfold palisadelaw24_BackendRefuses.k20 at hk
  split at hk
  · rename_i a1 a2 a3
    intro todo hm ρ a w s f hp
    exact piece (E := palisadelaw24_BackendRefuses.E U Q [(25, ([7, 8, 17, 19, 20, 21, 22], palisadelaw24_BackendRefuses.k25 (fun a1 a2 a3 a4 a5 a6 a7 h => palisadelaw24_BackendRefuses.j25 U  a1 a2 a3 a4 a5 a6 a7 Q h)))]) (vs := [.ptr a1, .ptr a2, .sl a3]) (envOK seatOK (palisadelaw24_BackendRefuses.callsOK hU) hU) (fnOK seatOK palisadelaw24_BackendRefuses.fun) ⟨(palisadelaw24_BackendRefuses.s25 hU Q  ), trivial⟩ palisadelaw24_BackendRefuses.p20 (fuel := 3000) (by rw [← palisadelaw24_BackendRefuses.e20]; exact hk) hm s f hp
  · exact hk.elim

theorem palisadelaw24_BackendRefuses.p17 : (posC palisadelaw24_BackendRefuses.code []).filter (fun p => Nat.beq p.1 17) = [(17, atPos (posC palisadelaw24_BackendRefuses.code []) 17)] := by kernel_rfl

theorem palisadelaw24_BackendRefuses.e17 : ∀ (U : Ifc)  (I17 : Sl → (Option Ptr) → (Option Ptr) → Sl → Int → Heap → Prop) (a1 : Sl) (a2 : Option Ptr) (a3 : Option Ptr) (a4 : Sl) (a5 : Int) (Q : Bool → Heap → Prop) (h : Heap), palisadelaw24_BackendRefuses.b17 U  I17 a1 a2 a3 a4 a5 Q h = pts (palisadelaw24_BackendRefuses.E U Q [(18, ([0, 7, 8, 17, 18], palisadelaw24_BackendRefuses.k18 (fun a1 a2 a3 a4 a5 h => palisadelaw24_BackendRefuses.j18 U I17 a1 a2 a3 a4 a5 Q h))), (20, ([7, 8, 17], palisadelaw24_BackendRefuses.k20 (fun a1 a2 a3 h => palisadelaw24_BackendRefuses.j20 U  a1 a2 a3 Q h)))]) 3000 true (atPos (posC palisadelaw24_BackendRefuses.code []) 17) (frAt [0, 7, 8, 17, 18] [.sl a1, .ptr a2, .ptr a3, .sl a4, .int .i64 a5]) h := by
  intros; kernel_rfl

theorem palisadelaw24_BackendRefuses.s17 {W0 : World} {U : Ifc} (hU : IfcOK sg W0 glsT U) (Q : Bool → Heap → Prop)   : CutOK sg W0 223 (entered 4) (Post sg W0 (palisadelaw24_BackendRefuses.ret Q)) (posC palisadelaw24_BackendRefuses.code []) 17 [0, 7, 8, 17, 18] (palisadelaw24_BackendRefuses.k17 (fun a1 a2 a3 a4 a5 h => palisadelaw24_BackendRefuses.j17 U  a1 a2 a3 a4 a5 Q h)) := by
  refine cutOK_head (fun vs h hk => ?_)
  unfold palisadelaw24_BackendRefuses.k17 at hk
  split at hk
  · rename_i a1 a2 a3 a4 a5
    refine hk (fun a1 a2 a3 a4 a5 h => Head sg W0 223 (entered 4) (Post sg W0 (palisadelaw24_BackendRefuses.ret Q)) (posC palisadelaw24_BackendRefuses.code []) 17 [0, 7, 8, 17, 18] [.sl a1, .ptr a2, .ptr a3, .sl a4, .int .i64 a5] h) ?_
    intro a1 a2 a3 a4 a5 h hb todo hm ρ a w s f hp
    have hself : CutOK sg W0 223 (entered 4) (Post sg W0 (palisadelaw24_BackendRefuses.ret Q)) (posC palisadelaw24_BackendRefuses.code []) 17 [0, 7, 8, 17, 18] (palisadelaw24_BackendRefuses.k17 (fun a1 a2 a3 a4 a5 h => Head sg W0 223 (entered 4) (Post sg W0 (palisadelaw24_BackendRefuses.ret Q)) (posC palisadelaw24_BackendRefuses.code []) 17 [0, 7, 8, 17, 18] [.sl a1, .ptr a2, .ptr a3, .sl a4, .int .i64 a5] h)) := cutOK_head (fun vs h hk => by unfold palisadelaw24_BackendRefuses.k17 at hk; split at hk; exact hk; exact hk.elim)
    exact piece (E := palisadelaw24_BackendRefuses.E U Q [(18, ([0, 7, 8, 17, 18], palisadelaw24_BackendRefuses.k18 (fun a1 a2 a3 a4 a5 h => palisadelaw24_BackendRefuses.j18 U (fun a1 a2 a3 a4 a5 h => Head sg W0 223 (entered 4) (Post sg W0 (palisadelaw24_BackendRefuses.ret Q)) (posC palisadelaw24_BackendRefuses.code []) 17 [0, 7, 8, 17, 18] [.sl a1, .ptr a2, .ptr a3, .sl a4, .int .i64 a5] h) a1 a2 a3 a4 a5 Q h))), (20, ([7, 8, 17], palisadelaw24_BackendRefuses.k20 (fun a1 a2 a3 h => palisadelaw24_BackendRefuses.j20 U  a1 a2 a3 Q h)))]) (vs := [.sl a1, .ptr a2, .ptr a3, .sl a4, .int .i64 a5]) (envOK seatOK (palisadelaw24_BackendRefuses.callsOK hU) hU) (fnOK seatOK palisadelaw24_BackendRefuses.fun) ⟨(palisadelaw24_BackendRefuses.s18 hU Q (fun a1 a2 a3 a4 a5 h => Head sg W0 223 (entered 4) (Post sg W0 (palisadelaw24_BackendRefuses.ret Q)) (posC palisadelaw24_BackendRefuses.code []) 17 [0, 7, 8, 17, 18] [.sl a1, .ptr a2, .ptr a3, .sl a4, .int .i64 a5] h) hself), (palisadelaw24_BackendRefuses.s20 hU Q  ), trivial⟩ palisadelaw24_BackendRefuses.p17 (fuel := 3000) (by rw [← palisadelaw24_BackendRefuses.e17]; exact hb) hm s f hp
  · exact hk.elim

theorem palisadelaw24_BackendRefuses.e : ∀ (U : Ifc) (a1 : Sl) (a2 : Int) (a3 : Int) (Q : Bool → Heap → Prop) (h : Heap), palisadelaw24_BackendRefuses U a1 a2 a3 Q h = pts (palisadelaw24_BackendRefuses.E U Q [(7, ([1, 7, 8, 9], palisadelaw24_BackendRefuses.k7 (fun a1 a2 a3 a4 h => palisadelaw24_BackendRefuses.j7 U  a1 a2 a3 a4 Q h))), (17, ([0, 7, 8, 17, 18], palisadelaw24_BackendRefuses.k17 (fun a1 a2 a3 a4 a5 h => palisadelaw24_BackendRefuses.j17 U  a1 a2 a3 a4 a5 Q h)))]) 3000 true [.code palisadelaw24_BackendRefuses.code] (frOf 0 [.sl a1, .int .u64 a2, .int .u64 a3]) h := by
  intros; kernel_rfl

theorem palisadelaw24_BackendRefuses.S {W0 : World} {U : Ifc} (hU : IfcOK sg W0 glsT U) : FnS sg W0 304 (palisadelaw24_BackendRefuses.C U) := by
  intro vs κ h wv hx w s
  unfold palisadelaw24_BackendRefuses.C at hx
  split at hx
  · rename_i a1 a2 a3
    refine postImp (ret := palisadelaw24_BackendRefuses.ret (fun r1 h => κ (.bool r1) h)) (fun v h hr => by unfold palisadelaw24_BackendRefuses.ret at hr; split at hr; exact hr; exact hr.elim) ?_
    exact calls_of_pts (E := palisadelaw24_BackendRefuses.E U (fun r1 h => κ (.bool r1) h) [(7, ([1, 7, 8, 9], palisadelaw24_BackendRefuses.k7 (fun a1 a2 a3 a4 h => palisadelaw24_BackendRefuses.j7 U  a1 a2 a3 a4 (fun r1 h => κ (.bool r1) h) h))), (17, ([0, 7, 8, 17, 18], palisadelaw24_BackendRefuses.k17 (fun a1 a2 a3 a4 a5 h => palisadelaw24_BackendRefuses.j17 U  a1 a2 a3 a4 a5 (fun r1 h => κ (.bool r1) h) h)))]) (envOK seatOK (palisadelaw24_BackendRefuses.callsOK hU) hU) seatOK.mixed palisadelaw24_BackendRefuses.fun (Nat.le_of_ble_eq_true rfl) wv (cutL_ok ⟨(palisadelaw24_BackendRefuses.s7 hU (fun r1 h => κ (.bool r1) h)), (palisadelaw24_BackendRefuses.s17 hU (fun r1 h => κ (.bool r1) h)), trivial⟩) s (fuel := 3000) (by rw [← palisadelaw24_BackendRefuses.e]; exact hx)
  · exact hx.elim

noncomputable def mem_Memory_Frames.code : Code := Go.Proofs.Tryd.f73.body.getD .skip

theorem mem_Memory_Frames.fun : Fun sg.P 73 11 [.tmp 2] mem_Memory_Frames.code := mkFun Go.Proofs.Tryd.func73 (by kernel_rfl) (by kernel_rfl) (by kernel_rfl) (by kernel_rfl)

def mem_Memory_Frames.ret (Q : Int → Heap → Prop) (v : V) (h : Heap) : Prop :=
  match v with
  | .int .i64 r1 => Q r1 h
  | _ => False

def mem_Memory_Frames.C (vs : List V) (κ : V → Heap → Prop) (h : Heap) : Prop :=
  match vs with
  | [.ptr a1] => mem_Memory_Frames a1 (fun r1 h => κ (.int .i64 r1) h) h
  | _ => False

noncomputable def mem_Memory_Frames.calls : List (Nat × (List V → (V → Heap → Prop) → Heap → Prop)) := [(31, mem_Memory_none.C)]

noncomputable def mem_Memory_Frames.E (Q : Int → Heap → Prop) (cuts : List (Nat × (List Nat × (List V → Heap → Prop)))) : Env := { tis := tisT, fns := fnsT, tys := tysT, gls := [], rts := rtsT, unk := [], nxt := [], calls := mem_Memory_Frames.calls, ifc := noIfc, cuts := cuts, ret := mem_Memory_Frames.ret Q, rets := [.tmp 2], n := 11 }

theorem mem_Memory_Frames.callsOK {W0 : World} : CallsOK sg W0 mem_Memory_Frames.calls := ⟨mem_Memory_none.S, trivial⟩

theorem mem_Memory_Frames.e : ∀ (a1 : Option Ptr) (Q : Int → Heap → Prop) (h : Heap), mem_Memory_Frames a1 Q h = pts (mem_Memory_Frames.E Q []) 3000 true [.code mem_Memory_Frames.code] (frOf 0 [.ptr a1]) h := by
  intros; kernel_rfl

theorem mem_Memory_Frames.S {W0 : World} : FnS sg W0 55 mem_Memory_Frames.C := by
  intro vs κ h wv hx w s
  unfold mem_Memory_Frames.C at hx
  split at hx
  · rename_i a1
    refine postImp (ret := mem_Memory_Frames.ret (fun r1 h => κ (.int .i64 r1) h)) (fun v h hr => by unfold mem_Memory_Frames.ret at hr; split at hr; exact hr; exact hr.elim) ?_
    exact calls_of_pts (E := mem_Memory_Frames.E (fun r1 h => κ (.int .i64 r1) h) []) (envOK seatOK mem_Memory_Frames.callsOK noIfc_ok) seatOK.mixed mem_Memory_Frames.fun (Nat.le_of_ble_eq_true rfl) wv (cutL_ok trivial) s (fuel := 3000) (by rw [← mem_Memory_Frames.e]; exact hx)
  · exact hx.elim

noncomputable def slices_DeleteFunc_disk_Request_disk_Request.code : Code := Go.Proofs.Tryd.f74.body.getD .skip

theorem slices_DeleteFunc_disk_Request_disk_Request.fun : Fun sg.P 74 42 [.tmp 4] slices_DeleteFunc_disk_Request_disk_Request.code := mkFun Go.Proofs.Tryd.func74 (by kernel_rfl) (by kernel_rfl) (by kernel_rfl) (by kernel_rfl)

def slices_DeleteFunc_disk_Request_disk_Request.ret (Q : Sl → Heap → Prop) (v : V) (h : Heap) : Prop :=
  match v with
  | .sl r1 => Q r1 h
  | _ => False

def slices_DeleteFunc_disk_Request_disk_Request.C (U : Ifc) (vs : List V) (κ : V → Heap → Prop) (h : Heap) : Prop :=
  match vs with
  | [.sl a1, a2] => slices_DeleteFunc_disk_Request_disk_Request U a1 a2 (fun r1 h => κ (.sl r1) h) h
  | _ => False

noncomputable def slices_DeleteFunc_disk_Request_disk_Request.calls (U : Ifc) : List (Nat × (List V → (V → Heap → Prop) → Heap → Prop)) := [(70, slices_IndexFunc_disk_Request_disk_Request.C U)]

noncomputable def slices_DeleteFunc_disk_Request_disk_Request.E (U : Ifc) (Q : Sl → Heap → Prop) (cuts : List (Nat × (List Nat × (List V → Heap → Prop)))) : Env := { tis := tisT, fns := fnsT, tys := tysT, gls := glsT, rts := rtsT, unk := [26], nxt := [], calls := slices_DeleteFunc_disk_Request_disk_Request.calls U, ifc := U, cuts := cuts, ret := slices_DeleteFunc_disk_Request_disk_Request.ret Q, rets := [.tmp 4], n := 42 }

theorem slices_DeleteFunc_disk_Request_disk_Request.callsOK {W0 : World} {U : Ifc} (hU : IfcOK sg W0 glsT U) : CallsOK sg W0 (slices_DeleteFunc_disk_Request_disk_Request.calls U) := ⟨(slices_IndexFunc_disk_Request_disk_Request.S hU), trivial⟩

def slices_DeleteFunc_disk_Request_disk_Request.k6 (I : Sl → V → Int → Int → Heap → Prop) (vs : List V) (h : Heap) : Prop :=
  match vs with
  | [.sl a1, a2, .int .i64 a3, .int .i64 a4] => I a1 a2 a3 a4 h
  | _ => False

def slices_DeleteFunc_disk_Request_disk_Request.k5 (I : Sl → V → Int → Int → Heap → Prop) (vs : List V) (h : Heap) : Prop :=
  match vs with
  | [.sl a1, a2, .int .i64 a3, .int .i64 a4] => I a1 a2 a3 a4 h
  | _ => False

theorem slices_DeleteFunc_disk_Request_disk_Request.p6 : (posC slices_DeleteFunc_disk_Request_disk_Request.code []).filter (fun p => Nat.beq p.1 6) = [(6, atPos (posC slices_DeleteFunc_disk_Request_disk_Request.code []) 6)] := by kernel_rfl

theorem slices_DeleteFunc_disk_Request_disk_Request.e6 : ∀ (U : Ifc) (I5 : Sl → V → Int → Int → Heap → Prop) (a1 : Sl) (a2 : V) (a3 : Int) (a4 : Int) (Q : Sl → Heap → Prop) (h : Heap), slices_DeleteFunc_disk_Request_disk_Request.j6 U I5 a1 a2 a3 a4 Q h = pts (slices_DeleteFunc_disk_Request_disk_Request.E U Q [(5, ([0, 1, 5, 6], slices_DeleteFunc_disk_Request_disk_Request.k5 I5))]) 3000 true (atPos (posC slices_DeleteFunc_disk_Request_disk_Request.code []) 6) (frAt [0, 1, 5, 6] [.sl a1, a2, .int .i64 a3, .int .i64 a4]) h := by
  intros; kernel_rfl

theorem slices_DeleteFunc_disk_Request_disk_Request.s6 {W0 : World} {U : Ifc} (hU : IfcOK sg W0 glsT U) (Q : Sl → Heap → Prop) (I5 : Sl → V → Int → Int → Heap → Prop) (h5 : CutOK sg W0 42 (entered 74) (Post sg W0 (slices_DeleteFunc_disk_Request_disk_Request.ret Q)) (posC slices_DeleteFunc_disk_Request_disk_Request.code []) 5 [0, 1, 5, 6] (slices_DeleteFunc_disk_Request_disk_Request.k5 I5)) : CutOK sg W0 42 (entered 74) (Post sg W0 (slices_DeleteFunc_disk_Request_disk_Request.ret Q)) (posC slices_DeleteFunc_disk_Request_disk_Request.code []) 6 [0, 1, 5, 6] (slices_DeleteFunc_disk_Request_disk_Request.k6 (fun a1 a2 a3 a4 h => slices_DeleteFunc_disk_Request_disk_Request.j6 U I5 a1 a2 a3 a4 Q h)) := by
  refine cutOK_head (fun vs h hk => ?_)
  unfold slices_DeleteFunc_disk_Request_disk_Request.k6 at hk
  split at hk
  · rename_i a1 a2 a3 a4
    intro todo hm ρ a w s f hp
    exact piece (E := slices_DeleteFunc_disk_Request_disk_Request.E U Q [(5, ([0, 1, 5, 6], slices_DeleteFunc_disk_Request_disk_Request.k5 I5))]) (vs := [.sl a1, a2, .int .i64 a3, .int .i64 a4]) (envOK seatOK (slices_DeleteFunc_disk_Request_disk_Request.callsOK hU) hU) (fnOK seatOK slices_DeleteFunc_disk_Request_disk_Request.fun) ⟨h5, trivial⟩ slices_DeleteFunc_disk_Request_disk_Request.p6 (fuel := 3000) (by rw [← slices_DeleteFunc_disk_Request_disk_Request.e6]; exact hk) hm s f hp
  · exact hk.elim

theorem slices_DeleteFunc_disk_Request_disk_Request.p5 : (posC slices_DeleteFunc_disk_Request_disk_Request.code []).filter (fun p => Nat.beq p.1 5) = [(5, atPos (posC slices_DeleteFunc_disk_Request_disk_Request.code []) 5)] := by kernel_rfl

theorem slices_DeleteFunc_disk_Request_disk_Request.e5 : ∀ (U : Ifc)  (I5 : Sl → V → Int → Int → Heap → Prop) (a1 : Sl) (a2 : V) (a3 : Int) (a4 : Int) (Q : Sl → Heap → Prop) (h : Heap), slices_DeleteFunc_disk_Request_disk_Request.b5 U  I5 a1 a2 a3 a4 Q h = pts (slices_DeleteFunc_disk_Request_disk_Request.E U Q [(6, ([0, 1, 5, 6], slices_DeleteFunc_disk_Request_disk_Request.k6 (fun a1 a2 a3 a4 h => slices_DeleteFunc_disk_Request_disk_Request.j6 U I5 a1 a2 a3 a4 Q h)))]) 3000 true (atPos (posC slices_DeleteFunc_disk_Request_disk_Request.code []) 5) (frAt [0, 1, 5, 6] [.sl a1, a2, .int .i64 a3, .int .i64 a4]) h := by
  intros; kernel_rfl

theorem slices_DeleteFunc_disk_Request_disk_Request.s5 {W0 : World} {U : Ifc} (hU : IfcOK sg W0 glsT U) (Q : Sl → Heap → Prop)   : CutOK sg W0 42 (entered 74) (Post sg W0 (slices_DeleteFunc_disk_Request_disk_Request.ret Q)) (posC slices_DeleteFunc_disk_Request_disk_Request.code []) 5 [0, 1, 5, 6] (slices_DeleteFunc_disk_Request_disk_Request.k5 (fun a1 a2 a3 a4 h => slices_DeleteFunc_disk_Request_disk_Request.j5 U  a1 a2 a3 a4 Q h)) := by
  refine cutOK_head (fun vs h hk => ?_)
  unfold slices_DeleteFunc_disk_Request_disk_Request.k5 at hk
  split at hk
  · rename_i a1 a2 a3 a4
    refine hk (fun a1 a2 a3 a4 h => Head sg W0 42 (entered 74) (Post sg W0 (slices_DeleteFunc_disk_Request_disk_Request.ret Q)) (posC slices_DeleteFunc_disk_Request_disk_Request.code []) 5 [0, 1, 5, 6] [.sl a1, a2, .int .i64 a3, .int .i64 a4] h) ?_
    intro a1 a2 a3 a4 h hb todo hm ρ a w s f hp
    have hself : CutOK sg W0 42 (entered 74) (Post sg W0 (slices_DeleteFunc_disk_Request_disk_Request.ret Q)) (posC slices_DeleteFunc_disk_Request_disk_Request.code []) 5 [0, 1, 5, 6] (slices_DeleteFunc_disk_Request_disk_Request.k5 (fun a1 a2 a3 a4 h => Head sg W0 42 (entered 74) (Post sg W0 (slices_DeleteFunc_disk_Request_disk_Request.ret Q)) (posC slices_DeleteFunc_disk_Request_disk_Request.code []) 5 [0, 1, 5, 6] [.sl a1, a2, .int .i64 a3, .int .i64 a4] h)) := cutOK_head (fun vs h hk => by unfold slices_DeleteFunc_disk_Request_disk_Request.k5 at hk; split at hk; exact hk; exact hk.elim)
    exact piece (E := slices_DeleteFunc_disk_Request_disk_Request.E U Q [(6, ([0, 1, 5, 6], slices_DeleteFunc_disk_Request_disk_Request.k6 (fun a1 a2 a3 a4 h => slices_DeleteFunc_disk_Request_disk_Request.j6 U (fun a1 a2 a3 a4 h => Head sg W0 42 (entered 74) (Post sg W0 (slices_DeleteFunc_disk_Request_disk_Request.ret Q)) (posC slices_DeleteFunc_disk_Request_disk_Request.code []) 5 [0, 1, 5, 6] [.sl a1, a2, .int .i64 a3, .int .i64 a4] h) a1 a2 a3 a4 Q h)))]) (vs := [.sl a1, a2, .int .i64 a3, .int .i64 a4]) (envOK seatOK (slices_DeleteFunc_disk_Request_disk_Request.callsOK hU) hU) (fnOK seatOK slices_DeleteFunc_disk_Request_disk_Request.fun) ⟨(slices_DeleteFunc_disk_Request_disk_Request.s6 hU Q (fun a1 a2 a3 a4 h => Head sg W0 42 (entered 74) (Post sg W0 (slices_DeleteFunc_disk_Request_disk_Request.ret Q)) (posC slices_DeleteFunc_disk_Request_disk_Request.code []) 5 [0, 1, 5, 6] [.sl a1, a2, .int .i64 a3, .int .i64 a4] h) hself), trivial⟩ slices_DeleteFunc_disk_Request_disk_Request.p5 (fuel := 3000) (by rw [← slices_DeleteFunc_disk_Request_disk_Request.e5]; exact hb) hm s f hp
  · exact hk.elim

theorem slices_DeleteFunc_disk_Request_disk_Request.e : ∀ (U : Ifc) (a1 : Sl) (a2 : V) (Q : Sl → Heap → Prop) (h : Heap), slices_DeleteFunc_disk_Request_disk_Request U a1 a2 Q h = pts (slices_DeleteFunc_disk_Request_disk_Request.E U Q [(5, ([0, 1, 5, 6], slices_DeleteFunc_disk_Request_disk_Request.k5 (fun a1 a2 a3 a4 h => slices_DeleteFunc_disk_Request_disk_Request.j5 U  a1 a2 a3 a4 Q h)))]) 3000 true [.code slices_DeleteFunc_disk_Request_disk_Request.code] (frOf 0 [.sl a1, a2]) h := by
  intros; kernel_rfl

theorem slices_DeleteFunc_disk_Request_disk_Request.S {W0 : World} {U : Ifc} (hU : IfcOK sg W0 glsT U) : FnS sg W0 71 (slices_DeleteFunc_disk_Request_disk_Request.C U) := by
  intro vs κ h wv hx w s
  unfold slices_DeleteFunc_disk_Request_disk_Request.C at hx
  split at hx
  · rename_i a1 a2
    refine postImp (ret := slices_DeleteFunc_disk_Request_disk_Request.ret (fun r1 h => κ (.sl r1) h)) (fun v h hr => by unfold slices_DeleteFunc_disk_Request_disk_Request.ret at hr; split at hr; exact hr; exact hr.elim) ?_
    exact calls_of_pts (E := slices_DeleteFunc_disk_Request_disk_Request.E U (fun r1 h => κ (.sl r1) h) [(5, ([0, 1, 5, 6], slices_DeleteFunc_disk_Request_disk_Request.k5 (fun a1 a2 a3 a4 h => slices_DeleteFunc_disk_Request_disk_Request.j5 U  a1 a2 a3 a4 (fun r1 h => κ (.sl r1) h) h)))]) (envOK seatOK (slices_DeleteFunc_disk_Request_disk_Request.callsOK hU) hU) seatOK.mixed slices_DeleteFunc_disk_Request_disk_Request.fun (Nat.le_of_ble_eq_true rfl) wv (cutL_ok ⟨(slices_DeleteFunc_disk_Request_disk_Request.s5 hU (fun r1 h => κ (.sl r1) h)), trivial⟩) s (fuel := 3000) (by rw [← slices_DeleteFunc_disk_Request_disk_Request.e]; exact hx)
  · exact hx.elim

noncomputable def bytes_Clone.code : Code := Go.Proofs.Tryd.f84.body.getD .skip

theorem bytes_Clone.fun : Fun sg.P 84 8 [.tmp 2] bytes_Clone.code := mkFun Go.Proofs.Tryd.func84 (by kernel_rfl) (by kernel_rfl) (by kernel_rfl) (by kernel_rfl)

def bytes_Clone.ret (Q : Sl → Heap → Prop) (v : V) (h : Heap) : Prop :=
  match v with
  | .sl r1 => Q r1 h
  | _ => False

def bytes_Clone.C (vs : List V) (κ : V → Heap → Prop) (h : Heap) : Prop :=
  match vs with
  | [.sl a1] => bytes_Clone a1 (fun r1 h => κ (.sl r1) h) h
  | _ => False

noncomputable def bytes_Clone.calls : List (Nat × (List V → (V → Heap → Prop) → Heap → Prop)) := []

noncomputable def bytes_Clone.E (Q : Sl → Heap → Prop) (cuts : List (Nat × (List Nat × (List V → Heap → Prop)))) : Env := { tis := tisT, fns := fnsT, tys := tysT, gls := [], rts := rtsT, unk := [], nxt := [], calls := bytes_Clone.calls, ifc := noIfc, cuts := cuts, ret := bytes_Clone.ret Q, rets := [.tmp 2], n := 8 }

theorem bytes_Clone.callsOK {W0 : World} : CallsOK sg W0 bytes_Clone.calls := trivial

theorem bytes_Clone.e : ∀ (a1 : Sl) (Q : Sl → Heap → Prop) (h : Heap), bytes_Clone a1 Q h = pts (bytes_Clone.E Q []) 3000 true [.code bytes_Clone.code] (frOf 0 [.sl a1]) h := by
  intros; kernel_rfl

theorem bytes_Clone.S {W0 : World} : FnS sg W0 39 bytes_Clone.C := by
  intro vs κ h wv hx w s
  unfold bytes_Clone.C at hx
  split at hx
  · rename_i a1
    refine postImp (ret := bytes_Clone.ret (fun r1 h => κ (.sl r1) h)) (fun v h hr => by unfold bytes_Clone.ret at hr; split at hr; exact hr; exact hr.elim) ?_
    exact calls_of_pts (E := bytes_Clone.E (fun r1 h => κ (.sl r1) h) []) (envOK seatOK bytes_Clone.callsOK noIfc_ok) seatOK.mixed bytes_Clone.fun (Nat.le_of_ble_eq_true rfl) wv (cutL_ok trivial) s (fuel := 3000) (by rw [← bytes_Clone.e]; exact hx)
  · exact hx.elim

noncomputable def mem_Memory_Bytes.code : Code := Go.Proofs.Tryd.f51.body.getD .skip

theorem mem_Memory_Bytes.fun : Fun sg.P 51 20 [.tmp 6, .tmp 7] mem_Memory_Bytes.code := mkFun Go.Proofs.Tryd.func51 (by kernel_rfl) (by kernel_rfl) (by kernel_rfl) (by kernel_rfl)

def mem_Memory_Bytes.ret (Q : Sl → Int → Heap → Prop) (v : V) (h : Heap) : Prop :=
  match v with
  | .tup [.sl r1, .int .i64 r2] => Q r1 r2 h
  | _ => False

def mem_Memory_Bytes.C (vs : List V) (κ : V → Heap → Prop) (h : Heap) : Prop :=
  match vs with
  | [.ptr a1, .int .u64 a2, .int .i64 a3] => mem_Memory_Bytes a1 a2 a3 (fun r1 r2 h => κ (.tup [.sl r1, .int .i64 r2]) h) h
  | _ => False

noncomputable def mem_Memory_Bytes.calls : List (Nat × (List V → (V → Heap → Prop) → Heap → Prop)) := [(32, mem_Memory_part.C), (39, bytes_Clone.C)]

noncomputable def mem_Memory_Bytes.E (Q : Sl → Int → Heap → Prop) (cuts : List (Nat × (List Nat × (List V → Heap → Prop)))) : Env := { tis := tisT, fns := fnsT, tys := tysT, gls := [], rts := rtsT, unk := [], nxt := [], calls := mem_Memory_Bytes.calls, ifc := noIfc, cuts := cuts, ret := mem_Memory_Bytes.ret Q, rets := [.tmp 6, .tmp 7], n := 20 }

theorem mem_Memory_Bytes.callsOK {W0 : World} : CallsOK sg W0 mem_Memory_Bytes.calls := ⟨mem_Memory_part.S, bytes_Clone.S, trivial⟩

theorem mem_Memory_Bytes.e : ∀ (a1 : Option Ptr) (a2 : Int) (a3 : Int) (Q : Sl → Int → Heap → Prop) (h : Heap), mem_Memory_Bytes a1 a2 a3 Q h = pts (mem_Memory_Bytes.E Q []) 3000 true [.code mem_Memory_Bytes.code] (frOf 0 [.ptr a1, .int .u64 a2, .int .i64 a3]) h := by
  intros; kernel_rfl

theorem mem_Memory_Bytes.S {W0 : World} : FnS sg W0 40 mem_Memory_Bytes.C := by
  intro vs κ h wv hx w s
  unfold mem_Memory_Bytes.C at hx
  split at hx
  · rename_i a1 a2 a3
    refine postImp (ret := mem_Memory_Bytes.ret (fun r1 r2 h => κ (.tup [.sl r1, .int .i64 r2]) h)) (fun v h hr => by unfold mem_Memory_Bytes.ret at hr; split at hr; exact hr; exact hr.elim) ?_
    exact calls_of_pts (E := mem_Memory_Bytes.E (fun r1 r2 h => κ (.tup [.sl r1, .int .i64 r2]) h) []) (envOK seatOK mem_Memory_Bytes.callsOK noIfc_ok) seatOK.mixed mem_Memory_Bytes.fun (Nat.le_of_ble_eq_true rfl) wv (cutL_ok trivial) s (fuel := 3000) (by rw [← mem_Memory_Bytes.e]; exact hx)
  · exact hx.elim

noncomputable def slices_IndexFunc_byte_byte.code : Code := Go.Proofs.Tryd.f105.body.getD .skip

theorem slices_IndexFunc_byte_byte.fun : Fun sg.P 105 19 [.tmp 4] slices_IndexFunc_byte_byte.code := mkFun Go.Proofs.Tryd.func105 (by kernel_rfl) (by kernel_rfl) (by kernel_rfl) (by kernel_rfl)

def slices_IndexFunc_byte_byte.ret (Q : Int → Heap → Prop) (v : V) (h : Heap) : Prop :=
  match v with
  | .int .i64 r1 => Q r1 h
  | _ => False

def slices_IndexFunc_byte_byte.C (U : Ifc) (vs : List V) (κ : V → Heap → Prop) (h : Heap) : Prop :=
  match vs with
  | [.sl a1, a2] => slices_IndexFunc_byte_byte U a1 a2 (fun r1 h => κ (.int .i64 r1) h) h
  | _ => False

noncomputable def slices_IndexFunc_byte_byte.calls (U : Ifc) : List (Nat × (List V → (V → Heap → Prop) → Heap → Prop)) := []

noncomputable def slices_IndexFunc_byte_byte.E (U : Ifc) (Q : Int → Heap → Prop) (cuts : List (Nat × (List Nat × (List V → Heap → Prop)))) : Env := { tis := tisT, fns := fnsT, tys := tysT, gls := glsT, rts := rtsT, unk := [11], nxt := [], calls := slices_IndexFunc_byte_byte.calls U, ifc := U, cuts := cuts, ret := slices_IndexFunc_byte_byte.ret Q, rets := [.tmp 4], n := 19 }

theorem slices_IndexFunc_byte_byte.callsOK {W0 : World} {U : Ifc} (hU : IfcOK sg W0 glsT U) : CallsOK sg W0 (slices_IndexFunc_byte_byte.calls U) := trivial

def slices_IndexFunc_byte_byte.k2 (I : Sl → V → Int → Int → Heap → Prop) (vs : List V) (h : Heap) : Prop :=
  match vs with
  | [.sl a1, a2, .int .i64 a3, .int .i64 a4] => I a1 a2 a3 a4 h
  | _ => False

theorem slices_IndexFunc_byte_byte.p2 : (posC slices_IndexFunc_byte_byte.code []).filter (fun p => Nat.beq p.1 2) = [(2, atPos (posC slices_IndexFunc_byte_byte.code []) 2)] := by kernel_rfl

theorem slices_IndexFunc_byte_byte.e2 : ∀ (U : Ifc)  (I2 : Sl → V → Int → Int → Heap → Prop) (a1 : Sl) (a2 : V) (a3 : Int) (a4 : Int) (Q : Int → Heap → Prop) (h : Heap), slices_IndexFunc_byte_byte.b2 U  I2 a1 a2 a3 a4 Q h = pts (slices_IndexFunc_byte_byte.E U Q [(2, ([0, 1, 7, 8], slices_IndexFunc_byte_byte.k2 I2))]) 3000 true (atPos (posC slices_IndexFunc_byte_byte.code []) 2) (frAt [0, 1, 7, 8] [.sl a1, a2, .int .i64 a3, .int .i64 a4]) h := by
  intros; kernel_rfl

theorem slices_IndexFunc_byte_byte.s2 {W0 : World} {U : Ifc} (hU : IfcOK sg W0 glsT U) (Q : Int → Heap → Prop)   : CutOK sg W0 19 (entered 105) (Post sg W0 (slices_IndexFunc_byte_byte.ret Q)) (posC slices_IndexFunc_byte_byte.code []) 2 [0, 1, 7, 8] (slices_IndexFunc_byte_byte.k2 (fun a1 a2 a3 a4 h => slices_IndexFunc_byte_byte.j2 U  a1 a2 a3 a4 Q h)) := by
  refine cutOK_head (fun vs h hk => ?_)
  unfold slices_IndexFunc_byte_byte.k2 at hk
  split at hk
  · rename_i a1 a2 a3 a4
    refine hk (fun a1 a2 a3 a4 h => Head sg W0 19 (entered 105) (Post sg W0 (slices_IndexFunc_byte_byte.ret Q)) (posC slices_IndexFunc_byte_byte.code []) 2 [0, 1, 7, 8] [.sl a1, a2, .int .i64 a3, .int .i64 a4] h) ?_
    intro a1 a2 a3 a4 h hb todo hm ρ a w s f hp
    have hself : CutOK sg W0 19 (entered 105) (Post sg W0 (slices_IndexFunc_byte_byte.ret Q)) (posC slices_IndexFunc_byte_byte.code []) 2 [0, 1, 7, 8] (slices_IndexFunc_byte_byte.k2 (fun a1 a2 a3 a4 h => Head sg W0 19 (entered 105) (Post sg W0 (slices_IndexFunc_byte_byte.ret Q)) (posC slices_IndexFunc_byte_byte.code []) 2 [0, 1, 7, 8] [.sl a1, a2, .int .i64 a3, .int .i64 a4] h)) := cutOK_head (fun vs h hk => by unfold slices_IndexFunc_byte_byte.k2 at hk; split at hk; exact hk; exact hk.elim)
    exact piece (E := slices_IndexFunc_byte_byte.E U Q [(2, ([0, 1, 7, 8], slices_IndexFunc_byte_byte.k2 (fun a1 a2 a3 a4 h => Head sg W0 19 (entered 105) (Post sg W0 (slices_IndexFunc_byte_byte.ret Q)) (posC slices_IndexFunc_byte_byte.code []) 2 [0, 1, 7, 8] [.sl a1, a2, .int .i64 a3, .int .i64 a4] h)))]) (vs := [.sl a1, a2, .int .i64 a3, .int .i64 a4]) (envOK seatOK (slices_IndexFunc_byte_byte.callsOK hU) hU) (fnOK seatOK slices_IndexFunc_byte_byte.fun) ⟨hself, trivial⟩ slices_IndexFunc_byte_byte.p2 (fuel := 3000) (by rw [← slices_IndexFunc_byte_byte.e2]; exact hb) hm s f hp
  · exact hk.elim

theorem slices_IndexFunc_byte_byte.e : ∀ (U : Ifc) (a1 : Sl) (a2 : V) (Q : Int → Heap → Prop) (h : Heap), slices_IndexFunc_byte_byte U a1 a2 Q h = pts (slices_IndexFunc_byte_byte.E U Q [(2, ([0, 1, 7, 8], slices_IndexFunc_byte_byte.k2 (fun a1 a2 a3 a4 h => slices_IndexFunc_byte_byte.j2 U  a1 a2 a3 a4 Q h)))]) 3000 true [.code slices_IndexFunc_byte_byte.code] (frOf 0 [.sl a1, a2]) h := by
  intros; kernel_rfl

theorem slices_IndexFunc_byte_byte.S {W0 : World} {U : Ifc} (hU : IfcOK sg W0 glsT U) : FnS sg W0 72 (slices_IndexFunc_byte_byte.C U) := by
  intro vs κ h wv hx w s
  unfold slices_IndexFunc_byte_byte.C at hx
  split at hx
  · rename_i a1 a2
    refine postImp (ret := slices_IndexFunc_byte_byte.ret (fun r1 h => κ (.int .i64 r1) h)) (fun v h hr => by unfold slices_IndexFunc_byte_byte.ret at hr; split at hr; exact hr; exact hr.elim) ?_
    exact calls_of_pts (E := slices_IndexFunc_byte_byte.E U (fun r1 h => κ (.int .i64 r1) h) [(2, ([0, 1, 7, 8], slices_IndexFunc_byte_byte.k2 (fun a1 a2 a3 a4 h => slices_IndexFunc_byte_byte.j2 U  a1 a2 a3 a4 (fun r1 h => κ (.int .i64 r1) h) h)))]) (envOK seatOK (slices_IndexFunc_byte_byte.callsOK hU) hU) seatOK.mixed slices_IndexFunc_byte_byte.fun (Nat.le_of_ble_eq_true rfl) wv (cutL_ok ⟨(slices_IndexFunc_byte_byte.s2 hU (fun r1 h => κ (.int .i64 r1) h)), trivial⟩) s (fuel := 3000) (by rw [← slices_IndexFunc_byte_byte.e]; exact hx)
  · exact hx.elim

noncomputable def slices_ContainsFunc_byte_byte.code : Code := Go.Proofs.Tryd.f98.body.getD .skip

theorem slices_ContainsFunc_byte_byte.fun : Fun sg.P 98 9 [.tmp 4] slices_ContainsFunc_byte_byte.code := mkFun Go.Proofs.Tryd.func98 (by kernel_rfl) (by kernel_rfl) (by kernel_rfl) (by kernel_rfl)

def slices_ContainsFunc_byte_byte.ret (Q : Bool → Heap → Prop) (v : V) (h : Heap) : Prop :=
  match v with
  | .bool r1 => Q r1 h
  | _ => False

def slices_ContainsFunc_byte_byte.C (U : Ifc) (vs : List V) (κ : V → Heap → Prop) (h : Heap) : Prop :=
  match vs with
  | [.sl a1, a2] => slices_ContainsFunc_byte_byte U a1 a2 (fun r1 h => κ (.bool r1) h) h
  | _ => False

noncomputable def slices_ContainsFunc_byte_byte.calls (U : Ifc) : List (Nat × (List V → (V → Heap → Prop) → Heap → Prop)) := [(72, slices_IndexFunc_byte_byte.C U)]

noncomputable def slices_ContainsFunc_byte_byte.E (U : Ifc) (Q : Bool → Heap → Prop) (cuts : List (Nat × (List Nat × (List V → Heap → Prop)))) : Env := { tis := tisT, fns := fnsT, tys := tysT, gls := glsT, rts := rtsT, unk := [], nxt := [], calls := slices_ContainsFunc_byte_byte.calls U, ifc := U, cuts := cuts, ret := slices_ContainsFunc_byte_byte.ret Q, rets := [.tmp 4], n := 9 }

theorem slices_ContainsFunc_byte_byte.callsOK {W0 : World} {U : Ifc} (hU : IfcOK sg W0 glsT U) : CallsOK sg W0 (slices_ContainsFunc_byte_byte.calls U) := ⟨(slices_IndexFunc_byte_byte.S hU), trivial⟩

theorem slices_ContainsFunc_byte_byte.e : ∀ (U : Ifc) (a1 : Sl) (a2 : V) (Q : Bool → Heap → Prop) (h : Heap), slices_ContainsFunc_byte_byte U a1 a2 Q h = pts (slices_ContainsFunc_byte_byte.E U Q []) 3000 true [.code slices_ContainsFunc_byte_byte.code] (frOf 0 [.sl a1, a2]) h := by
  intros; kernel_rfl

theorem slices_ContainsFunc_byte_byte.S {W0 : World} {U : Ifc} (hU : IfcOK sg W0 glsT U) : FnS sg W0 73 (slices_ContainsFunc_byte_byte.C U) := by
  intro vs κ h wv hx w s
  unfold slices_ContainsFunc_byte_byte.C at hx
  split at hx
  · rename_i a1 a2
    refine postImp (ret := slices_ContainsFunc_byte_byte.ret (fun r1 h => κ (.bool r1) h)) (fun v h hr => by unfold slices_ContainsFunc_byte_byte.ret at hr; split at hr; exact hr; exact hr.elim) ?_
    exact calls_of_pts (E := slices_ContainsFunc_byte_byte.E U (fun r1 h => κ (.bool r1) h) []) (envOK seatOK (slices_ContainsFunc_byte_byte.callsOK hU) hU) seatOK.mixed slices_ContainsFunc_byte_byte.fun (Nat.le_of_ble_eq_true rfl) wv (cutL_ok trivial) s (fuel := 3000) (by rw [← slices_ContainsFunc_byte_byte.e]; exact hx)
  · exact hx.elim

noncomputable def slices_Clone_byte_byte.code : Code := Go.Proofs.Tryd.f52.body.getD .skip

theorem slices_Clone_byte_byte.fun : Fun sg.P 52 8 [.tmp 2] slices_Clone_byte_byte.code := mkFun Go.Proofs.Tryd.func52 (by kernel_rfl) (by kernel_rfl) (by kernel_rfl) (by kernel_rfl)

def slices_Clone_byte_byte.ret (Q : Sl → Heap → Prop) (v : V) (h : Heap) : Prop :=
  match v with
  | .sl r1 => Q r1 h
  | _ => False

def slices_Clone_byte_byte.C (vs : List V) (κ : V → Heap → Prop) (h : Heap) : Prop :=
  match vs with
  | [.sl a1] => slices_Clone_byte_byte a1 (fun r1 h => κ (.sl r1) h) h
  | _ => False

noncomputable def slices_Clone_byte_byte.calls : List (Nat × (List V → (V → Heap → Prop) → Heap → Prop)) := []

noncomputable def slices_Clone_byte_byte.E (Q : Sl → Heap → Prop) (cuts : List (Nat × (List Nat × (List V → Heap → Prop)))) : Env := { tis := tisT, fns := fnsT, tys := tysT, gls := [], rts := rtsT, unk := [], nxt := [], calls := slices_Clone_byte_byte.calls, ifc := noIfc, cuts := cuts, ret := slices_Clone_byte_byte.ret Q, rets := [.tmp 2], n := 8 }

theorem slices_Clone_byte_byte.callsOK {W0 : World} : CallsOK sg W0 slices_Clone_byte_byte.calls := trivial

theorem slices_Clone_byte_byte.e : ∀ (a1 : Sl) (Q : Sl → Heap → Prop) (h : Heap), slices_Clone_byte_byte a1 Q h = pts (slices_Clone_byte_byte.E Q []) 3000 true [.code slices_Clone_byte_byte.code] (frOf 0 [.sl a1]) h := by
  intros; kernel_rfl

theorem slices_Clone_byte_byte.S {W0 : World} : FnS sg W0 58 slices_Clone_byte_byte.C := by
  intro vs κ h wv hx w s
  unfold slices_Clone_byte_byte.C at hx
  split at hx
  · rename_i a1
    refine postImp (ret := slices_Clone_byte_byte.ret (fun r1 h => κ (.sl r1) h)) (fun v h hr => by unfold slices_Clone_byte_byte.ret at hr; split at hr; exact hr; exact hr.elim) ?_
    exact calls_of_pts (E := slices_Clone_byte_byte.E (fun r1 h => κ (.sl r1) h) []) (envOK seatOK slices_Clone_byte_byte.callsOK noIfc_ok) seatOK.mixed slices_Clone_byte_byte.fun (Nat.le_of_ble_eq_true rfl) wv (cutL_ok trivial) s (fuel := 3000) (by rw [← slices_Clone_byte_byte.e]; exact hx)
  · exact hx.elim

noncomputable def disk_Disk_Put.code : Code := Go.Proofs.Tryd.f76.body.getD .skip

theorem disk_Disk_Put.fun : Fun sg.P 76 34 [.tmp 6] disk_Disk_Put.code := mkFun Go.Proofs.Tryd.func76 (by kernel_rfl) (by kernel_rfl) (by kernel_rfl) (by kernel_rfl)

def disk_Disk_Put.ret (Q : Int → Heap → Prop) (v : V) (h : Heap) : Prop :=
  match v with
  | .int .i64 r1 => Q r1 h
  | _ => False

def disk_Disk_Put.C (U : Ifc) (vs : List V) (κ : V → Heap → Prop) (h : Heap) : Prop :=
  match vs with
  | [.ptr a1, .int .i64 a2, .sl a3] => disk_Disk_Put U a1 a2 a3 (fun r1 h => κ (.int .i64 r1) h) h
  | _ => False

noncomputable def disk_Disk_Put.calls (U : Ifc) : List (Nat × (List V → (V → Heap → Prop) → Heap → Prop)) := [(58, slices_Clone_byte_byte.C), (36, disk_Disk_wrong.C), (73, slices_ContainsFunc_byte_byte.C U)]

noncomputable def disk_Disk_Put.E (U : Ifc) (Q : Int → Heap → Prop) (cuts : List (Nat × (List Nat × (List V → Heap → Prop)))) : Env := { tis := tisT, fns := fnsT, tys := tysT, gls := glsT, rts := rtsT, unk := [], nxt := [], calls := disk_Disk_Put.calls U, ifc := U, cuts := cuts, ret := disk_Disk_Put.ret Q, rets := [.tmp 6], n := 34 }

theorem disk_Disk_Put.callsOK {W0 : World} {U : Ifc} (hU : IfcOK sg W0 glsT U) : CallsOK sg W0 (disk_Disk_Put.calls U) := ⟨slices_Clone_byte_byte.S, disk_Disk_wrong.S, (slices_ContainsFunc_byte_byte.S hU), trivial⟩

theorem disk_Disk_Put.e : ∀ (U : Ifc) (a1 : Option Ptr) (a2 : Int) (a3 : Sl) (Q : Int → Heap → Prop) (h : Heap), disk_Disk_Put U a1 a2 a3 Q h = pts (disk_Disk_Put.E U Q []) 3000 true [.code disk_Disk_Put.code] (frOf 0 [.ptr a1, .int .i64 a2, .sl a3]) h := by
  intros; kernel_rfl

theorem disk_Disk_Put.S {W0 : World} {U : Ifc} (hU : IfcOK sg W0 glsT U) : FnS sg W0 86 (disk_Disk_Put.C U) := by
  intro vs κ h wv hx w s
  unfold disk_Disk_Put.C at hx
  split at hx
  · rename_i a1 a2 a3
    refine postImp (ret := disk_Disk_Put.ret (fun r1 h => κ (.int .i64 r1) h)) (fun v h hr => by unfold disk_Disk_Put.ret at hr; split at hr; exact hr; exact hr.elim) ?_
    exact calls_of_pts (E := disk_Disk_Put.E U (fun r1 h => κ (.int .i64 r1) h) []) (envOK seatOK (disk_Disk_Put.callsOK hU) hU) seatOK.mixed disk_Disk_Put.fun (Nat.le_of_ble_eq_true rfl) wv (cutL_ok trivial) s (fuel := 3000) (by rw [← disk_Disk_Put.e]; exact hx)
  · exact hx.elim

noncomputable def disk_Disk_Block.code : Code := Go.Proofs.Tryd.f77.body.getD .skip

theorem disk_Disk_Block.fun : Fun sg.P 77 24 [.tmp 4, .tmp 5] disk_Disk_Block.code := mkFun Go.Proofs.Tryd.func77 (by kernel_rfl) (by kernel_rfl) (by kernel_rfl) (by kernel_rfl)

def disk_Disk_Block.ret (Q : Sl → Int → Heap → Prop) (v : V) (h : Heap) : Prop :=
  match v with
  | .tup [.sl r1, .int .i64 r2] => Q r1 r2 h
  | _ => False

def disk_Disk_Block.C (vs : List V) (κ : V → Heap → Prop) (h : Heap) : Prop :=
  match vs with
  | [.ptr a1, .int .i64 a2] => disk_Disk_Block a1 a2 (fun r1 r2 h => κ (.tup [.sl r1, .int .i64 r2]) h) h
  | _ => False

noncomputable def disk_Disk_Block.calls : List (Nat × (List V → (V → Heap → Prop) → Heap → Prop)) := [(36, disk_Disk_wrong.C)]

noncomputable def disk_Disk_Block.E (Q : Sl → Int → Heap → Prop) (cuts : List (Nat × (List Nat × (List V → Heap → Prop)))) : Env := { tis := tisT, fns := fnsT, tys := tysT, gls := [], rts := rtsT, unk := [], nxt := [], calls := disk_Disk_Block.calls, ifc := noIfc, cuts := cuts, ret := disk_Disk_Block.ret Q, rets := [.tmp 4, .tmp 5], n := 24 }

theorem disk_Disk_Block.callsOK {W0 : World} : CallsOK sg W0 disk_Disk_Block.calls := ⟨disk_Disk_wrong.S, trivial⟩

theorem disk_Disk_Block.e : ∀ (a1 : Option Ptr) (a2 : Int) (Q : Sl → Int → Heap → Prop) (h : Heap), disk_Disk_Block a1 a2 Q h = pts (disk_Disk_Block.E Q []) 3000 true [.code disk_Disk_Block.code] (frOf 0 [.ptr a1, .int .i64 a2]) h := by
  intros; kernel_rfl

theorem disk_Disk_Block.S {W0 : World} : FnS sg W0 87 disk_Disk_Block.C := by
  intro vs κ h wv hx w s
  unfold disk_Disk_Block.C at hx
  split at hx
  · rename_i a1 a2
    refine postImp (ret := disk_Disk_Block.ret (fun r1 r2 h => κ (.tup [.sl r1, .int .i64 r2]) h)) (fun v h hr => by unfold disk_Disk_Block.ret at hr; split at hr; exact hr; exact hr.elim) ?_
    exact calls_of_pts (E := disk_Disk_Block.E (fun r1 r2 h => κ (.tup [.sl r1, .int .i64 r2]) h) []) (envOK seatOK disk_Disk_Block.callsOK noIfc_ok) seatOK.mixed disk_Disk_Block.fun (Nat.le_of_ble_eq_true rfl) wv (cutL_ok trivial) s (fuel := 3000) (by rw [← disk_Disk_Block.e]; exact hx)
  · exact hx.elim

noncomputable def mem_Memory_Put.code : Code := Go.Proofs.Tryd.f44.body.getD .skip

theorem mem_Memory_Put.fun : Fun sg.P 44 23 [.tmp 6] mem_Memory_Put.code := mkFun Go.Proofs.Tryd.func44 (by kernel_rfl) (by kernel_rfl) (by kernel_rfl) (by kernel_rfl)

def mem_Memory_Put.ret (Q : Int → Heap → Prop) (v : V) (h : Heap) : Prop :=
  match v with
  | .int .i64 r1 => Q r1 h
  | _ => False

def mem_Memory_Put.C (vs : List V) (κ : V → Heap → Prop) (h : Heap) : Prop :=
  match vs with
  | [.ptr a1, .int .u64 a2, .sl a3] => mem_Memory_Put a1 a2 a3 (fun r1 h => κ (.int .i64 r1) h) h
  | _ => False

noncomputable def mem_Memory_Put.calls : List (Nat × (List V → (V → Heap → Prop) → Heap → Prop)) := [(32, mem_Memory_part.C)]

noncomputable def mem_Memory_Put.E (Q : Int → Heap → Prop) (cuts : List (Nat × (List Nat × (List V → Heap → Prop)))) : Env := { tis := tisT, fns := fnsT, tys := tysT, gls := [], rts := rtsT, unk := [], nxt := [], calls := mem_Memory_Put.calls, ifc := noIfc, cuts := cuts, ret := mem_Memory_Put.ret Q, rets := [.tmp 6], n := 23 }

theorem mem_Memory_Put.callsOK {W0 : World} : CallsOK sg W0 mem_Memory_Put.calls := ⟨mem_Memory_part.S, trivial⟩

theorem mem_Memory_Put.e : ∀ (a1 : Option Ptr) (a2 : Int) (a3 : Sl) (Q : Int → Heap → Prop) (h : Heap), mem_Memory_Put a1 a2 a3 Q h = pts (mem_Memory_Put.E Q []) 3000 true [.code mem_Memory_Put.code] (frOf 0 [.ptr a1, .int .u64 a2, .sl a3]) h := by
  intros; kernel_rfl

theorem mem_Memory_Put.S {W0 : World} : FnS sg W0 33 mem_Memory_Put.C := by
  intro vs κ h wv hx w s
  unfold mem_Memory_Put.C at hx
  split at hx
  · rename_i a1 a2 a3
    refine postImp (ret := mem_Memory_Put.ret (fun r1 h => κ (.int .i64 r1) h)) (fun v h hr => by unfold mem_Memory_Put.ret at hr; split at hr; exact hr; exact hr.elim) ?_
    exact calls_of_pts (E := mem_Memory_Put.E (fun r1 h => κ (.int .i64 r1) h) []) (envOK seatOK mem_Memory_Put.callsOK noIfc_ok) seatOK.mixed mem_Memory_Put.fun (Nat.le_of_ble_eq_true rfl) wv (cutL_ok trivial) s (fuel := 3000) (by rw [← mem_Memory_Put.e]; exact hx)
  · exact hx.elim

noncomputable def disk_Disk_Complete.code : Code := Go.Proofs.Tryd.f33.body.getD .skip

theorem disk_Disk_Complete.fun : Fun sg.P 33 93 [.cell 6 86, .tmp 7] disk_Disk_Complete.code := mkFun Go.Proofs.Tryd.func33 (by kernel_rfl) (by kernel_rfl) (by kernel_rfl) (by kernel_rfl)

def disk_Disk_Complete.ret (Q : Int → Bool → Int → Int → Int → Heap → Prop) (v : V) (h : Heap) : Prop :=
  match v with
  | .tup [.agg [.int .i64 r1, .bool r2, .int .i64 r3, .int .i64 r4], .int .i64 r5] => Q r1 r2 r3 r4 r5 h
  | _ => False

def disk_Disk_Complete.C (U : Ifc) (vs : List V) (κ : V → Heap → Prop) (h : Heap) : Prop :=
  match vs with
  | [.ptr a1, .ptr a2, .int .i64 a3] => disk_Disk_Complete U a1 a2 a3 (fun r1 r2 r3 r4 r5 h => κ (.tup [.agg [.int .i64 r1, .bool r2, .int .i64 r3, .int .i64 r4], .int .i64 r5]) h) h
  | _ => False

noncomputable def disk_Disk_Complete.calls (U : Ifc) : List (Nat × (List V → (V → Heap → Prop) → Heap → Prop)) := [(33, mem_Memory_Put.C), (40, mem_Memory_Bytes.C), (29, disk_Disk_none.C), (55, mem_Memory_Frames.C), (71, slices_DeleteFunc_disk_Request_disk_Request.C U), (86, disk_Disk_Put.C U), (87, disk_Disk_Block.C)]

noncomputable def disk_Disk_Complete.E (U : Ifc) (Q : Int → Bool → Int → Int → Int → Heap → Prop) (cuts : List (Nat × (List Nat × (List V → Heap → Prop)))) : Env := { tis := tisT, fns := fnsT, tys := tysT, gls := glsT, rts := rtsT, unk := [], nxt := [], calls := disk_Disk_Complete.calls U, ifc := U, cuts := cuts, ret := disk_Disk_Complete.ret Q, rets := [.cell 6 86, .tmp 7], n := 93 }

theorem disk_Disk_Complete.callsOK {W0 : World} {U : Ifc} (hU : IfcOK sg W0 glsT U) : CallsOK sg W0 (disk_Disk_Complete.calls U) := ⟨mem_Memory_Put.S, mem_Memory_Bytes.S, disk_Disk_none.S, mem_Memory_Frames.S, (slices_DeleteFunc_disk_Request_disk_Request.S hU), (disk_Disk_Put.S hU), disk_Disk_Block.S, trivial⟩

def disk_Disk_Complete.k2 (I : Ptr → Heap → Prop) (vs : List V) (h : Heap) : Prop :=
  match vs with
  | [.ptr (some a1)] => I a1 h
  | _ => False

def disk_Disk_Complete.k4 (I : Ptr → Heap → Prop) (vs : List V) (h : Heap) : Prop :=
  match vs with
  | [.ptr (some a1)] => I a1 h
  | _ => False

def disk_Disk_Complete.k8 (I : Ptr → Ptr → Heap → Prop) (vs : List V) (h : Heap) : Prop :=
  match vs with
  | [.ptr (some a1), .ptr (some a2)] => I a1 a2 h
  | _ => False

def disk_Disk_Complete.k10 (I : (Option Ptr) → (Option Ptr) → Ptr → Ptr → Int → Heap → Prop) (vs : List V) (h : Heap) : Prop :=
  match vs with
  | [.ptr a1, .ptr a2, .ptr (some a3), .ptr (some a4), .int .u64 a5] => I a1 a2 a3 a4 a5 h
  | _ => False

def disk_Disk_Complete.k6 (I : (Option Ptr) → (Option Ptr) → Ptr → Ptr → Heap → Prop) (vs : List V) (h : Heap) : Prop :=
  match vs with
  | [.ptr a1, .ptr a2, .ptr (some a3), .ptr (some a4)] => I a1 a2 a3 a4 h
  | _ => False

theorem disk_Disk_Complete.p2 : (posC disk_Disk_Complete.code []).filter (fun p => Nat.beq p.1 2) = [(2, atPos (posC disk_Disk_Complete.code []) 2)] := by kernel_rfl

theorem disk_Disk_Complete.e2 : ∀ (U : Ifc)  (a1 : Ptr) (Q : Int → Bool → Int → Int → Int → Heap → Prop) (h : Heap), disk_Disk_Complete.j2 U  a1 Q h = pts (disk_Disk_Complete.E U Q []) 3000 true (atPos (posC disk_Disk_Complete.code []) 2) (frAt [6] [.ptr (some a1)]) h := by
  intros; kernel_rfl

theorem disk_Disk_Complete.s2 {W0 : World} {U : Ifc} (hU : IfcOK sg W0 glsT U) (Q : Int → Bool → Int → Int → Int → Heap → Prop)   : CutOK sg W0 93 (entered 33) (Post sg W0 (disk_Disk_Complete.ret Q)) (posC disk_Disk_Complete.code []) 2 [6] (disk_Disk_Complete.k2 (fun a1 h => disk_Disk_Complete.j2 U  a1 Q h)) := by
  refine cutOK_head (fun vs h hk => ?_)
  unfold disk_Disk_Complete.k2 at hk
  split at hk
  · rename_i a1
    intro todo hm ρ a w s f hp
    exact piece (E := disk_Disk_Complete.E U Q []) (vs := [.ptr (some a1)]) (envOK seatOK (disk_Disk_Complete.callsOK hU) hU) (fnOK seatOK disk_Disk_Complete.fun) trivial disk_Disk_Complete.p2 (fuel := 3000) (by rw [← disk_Disk_Complete.e2]; exact hk) hm s f hp
  · exact hk.elim

theorem disk_Disk_Complete.p4 : (posC disk_Disk_Complete.code []).filter (fun p => Nat.beq p.1 4) = [(4, atPos (posC disk_Disk_Complete.code []) 4)] := by kernel_rfl

theorem disk_Disk_Complete.e4 : ∀ (U : Ifc)  (a1 : Ptr) (Q : Int → Bool → Int → Int → Int → Heap → Prop) (h : Heap), disk_Disk_Complete.j4 U  a1 Q h = pts (disk_Disk_Complete.E U Q []) 3000 true (atPos (posC disk_Disk_Complete.code []) 4) (frAt [6] [.ptr (some a1)]) h := by
  intros; kernel_rfl

theorem disk_Disk_Complete.s4 {W0 : World} {U : Ifc} (hU : IfcOK sg W0 glsT U) (Q : Int → Bool → Int → Int → Int → Heap → Prop)   : CutOK sg W0 93 (entered 33) (Post sg W0 (disk_Disk_Complete.ret Q)) (posC disk_Disk_Complete.code []) 4 [6] (disk_Disk_Complete.k4 (fun a1 h => disk_Disk_Complete.j4 U  a1 Q h)) := by
  refine cutOK_head (fun vs h hk => ?_)
  unfold disk_Disk_Complete.k4 at hk
  split at hk
  · rename_i a1
    intro todo hm ρ a w s f hp
    exact piece (E := disk_Disk_Complete.E U Q []) (vs := [.ptr (some a1)]) (envOK seatOK (disk_Disk_Complete.callsOK hU) hU) (fnOK seatOK disk_Disk_Complete.fun) trivial disk_Disk_Complete.p4 (fuel := 3000) (by rw [← disk_Disk_Complete.e4]; exact hk) hm s f hp
  · exact hk.elim

theorem disk_Disk_Complete.p8 : (posC disk_Disk_Complete.code []).filter (fun p => Nat.beq p.1 8) = [(8, atPos (posC disk_Disk_Complete.code []) 8)] := by kernel_rfl

theorem disk_Disk_Complete.e8 : ∀ (U : Ifc)  (a1 : Ptr) (a2 : Ptr) (Q : Int → Bool → Int → Int → Int → Heap → Prop) (h : Heap), disk_Disk_Complete.j8 U  a1 a2 Q h = pts (disk_Disk_Complete.E U Q []) 3000 true (atPos (posC disk_Disk_Complete.code []) 8) (frAt [6, 8] [.ptr (some a1), .ptr (some a2)]) h := by
  intros; kernel_rfl

theorem disk_Disk_Complete.s8 {W0 : World} {U : Ifc} (hU : IfcOK sg W0 glsT U) (Q : Int → Bool → Int → Int → Int → Heap → Prop)   : CutOK sg W0 93 (entered 33) (Post sg W0 (disk_Disk_Complete.ret Q)) (posC disk_Disk_Complete.code []) 8 [6, 8] (disk_Disk_Complete.k8 (fun a1 a2 h => disk_Disk_Complete.j8 U  a1 a2 Q h)) := by
  refine cutOK_head (fun vs h hk => ?_)
  unfold disk_Disk_Complete.k8 at hk
  split at hk
  · rename_i a1 a2
    intro todo hm ρ a w s f hp
    exact piece (E := disk_Disk_Complete.E U Q []) (vs := [.ptr (some a1), .ptr (some a2)]) (envOK seatOK (disk_Disk_Complete.callsOK hU) hU) (fnOK seatOK disk_Disk_Complete.fun) trivial disk_Disk_Complete.p8 (fuel := 3000) (by rw [← disk_Disk_Complete.e8]; exact hk) hm s f hp
  · exact hk.elim

theorem disk_Disk_Complete.p10 : (posC disk_Disk_Complete.code []).filter (fun p => Nat.beq p.1 10) = [(10, atPos (posC disk_Disk_Complete.code []) 10)] := by kernel_rfl

theorem disk_Disk_Complete.e10 : ∀ (U : Ifc)  (a1 : Option Ptr) (a2 : Option Ptr) (a3 : Ptr) (a4 : Ptr) (a5 : Int) (Q : Int → Bool → Int → Int → Int → Heap → Prop) (h : Heap), disk_Disk_Complete.j10 U  a1 a2 a3 a4 a5 Q h = pts (disk_Disk_Complete.E U Q []) 3000 true (atPos (posC disk_Disk_Complete.code []) 10) (frAt [0, 1, 6, 8, 9] [.ptr a1, .ptr a2, .ptr (some a3), .ptr (some a4), .int .u64 a5]) h := by
  intros; kernel_rfl

theorem disk_Disk_Complete.s10 {W0 : World} {U : Ifc} (hU : IfcOK sg W0 glsT U) (Q : Int → Bool → Int → Int → Int → Heap → Prop)   : CutOK sg W0 93 (entered 33) (Post sg W0 (disk_Disk_Complete.ret Q)) (posC disk_Disk_Complete.code []) 10 [0, 1, 6, 8, 9] (disk_Disk_Complete.k10 (fun a1 a2 a3 a4 a5 h => disk_Disk_Complete.j10 U  a1 a2 a3 a4 a5 Q h)) := by
  refine cutOK_head (fun vs h hk => ?_)
  unfold disk_Disk_Complete.k10 at hk
  split at hk
  · rename_i a1 a2 a3 a4 a5
    intro todo hm ρ a w s f hp
    exact piece (E := disk_Disk_Complete.E U Q []) (vs := [.ptr a1, .ptr a2, .ptr (some a3), .ptr (some a4), .int .u64 a5]) (envOK seatOK (disk_Disk_Complete.callsOK hU) hU) (fnOK seatOK disk_Disk_Complete.fun) trivial disk_Disk_Complete.p10 (fuel := 3000) (by rw [← disk_Disk_Complete.e10]; exact hk) hm s f hp
  · exact hk.elim

theorem disk_Disk_Complete.p6 : (posC disk_Disk_Complete.code []).filter (fun p => Nat.beq p.1 6) = [(6, atPos (posC disk_Disk_Complete.code []) 6)] := by kernel_rfl

theorem disk_Disk_Complete.e6 : ∀ (U : Ifc)  (a1 : Option Ptr) (a2 : Option Ptr) (a3 : Ptr) (a4 : Ptr) (Q : Int → Bool → Int → Int → Int → Heap → Prop) (h : Heap), disk_Disk_Complete.j6 U  a1 a2 a3 a4 Q h = pts (disk_Disk_Complete.E U Q [(8, ([6, 8], disk_Disk_Complete.k8 (fun a1 a2 h => disk_Disk_Complete.j8 U  a1 a2 Q h))), (10, ([0, 1, 6, 8, 9], disk_Disk_Complete.k10 (fun a1 a2 a3 a4 a5 h => disk_Disk_Complete.j10 U  a1 a2 a3 a4 a5 Q h)))]) 3000 true (atPos (posC disk_Disk_Complete.code []) 6) (frAt [0, 1, 6, 8] [.ptr a1, .ptr a2, .ptr (some a3), .ptr (some a4)]) h := by
  intros; kernel_rfl

theorem disk_Disk_Complete.s6 {W0 : World} {U : Ifc} (hU : IfcOK sg W0 glsT U) (Q : Int → Bool → Int → Int → Int → Heap → Prop)   : CutOK sg W0 93 (entered 33) (Post sg W0 (disk_Disk_Complete.ret Q)) (posC disk_Disk_Complete.code []) 6 [0, 1, 6, 8] (disk_Disk_Complete.k6 (fun a1 a2 a3 a4 h => disk_Disk_Complete.j6 U  a1 a2 a3 a4 Q h)) := by
  refine cutOK_head (fun vs h hk => ?_)
  unfold disk_Disk_Complete.k6 at hk
  split at hk
  · rename_i a1 a2 a3 a4
    intro todo hm ρ a w s f hp
    exact piece (E := disk_Disk_Complete.E U Q [(8, ([6, 8], disk_Disk_Complete.k8 (fun a1 a2 h => disk_Disk_Complete.j8 U  a1 a2 Q h))), (10, ([0, 1, 6, 8, 9], disk_Disk_Complete.k10 (fun a1 a2 a3 a4 a5 h => disk_Disk_Complete.j10 U  a1 a2 a3 a4 a5 Q h)))]) (vs := [.ptr a1, .ptr a2, .ptr (some a3), .ptr (some a4)]) (envOK seatOK (disk_Disk_Complete.callsOK hU) hU) (fnOK seatOK disk_Disk_Complete.fun) ⟨(disk_Disk_Complete.s8 hU Q  ), (disk_Disk_Complete.s10 hU Q  ), trivial⟩ disk_Disk_Complete.p6 (fuel := 3000) (by rw [← disk_Disk_Complete.e6]; exact hk) hm s f hp
  · exact hk.elim

theorem disk_Disk_Complete.e : ∀ (U : Ifc) (a1 : Option Ptr) (a2 : Option Ptr) (a3 : Int) (Q : Int → Bool → Int → Int → Int → Heap → Prop) (h : Heap), disk_Disk_Complete U a1 a2 a3 Q h = pts (disk_Disk_Complete.E U Q [(2, ([6], disk_Disk_Complete.k2 (fun a1 h => disk_Disk_Complete.j2 U  a1 Q h))), (4, ([6], disk_Disk_Complete.k4 (fun a1 h => disk_Disk_Complete.j4 U  a1 Q h))), (6, ([0, 1, 6, 8], disk_Disk_Complete.k6 (fun a1 a2 a3 a4 h => disk_Disk_Complete.j6 U  a1 a2 a3 a4 Q h)))]) 3000 true [.code disk_Disk_Complete.code] (frOf 0 [.ptr a1, .ptr a2, .int .i64 a3]) h := by
  intros; kernel_rfl

theorem disk_Disk_Complete.S {W0 : World} {U : Ifc} (hU : IfcOK sg W0 glsT U) : FnS sg W0 88 (disk_Disk_Complete.C U) := by
  intro vs κ h wv hx w s
  unfold disk_Disk_Complete.C at hx
  split at hx
  · rename_i a1 a2 a3
    refine postImp (ret := disk_Disk_Complete.ret (fun r1 r2 r3 r4 r5 h => κ (.tup [.agg [.int .i64 r1, .bool r2, .int .i64 r3, .int .i64 r4], .int .i64 r5]) h)) (fun v h hr => by unfold disk_Disk_Complete.ret at hr; split at hr; exact hr; exact hr.elim) ?_
    exact calls_of_pts (E := disk_Disk_Complete.E U (fun r1 r2 r3 r4 r5 h => κ (.tup [.agg [.int .i64 r1, .bool r2, .int .i64 r3, .int .i64 r4], .int .i64 r5]) h) [(2, ([6], disk_Disk_Complete.k2 (fun a1 h => disk_Disk_Complete.j2 U  a1 (fun r1 r2 r3 r4 r5 h => κ (.tup [.agg [.int .i64 r1, .bool r2, .int .i64 r3, .int .i64 r4], .int .i64 r5]) h) h))), (4, ([6], disk_Disk_Complete.k4 (fun a1 h => disk_Disk_Complete.j4 U  a1 (fun r1 r2 r3 r4 r5 h => κ (.tup [.agg [.int .i64 r1, .bool r2, .int .i64 r3, .int .i64 r4], .int .i64 r5]) h) h))), (6, ([0, 1, 6, 8], disk_Disk_Complete.k6 (fun a1 a2 a3 a4 h => disk_Disk_Complete.j6 U  a1 a2 a3 a4 (fun r1 r2 r3 r4 r5 h => κ (.tup [.agg [.int .i64 r1, .bool r2, .int .i64 r3, .int .i64 r4], .int .i64 r5]) h) h)))]) (envOK seatOK (disk_Disk_Complete.callsOK hU) hU) seatOK.mixed disk_Disk_Complete.fun (Nat.le_of_ble_eq_true rfl) wv (cutL_ok ⟨(disk_Disk_Complete.s2 hU (fun r1 r2 r3 r4 r5 h => κ (.tup [.agg [.int .i64 r1, .bool r2, .int .i64 r3, .int .i64 r4], .int .i64 r5]) h)), (disk_Disk_Complete.s4 hU (fun r1 r2 r3 r4 r5 h => κ (.tup [.agg [.int .i64 r1, .bool r2, .int .i64 r3, .int .i64 r4], .int .i64 r5]) h)), (disk_Disk_Complete.s6 hU (fun r1 r2 r3 r4 r5 h => κ (.tup [.agg [.int .i64 r1, .bool r2, .int .i64 r3, .int .i64 r4], .int .i64 r5]) h)), trivial⟩) s (fuel := 3000) (by rw [← disk_Disk_Complete.e]; exact hx)
  · exact hx.elim

noncomputable def frames_Frames_Count.code : Code := Go.Proofs.Tryd.f37.body.getD .skip

theorem frames_Frames_Count.fun : Fun sg.P 37 27 [.tmp 4, .tmp 5] frames_Frames_Count.code := mkFun Go.Proofs.Tryd.func37 (by kernel_rfl) (by kernel_rfl) (by kernel_rfl) (by kernel_rfl)

def frames_Frames_Count.ret (Q : Int → Int → Heap → Prop) (v : V) (h : Heap) : Prop :=
  match v with
  | .tup [.int .i64 r1, .int .i64 r2] => Q r1 r2 h
  | _ => False

def frames_Frames_Count.C (vs : List V) (κ : V → Heap → Prop) (h : Heap) : Prop :=
  match vs with
  | [.ptr a1, .int .i64 a2] => frames_Frames_Count a1 a2 (fun r1 r2 h => κ (.tup [.int .i64 r1, .int .i64 r2]) h) h
  | _ => False

noncomputable def frames_Frames_Count.calls : List (Nat × (List V → (V → Heap → Prop) → Heap → Prop)) := [(260, frames_Frames_none.C), (261, frames_isOwner.C)]

noncomputable def frames_Frames_Count.E (Q : Int → Int → Heap → Prop) (cuts : List (Nat × (List Nat × (List V → Heap → Prop)))) : Env := { tis := tisT, fns := fnsT, tys := tysT, gls := [], rts := rtsT, unk := [], nxt := [], calls := frames_Frames_Count.calls, ifc := noIfc, cuts := cuts, ret := frames_Frames_Count.ret Q, rets := [.tmp 4, .tmp 5], n := 27 }

theorem frames_Frames_Count.callsOK {W0 : World} : CallsOK sg W0 frames_Frames_Count.calls := ⟨frames_Frames_none.S, frames_isOwner.S, trivial⟩

theorem frames_Frames_Count.e : ∀ (a1 : Option Ptr) (a2 : Int) (Q : Int → Int → Heap → Prop) (h : Heap), frames_Frames_Count a1 a2 Q h = pts (frames_Frames_Count.E Q []) 3000 true [.code frames_Frames_Count.code] (frOf 0 [.ptr a1, .int .i64 a2]) h := by
  intros; kernel_rfl

theorem frames_Frames_Count.S {W0 : World} : FnS sg W0 306 frames_Frames_Count.C := by
  intro vs κ h wv hx w s
  unfold frames_Frames_Count.C at hx
  split at hx
  · rename_i a1 a2
    refine postImp (ret := frames_Frames_Count.ret (fun r1 r2 h => κ (.tup [.int .i64 r1, .int .i64 r2]) h)) (fun v h hr => by unfold frames_Frames_Count.ret at hr; split at hr; exact hr; exact hr.elim) ?_
    exact calls_of_pts (E := frames_Frames_Count.E (fun r1 r2 h => κ (.tup [.int .i64 r1, .int .i64 r2]) h) []) (envOK seatOK frames_Frames_Count.callsOK noIfc_ok) seatOK.mixed frames_Frames_Count.fun (Nat.le_of_ble_eq_true rfl) wv (cutL_ok trivial) s (fuel := 3000) (by rw [← frames_Frames_Count.e]; exact hx)
  · exact hx.elim

noncomputable def palisadelaw24_Flat_Put.code : Code := Go.Proofs.Tryd.f13.body.getD .skip

theorem palisadelaw24_Flat_Put.fun : Fun sg.P 13 43 [.tmp 6] palisadelaw24_Flat_Put.code := mkFun Go.Proofs.Tryd.func13 (by kernel_rfl) (by kernel_rfl) (by kernel_rfl) (by kernel_rfl)

def palisadelaw24_Flat_Put.ret (Q : Int → Heap → Prop) (v : V) (h : Heap) : Prop :=
  match v with
  | .int .i64 r1 => Q r1 h
  | _ => False

def palisadelaw24_Flat_Put.C (vs : List V) (κ : V → Heap → Prop) (h : Heap) : Prop :=
  match vs with
  | [.ptr a1, .int .u64 a2, .sl a3] => palisadelaw24_Flat_Put a1 a2 a3 (fun r1 h => κ (.int .i64 r1) h) h
  | _ => False

noncomputable def palisadelaw24_Flat_Put.calls : List (Nat × (List V → (V → Heap → Prop) → Heap → Prop)) := [(33, mem_Memory_Put.C)]

noncomputable def palisadelaw24_Flat_Put.E (Q : Int → Heap → Prop) (cuts : List (Nat × (List Nat × (List V → Heap → Prop)))) : Env := { tis := tisT, fns := fnsT, tys := tysT, gls := [], rts := rtsT, unk := [], nxt := [], calls := palisadelaw24_Flat_Put.calls, ifc := noIfc, cuts := cuts, ret := palisadelaw24_Flat_Put.ret Q, rets := [.tmp 6], n := 43 }

theorem palisadelaw24_Flat_Put.callsOK {W0 : World} : CallsOK sg W0 palisadelaw24_Flat_Put.calls := ⟨mem_Memory_Put.S, trivial⟩

def palisadelaw24_Flat_Put.k2 (I : Heap → Prop) (vs : List V) (h : Heap) : Prop :=
  match vs with
  | [] => I  h
  | _ => False

theorem palisadelaw24_Flat_Put.p2 : (posC palisadelaw24_Flat_Put.code []).filter (fun p => Nat.beq p.1 2) = [(2, atPos (posC palisadelaw24_Flat_Put.code []) 2)] := by kernel_rfl

theorem palisadelaw24_Flat_Put.e2 : ∀   (Q : Int → Heap → Prop) (h : Heap), palisadelaw24_Flat_Put.j2   Q h = pts (palisadelaw24_Flat_Put.E Q []) 3000 true (atPos (posC palisadelaw24_Flat_Put.code []) 2) (frAt [] []) h := by
  intros; kernel_rfl

theorem palisadelaw24_Flat_Put.s2 {W0 : World} (Q : Int → Heap → Prop)   : CutOK sg W0 43 (entered 13) (Post sg W0 (palisadelaw24_Flat_Put.ret Q)) (posC palisadelaw24_Flat_Put.code []) 2 [] (palisadelaw24_Flat_Put.k2 (fun  h => palisadelaw24_Flat_Put.j2   Q h)) := by
  refine cutOK_head (fun vs h hk => ?_)
  unfold palisadelaw24_Flat_Put.k2 at hk
  split at hk
  · skip
    intro todo hm ρ a w s f hp
    exact piece (E := palisadelaw24_Flat_Put.E Q []) (vs := []) (envOK seatOK palisadelaw24_Flat_Put.callsOK noIfc_ok) (fnOK seatOK palisadelaw24_Flat_Put.fun) trivial palisadelaw24_Flat_Put.p2 (fuel := 3000) (by rw [← palisadelaw24_Flat_Put.e2]; exact hk) hm s f hp
  · exact hk.elim

theorem palisadelaw24_Flat_Put.e : ∀ (a1 : Option Ptr) (a2 : Int) (a3 : Sl) (Q : Int → Heap → Prop) (h : Heap), palisadelaw24_Flat_Put a1 a2 a3 Q h = pts (palisadelaw24_Flat_Put.E Q [(2, ([], palisadelaw24_Flat_Put.k2 (fun  h => palisadelaw24_Flat_Put.j2   Q h)))]) 3000 true [.code palisadelaw24_Flat_Put.code] (frOf 0 [.ptr a1, .int .u64 a2, .sl a3]) h := by
  intros; kernel_rfl

theorem palisadelaw24_Flat_Put.S {W0 : World} : FnS sg W0 298 palisadelaw24_Flat_Put.C := by
  intro vs κ h wv hx w s
  unfold palisadelaw24_Flat_Put.C at hx
  split at hx
  · rename_i a1 a2 a3
    refine postImp (ret := palisadelaw24_Flat_Put.ret (fun r1 h => κ (.int .i64 r1) h)) (fun v h hr => by unfold palisadelaw24_Flat_Put.ret at hr; split at hr; exact hr; exact hr.elim) ?_
    exact calls_of_pts (E := palisadelaw24_Flat_Put.E (fun r1 h => κ (.int .i64 r1) h) [(2, ([], palisadelaw24_Flat_Put.k2 (fun  h => palisadelaw24_Flat_Put.j2   (fun r1 h => κ (.int .i64 r1) h) h)))]) (envOK seatOK palisadelaw24_Flat_Put.callsOK noIfc_ok) seatOK.mixed palisadelaw24_Flat_Put.fun (Nat.le_of_ble_eq_true rfl) wv (cutL_ok ⟨(palisadelaw24_Flat_Put.s2 (fun r1 h => κ (.int .i64 r1) h)), trivial⟩) s (fuel := 3000) (by rw [← palisadelaw24_Flat_Put.e]; exact hx)
  · exact hx.elim

noncomputable def palisadelaw24_Flat_Bytes.code : Code := Go.Proofs.Tryd.f17.body.getD .skip

theorem palisadelaw24_Flat_Bytes.fun : Fun sg.P 17 49 [.tmp 6, .tmp 7] palisadelaw24_Flat_Bytes.code := mkFun Go.Proofs.Tryd.func17 (by kernel_rfl) (by kernel_rfl) (by kernel_rfl) (by kernel_rfl)

def palisadelaw24_Flat_Bytes.ret (Q : Sl → Int → Heap → Prop) (v : V) (h : Heap) : Prop :=
  match v with
  | .tup [.sl r1, .int .i64 r2] => Q r1 r2 h
  | _ => False

def palisadelaw24_Flat_Bytes.C (vs : List V) (κ : V → Heap → Prop) (h : Heap) : Prop :=
  match vs with
  | [.ptr a1, .int .u64 a2, .int .i64 a3] => palisadelaw24_Flat_Bytes a1 a2 a3 (fun r1 r2 h => κ (.tup [.sl r1, .int .i64 r2]) h) h
  | _ => False

noncomputable def palisadelaw24_Flat_Bytes.calls : List (Nat × (List V → (V → Heap → Prop) → Heap → Prop)) := [(40, mem_Memory_Bytes.C)]

noncomputable def palisadelaw24_Flat_Bytes.E (Q : Sl → Int → Heap → Prop) (cuts : List (Nat × (List Nat × (List V → Heap → Prop)))) : Env := { tis := tisT, fns := fnsT, tys := tysT, gls := [], rts := rtsT, unk := [], nxt := [], calls := palisadelaw24_Flat_Bytes.calls, ifc := noIfc, cuts := cuts, ret := palisadelaw24_Flat_Bytes.ret Q, rets := [.tmp 6, .tmp 7], n := 49 }

theorem palisadelaw24_Flat_Bytes.callsOK {W0 : World} : CallsOK sg W0 palisadelaw24_Flat_Bytes.calls := ⟨mem_Memory_Bytes.S, trivial⟩

def palisadelaw24_Flat_Bytes.k2 (I : Heap → Prop) (vs : List V) (h : Heap) : Prop :=
  match vs with
  | [] => I  h
  | _ => False

def palisadelaw24_Flat_Bytes.k3 (I : (Option Ptr) → Int → Int → Heap → Prop) (vs : List V) (h : Heap) : Prop :=
  match vs with
  | [.ptr a1, .int .u64 a2, .int .i64 a3] => I a1 a2 a3 h
  | _ => False

theorem palisadelaw24_Flat_Bytes.p2 : (posC palisadelaw24_Flat_Bytes.code []).filter (fun p => Nat.beq p.1 2) = [(2, atPos (posC palisadelaw24_Flat_Bytes.code []) 2)] := by kernel_rfl

theorem palisadelaw24_Flat_Bytes.e2 : ∀   (Q : Sl → Int → Heap → Prop) (h : Heap), palisadelaw24_Flat_Bytes.j2   Q h = pts (palisadelaw24_Flat_Bytes.E Q []) 3000 true (atPos (posC palisadelaw24_Flat_Bytes.code []) 2) (frAt [] []) h := by
  intros; kernel_rfl

theorem palisadelaw24_Flat_Bytes.s2 {W0 : World} (Q : Sl → Int → Heap → Prop)   : CutOK sg W0 49 (entered 17) (Post sg W0 (palisadelaw24_Flat_Bytes.ret Q)) (posC palisadelaw24_Flat_Bytes.code []) 2 [] (palisadelaw24_Flat_Bytes.k2 (fun  h => palisadelaw24_Flat_Bytes.j2   Q h)) := by
  refine cutOK_head (fun vs h hk => ?_)
  unfold palisadelaw24_Flat_Bytes.k2 at hk
  split at hk
  · skip
    intro todo hm ρ a w s f hp
    exact piece (E := palisadelaw24_Flat_Bytes.E Q []) (vs := []) (envOK seatOK palisadelaw24_Flat_Bytes.callsOK noIfc_ok) (fnOK seatOK palisadelaw24_Flat_Bytes.fun) trivial palisadelaw24_Flat_Bytes.p2 (fuel := 3000) (by rw [← palisadelaw24_Flat_Bytes.e2]; exact hk) hm s f hp
  · exact hk.elim

theorem palisadelaw24_Flat_Bytes.p3 : (posC palisadelaw24_Flat_Bytes.code []).filter (fun p => Nat.beq p.1 3) = [(3, atPos (posC palisadelaw24_Flat_Bytes.code []) 3)] := by kernel_rfl

theorem palisadelaw24_Flat_Bytes.e3 : ∀  (a1 : Option Ptr) (a2 : Int) (a3 : Int) (Q : Sl → Int → Heap → Prop) (h : Heap), palisadelaw24_Flat_Bytes.j3  a1 a2 a3 Q h = pts (palisadelaw24_Flat_Bytes.E Q []) 3000 true (atPos (posC palisadelaw24_Flat_Bytes.code []) 3) (frAt [0, 1, 2] [.ptr a1, .int .u64 a2, .int .i64 a3]) h := by
  intros; kernel_rfl

theorem palisadelaw24_Flat_Bytes.s3 {W0 : World} (Q : Sl → Int → Heap → Prop)   : CutOK sg W0 49 (entered 17) (Post sg W0 (palisadelaw24_Flat_Bytes.ret Q)) (posC palisadelaw24_Flat_Bytes.code []) 3 [0, 1, 2] (palisadelaw24_Flat_Bytes.k3 (fun a1 a2 a3 h => palisadelaw24_Flat_Bytes.j3  a1 a2 a3 Q h)) := by
  refine cutOK_head (fun vs h hk => ?_)
  unfold palisadelaw24_Flat_Bytes.k3 at hk
  split at hk
  · rename_i a1 a2 a3
    intro todo hm ρ a w s f hp
    exact piece (E := palisadelaw24_Flat_Bytes.E Q []) (vs := [.ptr a1, .int .u64 a2, .int .i64 a3]) (envOK seatOK palisadelaw24_Flat_Bytes.callsOK noIfc_ok) (fnOK seatOK palisadelaw24_Flat_Bytes.fun) trivial palisadelaw24_Flat_Bytes.p3 (fuel := 3000) (by rw [← palisadelaw24_Flat_Bytes.e3]; exact hk) hm s f hp
  · exact hk.elim

theorem palisadelaw24_Flat_Bytes.e : ∀ (a1 : Option Ptr) (a2 : Int) (a3 : Int) (Q : Sl → Int → Heap → Prop) (h : Heap), palisadelaw24_Flat_Bytes a1 a2 a3 Q h = pts (palisadelaw24_Flat_Bytes.E Q [(2, ([], palisadelaw24_Flat_Bytes.k2 (fun  h => palisadelaw24_Flat_Bytes.j2   Q h))), (3, ([0, 1, 2], palisadelaw24_Flat_Bytes.k3 (fun a1 a2 a3 h => palisadelaw24_Flat_Bytes.j3  a1 a2 a3 Q h)))]) 3000 true [.code palisadelaw24_Flat_Bytes.code] (frOf 0 [.ptr a1, .int .u64 a2, .int .i64 a3]) h := by
  intros; kernel_rfl

theorem palisadelaw24_Flat_Bytes.S {W0 : World} : FnS sg W0 295 palisadelaw24_Flat_Bytes.C := by
  intro vs κ h wv hx w s
  unfold palisadelaw24_Flat_Bytes.C at hx
  split at hx
  · rename_i a1 a2 a3
    refine postImp (ret := palisadelaw24_Flat_Bytes.ret (fun r1 r2 h => κ (.tup [.sl r1, .int .i64 r2]) h)) (fun v h hr => by unfold palisadelaw24_Flat_Bytes.ret at hr; split at hr; exact hr; exact hr.elim) ?_
    exact calls_of_pts (E := palisadelaw24_Flat_Bytes.E (fun r1 r2 h => κ (.tup [.sl r1, .int .i64 r2]) h) [(2, ([], palisadelaw24_Flat_Bytes.k2 (fun  h => palisadelaw24_Flat_Bytes.j2   (fun r1 r2 h => κ (.tup [.sl r1, .int .i64 r2]) h) h))), (3, ([0, 1, 2], palisadelaw24_Flat_Bytes.k3 (fun a1 a2 a3 h => palisadelaw24_Flat_Bytes.j3  a1 a2 a3 (fun r1 r2 h => κ (.tup [.sl r1, .int .i64 r2]) h) h)))]) (envOK seatOK palisadelaw24_Flat_Bytes.callsOK noIfc_ok) seatOK.mixed palisadelaw24_Flat_Bytes.fun (Nat.le_of_ble_eq_true rfl) wv (cutL_ok ⟨(palisadelaw24_Flat_Bytes.s2 (fun r1 r2 h => κ (.tup [.sl r1, .int .i64 r2]) h)), (palisadelaw24_Flat_Bytes.s3 (fun r1 r2 h => κ (.tup [.sl r1, .int .i64 r2]) h)), trivial⟩) s (fuel := 3000) (by rw [← palisadelaw24_Flat_Bytes.e]; exact hx)
  · exact hx.elim

noncomputable def disk_Disk_Complete_c1.code : Code := Go.Proofs.Tryd.f75.body.getD .skip

theorem disk_Disk_Complete_c1.fun : Fun sg.P 75 7 [.tmp 3] disk_Disk_Complete_c1.code := mkFun Go.Proofs.Tryd.func75 (by kernel_rfl) (by kernel_rfl) (by kernel_rfl) (by kernel_rfl)

def disk_Disk_Complete_c1.ret (Q : Bool → Heap → Prop) (v : V) (h : Heap) : Prop :=
  match v with
  | .bool r1 => Q r1 h
  | _ => False

def disk_Disk_Complete_c1.C (vs : List V) (κ : V → Heap → Prop) (h : Heap) : Prop :=
  match vs with
  | [.agg [.int .i64 a1, .bool a2, .int .i64 a3, .int .i64 a4], .ptr (some a5)] => disk_Disk_Complete_c1 a1 a2 a3 a4 a5 (fun r1 h => κ (.bool r1) h) h
  | _ => False

noncomputable def disk_Disk_Complete_c1.calls : List (Nat × (List V → (V → Heap → Prop) → Heap → Prop)) := []

noncomputable def disk_Disk_Complete_c1.E (Q : Bool → Heap → Prop) (cuts : List (Nat × (List Nat × (List V → Heap → Prop)))) : Env := { tis := tisT, fns := fnsT, tys := tysT, gls := [], rts := rtsT, unk := [], nxt := [], calls := disk_Disk_Complete_c1.calls, ifc := noIfc, cuts := cuts, ret := disk_Disk_Complete_c1.ret Q, rets := [.tmp 3], n := 7 }

theorem disk_Disk_Complete_c1.callsOK {W0 : World} : CallsOK sg W0 disk_Disk_Complete_c1.calls := trivial

theorem disk_Disk_Complete_c1.e : ∀ (a1 : Int) (a2 : Bool) (a3 : Int) (a4 : Int) (a5 : Ptr) (Q : Bool → Heap → Prop) (h : Heap), disk_Disk_Complete_c1 a1 a2 a3 a4 a5 Q h = pts (disk_Disk_Complete_c1.E Q []) 3000 true [.code disk_Disk_Complete_c1.code] (frOf 0 [.agg [.int .i64 a1, .bool a2, .int .i64 a3, .int .i64 a4], .ptr (some a5)]) h := by
  intros; kernel_rfl

theorem disk_Disk_Complete_c1.S {W0 : World} : FnS sg W0 56 disk_Disk_Complete_c1.C := by
  intro vs κ h wv hx w s
  unfold disk_Disk_Complete_c1.C at hx
  split at hx
  · rename_i a1 a2 a3 a4 a5
    refine postImp (ret := disk_Disk_Complete_c1.ret (fun r1 h => κ (.bool r1) h)) (fun v h hr => by unfold disk_Disk_Complete_c1.ret at hr; split at hr; exact hr; exact hr.elim) ?_
    exact calls_of_pts (E := disk_Disk_Complete_c1.E (fun r1 h => κ (.bool r1) h) []) (envOK seatOK disk_Disk_Complete_c1.callsOK noIfc_ok) seatOK.mixed disk_Disk_Complete_c1.fun (Nat.le_of_ble_eq_true rfl) wv (cutL_ok trivial) s (fuel := 3000) (by rw [← disk_Disk_Complete_c1.e]; exact hx)
  · exact hx.elim

noncomputable def disk_Disk_Put_c1.code : Code := Go.Proofs.Tryd.f99.body.getD .skip

theorem disk_Disk_Put_c1.fun : Fun sg.P 99 5 [.tmp 2] disk_Disk_Put_c1.code := mkFun Go.Proofs.Tryd.func99 (by kernel_rfl) (by kernel_rfl) (by kernel_rfl) (by kernel_rfl)

def disk_Disk_Put_c1.ret (Q : Bool → Heap → Prop) (v : V) (h : Heap) : Prop :=
  match v with
  | .bool r1 => Q r1 h
  | _ => False

def disk_Disk_Put_c1.C (vs : List V) (κ : V → Heap → Prop) (h : Heap) : Prop :=
  match vs with
  | [.int .u8 a1] => disk_Disk_Put_c1 a1 (fun r1 h => κ (.bool r1) h) h
  | _ => False

noncomputable def disk_Disk_Put_c1.calls : List (Nat × (List V → (V → Heap → Prop) → Heap → Prop)) := []

noncomputable def disk_Disk_Put_c1.E (Q : Bool → Heap → Prop) (cuts : List (Nat × (List Nat × (List V → Heap → Prop)))) : Env := { tis := tisT, fns := fnsT, tys := tysT, gls := [], rts := rtsT, unk := [], nxt := [], calls := disk_Disk_Put_c1.calls, ifc := noIfc, cuts := cuts, ret := disk_Disk_Put_c1.ret Q, rets := [.tmp 2], n := 5 }

theorem disk_Disk_Put_c1.callsOK {W0 : World} : CallsOK sg W0 disk_Disk_Put_c1.calls := trivial

theorem disk_Disk_Put_c1.e : ∀ (a1 : Int) (Q : Bool → Heap → Prop) (h : Heap), disk_Disk_Put_c1 a1 Q h = pts (disk_Disk_Put_c1.E Q []) 3000 true [.code disk_Disk_Put_c1.code] (frOf 0 [.int .u8 a1]) h := by
  intros; kernel_rfl

theorem disk_Disk_Put_c1.S {W0 : World} : FnS sg W0 57 disk_Disk_Put_c1.C := by
  intro vs κ h wv hx w s
  unfold disk_Disk_Put_c1.C at hx
  split at hx
  · rename_i a1
    refine postImp (ret := disk_Disk_Put_c1.ret (fun r1 h => κ (.bool r1) h)) (fun v h hr => by unfold disk_Disk_Put_c1.ret at hr; split at hr; exact hr; exact hr.elim) ?_
    exact calls_of_pts (E := disk_Disk_Put_c1.E (fun r1 h => κ (.bool r1) h) []) (envOK seatOK disk_Disk_Put_c1.callsOK noIfc_ok) seatOK.mixed disk_Disk_Put_c1.fun (Nat.le_of_ble_eq_true rfl) wv (cutL_ok trivial) s (fuel := 3000) (by rw [← disk_Disk_Put_c1.e]; exact hx)
  · exact hx.elim

noncomputable def disk_Disk_Submit_c1.code : Code := Go.Proofs.Tryd.f103.body.getD .skip

theorem disk_Disk_Submit_c1.fun : Fun sg.P 103 9 [.tmp 3] disk_Disk_Submit_c1.code := mkFun Go.Proofs.Tryd.func103 (by kernel_rfl) (by kernel_rfl) (by kernel_rfl) (by kernel_rfl)

def disk_Disk_Submit_c1.ret (Q : Bool → Heap → Prop) (v : V) (h : Heap) : Prop :=
  match v with
  | .bool r1 => Q r1 h
  | _ => False

def disk_Disk_Submit_c1.C (vs : List V) (κ : V → Heap → Prop) (h : Heap) : Prop :=
  match vs with
  | [.agg [.int .i64 a1, .bool a2, .int .i64 a3, .int .i64 a4], .ptr (some a5)] => disk_Disk_Submit_c1 a1 a2 a3 a4 a5 (fun r1 h => κ (.bool r1) h) h
  | _ => False

noncomputable def disk_Disk_Submit_c1.calls : List (Nat × (List V → (V → Heap → Prop) → Heap → Prop)) := []

noncomputable def disk_Disk_Submit_c1.E (Q : Bool → Heap → Prop) (cuts : List (Nat × (List Nat × (List V → Heap → Prop)))) : Env := { tis := tisT, fns := fnsT, tys := tysT, gls := [], rts := rtsT, unk := [], nxt := [], calls := disk_Disk_Submit_c1.calls, ifc := noIfc, cuts := cuts, ret := disk_Disk_Submit_c1.ret Q, rets := [.tmp 3], n := 9 }

theorem disk_Disk_Submit_c1.callsOK {W0 : World} : CallsOK sg W0 disk_Disk_Submit_c1.calls := trivial

theorem disk_Disk_Submit_c1.e : ∀ (a1 : Int) (a2 : Bool) (a3 : Int) (a4 : Int) (a5 : Ptr) (Q : Bool → Heap → Prop) (h : Heap), disk_Disk_Submit_c1 a1 a2 a3 a4 a5 Q h = pts (disk_Disk_Submit_c1.E Q []) 3000 true [.code disk_Disk_Submit_c1.code] (frOf 0 [.agg [.int .i64 a1, .bool a2, .int .i64 a3, .int .i64 a4], .ptr (some a5)]) h := by
  intros; kernel_rfl

theorem disk_Disk_Submit_c1.S {W0 : World} : FnS sg W0 3 disk_Disk_Submit_c1.C := by
  intro vs κ h wv hx w s
  unfold disk_Disk_Submit_c1.C at hx
  split at hx
  · rename_i a1 a2 a3 a4 a5
    refine postImp (ret := disk_Disk_Submit_c1.ret (fun r1 h => κ (.bool r1) h)) (fun v h hr => by unfold disk_Disk_Submit_c1.ret at hr; split at hr; exact hr; exact hr.elim) ?_
    exact calls_of_pts (E := disk_Disk_Submit_c1.E (fun r1 h => κ (.bool r1) h) []) (envOK seatOK disk_Disk_Submit_c1.callsOK noIfc_ok) seatOK.mixed disk_Disk_Submit_c1.fun (Nat.le_of_ble_eq_true rfl) wv (cutL_ok trivial) s (fuel := 3000) (by rw [← disk_Disk_Submit_c1.e]; exact hx)
  · exact hx.elim

noncomputable def palisadelaw24_Flat_Frame.code : Code := Go.Proofs.Tryd.f123.body.getD .skip

theorem palisadelaw24_Flat_Frame.fun : Fun sg.P 123 24 [.tmp 6, .tmp 7] palisadelaw24_Flat_Frame.code := mkFun Go.Proofs.Tryd.func123 (by kernel_rfl) (by kernel_rfl) (by kernel_rfl) (by kernel_rfl)

def palisadelaw24_Flat_Frame.ret (Q : Int → Bool → Heap → Prop) (v : V) (h : Heap) : Prop :=
  match v with
  | .tup [.int .i64 r1, .bool r2] => Q r1 r2 h
  | _ => False

def palisadelaw24_Flat_Frame.C (vs : List V) (κ : V → Heap → Prop) (h : Heap) : Prop :=
  match vs with
  | [.ptr a1, .int .i64 a2, .bool a3] => palisadelaw24_Flat_Frame a1 a2 a3 (fun r1 r2 h => κ (.tup [.int .i64 r1, .bool r2]) h) h
  | _ => False

noncomputable def palisadelaw24_Flat_Frame.calls : List (Nat × (List V → (V → Heap → Prop) → Heap → Prop)) := []

noncomputable def palisadelaw24_Flat_Frame.E (Q : Int → Bool → Heap → Prop) (cuts : List (Nat × (List Nat × (List V → Heap → Prop)))) : Env := { tis := tisT, fns := fnsT, tys := tysT, gls := [], rts := rtsT, unk := [], nxt := [], calls := palisadelaw24_Flat_Frame.calls, ifc := noIfc, cuts := cuts, ret := palisadelaw24_Flat_Frame.ret Q, rets := [.tmp 6, .tmp 7], n := 24 }

theorem palisadelaw24_Flat_Frame.callsOK {W0 : World} : CallsOK sg W0 palisadelaw24_Flat_Frame.calls := trivial

theorem palisadelaw24_Flat_Frame.e : ∀ (a1 : Option Ptr) (a2 : Int) (a3 : Bool) (Q : Int → Bool → Heap → Prop) (h : Heap), palisadelaw24_Flat_Frame a1 a2 a3 Q h = pts (palisadelaw24_Flat_Frame.E Q []) 3000 true [.code palisadelaw24_Flat_Frame.code] (frOf 0 [.ptr a1, .int .i64 a2, .bool a3]) h := by
  intros; kernel_rfl

theorem palisadelaw24_Flat_Frame.S {W0 : World} : FnS sg W0 296 palisadelaw24_Flat_Frame.C := by
  intro vs κ h wv hx w s
  unfold palisadelaw24_Flat_Frame.C at hx
  split at hx
  · rename_i a1 a2 a3
    refine postImp (ret := palisadelaw24_Flat_Frame.ret (fun r1 r2 h => κ (.tup [.int .i64 r1, .bool r2]) h)) (fun v h hr => by unfold palisadelaw24_Flat_Frame.ret at hr; split at hr; exact hr; exact hr.elim) ?_
    exact calls_of_pts (E := palisadelaw24_Flat_Frame.E (fun r1 r2 h => κ (.tup [.int .i64 r1, .bool r2]) h) []) (envOK seatOK palisadelaw24_Flat_Frame.callsOK noIfc_ok) seatOK.mixed palisadelaw24_Flat_Frame.fun (Nat.le_of_ble_eq_true rfl) wv (cutL_ok trivial) s (fuel := 3000) (by rw [← palisadelaw24_Flat_Frame.e]; exact hx)
  · exact hx.elim

end Go.Fn
