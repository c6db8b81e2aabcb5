/- The links of the shallow functions to the machine. PRINTED by lift.py. -/
import Derived.Test.YtcaeaolgijjjnaaGreatDoorGb2
set_option linter.unusedSimpArgs false
set_option linter.unusedVariables false

set_option linter.unusedVariables false
set_option maxRecDepth 100000
namespace Go.Fn
open Go.Lift

noncomputable def zf52.code : Code := Go.Proofs.Tryz.f59.body.getD .skip

theorem zf52.fun : Fun sg.P 59 92 [.cell 4 54, .tmp 5] zf52.code := mkFun Go.Proofs.Tryz.func59 (by kernel_rfl) (by kernel_rfl) (by kernel_rfl) (by kernel_rfl)

def zf52.ret (Q : Int → (List UInt8) → Int → Bool → Int → Int → Int → Int → Int → (List UInt8) → Int → Bool → Heap → Prop) (v : V) (h : Heap) : Prop :=
  match v with
  | .tup [.agg [.int .i64 r1, .str r2, .int .i64 r3, .bool r4, .int .i64 r5, .int .i64 r6, .int .i64 r7, .int .i64 r8, .int .i64 r9, .str r10, .int .u32 r11], .bool r12] => Q r1 r2 r3 r4 r5 r6 r7 r8 r9 r10 r11 r12 h
  | _ => False

def zf52.C (U : Ifc) (vs : List V) (κ : V → Heap → Prop) (h : Heap) : Prop :=
  match vs with
  | [.int .i64 a1, .sl a2] => zf52 U a1 a2 (fun r1 r2 r3 r4 r5 r6 r7 r8 r9 r10 r11 r12 h => κ (.tup [.agg [.int .i64 r1, .str r2, .int .i64 r3, .bool r4, .int .i64 r5, .int .i64 r6, .int .i64 r7, .int .i64 r8, .int .i64 r9, .str r10, .int .u32 r11], .bool r12]) h) h
  | _ => False

noncomputable def zf52.calls (U : Ifc) : List (Nat × (List V → (V → Heap → Prop) → Heap → Prop)) := [(367, zf50.C U), (368, zf44.C), (366, zf46.C U), (346, zf45.C)]

noncomputable def zf52.E (U : Ifc) (Q : Int → (List UInt8) → Int → Bool → Int → Int → Int → Int → Int → (List UInt8) → Int → Bool → Heap → Prop) (cuts : List (Nat × (List Nat × (List V → Heap → Prop)))) : Env := { tis := tisT, fns := fnsT, tys := tysT, gls := glsT, rts := rtsT, unk := [], nxt := [], calls := zf52.calls U, ifc := U, cuts := cuts, ret := zf52.ret Q, rets := [.cell 4 54, .tmp 5], n := 92 }

theorem zf52.callsOK {W0 : World} {U : Ifc} (hU : IfcOK sg W0 glsT U) : CallsOK sg W0 (zf52.calls U) := ⟨(zf50.S hU), zf44.S, (zf46.S hU), zf45.S, trivial⟩

def zf52.k7 (I : Sl → Ptr → Ptr → (List UInt8) → Int → Heap → Prop) (vs : List V) (h : Heap) : Prop :=
  match vs with
  | [.sl a1, .ptr (some a2), .ptr (some a3), .str a4, .int .i64 a5] => I a1 a2 a3 a4 a5 h
  | _ => False

def zf52.k27 (I : Sl → Ptr → Ptr → (List UInt8) → Int → Bool → Heap → Prop) (vs : List V) (h : Heap) : Prop :=
  match vs with
  | [.sl a1, .ptr (some a2), .ptr (some a3), .str a4, .int .i64 a5, .bool a6] => I a1 a2 a3 a4 a5 a6 h
  | _ => False

def zf52.k12 (I : Sl → Ptr → Ptr → (List UInt8) → Int → Int → Heap → Prop) (vs : List V) (h : Heap) : Prop :=
  match vs with
  | [.sl a1, .ptr (some a2), .ptr (some a3), .str a4, .int .i64 a5, .int .i64 a6] => I a1 a2 a3 a4 a5 a6 h
  | _ => False

def zf52.k14 (I : Sl → Ptr → Ptr → (List UInt8) → Int → Int → Bool → Int → Int → Heap → Prop) (vs : List V) (h : Heap) : Prop :=
  match vs with
  | [.sl a1, .ptr (some a2), .ptr (some a3), .str a4, .int .i64 a5, .int .i64 a6, .bool a7, .int .i64 a8, .int .u8 a9] => I a1 a2 a3 a4 a5 a6 a7 a8 a9 h
  | _ => False

def zf52.k6 (I : Sl → Ptr → Ptr → (List UInt8) → Int → Heap → Prop) (vs : List V) (h : Heap) : Prop :=
  match vs with
  | [.sl a1, .ptr (some a2), .ptr (some a3), .str a4, .int .i64 a5] => I a1 a2 a3 a4 a5 h
  | _ => False

theorem zf52.p7 : (posC zf52.code []).filter (fun p => Nat.beq p.1 7) = [(7, atPos (posC zf52.code []) 7)] := by kernel_rfl

theorem zf52.e7 : ∀ (U : Ifc) (I6 : Sl → Ptr → Ptr → (List UInt8) → Int → Heap → Prop) (a1 : Sl) (a2 : Ptr) (a3 : Ptr) (a4 : List UInt8) (a5 : Int) (Q : Int → (List UInt8) → Int → Bool → Int → Int → Int → Int → Int → (List UInt8) → Int → Bool → Heap → Prop) (h : Heap), zf52.j7 U I6 a1 a2 a3 a4 a5 Q h = pts (zf52.E U Q [(6, ([1, 4, 6, 7, 8], zf52.k6 I6))]) 3000 true (atPos (posC zf52.code []) 7) (frAt [1, 4, 6, 7, 8] [.sl a1, .ptr (some a2), .ptr (some a3), .str a4, .int .i64 a5]) h := by
  intros; kernel_rfl

theorem zf52.s7 {W0 : World} {U : Ifc} (hU : IfcOK sg W0 glsT U) (Q : Int → (List UInt8) → Int → Bool → Int → Int → Int → Int → Int → (List UInt8) → Int → Bool → Heap → Prop) (I6 : Sl → Ptr → Ptr → (List UInt8) → Int → Heap → Prop) (h6 : CutOK sg W0 92 (entered 59) (Post sg W0 (zf52.ret Q)) (posC zf52.code []) 6 [1, 4, 6, 7, 8] (zf52.k6 I6)) : CutOK sg W0 92 (entered 59) (Post sg W0 (zf52.ret Q)) (posC zf52.code []) 7 [1, 4, 6, 7, 8] (zf52.k7 (fun a1 a2 a3 a4 a5 h => zf52.j7 U I6 a1 a2 a3 a4 a5 Q h)) := by
  refine cutOK_head (fun vs h hk => ?_)
  unfold zf52.k7 at hk
  split at hk
  · rename_i a1 a2 a3 a4 a5
    intro todo hm ρ a w s f hp
    exact piece (E := zf52.E U Q [(6, ([1, 4, 6, 7, 8], zf52.k6 I6))]) (vs := [.sl a1, .ptr (some a2), .ptr (some a3), .str a4, .int .i64 a5]) (envOK seatOK (zf52.callsOK hU) hU) (fnOK seatOK zf52.fun) ⟨h6, trivial⟩ zf52.p7 (fuel := 3000) (by rw [← zf52.e7]; exact hk) hm s f hp
  · exact hk.elim

theorem zf52.p27 : (posC zf52.code []).filter (fun p => Nat.beq p.1 27) = [(27, atPos (posC zf52.code []) 27)] := by kernel_rfl

theorem zf52.e27 : ∀ (U : Ifc) (I6 : Sl → Ptr → Ptr → (List UInt8) → Int → Heap → Prop) (a1 : Sl) (a2 : Ptr) (a3 : Ptr) (a4 : List UInt8) (a5 : Int) (a6 : Bool) (Q : Int → (List UInt8) → Int → Bool → Int → Int → Int → Int → Int → (List UInt8) → Int → Bool → Heap → Prop) (h : Heap), zf52.j27 U I6 a1 a2 a3 a4 a5 a6 Q h = pts (zf52.E U Q [(7, ([1, 4, 6, 7, 8], zf52.k7 (fun a1 a2 a3 a4 a5 h => zf52.j7 U I6 a1 a2 a3 a4 a5 Q h)))]) 3000 true (atPos (posC zf52.code []) 27) (frAt [1, 4, 6, 7, 8, 10] [.sl a1, .ptr (some a2), .ptr (some a3), .str a4, .int .i64 a5, .bool a6]) h := by
  intros; kernel_rfl

theorem zf52.s27 {W0 : World} {U : Ifc} (hU : IfcOK sg W0 glsT U) (Q : Int → (List UInt8) → Int → Bool → Int → Int → Int → Int → Int → (List UInt8) → Int → Bool → Heap → Prop) (I6 : Sl → Ptr → Ptr → (List UInt8) → Int → Heap → Prop) (h6 : CutOK sg W0 92 (entered 59) (Post sg W0 (zf52.ret Q)) (posC zf52.code []) 6 [1, 4, 6, 7, 8] (zf52.k6 I6)) : CutOK sg W0 92 (entered 59) (Post sg W0 (zf52.ret Q)) (posC zf52.code []) 27 [1, 4, 6, 7, 8, 10] (zf52.k27 (fun a1 a2 a3 a4 a5 a6 h => zf52.j27 U I6 a1 a2 a3 a4 a5 a6 Q h)) := by
  refine cutOK_head (fun vs h hk => ?_)
  unfold zf52.k27 at hk
  split at hk
  · rename_i a1 a2 a3 a4 a5 a6
    intro todo hm ρ a w s f hp
    exact piece (E := zf52.E U Q [(7, ([1, 4, 6, 7, 8], zf52.k7 (fun a1 a2 a3 a4 a5 h => zf52.j7 U I6 a1 a2 a3 a4 a5 Q h)))]) (vs := [.sl a1, .ptr (some a2), .ptr (some a3), .str a4, .int .i64 a5, .bool a6]) (envOK seatOK (zf52.callsOK hU) hU) (fnOK seatOK zf52.fun) ⟨(zf52.s7 hU Q I6 h6), trivial⟩ zf52.p27 (fuel := 3000) (by rw [← zf52.e27]; exact hk) hm s f hp
  · exact hk.elim

theorem zf52.p12 : (posC zf52.code []).filter (fun p => Nat.beq p.1 12) = [(12, atPos (posC zf52.code []) 12)] := by kernel_rfl

theorem zf52.e12 : ∀ (U : Ifc) (I6 : Sl → Ptr → Ptr → (List UInt8) → Int → Heap → Prop) (a1 : Sl) (a2 : Ptr) (a3 : Ptr) (a4 : List UInt8) (a5 : Int) (a6 : Int) (Q : Int → (List UInt8) → Int → Bool → Int → Int → Int → Int → Int → (List UInt8) → Int → Bool → Heap → Prop) (h : Heap), zf52.j12 U I6 a1 a2 a3 a4 a5 a6 Q h = pts (zf52.E U Q [(27, ([1, 4, 6, 7, 8, 10], zf52.k27 (fun a1 a2 a3 a4 a5 a6 h => zf52.j27 U I6 a1 a2 a3 a4 a5 a6 Q h)))]) 3000 true (atPos (posC zf52.code []) 12) (frAt [1, 4, 6, 7, 8, 11] [.sl a1, .ptr (some a2), .ptr (some a3), .str a4, .int .i64 a5, .int .i64 a6]) h := by
  intros; kernel_rfl

theorem zf52.s12 {W0 : World} {U : Ifc} (hU : IfcOK sg W0 glsT U) (Q : Int → (List UInt8) → Int → Bool → Int → Int → Int → Int → Int → (List UInt8) → Int → Bool → Heap → Prop) (I6 : Sl → Ptr → Ptr → (List UInt8) → Int → Heap → Prop) (h6 : CutOK sg W0 92 (entered 59) (Post sg W0 (zf52.ret Q)) (posC zf52.code []) 6 [1, 4, 6, 7, 8] (zf52.k6 I6)) : CutOK sg W0 92 (entered 59) (Post sg W0 (zf52.ret Q)) (posC zf52.code []) 12 [1, 4, 6, 7, 8, 11] (zf52.k12 (fun a1 a2 a3 a4 a5 a6 h => zf52.j12 U I6 a1 a2 a3 a4 a5 a6 Q h)) := by
  refine cutOK_head (fun vs h hk => ?_)
  unfold zf52.k12 at hk
  split at hk
  · rename_i a1 a2 a3 a4 a5 a6
    intro todo hm ρ a w s f hp
    exact piece (E := zf52.E U Q [(27, ([1, 4, 6, 7, 8, 10], zf52.k27 (fun a1 a2 a3 a4 a5 a6 h => zf52.j27 U I6 a1 a2 a3 a4 a5 a6 Q h)))]) (vs := [.sl a1, .ptr (some a2), .ptr (some a3), .str a4, .int .i64 a5, .int .i64 a6]) (envOK seatOK (zf52.callsOK hU) hU) (fnOK seatOK zf52.fun) ⟨(zf52.s27 hU Q I6 h6), trivial⟩ zf52.p12 (fuel := 3000) (by rw [← zf52.e12]; exact hk) hm s f hp
  · exact hk.elim

theorem zf52.p14 : (posC zf52.code []).filter (fun p => Nat.beq p.1 14) = [(14, atPos (posC zf52.code []) 14)] := by kernel_rfl

theorem zf52.e14 : ∀ (U : Ifc) (I6 : Sl → Ptr → Ptr → (List UInt8) → Int → Heap → Prop) (a1 : Sl) (a2 : Ptr) (a3 : Ptr) (a4 : List UInt8) (a5 : Int) (a6 : Int) (a7 : Bool) (a8 : Int) (a9 : Int) (Q : Int → (List UInt8) → Int → Bool → Int → Int → Int → Int → Int → (List UInt8) → Int → Bool → Heap → Prop) (h : Heap), zf52.j14 U I6 a1 a2 a3 a4 a5 a6 a7 a8 a9 Q h = pts (zf52.E U Q [(27, ([1, 4, 6, 7, 8, 10], zf52.k27 (fun a1 a2 a3 a4 a5 a6 h => zf52.j27 U I6 a1 a2 a3 a4 a5 a6 Q h)))]) 3000 true (atPos (posC zf52.code []) 14) (frAt [1, 4, 6, 7, 8, 9, 10, 11, 44] [.sl a1, .ptr (some a2), .ptr (some a3), .str a4, .int .i64 a5, .int .i64 a6, .bool a7, .int .i64 a8, .int .u8 a9]) h := by
  intros; kernel_rfl

theorem zf52.s14 {W0 : World} {U : Ifc} (hU : IfcOK sg W0 glsT U) (Q : Int → (List UInt8) → Int → Bool → Int → Int → Int → Int → Int → (List UInt8) → Int → Bool → Heap → Prop) (I6 : Sl → Ptr → Ptr → (List UInt8) → Int → Heap → Prop) (h6 : CutOK sg W0 92 (entered 59) (Post sg W0 (zf52.ret Q)) (posC zf52.code []) 6 [1, 4, 6, 7, 8] (zf52.k6 I6)) : CutOK sg W0 92 (entered 59) (Post sg W0 (zf52.ret Q)) (posC zf52.code []) 14 [1, 4, 6, 7, 8, 9, 10, 11, 44] (zf52.k14 (fun a1 a2 a3 a4 a5 a6 a7 a8 a9 h => zf52.j14 U I6 a1 a2 a3 a4 a5 a6 a7 a8 a9 Q h)) := by
  refine cutOK_head (fun vs h hk => ?_)
  unfold zf52.k14 at hk
  split at hk
  · rename_i a1 a2 a3 a4 a5 a6 a7 a8 a9
    intro todo hm ρ a w s f hp
    exact piece (E := zf52.E U Q [(27, ([1, 4, 6, 7, 8, 10], zf52.k27 (fun a1 a2 a3 a4 a5 a6 h => zf52.j27 U I6 a1 a2 a3 a4 a5 a6 Q h)))]) (vs := [.sl a1, .ptr (some a2), .ptr (some a3), .str a4, .int .i64 a5, .int .i64 a6, .bool a7, .int .i64 a8, .int .u8 a9]) (envOK seatOK (zf52.callsOK hU) hU) (fnOK seatOK zf52.fun) ⟨(zf52.s27 hU Q I6 h6), trivial⟩ zf52.p14 (fuel := 3000) (by rw [← zf52.e14]; exact hk) hm s f hp
  · exact hk.elim

theorem zf52.p6 : (posC zf52.code []).filter (fun p => Nat.beq p.1 6) = [(6, atPos (posC zf52.code []) 6)] := by kernel_rfl

theorem zf52.e6 : ∀ (U : Ifc)  (I6 : Sl → Ptr → Ptr → (List UInt8) → Int → Heap → Prop) (a1 : Sl) (a2 : Ptr) (a3 : Ptr) (a4 : List UInt8) (a5 : Int) (Q : Int → (List UInt8) → Int → Bool → Int → Int → Int → Int → Int → (List UInt8) → Int → Bool → Heap → Prop) (h : Heap), zf52.b6 U  I6 a1 a2 a3 a4 a5 Q h = pts (zf52.E U Q [(12, ([1, 4, 6, 7, 8, 11], zf52.k12 (fun a1 a2 a3 a4 a5 a6 h => zf52.j12 U I6 a1 a2 a3 a4 a5 a6 Q h))), (14, ([1, 4, 6, 7, 8, 9, 10, 11, 44], zf52.k14 (fun a1 a2 a3 a4 a5 a6 a7 a8 a9 h => zf52.j14 U I6 a1 a2 a3 a4 a5 a6 a7 a8 a9 Q h)))]) 3000 true (atPos (posC zf52.code []) 6) (frAt [1, 4, 6, 7, 8] [.sl a1, .ptr (some a2), .ptr (some a3), .str a4, .int .i64 a5]) h := by
  intros; kernel_rfl

theorem zf52.s6 {W0 : World} {U : Ifc} (hU : IfcOK sg W0 glsT U) (Q : Int → (List UInt8) → Int → Bool → Int → Int → Int → Int → Int → (List UInt8) → Int → Bool → Heap → Prop)   : CutOK sg W0 92 (entered 59) (Post sg W0 (zf52.ret Q)) (posC zf52.code []) 6 [1, 4, 6, 7, 8] (zf52.k6 (fun a1 a2 a3 a4 a5 h => zf52.j6 U  a1 a2 a3 a4 a5 Q h)) := by
  refine cutOK_head (fun vs h hk => ?_)
  unfold zf52.k6 at hk
  split at hk
  · rename_i a1 a2 a3 a4 a5
    refine hk (fun a1 a2 a3 a4 a5 h => Head sg W0 92 (entered 59) (Post sg W0 (zf52.ret Q)) (posC zf52.code []) 6 [1, 4, 6, 7, 8] [.sl a1, .ptr (some a2), .ptr (some a3), .str a4, .int .i64 a5] h) ?_
    intro a1 a2 a3 a4 a5 h hb todo hm ρ a w s f hp
    have hself : CutOK sg W0 92 (entered 59) (Post sg W0 (zf52.ret Q)) (posC zf52.code []) 6 [1, 4, 6, 7, 8] (zf52.k6 (fun a1 a2 a3 a4 a5 h => Head sg W0 92 (entered 59) (Post sg W0 (zf52.ret Q)) (posC zf52.code []) 6 [1, 4, 6, 7, 8] [.sl a1, .ptr (some a2), .ptr (some a3), .str a4, .int .i64 a5] h)) := cutOK_head (fun vs h hk => by unfold zf52.k6 at hk; split at hk; exact hk; exact hk.elim)
    exact piece (E := zf52.E U Q [(12, ([1, 4, 6, 7, 8, 11], zf52.k12 (fun a1 a2 a3 a4 a5 a6 h => zf52.j12 U (fun a1 a2 a3 a4 a5 h => Head sg W0 92 (entered 59) (Post sg W0 (zf52.ret Q)) (posC zf52.code []) 6 [1, 4, 6, 7, 8] [.sl a1, .ptr (some a2), .ptr (some a3), .str a4, .int .i64 a5] h) a1 a2 a3 a4 a5 a6 Q h))), (14, ([1, 4, 6, 7, 8, 9, 10, 11, 44], zf52.k14 (fun a1 a2 a3 a4 a5 a6 a7 a8 a9 h => zf52.j14 U (fun a1 a2 a3 a4 a5 h => Head sg W0 92 (entered 59) (Post sg W0 (zf52.ret Q)) (posC zf52.code []) 6 [1, 4, 6, 7, 8] [.sl a1, .ptr (some a2), .ptr (some a3), .str a4, .int .i64 a5] h) a1 a2 a3 a4 a5 a6 a7 a8 a9 Q h)))]) (vs := [.sl a1, .ptr (some a2), .ptr (some a3), .str a4, .int .i64 a5]) (envOK seatOK (zf52.callsOK hU) hU) (fnOK seatOK zf52.fun) ⟨(zf52.s12 hU Q (fun a1 a2 a3 a4 a5 h => Head sg W0 92 (entered 59) (Post sg W0 (zf52.ret Q)) (posC zf52.code []) 6 [1, 4, 6, 7, 8] [.sl a1, .ptr (some a2), .ptr (some a3), .str a4, .int .i64 a5] h) hself), (zf52.s14 hU Q (fun a1 a2 a3 a4 a5 h => Head sg W0 92 (entered 59) (Post sg W0 (zf52.ret Q)) (posC zf52.code []) 6 [1, 4, 6, 7, 8] [.sl a1, .ptr (some a2), .ptr (some a3), .str a4, .int .i64 a5] h) hself), trivial⟩ zf52.p6 (fuel := 3000) (by rw [← zf52.e6]; exact hb) hm s f hp
  · exact hk.elim

theorem zf52.e : ∀ (U : Ifc) (a1 : Int) (a2 : Sl) (Q : Int → (List UInt8) → Int → Bool → Int → Int → Int → Int → Int → (List UInt8) → Int → Bool → Heap → Prop) (h : Heap), zf52 U a1 a2 Q h = pts (zf52.E U Q [(6, ([1, 4, 6, 7, 8], zf52.k6 (fun a1 a2 a3 a4 a5 h => zf52.j6 U  a1 a2 a3 a4 a5 Q h)))]) 3000 true [.code zf52.code] (frOf 0 [.int .i64 a1, .sl a2]) h := by
  intros; kernel_rfl

theorem zf52.S {W0 : World} {U : Ifc} (hU : IfcOK sg W0 glsT U) : FnS sg W0 370 (zf52.C U) := by
  intro vs κ h wv hx w s
  unfold zf52.C at hx
  split at hx
  · rename_i a1 a2
    refine postImp (ret := zf52.ret (fun r1 r2 r3 r4 r5 r6 r7 r8 r9 r10 r11 r12 h => κ (.tup [.agg [.int .i64 r1, .str r2, .int .i64 r3, .bool r4, .int .i64 r5, .int .i64 r6, .int .i64 r7, .int .i64 r8, .int .i64 r9, .str r10, .int .u32 r11], .bool r12]) h)) (fun v h hr => by unfold zf52.ret at hr; split at hr; exact hr; exact hr.elim) ?_
    exact calls_of_pts (E := zf52.E U (fun r1 r2 r3 r4 r5 r6 r7 r8 r9 r10 r11 r12 h => κ (.tup [.agg [.int .i64 r1, .str r2, .int .i64 r3, .bool r4, .int .i64 r5, .int .i64 r6, .int .i64 r7, .int .i64 r8, .int .i64 r9, .str r10, .int .u32 r11], .bool r12]) h) [(6, ([1, 4, 6, 7, 8], zf52.k6 (fun a1 a2 a3 a4 a5 h => zf52.j6 U  a1 a2 a3 a4 a5 (fun r1 r2 r3 r4 r5 r6 r7 r8 r9 r10 r11 r12 h => κ (.tup [.agg [.int .i64 r1, .str r2, .int .i64 r3, .bool r4, .int .i64 r5, .int .i64 r6, .int .i64 r7, .int .i64 r8, .int .i64 r9, .str r10, .int .u32 r11], .bool r12]) h) h)))]) (envOK seatOK (zf52.callsOK hU) hU) seatOK.mixed zf52.fun (Nat.le_of_ble_eq_true rfl) wv (cutL_ok ⟨(zf52.s6 hU (fun r1 r2 r3 r4 r5 r6 r7 r8 r9 r10 r11 r12 h => κ (.tup [.agg [.int .i64 r1, .str r2, .int .i64 r3, .bool r4, .int .i64 r5, .int .i64 r6, .int .i64 r7, .int .i64 r8, .int .i64 r9, .str r10, .int .u32 r11], .bool r12]) h)), trivial⟩) s (fuel := 3000) (by rw [← zf52.e]; exact hx)
  · exact hx.elim

noncomputable def zf53.code : Code := Go.Proofs.Tryz.f28.body.getD .skip

theorem zf53.fun : Fun sg.P 28 116 [.cell 2 54, .tmp 3] zf53.code := mkFun Go.Proofs.Tryz.func28 (by kernel_rfl) (by kernel_rfl) (by kernel_rfl) (by kernel_rfl)

def zf53.ret (Q : Int → (List UInt8) → Int → Bool → Int → Int → Int → Int → Int → (List UInt8) → Int → Bool → Heap → Prop) (v : V) (h : Heap) : Prop :=
  match v with
  | .tup [.agg [.int .i64 r1, .str r2, .int .i64 r3, .bool r4, .int .i64 r5, .int .i64 r6, .int .i64 r7, .int .i64 r8, .int .i64 r9, .str r10, .int .u32 r11], .bool r12] => Q r1 r2 r3 r4 r5 r6 r7 r8 r9 r10 r11 r12 h
  | _ => False

def zf53.C (U : Ifc) (vs : List V) (κ : V → Heap → Prop) (h : Heap) : Prop :=
  match vs with
  | [.str a1] => zf53 U a1 (fun r1 r2 r3 r4 r5 r6 r7 r8 r9 r10 r11 r12 h => κ (.tup [.agg [.int .i64 r1, .str r2, .int .i64 r3, .bool r4, .int .i64 r5, .int .i64 r6, .int .i64 r7, .int .i64 r8, .int .i64 r9, .str r10, .int .u32 r11], .bool r12]) h) h
  | _ => False

noncomputable def zf53.calls (U : Ifc) : List (Nat × (List V → (V → Heap → Prop) → Heap → Prop)) := [(365, zf47.C), (367, zf50.C U), (368, zf44.C), (369, zf51.C), (370, zf52.C U)]

noncomputable def zf53.E (U : Ifc) (Q : Int → (List UInt8) → Int → Bool → Int → Int → Int → Int → Int → (List UInt8) → Int → Bool → Heap → Prop) (cuts : List (Nat × (List Nat × (List V → Heap → Prop)))) : Env := { tis := tisT, fns := fnsT, tys := tysT, gls := glsT, rts := rtsT, unk := [], nxt := [], calls := zf53.calls U, ifc := U, cuts := cuts, ret := zf53.ret Q, rets := [.cell 2 54, .tmp 3], n := 116 }

theorem zf53.callsOK {W0 : World} {U : Ifc} (hU : IfcOK sg W0 glsT U) : CallsOK sg W0 (zf53.calls U) := ⟨zf47.S, (zf50.S hU), zf44.S, zf51.S, (zf52.S hU), trivial⟩

def zf53.k11 (I : Ptr → Sl → (List UInt8) → Heap → Prop) (vs : List V) (h : Heap) : Prop :=
  match vs with
  | [.ptr (some a1), .sl a2, .str a3] => I a1 a2 a3 h
  | _ => False

def zf53.k21 (I : Ptr → (List UInt8) → Ptr → Bool → Heap → Prop) (vs : List V) (h : Heap) : Prop :=
  match vs with
  | [.ptr (some a1), .str a2, .ptr (some a3), .bool a4] => I a1 a2 a3 a4 h
  | _ => False

def zf53.k8 (I : Ptr → Sl → (List UInt8) → Heap → Prop) (vs : List V) (h : Heap) : Prop :=
  match vs with
  | [.ptr (some a1), .sl a2, .str a3] => I a1 a2 a3 h
  | _ => False

def zf53.k5 (I : Ptr → Sl → (List UInt8) → Heap → Prop) (vs : List V) (h : Heap) : Prop :=
  match vs with
  | [.ptr (some a1), .sl a2, .str a3] => I a1 a2 a3 h
  | _ => False

theorem zf53.p11 : (posC zf53.code []).filter (fun p => Nat.beq p.1 11) = [(11, atPos (posC zf53.code []) 11)] := by kernel_rfl

theorem zf53.e11 : ∀ (U : Ifc)  (a1 : Ptr) (a2 : Sl) (a3 : List UInt8) (Q : Int → (List UInt8) → Int → Bool → Int → Int → Int → Int → Int → (List UInt8) → Int → Bool → Heap → Prop) (h : Heap), zf53.j11 U  a1 a2 a3 Q h = pts (zf53.E U Q []) 3000 true (atPos (posC zf53.code []) 11) (frAt [2, 4, 5] [.ptr (some a1), .sl a2, .str a3]) h := by
  intros; kernel_rfl

theorem zf53.s11 {W0 : World} {U : Ifc} (hU : IfcOK sg W0 glsT U) (Q : Int → (List UInt8) → Int → Bool → Int → Int → Int → Int → Int → (List UInt8) → Int → Bool → Heap → Prop)   : CutOK sg W0 116 (entered 28) (Post sg W0 (zf53.ret Q)) (posC zf53.code []) 11 [2, 4, 5] (zf53.k11 (fun a1 a2 a3 h => zf53.j11 U  a1 a2 a3 Q h)) := by
  refine cutOK_head (fun vs h hk => ?_)
  unfold zf53.k11 at hk
  split at hk
  · rename_i a1 a2 a3
    intro todo hm ρ a w s f hp
    exact piece (E := zf53.E U Q []) (vs := [.ptr (some a1), .sl a2, .str a3]) (envOK seatOK (zf53.callsOK hU) hU) (fnOK seatOK zf53.fun) trivial zf53.p11 (fuel := 3000) (by rw [← zf53.e11]; exact hk) hm s f hp
  · exact hk.elim

theorem zf53.p21 : (posC zf53.code []).filter (fun p => Nat.beq p.1 21) = [(21, atPos (posC zf53.code []) 21)] := by kernel_rfl

theorem zf53.e21 : ∀ (U : Ifc)  (a1 : Ptr) (a2 : List UInt8) (a3 : Ptr) (a4 : Bool) (Q : Int → (List UInt8) → Int → Bool → Int → Int → Int → Int → Int → (List UInt8) → Int → Bool → Heap → Prop) (h : Heap), zf53.j21 U  a1 a2 a3 a4 Q h = pts (zf53.E U Q []) 3000 true (atPos (posC zf53.code []) 21) (frAt [2, 5, 9, 10] [.ptr (some a1), .str a2, .ptr (some a3), .bool a4]) h := by
  intros; kernel_rfl

theorem zf53.s21 {W0 : World} {U : Ifc} (hU : IfcOK sg W0 glsT U) (Q : Int → (List UInt8) → Int → Bool → Int → Int → Int → Int → Int → (List UInt8) → Int → Bool → Heap → Prop)   : CutOK sg W0 116 (entered 28) (Post sg W0 (zf53.ret Q)) (posC zf53.code []) 21 [2, 5, 9, 10] (zf53.k21 (fun a1 a2 a3 a4 h => zf53.j21 U  a1 a2 a3 a4 Q h)) := by
  refine cutOK_head (fun vs h hk => ?_)
  unfold zf53.k21 at hk
  split at hk
  · rename_i a1 a2 a3 a4
    intro todo hm ρ a w s f hp
    exact piece (E := zf53.E U Q []) (vs := [.ptr (some a1), .str a2, .ptr (some a3), .bool a4]) (envOK seatOK (zf53.callsOK hU) hU) (fnOK seatOK zf53.fun) trivial zf53.p21 (fuel := 3000) (by rw [← zf53.e21]; exact hk) hm s f hp
  · exact hk.elim

theorem zf53.p8 : (posC zf53.code []).filter (fun p => Nat.beq p.1 8) = [(8, atPos (posC zf53.code []) 8)] := by kernel_rfl

theorem zf53.e8 : ∀ (U : Ifc)  (a1 : Ptr) (a2 : Sl) (a3 : List UInt8) (Q : Int → (List UInt8) → Int → Bool → Int → Int → Int → Int → Int → (List UInt8) → Int → Bool → Heap → Prop) (h : Heap), zf53.j8 U  a1 a2 a3 Q h = pts (zf53.E U Q [(11, ([2, 4, 5], zf53.k11 (fun a1 a2 a3 h => zf53.j11 U  a1 a2 a3 Q h))), (21, ([2, 5, 9, 10], zf53.k21 (fun a1 a2 a3 a4 h => zf53.j21 U  a1 a2 a3 a4 Q h)))]) 3000 true (atPos (posC zf53.code []) 8) (frAt [2, 4, 5] [.ptr (some a1), .sl a2, .str a3]) h := by
  intros; kernel_rfl

theorem zf53.s8 {W0 : World} {U : Ifc} (hU : IfcOK sg W0 glsT U) (Q : Int → (List UInt8) → Int → Bool → Int → Int → Int → Int → Int → (List UInt8) → Int → Bool → Heap → Prop)   : CutOK sg W0 116 (entered 28) (Post sg W0 (zf53.ret Q)) (posC zf53.code []) 8 [2, 4, 5] (zf53.k8 (fun a1 a2 a3 h => zf53.j8 U  a1 a2 a3 Q h)) := by
  refine cutOK_head (fun vs h hk => ?_)
  unfold zf53.k8 at hk
  split at hk
  · rename_i a1 a2 a3
    intro todo hm ρ a w s f hp
    exact piece (E := zf53.E U Q [(11, ([2, 4, 5], zf53.k11 (fun a1 a2 a3 h => zf53.j11 U  a1 a2 a3 Q h))), (21, ([2, 5, 9, 10], zf53.k21 (fun a1 a2 a3 a4 h => zf53.j21 U  a1 a2 a3 a4 Q h)))]) (vs := [.ptr (some a1), .sl a2, .str a3]) (envOK seatOK (zf53.callsOK hU) hU) (fnOK seatOK zf53.fun) ⟨(zf53.s11 hU Q  ), (zf53.s21 hU Q  ), trivial⟩ zf53.p8 (fuel := 3000) (by rw [← zf53.e8]; exact hk) hm s f hp
  · exact hk.elim

theorem zf53.p5 : (posC zf53.code []).filter (fun p => Nat.beq p.1 5) = [(5, atPos (posC zf53.code []) 5)] := by kernel_rfl

theorem zf53.e5 : ∀ (U : Ifc)  (a1 : Ptr) (a2 : Sl) (a3 : List UInt8) (Q : Int → (List UInt8) → Int → Bool → Int → Int → Int → Int → Int → (List UInt8) → Int → Bool → Heap → Prop) (h : Heap), zf53.j5 U  a1 a2 a3 Q h = pts (zf53.E U Q [(8, ([2, 4, 5], zf53.k8 (fun a1 a2 a3 h => zf53.j8 U  a1 a2 a3 Q h)))]) 3000 true (atPos (posC zf53.code []) 5) (frAt [2, 4, 5] [.ptr (some a1), .sl a2, .str a3]) h := by
  intros; kernel_rfl

theorem zf53.s5 {W0 : World} {U : Ifc} (hU : IfcOK sg W0 glsT U) (Q : Int → (List UInt8) → Int → Bool → Int → Int → Int → Int → Int → (List UInt8) → Int → Bool → Heap → Prop)   : CutOK sg W0 116 (entered 28) (Post sg W0 (zf53.ret Q)) (posC zf53.code []) 5 [2, 4, 5] (zf53.k5 (fun a1 a2 a3 h => zf53.j5 U  a1 a2 a3 Q h)) := by
  refine cutOK_head (fun vs h hk => ?_)
  unfold zf53.k5 at hk
  split at hk
  · rename_i a1 a2 a3
    intro todo hm ρ a w s f hp
    exact piece (E := zf53.E U Q [(8, ([2, 4, 5], zf53.k8 (fun a1 a2 a3 h => zf53.j8 U  a1 a2 a3 Q h)))]) (vs := [.ptr (some a1), .sl a2, .str a3]) (envOK seatOK (zf53.callsOK hU) hU) (fnOK seatOK zf53.fun) ⟨(zf53.s8 hU Q  ), trivial⟩ zf53.p5 (fuel := 3000) (by rw [← zf53.e5]; exact hk) hm s f hp
  · exact hk.elim

theorem zf53.e : ∀ (U : Ifc) (a1 : List UInt8) (Q : Int → (List UInt8) → Int → Bool → Int → Int → Int → Int → Int → (List UInt8) → Int → Bool → Heap → Prop) (h : Heap), zf53 U a1 Q h = pts (zf53.E U Q [(5, ([2, 4, 5], zf53.k5 (fun a1 a2 a3 h => zf53.j5 U  a1 a2 a3 Q h))), (8, ([2, 4, 5], zf53.k8 (fun a1 a2 a3 h => zf53.j8 U  a1 a2 a3 Q h)))]) 3000 true [.code zf53.code] (frOf 0 [.str a1]) h := by
  intros; kernel_rfl

theorem zf53.S {W0 : World} {U : Ifc} (hU : IfcOK sg W0 glsT U) : FnS sg W0 371 (zf53.C U) := by
  intro vs κ h wv hx w s
  unfold zf53.C at hx
  split at hx
  · rename_i a1
    refine postImp (ret := zf53.ret (fun r1 r2 r3 r4 r5 r6 r7 r8 r9 r10 r11 r12 h => κ (.tup [.agg [.int .i64 r1, .str r2, .int .i64 r3, .bool r4, .int .i64 r5, .int .i64 r6, .int .i64 r7, .int .i64 r8, .int .i64 r9, .str r10, .int .u32 r11], .bool r12]) h)) (fun v h hr => by unfold zf53.ret at hr; split at hr; exact hr; exact hr.elim) ?_
    exact calls_of_pts (E := zf53.E U (fun r1 r2 r3 r4 r5 r6 r7 r8 r9 r10 r11 r12 h => κ (.tup [.agg [.int .i64 r1, .str r2, .int .i64 r3, .bool r4, .int .i64 r5, .int .i64 r6, .int .i64 r7, .int .i64 r8, .int .i64 r9, .str r10, .int .u32 r11], .bool r12]) h) [(5, ([2, 4, 5], zf53.k5 (fun a1 a2 a3 h => zf53.j5 U  a1 a2 a3 (fun r1 r2 r3 r4 r5 r6 r7 r8 r9 r10 r11 r12 h => κ (.tup [.agg [.int .i64 r1, .str r2, .int .i64 r3, .bool r4, .int .i64 r5, .int .i64 r6, .int .i64 r7, .int .i64 r8, .int .i64 r9, .str r10, .int .u32 r11], .bool r12]) h) h))), (8, ([2, 4, 5], zf53.k8 (fun a1 a2 a3 h => zf53.j8 U  a1 a2 a3 (fun r1 r2 r3 r4 r5 r6 r7 r8 r9 r10 r11 r12 h => κ (.tup [.agg [.int .i64 r1, .str r2, .int .i64 r3, .bool r4, .int .i64 r5, .int .i64 r6, .int .i64 r7, .int .i64 r8, .int .i64 r9, .str r10, .int .u32 r11], .bool r12]) h) h)))]) (envOK seatOK (zf53.callsOK hU) hU) seatOK.mixed zf53.fun (Nat.le_of_ble_eq_true rfl) wv (cutL_ok ⟨(zf53.s5 hU (fun r1 r2 r3 r4 r5 r6 r7 r8 r9 r10 r11 r12 h => κ (.tup [.agg [.int .i64 r1, .str r2, .int .i64 r3, .bool r4, .int .i64 r5, .int .i64 r6, .int .i64 r7, .int .i64 r8, .int .i64 r9, .str r10, .int .u32 r11], .bool r12]) h)), (zf53.s8 hU (fun r1 r2 r3 r4 r5 r6 r7 r8 r9 r10 r11 r12 h => κ (.tup [.agg [.int .i64 r1, .str r2, .int .i64 r3, .bool r4, .int .i64 r5, .int .i64 r6, .int .i64 r7, .int .i64 r8, .int .i64 r9, .str r10, .int .u32 r11], .bool r12]) h)), trivial⟩) s (fuel := 3000) (by rw [← zf53.e]; exact hx)
  · exact hx.elim

noncomputable def zf49.code : Code := Go.Proofs.Tryz.f14.body.getD .skip

theorem zf49.fun : Fun sg.P 14 72 [.tmp 2, .tmp 3, .tmp 4] zf49.code := mkFun Go.Proofs.Tryz.func14 (by kernel_rfl) (by kernel_rfl) (by kernel_rfl) (by kernel_rfl)

def zf49.ret (Q : Sl → Int → Int → Heap → Prop) (v : V) (h : Heap) : Prop :=
  match v with
  | .tup [.sl r1, .int .i64 r2, .int .i64 r3] => Q r1 r2 r3 h
  | _ => False

def zf49.C (U : Ifc) (vs : List V) (κ : V → Heap → Prop) (h : Heap) : Prop :=
  match vs with
  | [.str a1] => zf49 U a1 (fun r1 r2 r3 h => κ (.tup [.sl r1, .int .i64 r2, .int .i64 r3]) h) h
  | _ => False

noncomputable def zf49.calls (U : Ifc) : List (Nat × (List V → (V → Heap → Prop) → Heap → Prop)) := [(371, zf53.C U)]

noncomputable def zf49.E (U : Ifc) (Q : Sl → Int → Int → Heap → Prop) (cuts : List (Nat × (List Nat × (List V → Heap → Prop)))) : Env := { tis := tisT, fns := fnsT, tys := tysT, gls := glsT, rts := rtsT, unk := [], nxt := [], calls := zf49.calls U, ifc := U, cuts := cuts, ret := zf49.ret Q, rets := [.tmp 2, .tmp 3, .tmp 4], n := 72 }

theorem zf49.callsOK {W0 : World} {U : Ifc} (hU : IfcOK sg W0 glsT U) : CallsOK sg W0 (zf49.calls U) := ⟨(zf53.S hU), trivial⟩

def zf49.k6 (I : (List UInt8) → Sl → Int → Int → Int → Heap → Prop) (vs : List V) (h : Heap) : Prop :=
  match vs with
  | [.str a1, .sl a2, .int .i64 a3, .int .i64 a4, .int .i64 a5] => I a1 a2 a3 a4 a5 h
  | _ => False

def zf49.k12 (I : (List UInt8) → Sl → Int → Int → Ptr → Bool → Int → Heap → Prop) (vs : List V) (h : Heap) : Prop :=
  match vs with
  | [.str a1, .sl a2, .int .i64 a3, .int .i64 a4, .ptr (some a5), .bool a6, .int .i64 a7] => I a1 a2 a3 a4 a5 a6 a7 h
  | _ => False

def zf49.k14 (I : (List UInt8) → Sl → Int → Int → Ptr → Bool → Heap → Prop) (vs : List V) (h : Heap) : Prop :=
  match vs with
  | [.str a1, .sl a2, .int .i64 a3, .int .i64 a4, .ptr (some a5), .bool a6] => I a1 a2 a3 a4 a5 a6 h
  | _ => False

def zf49.k11 (I : (List UInt8) → Sl → Int → Int → Ptr → Bool → Int → Heap → Prop) (vs : List V) (h : Heap) : Prop :=
  match vs with
  | [.str a1, .sl a2, .int .i64 a3, .int .i64 a4, .ptr (some a5), .bool a6, .int .i64 a7] => I a1 a2 a3 a4 a5 a6 a7 h
  | _ => False

def zf49.k8 (I : (List UInt8) → Sl → Int → Int → Int → Heap → Prop) (vs : List V) (h : Heap) : Prop :=
  match vs with
  | [.str a1, .sl a2, .int .i64 a3, .int .i64 a4, .int .i64 a5] => I a1 a2 a3 a4 a5 h
  | _ => False

def zf49.k5 (I : (List UInt8) → Sl → Int → Int → Int → Heap → Prop) (vs : List V) (h : Heap) : Prop :=
  match vs with
  | [.str a1, .sl a2, .int .i64 a3, .int .i64 a4, .int .i64 a5] => I a1 a2 a3 a4 a5 h
  | _ => False

theorem zf49.p6 : (posC zf49.code []).filter (fun p => Nat.beq p.1 6) = [(6, atPos (posC zf49.code []) 6)] := by kernel_rfl

theorem zf49.e6 : ∀ (U : Ifc) (I5 : (List UInt8) → Sl → Int → Int → Int → Heap → Prop) (a1 : List UInt8) (a2 : Sl) (a3 : Int) (a4 : Int) (a5 : Int) (Q : Sl → Int → Int → Heap → Prop) (h : Heap), zf49.j6 U I5 a1 a2 a3 a4 a5 Q h = pts (zf49.E U Q [(5, ([0, 5, 6, 7, 8], zf49.k5 I5))]) 3000 true (atPos (posC zf49.code []) 6) (frAt [0, 5, 6, 7, 8] [.str a1, .sl a2, .int .i64 a3, .int .i64 a4, .int .i64 a5]) h := by
  intros; kernel_rfl

theorem zf49.s6 {W0 : World} {U : Ifc} (hU : IfcOK sg W0 glsT U) (Q : Sl → Int → Int → Heap → Prop) (I5 : (List UInt8) → Sl → Int → Int → Int → Heap → Prop) (h5 : CutOK sg W0 72 (entered 14) (Post sg W0 (zf49.ret Q)) (posC zf49.code []) 5 [0, 5, 6, 7, 8] (zf49.k5 I5)) : CutOK sg W0 72 (entered 14) (Post sg W0 (zf49.ret Q)) (posC zf49.code []) 6 [0, 5, 6, 7, 8] (zf49.k6 (fun a1 a2 a3 a4 a5 h => zf49.j6 U I5 a1 a2 a3 a4 a5 Q h)) := by
  refine cutOK_head (fun vs h hk => ?_)
  unfold zf49.k6 at hk
  split at hk
  · rename_i a1 a2 a3 a4 a5
    intro todo hm ρ a w s f hp
    exact piece (E := zf49.E U Q [(5, ([0, 5, 6, 7, 8], zf49.k5 I5))]) (vs := [.str a1, .sl a2, .int .i64 a3, .int .i64 a4, .int .i64 a5]) (envOK seatOK (zf49.callsOK hU) hU) (fnOK seatOK zf49.fun) ⟨h5, trivial⟩ zf49.p6 (fuel := 3000) (by rw [← zf49.e6]; exact hk) hm s f hp
  · exact hk.elim

theorem zf49.p12 : (posC zf49.code []).filter (fun p => Nat.beq p.1 12) = [(12, atPos (posC zf49.code []) 12)] := by kernel_rfl

theorem zf49.e12 : ∀ (U : Ifc) (I5 : (List UInt8) → Sl → Int → Int → Int → Heap → Prop) (I11 : (List UInt8) → Sl → Int → Int → Ptr → Bool → Int → Heap → Prop) (a1 : List UInt8) (a2 : Sl) (a3 : Int) (a4 : Int) (a5 : Ptr) (a6 : Bool) (a7 : Int) (Q : Sl → Int → Int → Heap → Prop) (h : Heap), zf49.j12 U I5 I11 a1 a2 a3 a4 a5 a6 a7 Q h = pts (zf49.E U Q [(11, ([0, 5, 7, 8, 9, 10, 11], zf49.k11 I11))]) 3000 true (atPos (posC zf49.code []) 12) (frAt [0, 5, 7, 8, 9, 10, 11] [.str a1, .sl a2, .int .i64 a3, .int .i64 a4, .ptr (some a5), .bool a6, .int .i64 a7]) h := by
  intros; kernel_rfl

theorem zf49.s12 {W0 : World} {U : Ifc} (hU : IfcOK sg W0 glsT U) (Q : Sl → Int → Int → Heap → Prop) (I5 : (List UInt8) → Sl → Int → Int → Int → Heap → Prop) (I11 : (List UInt8) → Sl → Int → Int → Ptr → Bool → Int → Heap → Prop) (h5 : CutOK sg W0 72 (entered 14) (Post sg W0 (zf49.ret Q)) (posC zf49.code []) 5 [0, 5, 6, 7, 8] (zf49.k5 I5)) (h11 : CutOK sg W0 72 (entered 14) (Post sg W0 (zf49.ret Q)) (posC zf49.code []) 11 [0, 5, 7, 8, 9, 10, 11] (zf49.k11 I11)) : CutOK sg W0 72 (entered 14) (Post sg W0 (zf49.ret Q)) (posC zf49.code []) 12 [0, 5, 7, 8, 9, 10, 11] (zf49.k12 (fun a1 a2 a3 a4 a5 a6 a7 h => zf49.j12 U I5 I11 a1 a2 a3 a4 a5 a6 a7 Q h)) := by
  refine cutOK_head (fun vs h hk => ?_)
  unfold zf49.k12 at hk
  split at hk
  · rename_i a1 a2 a3 a4 a5 a6 a7
    intro todo hm ρ a w s f hp
    exact piece (E := zf49.E U Q [(11, ([0, 5, 7, 8, 9, 10, 11], zf49.k11 I11))]) (vs := [.str a1, .sl a2, .int .i64 a3, .int .i64 a4, .ptr (some a5), .bool a6, .int .i64 a7]) (envOK seatOK (zf49.callsOK hU) hU) (fnOK seatOK zf49.fun) ⟨h11, trivial⟩ zf49.p12 (fuel := 3000) (by rw [← zf49.e12]; exact hk) hm s f hp
  · exact hk.elim

theorem zf49.p14 : (posC zf49.code []).filter (fun p => Nat.beq p.1 14) = [(14, atPos (posC zf49.code []) 14)] := by kernel_rfl

theorem zf49.e14 : ∀ (U : Ifc) (I5 : (List UInt8) → Sl → Int → Int → Int → Heap → Prop) (a1 : List UInt8) (a2 : Sl) (a3 : Int) (a4 : Int) (a5 : Ptr) (a6 : Bool) (Q : Sl → Int → Int → Heap → Prop) (h : Heap), zf49.j14 U I5 a1 a2 a3 a4 a5 a6 Q h = pts (zf49.E U Q [(6, ([0, 5, 6, 7, 8], zf49.k6 (fun a1 a2 a3 a4 a5 h => zf49.j6 U I5 a1 a2 a3 a4 a5 Q h)))]) 3000 true (atPos (posC zf49.code []) 14) (frAt [0, 5, 7, 8, 9, 10] [.str a1, .sl a2, .int .i64 a3, .int .i64 a4, .ptr (some a5), .bool a6]) h := by
  intros; kernel_rfl

theorem zf49.s14 {W0 : World} {U : Ifc} (hU : IfcOK sg W0 glsT U) (Q : Sl → Int → Int → Heap → Prop) (I5 : (List UInt8) → Sl → Int → Int → Int → Heap → Prop) (h5 : CutOK sg W0 72 (entered 14) (Post sg W0 (zf49.ret Q)) (posC zf49.code []) 5 [0, 5, 6, 7, 8] (zf49.k5 I5)) : CutOK sg W0 72 (entered 14) (Post sg W0 (zf49.ret Q)) (posC zf49.code []) 14 [0, 5, 7, 8, 9, 10] (zf49.k14 (fun a1 a2 a3 a4 a5 a6 h => zf49.j14 U I5 a1 a2 a3 a4 a5 a6 Q h)) := by
  refine cutOK_head (fun vs h hk => ?_)
  unfold zf49.k14 at hk
  split at hk
  · rename_i a1 a2 a3 a4 a5 a6
    intro todo hm ρ a w s f hp
    exact piece (E := zf49.E U Q [(6, ([0, 5, 6, 7, 8], zf49.k6 (fun a1 a2 a3 a4 a5 h => zf49.j6 U I5 a1 a2 a3 a4 a5 Q h)))]) (vs := [.str a1, .sl a2, .int .i64 a3, .int .i64 a4, .ptr (some a5), .bool a6]) (envOK seatOK (zf49.callsOK hU) hU) (fnOK seatOK zf49.fun) ⟨(zf49.s6 hU Q I5 h5), trivial⟩ zf49.p14 (fuel := 3000) (by rw [← zf49.e14]; exact hk) hm s f hp
  · exact hk.elim

theorem zf49.p11 : (posC zf49.code []).filter (fun p => Nat.beq p.1 11) = [(11, atPos (posC zf49.code []) 11)] := by kernel_rfl

theorem zf49.e11 : ∀ (U : Ifc) (I5 : (List UInt8) → Sl → Int → Int → Int → Heap → Prop) (I11 : (List UInt8) → Sl → Int → Int → Ptr → Bool → Int → Heap → Prop) (a1 : List UInt8) (a2 : Sl) (a3 : Int) (a4 : Int) (a5 : Ptr) (a6 : Bool) (a7 : Int) (Q : Sl → Int → Int → Heap → Prop) (h : Heap), zf49.b11 U I5 I11 a1 a2 a3 a4 a5 a6 a7 Q h = pts (zf49.E U Q [(12, ([0, 5, 7, 8, 9, 10, 11], zf49.k12 (fun a1 a2 a3 a4 a5 a6 a7 h => zf49.j12 U I5 I11 a1 a2 a3 a4 a5 a6 a7 Q h))), (14, ([0, 5, 7, 8, 9, 10], zf49.k14 (fun a1 a2 a3 a4 a5 a6 h => zf49.j14 U I5 a1 a2 a3 a4 a5 a6 Q h)))]) 3000 true (atPos (posC zf49.code []) 11) (frAt [0, 5, 7, 8, 9, 10, 11] [.str a1, .sl a2, .int .i64 a3, .int .i64 a4, .ptr (some a5), .bool a6, .int .i64 a7]) h := by
  intros; kernel_rfl

theorem zf49.s11 {W0 : World} {U : Ifc} (hU : IfcOK sg W0 glsT U) (Q : Sl → Int → Int → Heap → Prop) (I5 : (List UInt8) → Sl → Int → Int → Int → Heap → Prop) (h5 : CutOK sg W0 72 (entered 14) (Post sg W0 (zf49.ret Q)) (posC zf49.code []) 5 [0, 5, 6, 7, 8] (zf49.k5 I5)) : CutOK sg W0 72 (entered 14) (Post sg W0 (zf49.ret Q)) (posC zf49.code []) 11 [0, 5, 7, 8, 9, 10, 11] (zf49.k11 (fun a1 a2 a3 a4 a5 a6 a7 h => zf49.j11 U I5 a1 a2 a3 a4 a5 a6 a7 Q h)) := by
  refine cutOK_head (fun vs h hk => ?_)
  unfold zf49.k11 at hk
  split at hk
  · rename_i a1 a2 a3 a4 a5 a6 a7
    refine hk (fun a1 a2 a3 a4 a5 a6 a7 h => Head sg W0 72 (entered 14) (Post sg W0 (zf49.ret Q)) (posC zf49.code []) 11 [0, 5, 7, 8, 9, 10, 11] [.str a1, .sl a2, .int .i64 a3, .int .i64 a4, .ptr (some a5), .bool a6, .int .i64 a7] h) ?_
    intro a1 a2 a3 a4 a5 a6 a7 h hb todo hm ρ a w s f hp
    have hself : CutOK sg W0 72 (entered 14) (Post sg W0 (zf49.ret Q)) (posC zf49.code []) 11 [0, 5, 7, 8, 9, 10, 11] (zf49.k11 (fun a1 a2 a3 a4 a5 a6 a7 h => Head sg W0 72 (entered 14) (Post sg W0 (zf49.ret Q)) (posC zf49.code []) 11 [0, 5, 7, 8, 9, 10, 11] [.str a1, .sl a2, .int .i64 a3, .int .i64 a4, .ptr (some a5), .bool a6, .int .i64 a7] h)) := cutOK_head (fun vs h hk => by unfold zf49.k11 at hk; split at hk; exact hk; exact hk.elim)
    exact piece (E := zf49.E U Q [(12, ([0, 5, 7, 8, 9, 10, 11], zf49.k12 (fun a1 a2 a3 a4 a5 a6 a7 h => zf49.j12 U I5 (fun a1 a2 a3 a4 a5 a6 a7 h => Head sg W0 72 (entered 14) (Post sg W0 (zf49.ret Q)) (posC zf49.code []) 11 [0, 5, 7, 8, 9, 10, 11] [.str a1, .sl a2, .int .i64 a3, .int .i64 a4, .ptr (some a5), .bool a6, .int .i64 a7] h) a1 a2 a3 a4 a5 a6 a7 Q h))), (14, ([0, 5, 7, 8, 9, 10], zf49.k14 (fun a1 a2 a3 a4 a5 a6 h => zf49.j14 U I5 a1 a2 a3 a4 a5 a6 Q h)))]) (vs := [.str a1, .sl a2, .int .i64 a3, .int .i64 a4, .ptr (some a5), .bool a6, .int .i64 a7]) (envOK seatOK (zf49.callsOK hU) hU) (fnOK seatOK zf49.fun) ⟨(zf49.s12 hU Q I5 (fun a1 a2 a3 a4 a5 a6 a7 h => Head sg W0 72 (entered 14) (Post sg W0 (zf49.ret Q)) (posC zf49.code []) 11 [0, 5, 7, 8, 9, 10, 11] [.str a1, .sl a2, .int .i64 a3, .int .i64 a4, .ptr (some a5), .bool a6, .int .i64 a7] h) h5 hself), (zf49.s14 hU Q I5 h5), trivial⟩ zf49.p11 (fuel := 3000) (by rw [← zf49.e11]; exact hb) hm s f hp
  · exact hk.elim

theorem zf49.p8 : (posC zf49.code []).filter (fun p => Nat.beq p.1 8) = [(8, atPos (posC zf49.code []) 8)] := by kernel_rfl

theorem zf49.e8 : ∀ (U : Ifc) (I5 : (List UInt8) → Sl → Int → Int → Int → Heap → Prop) (a1 : List UInt8) (a2 : Sl) (a3 : Int) (a4 : Int) (a5 : Int) (Q : Sl → Int → Int → Heap → Prop) (h : Heap), zf49.j8 U I5 a1 a2 a3 a4 a5 Q h = pts (zf49.E U Q [(11, ([0, 5, 7, 8, 9, 10, 11], zf49.k11 (fun a1 a2 a3 a4 a5 a6 a7 h => zf49.j11 U I5 a1 a2 a3 a4 a5 a6 a7 Q h)))]) 3000 true (atPos (posC zf49.code []) 8) (frAt [0, 5, 6, 7, 8] [.str a1, .sl a2, .int .i64 a3, .int .i64 a4, .int .i64 a5]) h := by
  intros; kernel_rfl

theorem zf49.s8 {W0 : World} {U : Ifc} (hU : IfcOK sg W0 glsT U) (Q : Sl → Int → Int → Heap → Prop) (I5 : (List UInt8) → Sl → Int → Int → Int → Heap → Prop) (h5 : CutOK sg W0 72 (entered 14) (Post sg W0 (zf49.ret Q)) (posC zf49.code []) 5 [0, 5, 6, 7, 8] (zf49.k5 I5)) : CutOK sg W0 72 (entered 14) (Post sg W0 (zf49.ret Q)) (posC zf49.code []) 8 [0, 5, 6, 7, 8] (zf49.k8 (fun a1 a2 a3 a4 a5 h => zf49.j8 U I5 a1 a2 a3 a4 a5 Q h)) := by
  refine cutOK_head (fun vs h hk => ?_)
  unfold zf49.k8 at hk
  split at hk
  · rename_i a1 a2 a3 a4 a5
    intro todo hm ρ a w s f hp
    exact piece (E := zf49.E U Q [(11, ([0, 5, 7, 8, 9, 10, 11], zf49.k11 (fun a1 a2 a3 a4 a5 a6 a7 h => zf49.j11 U I5 a1 a2 a3 a4 a5 a6 a7 Q h)))]) (vs := [.str a1, .sl a2, .int .i64 a3, .int .i64 a4, .int .i64 a5]) (envOK seatOK (zf49.callsOK hU) hU) (fnOK seatOK zf49.fun) ⟨(zf49.s11 hU Q I5 h5), trivial⟩ zf49.p8 (fuel := 3000) (by rw [← zf49.e8]; exact hk) hm s f hp
  · exact hk.elim

theorem zf49.p5 : (posC zf49.code []).filter (fun p => Nat.beq p.1 5) = [(5, atPos (posC zf49.code []) 5)] := by kernel_rfl

theorem zf49.e5 : ∀ (U : Ifc)  (I5 : (List UInt8) → Sl → Int → Int → Int → Heap → Prop) (a1 : List UInt8) (a2 : Sl) (a3 : Int) (a4 : Int) (a5 : Int) (Q : Sl → Int → Int → Heap → Prop) (h : Heap), zf49.b5 U  I5 a1 a2 a3 a4 a5 Q h = pts (zf49.E U Q [(6, ([0, 5, 6, 7, 8], zf49.k6 (fun a1 a2 a3 a4 a5 h => zf49.j6 U I5 a1 a2 a3 a4 a5 Q h))), (8, ([0, 5, 6, 7, 8], zf49.k8 (fun a1 a2 a3 a4 a5 h => zf49.j8 U I5 a1 a2 a3 a4 a5 Q h)))]) 3000 true (atPos (posC zf49.code []) 5) (frAt [0, 5, 6, 7, 8] [.str a1, .sl a2, .int .i64 a3, .int .i64 a4, .int .i64 a5]) h := by
  intros; kernel_rfl

theorem zf49.s5 {W0 : World} {U : Ifc} (hU : IfcOK sg W0 glsT U) (Q : Sl → Int → Int → Heap → Prop)   : CutOK sg W0 72 (entered 14) (Post sg W0 (zf49.ret Q)) (posC zf49.code []) 5 [0, 5, 6, 7, 8] (zf49.k5 (fun a1 a2 a3 a4 a5 h => zf49.j5 U  a1 a2 a3 a4 a5 Q h)) := by
  refine cutOK_head (fun vs h hk => ?_)
  unfold zf49.k5 at hk
  split at hk
  · rename_i a1 a2 a3 a4 a5
    refine hk (fun a1 a2 a3 a4 a5 h => Head sg W0 72 (entered 14) (Post sg W0 (zf49.ret Q)) (posC zf49.code []) 5 [0, 5, 6, 7, 8] [.str a1, .sl a2, .int .i64 a3, .int .i64 a4, .int .i64 a5] h) ?_
    intro a1 a2 a3 a4 a5 h hb todo hm ρ a w s f hp
    have hself : CutOK sg W0 72 (entered 14) (Post sg W0 (zf49.ret Q)) (posC zf49.code []) 5 [0, 5, 6, 7, 8] (zf49.k5 (fun a1 a2 a3 a4 a5 h => Head sg W0 72 (entered 14) (Post sg W0 (zf49.ret Q)) (posC zf49.code []) 5 [0, 5, 6, 7, 8] [.str a1, .sl a2, .int .i64 a3, .int .i64 a4, .int .i64 a5] h)) := cutOK_head (fun vs h hk => by unfold zf49.k5 at hk; split at hk; exact hk; exact hk.elim)
    exact piece (E := zf49.E U Q [(6, ([0, 5, 6, 7, 8], zf49.k6 (fun a1 a2 a3 a4 a5 h => zf49.j6 U (fun a1 a2 a3 a4 a5 h => Head sg W0 72 (entered 14) (Post sg W0 (zf49.ret Q)) (posC zf49.code []) 5 [0, 5, 6, 7, 8] [.str a1, .sl a2, .int .i64 a3, .int .i64 a4, .int .i64 a5] h) a1 a2 a3 a4 a5 Q h))), (8, ([0, 5, 6, 7, 8], zf49.k8 (fun a1 a2 a3 a4 a5 h => zf49.j8 U (fun a1 a2 a3 a4 a5 h => Head sg W0 72 (entered 14) (Post sg W0 (zf49.ret Q)) (posC zf49.code []) 5 [0, 5, 6, 7, 8] [.str a1, .sl a2, .int .i64 a3, .int .i64 a4, .int .i64 a5] h) a1 a2 a3 a4 a5 Q h)))]) (vs := [.str a1, .sl a2, .int .i64 a3, .int .i64 a4, .int .i64 a5]) (envOK seatOK (zf49.callsOK hU) hU) (fnOK seatOK zf49.fun) ⟨(zf49.s6 hU Q (fun a1 a2 a3 a4 a5 h => Head sg W0 72 (entered 14) (Post sg W0 (zf49.ret Q)) (posC zf49.code []) 5 [0, 5, 6, 7, 8] [.str a1, .sl a2, .int .i64 a3, .int .i64 a4, .int .i64 a5] h) hself), (zf49.s8 hU Q (fun a1 a2 a3 a4 a5 h => Head sg W0 72 (entered 14) (Post sg W0 (zf49.ret Q)) (posC zf49.code []) 5 [0, 5, 6, 7, 8] [.str a1, .sl a2, .int .i64 a3, .int .i64 a4, .int .i64 a5] h) hself), trivial⟩ zf49.p5 (fuel := 3000) (by rw [← zf49.e5]; exact hb) hm s f hp
  · exact hk.elim

theorem zf49.e : ∀ (U : Ifc) (a1 : List UInt8) (Q : Sl → Int → Int → Heap → Prop) (h : Heap), zf49 U a1 Q h = pts (zf49.E U Q [(5, ([0, 5, 6, 7, 8], zf49.k5 (fun a1 a2 a3 a4 a5 h => zf49.j5 U  a1 a2 a3 a4 a5 Q h)))]) 3000 true [.code zf49.code] (frOf 0 [.str a1]) h := by
  intros; kernel_rfl

theorem zf49.S {W0 : World} {U : Ifc} (hU : IfcOK sg W0 glsT U) : FnS sg W0 372 (zf49.C U) := by
  intro vs κ h wv hx w s
  unfold zf49.C at hx
  split at hx
  · rename_i a1
    refine postImp (ret := zf49.ret (fun r1 r2 r3 h => κ (.tup [.sl r1, .int .i64 r2, .int .i64 r3]) h)) (fun v h hr => by unfold zf49.ret at hr; split at hr; exact hr; exact hr.elim) ?_
    exact calls_of_pts (E := zf49.E U (fun r1 r2 r3 h => κ (.tup [.sl r1, .int .i64 r2, .int .i64 r3]) h) [(5, ([0, 5, 6, 7, 8], zf49.k5 (fun a1 a2 a3 a4 a5 h => zf49.j5 U  a1 a2 a3 a4 a5 (fun r1 r2 r3 h => κ (.tup [.sl r1, .int .i64 r2, .int .i64 r3]) h) h)))]) (envOK seatOK (zf49.callsOK hU) hU) seatOK.mixed zf49.fun (Nat.le_of_ble_eq_true rfl) wv (cutL_ok ⟨(zf49.s5 hU (fun r1 r2 r3 h => κ (.tup [.sl r1, .int .i64 r2, .int .i64 r3]) h)), trivial⟩) s (fuel := 3000) (by rw [← zf49.e]; exact hx)
  · exact hx.elim

noncomputable def zf48.code : Code := Go.Proofs.Tryz.f15.body.getD .skip

theorem zf48.fun : Fun sg.P 15 32 [.tmp 4] zf48.code := mkFun Go.Proofs.Tryz.func15 (by kernel_rfl) (by kernel_rfl) (by kernel_rfl) (by kernel_rfl)

def zf48.ret (Q : Int → Heap → Prop) (v : V) (h : Heap) : Prop :=
  match v with
  | .int .i64 r1 => Q r1 h
  | _ => False

def zf48.C (vs : List V) (κ : V → Heap → Prop) (h : Heap) : Prop :=
  match vs with
  | [.sl a1, .str a2] => zf48 a1 a2 (fun r1 h => κ (.int .i64 r1) h) h
  | _ => False

noncomputable def zf48.calls : List (Nat × (List V → (V → Heap → Prop) → Heap → Prop)) := []

noncomputable def zf48.E (Q : Int → Heap → Prop) (cuts : List (Nat × (List Nat × (List V → Heap → Prop)))) : Env := { tis := tisT, fns := fnsT, tys := tysT, gls := [], rts := rtsT, unk := [], nxt := [], calls := zf48.calls, ifc := noIfc, cuts := cuts, ret := zf48.ret Q, rets := [.tmp 4], n := 32 }

theorem zf48.callsOK {W0 : World} : CallsOK sg W0 zf48.calls := trivial

def zf48.k4 (I : Sl → (List UInt8) → Int → Int → Heap → Prop) (vs : List V) (h : Heap) : Prop :=
  match vs with
  | [.sl a1, .str a2, .int .i64 a3, .int .i64 a4] => I a1 a2 a3 a4 h
  | _ => False

def zf48.k7 (I : Sl → (List UInt8) → Int → Int → Heap → Prop) (vs : List V) (h : Heap) : Prop :=
  match vs with
  | [.sl a1, .str a2, .int .i64 a3, .int .i64 a4] => I a1 a2 a3 a4 h
  | _ => False

def zf48.k3 (I : Sl → (List UInt8) → Int → Int → Heap → Prop) (vs : List V) (h : Heap) : Prop :=
  match vs with
  | [.sl a1, .str a2, .int .i64 a3, .int .i64 a4] => I a1 a2 a3 a4 h
  | _ => False

theorem zf48.p4 : (posC zf48.code []).filter (fun p => Nat.beq p.1 4) = [(4, atPos (posC zf48.code []) 4)] := by kernel_rfl

theorem zf48.e4 : ∀ (I3 : Sl → (List UInt8) → Int → Int → Heap → Prop) (a1 : Sl) (a2 : List UInt8) (a3 : Int) (a4 : Int) (Q : Int → Heap → Prop) (h : Heap), zf48.j4 I3 a1 a2 a3 a4 Q h = pts (zf48.E Q [(3, ([0, 1, 5, 6], zf48.k3 I3))]) 3000 true (atPos (posC zf48.code []) 4) (frAt [0, 1, 5, 6] [.sl a1, .str a2, .int .i64 a3, .int .i64 a4]) h := by
  intros; kernel_rfl

theorem zf48.s4 {W0 : World} (Q : Int → Heap → Prop) (I3 : Sl → (List UInt8) → Int → Int → Heap → Prop) (h3 : CutOK sg W0 32 (entered 15) (Post sg W0 (zf48.ret Q)) (posC zf48.code []) 3 [0, 1, 5, 6] (zf48.k3 I3)) : CutOK sg W0 32 (entered 15) (Post sg W0 (zf48.ret Q)) (posC zf48.code []) 4 [0, 1, 5, 6] (zf48.k4 (fun a1 a2 a3 a4 h => zf48.j4 I3 a1 a2 a3 a4 Q h)) := by
  refine cutOK_head (fun vs h hk => ?_)
  unfold zf48.k4 at hk
  split at hk
  · rename_i a1 a2 a3 a4
    intro todo hm ρ a w s f hp
    exact piece (E := zf48.E Q [(3, ([0, 1, 5, 6], zf48.k3 I3))]) (vs := [.sl a1, .str a2, .int .i64 a3, .int .i64 a4]) (envOK seatOK zf48.callsOK noIfc_ok) (fnOK seatOK zf48.fun) ⟨h3, trivial⟩ zf48.p4 (fuel := 3000) (by rw [← zf48.e4]; exact hk) hm s f hp
  · exact hk.elim

theorem zf48.p7 : (posC zf48.code []).filter (fun p => Nat.beq p.1 7) = [(7, atPos (posC zf48.code []) 7)] := by kernel_rfl

theorem zf48.e7 : ∀ (I3 : Sl → (List UInt8) → Int → Int → Heap → Prop) (a1 : Sl) (a2 : List UInt8) (a3 : Int) (a4 : Int) (Q : Int → Heap → Prop) (h : Heap), zf48.j7 I3 a1 a2 a3 a4 Q h = pts (zf48.E Q [(4, ([0, 1, 5, 6], zf48.k4 (fun a1 a2 a3 a4 h => zf48.j4 I3 a1 a2 a3 a4 Q h)))]) 3000 true (atPos (posC zf48.code []) 7) (frAt [0, 1, 5, 6] [.sl a1, .str a2, .int .i64 a3, .int .i64 a4]) h := by
  intros; kernel_rfl

theorem zf48.s7 {W0 : World} (Q : Int → Heap → Prop) (I3 : Sl → (List UInt8) → Int → Int → Heap → Prop) (h3 : CutOK sg W0 32 (entered 15) (Post sg W0 (zf48.ret Q)) (posC zf48.code []) 3 [0, 1, 5, 6] (zf48.k3 I3)) : CutOK sg W0 32 (entered 15) (Post sg W0 (zf48.ret Q)) (posC zf48.code []) 7 [0, 1, 5, 6] (zf48.k7 (fun a1 a2 a3 a4 h => zf48.j7 I3 a1 a2 a3 a4 Q h)) := by
  refine cutOK_head (fun vs h hk => ?_)
  unfold zf48.k7 at hk
  split at hk
  · rename_i a1 a2 a3 a4
    intro todo hm ρ a w s f hp
    exact piece (E := zf48.E Q [(4, ([0, 1, 5, 6], zf48.k4 (fun a1 a2 a3 a4 h => zf48.j4 I3 a1 a2 a3 a4 Q h)))]) (vs := [.sl a1, .str a2, .int .i64 a3, .int .i64 a4]) (envOK seatOK zf48.callsOK noIfc_ok) (fnOK seatOK zf48.fun) ⟨(zf48.s4 Q I3 h3), trivial⟩ zf48.p7 (fuel := 3000) (by rw [← zf48.e7]; exact hk) hm s f hp
  · exact hk.elim

theorem zf48.p3 : (posC zf48.code []).filter (fun p => Nat.beq p.1 3) = [(3, atPos (posC zf48.code []) 3)] := by kernel_rfl

theorem zf48.e3 : ∀  (I3 : Sl → (List UInt8) → Int → Int → Heap → Prop) (a1 : Sl) (a2 : List UInt8) (a3 : Int) (a4 : Int) (Q : Int → Heap → Prop) (h : Heap), zf48.b3  I3 a1 a2 a3 a4 Q h = pts (zf48.E Q [(7, ([0, 1, 5, 6], zf48.k7 (fun a1 a2 a3 a4 h => zf48.j7 I3 a1 a2 a3 a4 Q h)))]) 3000 true (atPos (posC zf48.code []) 3) (frAt [0, 1, 5, 6] [.sl a1, .str a2, .int .i64 a3, .int .i64 a4]) h := by
  intros; kernel_rfl

theorem zf48.s3 {W0 : World} (Q : Int → Heap → Prop)   : CutOK sg W0 32 (entered 15) (Post sg W0 (zf48.ret Q)) (posC zf48.code []) 3 [0, 1, 5, 6] (zf48.k3 (fun a1 a2 a3 a4 h => zf48.j3  a1 a2 a3 a4 Q h)) := by
  refine cutOK_head (fun vs h hk => ?_)
  unfold zf48.k3 at hk
  split at hk
  · rename_i a1 a2 a3 a4
    refine hk (fun a1 a2 a3 a4 h => Head sg W0 32 (entered 15) (Post sg W0 (zf48.ret Q)) (posC zf48.code []) 3 [0, 1, 5, 6] [.sl a1, .str a2, .int .i64 a3, .int .i64 a4] h) ?_
    intro a1 a2 a3 a4 h hb todo hm ρ a w s f hp
    have hself : CutOK sg W0 32 (entered 15) (Post sg W0 (zf48.ret Q)) (posC zf48.code []) 3 [0, 1, 5, 6] (zf48.k3 (fun a1 a2 a3 a4 h => Head sg W0 32 (entered 15) (Post sg W0 (zf48.ret Q)) (posC zf48.code []) 3 [0, 1, 5, 6] [.sl a1, .str a2, .int .i64 a3, .int .i64 a4] h)) := cutOK_head (fun vs h hk => by unfold zf48.k3 at hk; split at hk; exact hk; exact hk.elim)
    exact piece (E := zf48.E Q [(7, ([0, 1, 5, 6], zf48.k7 (fun a1 a2 a3 a4 h => zf48.j7 (fun a1 a2 a3 a4 h => Head sg W0 32 (entered 15) (Post sg W0 (zf48.ret Q)) (posC zf48.code []) 3 [0, 1, 5, 6] [.sl a1, .str a2, .int .i64 a3, .int .i64 a4] h) a1 a2 a3 a4 Q h)))]) (vs := [.sl a1, .str a2, .int .i64 a3, .int .i64 a4]) (envOK seatOK zf48.callsOK noIfc_ok) (fnOK seatOK zf48.fun) ⟨(zf48.s7 Q (fun a1 a2 a3 a4 h => Head sg W0 32 (entered 15) (Post sg W0 (zf48.ret Q)) (posC zf48.code []) 3 [0, 1, 5, 6] [.sl a1, .str a2, .int .i64 a3, .int .i64 a4] h) hself), trivial⟩ zf48.p3 (fuel := 3000) (by rw [← zf48.e3]; exact hb) hm s f hp
  · exact hk.elim

theorem zf48.e : ∀ (a1 : Sl) (a2 : List UInt8) (Q : Int → Heap → Prop) (h : Heap), zf48 a1 a2 Q h = pts (zf48.E Q [(3, ([0, 1, 5, 6], zf48.k3 (fun a1 a2 a3 a4 h => zf48.j3  a1 a2 a3 a4 Q h)))]) 3000 true [.code zf48.code] (frOf 0 [.sl a1, .str a2]) h := by
  intros; kernel_rfl

theorem zf48.S {W0 : World} : FnS sg W0 373 zf48.C := by
  intro vs κ h wv hx w s
  unfold zf48.C at hx
  split at hx
  · rename_i a1 a2
    refine postImp (ret := zf48.ret (fun r1 h => κ (.int .i64 r1) h)) (fun v h hr => by unfold zf48.ret at hr; split at hr; exact hr; exact hr.elim) ?_
    exact calls_of_pts (E := zf48.E (fun r1 h => κ (.int .i64 r1) h) [(3, ([0, 1, 5, 6], zf48.k3 (fun a1 a2 a3 a4 h => zf48.j3  a1 a2 a3 a4 (fun r1 h => κ (.int .i64 r1) h) h)))]) (envOK seatOK zf48.callsOK noIfc_ok) seatOK.mixed zf48.fun (Nat.le_of_ble_eq_true rfl) wv (cutL_ok ⟨(zf48.s3 (fun r1 h => κ (.int .i64 r1) h)), trivial⟩) s (fuel := 3000) (by rw [← zf48.e]; exact hx)
  · exact hx.elim

noncomputable def zf39.code : Code := Go.Proofs.Tryz.f60.body.getD .skip

theorem zf39.fun : Fun sg.P 60 9 [.tmp 2] zf39.code := mkFun Go.Proofs.Tryz.func60 (by kernel_rfl) (by kernel_rfl) (by kernel_rfl) (by kernel_rfl)

def zf39.ret (Q : Bool → Heap → Prop) (v : V) (h : Heap) : Prop :=
  match v with
  | .bool r1 => Q r1 h
  | _ => False

def zf39.C (vs : List V) (κ : V → Heap → Prop) (h : Heap) : Prop :=
  match vs with
  | [.int .i64 a1] => zf39 a1 (fun r1 h => κ (.bool r1) h) h
  | _ => False

noncomputable def zf39.calls : List (Nat × (List V → (V → Heap → Prop) → Heap → Prop)) := []

noncomputable def zf39.E (Q : Bool → Heap → Prop) (cuts : List (Nat × (List Nat × (List V → Heap → Prop)))) : Env := { tis := tisT, fns := fnsT, tys := tysT, gls := [], rts := rtsT, unk := [], nxt := [], calls := zf39.calls, ifc := noIfc, cuts := cuts, ret := zf39.ret Q, rets := [.tmp 2], n := 9 }

theorem zf39.callsOK {W0 : World} : CallsOK sg W0 zf39.calls := trivial

theorem zf39.e : ∀ (a1 : Int) (Q : Bool → Heap → Prop) (h : Heap), zf39 a1 Q h = pts (zf39.E Q []) 3000 true [.code zf39.code] (frOf 0 [.int .i64 a1]) h := by
  intros; kernel_rfl

theorem zf39.S {W0 : World} : FnS sg W0 223 zf39.C := by
  intro vs κ h wv hx w s
  unfold zf39.C at hx
  split at hx
  · rename_i a1
    refine postImp (ret := zf39.ret (fun r1 h => κ (.bool r1) h)) (fun v h hr => by unfold zf39.ret at hr; split at hr; exact hr; exact hr.elim) ?_
    exact calls_of_pts (E := zf39.E (fun r1 h => κ (.bool r1) h) []) (envOK seatOK zf39.callsOK noIfc_ok) seatOK.mixed zf39.fun (Nat.le_of_ble_eq_true rfl) wv (cutL_ok trivial) s (fuel := 3000) (by rw [← zf39.e]; exact hx)
  · exact hx.elim

noncomputable def zf33.code : Code := Go.Proofs.Tryz.f87.body.getD .skip

theorem zf33.fun : Fun sg.P 87 29 [.tmp 4] zf33.code := mkFun Go.Proofs.Tryz.func87 (by kernel_rfl) (by kernel_rfl) (by kernel_rfl) (by kernel_rfl)

def zf33.ret (Q : Bool → Heap → Prop) (v : V) (h : Heap) : Prop :=
  match v with
  | .bool r1 => Q r1 h
  | _ => False

def zf33.C (vs : List V) (κ : V → Heap → Prop) (h : Heap) : Prop :=
  match vs with
  | [.int .i64 a1, .int .i64 a2] => zf33 a1 a2 (fun r1 h => κ (.bool r1) h) h
  | _ => False

noncomputable def zf33.calls : List (Nat × (List V → (V → Heap → Prop) → Heap → Prop)) := []

noncomputable def zf33.E (Q : Bool → Heap → Prop) (cuts : List (Nat × (List Nat × (List V → Heap → Prop)))) : Env := { tis := tisT, fns := fnsT, tys := tysT, gls := [], rts := rtsT, unk := [], nxt := [], calls := zf33.calls, ifc := noIfc, cuts := cuts, ret := zf33.ret Q, rets := [.tmp 4], n := 29 }

theorem zf33.callsOK {W0 : World} : CallsOK sg W0 zf33.calls := trivial

theorem zf33.e : ∀ (a1 : Int) (a2 : Int) (Q : Bool → Heap → Prop) (h : Heap), zf33 a1 a2 Q h = pts (zf33.E Q []) 3000 true [.code zf33.code] (frOf 0 [.int .i64 a1, .int .i64 a2]) h := by
  intros; kernel_rfl

theorem zf33.S {W0 : World} : FnS sg W0 224 zf33.C := by
  intro vs κ h wv hx w s
  unfold zf33.C at hx
  split at hx
  · rename_i a1 a2
    refine postImp (ret := zf33.ret (fun r1 h => κ (.bool r1) h)) (fun v h hr => by unfold zf33.ret at hr; split at hr; exact hr; exact hr.elim) ?_
    exact calls_of_pts (E := zf33.E (fun r1 h => κ (.bool r1) h) []) (envOK seatOK zf33.callsOK noIfc_ok) seatOK.mixed zf33.fun (Nat.le_of_ble_eq_true rfl) wv (cutL_ok trivial) s (fuel := 3000) (by rw [← zf33.e]; exact hx)
  · exact hx.elim

noncomputable def zf38.code : Code := Go.Proofs.Tryz.f61.body.getD .skip

theorem zf38.fun : Fun sg.P 61 45 [.tmp 4] zf38.code := mkFun Go.Proofs.Tryz.func61 (by kernel_rfl) (by kernel_rfl) (by kernel_rfl) (by kernel_rfl)

def zf38.ret (Q : Bool → Heap → Prop) (v : V) (h : Heap) : Prop :=
  match v with
  | .bool r1 => Q r1 h
  | _ => False

def zf38.C (vs : List V) (κ : V → Heap → Prop) (h : Heap) : Prop :=
  match vs with
  | [.int .i64 a1, .int .i64 a2] => zf38 a1 a2 (fun r1 h => κ (.bool r1) h) h
  | _ => False

noncomputable def zf38.calls : List (Nat × (List V → (V → Heap → Prop) → Heap → Prop)) := [(222, zf36.C), (224, zf33.C)]

noncomputable def zf38.E (Q : Bool → Heap → Prop) (cuts : List (Nat × (List Nat × (List V → Heap → Prop)))) : Env := { tis := tisT, fns := fnsT, tys := tysT, gls := [], rts := rtsT, unk := [], nxt := [], calls := zf38.calls, ifc := noIfc, cuts := cuts, ret := zf38.ret Q, rets := [.tmp 4], n := 45 }

theorem zf38.callsOK {W0 : World} : CallsOK sg W0 zf38.calls := ⟨zf36.S, zf33.S, trivial⟩

def zf38.k5 (I : Int → Int → Heap → Prop) (vs : List V) (h : Heap) : Prop :=
  match vs with
  | [.int .i64 a1, .int .i64 a2] => I a1 a2 h
  | _ => False

def zf38.k3 (I : Int → Int → Heap → Prop) (vs : List V) (h : Heap) : Prop :=
  match vs with
  | [.int .i64 a1, .int .i64 a2] => I a1 a2 h
  | _ => False

theorem zf38.p5 : (posC zf38.code []).filter (fun p => Nat.beq p.1 5) = [(5, atPos (posC zf38.code []) 5)] := by kernel_rfl

theorem zf38.e5 : ∀  (a1 : Int) (a2 : Int) (Q : Bool → Heap → Prop) (h : Heap), zf38.j5  a1 a2 Q h = pts (zf38.E Q []) 3000 true (atPos (posC zf38.code []) 5) (frAt [0, 1] [.int .i64 a1, .int .i64 a2]) h := by
  intros; kernel_rfl

theorem zf38.s5 {W0 : World} (Q : Bool → Heap → Prop)   : CutOK sg W0 45 (entered 61) (Post sg W0 (zf38.ret Q)) (posC zf38.code []) 5 [0, 1] (zf38.k5 (fun a1 a2 h => zf38.j5  a1 a2 Q h)) := by
  refine cutOK_head (fun vs h hk => ?_)
  unfold zf38.k5 at hk
  split at hk
  · rename_i a1 a2
    intro todo hm ρ a w s f hp
    exact piece (E := zf38.E Q []) (vs := [.int .i64 a1, .int .i64 a2]) (envOK seatOK zf38.callsOK noIfc_ok) (fnOK seatOK zf38.fun) trivial zf38.p5 (fuel := 3000) (by rw [← zf38.e5]; exact hk) hm s f hp
  · exact hk.elim

theorem zf38.p3 : (posC zf38.code []).filter (fun p => Nat.beq p.1 3) = [(3, atPos (posC zf38.code []) 3)] := by kernel_rfl

theorem zf38.e3 : ∀  (a1 : Int) (a2 : Int) (Q : Bool → Heap → Prop) (h : Heap), zf38.j3  a1 a2 Q h = pts (zf38.E Q [(5, ([0, 1], zf38.k5 (fun a1 a2 h => zf38.j5  a1 a2 Q h)))]) 3000 true (atPos (posC zf38.code []) 3) (frAt [0, 1] [.int .i64 a1, .int .i64 a2]) h := by
  intros; kernel_rfl

theorem zf38.s3 {W0 : World} (Q : Bool → Heap → Prop)   : CutOK sg W0 45 (entered 61) (Post sg W0 (zf38.ret Q)) (posC zf38.code []) 3 [0, 1] (zf38.k3 (fun a1 a2 h => zf38.j3  a1 a2 Q h)) := by
  refine cutOK_head (fun vs h hk => ?_)
  unfold zf38.k3 at hk
  split at hk
  · rename_i a1 a2
    intro todo hm ρ a w s f hp
    exact piece (E := zf38.E Q [(5, ([0, 1], zf38.k5 (fun a1 a2 h => zf38.j5  a1 a2 Q h)))]) (vs := [.int .i64 a1, .int .i64 a2]) (envOK seatOK zf38.callsOK noIfc_ok) (fnOK seatOK zf38.fun) ⟨(zf38.s5 Q  ), trivial⟩ zf38.p3 (fuel := 3000) (by rw [← zf38.e3]; exact hk) hm s f hp
  · exact hk.elim

theorem zf38.e : ∀ (a1 : Int) (a2 : Int) (Q : Bool → Heap → Prop) (h : Heap), zf38 a1 a2 Q h = pts (zf38.E Q [(3, ([0, 1], zf38.k3 (fun a1 a2 h => zf38.j3  a1 a2 Q h)))]) 3000 true [.code zf38.code] (frOf 0 [.int .i64 a1, .int .i64 a2]) h := by
  intros; kernel_rfl

theorem zf38.S {W0 : World} : FnS sg W0 225 zf38.C := by
  intro vs κ h wv hx w s
  unfold zf38.C at hx
  split at hx
  · rename_i a1 a2
    refine postImp (ret := zf38.ret (fun r1 h => κ (.bool r1) h)) (fun v h hr => by unfold zf38.ret at hr; split at hr; exact hr; exact hr.elim) ?_
    exact calls_of_pts (E := zf38.E (fun r1 h => κ (.bool r1) h) [(3, ([0, 1], zf38.k3 (fun a1 a2 h => zf38.j3  a1 a2 (fun r1 h => κ (.bool r1) h) h)))]) (envOK seatOK zf38.callsOK noIfc_ok) seatOK.mixed zf38.fun (Nat.le_of_ble_eq_true rfl) wv (cutL_ok ⟨(zf38.s3 (fun r1 h => κ (.bool r1) h)), trivial⟩) s (fuel := 3000) (by rw [← zf38.e]; exact hx)
  · exact hx.elim

noncomputable def zf37.code : Code := Go.Proofs.Tryz.f29.body.getD .skip

theorem zf37.fun : Fun sg.P 29 91 [.tmp 2] zf37.code := mkFun Go.Proofs.Tryz.func29 (by kernel_rfl) (by kernel_rfl) (by kernel_rfl) (by kernel_rfl)

def zf37.ret (Q : Bool → Heap → Prop) (v : V) (h : Heap) : Prop :=
  match v with
  | .bool r1 => Q r1 h
  | _ => False

def zf37.C (vs : List V) (κ : V → Heap → Prop) (h : Heap) : Prop :=
  match vs with
  | [.agg [.int .i64 a1, .int .i64 a2, .int .i64 a3, .int .i64 a4, .int .i64 a5]] => zf37 a1 a2 a3 a4 a5 (fun r1 h => κ (.bool r1) h) h
  | _ => False

noncomputable def zf37.calls : List (Nat × (List V → (V → Heap → Prop) → Heap → Prop)) := [(222, zf36.C), (223, zf39.C), (225, zf38.C)]

noncomputable def zf37.E (Q : Bool → Heap → Prop) (cuts : List (Nat × (List Nat × (List V → Heap → Prop)))) : Env := { tis := tisT, fns := fnsT, tys := tysT, gls := [], rts := rtsT, unk := [], nxt := [], calls := zf37.calls, ifc := noIfc, cuts := cuts, ret := zf37.ret Q, rets := [.tmp 2], n := 91 }

theorem zf37.callsOK {W0 : World} : CallsOK sg W0 zf37.calls := ⟨zf36.S, zf39.S, zf38.S, trivial⟩

def zf37.k3 (I : Heap → Prop) (vs : List V) (h : Heap) : Prop :=
  match vs with
  | [] => I  h
  | _ => False

def zf37.k7 (I : Ptr → Bool → Bool → Bool → Heap → Prop) (vs : List V) (h : Heap) : Prop :=
  match vs with
  | [.ptr (some a1), .bool a2, .bool a3, .bool a4] => I a1 a2 a3 a4 h
  | _ => False

def zf37.k6 (I : Ptr → Int → Bool → Bool → Heap → Prop) (vs : List V) (h : Heap) : Prop :=
  match vs with
  | [.ptr (some a1), .int .i64 a2, .bool a3, .bool a4] => I a1 a2 a3 a4 h
  | _ => False

def zf37.k5 (I : Ptr → Int → Bool → Heap → Prop) (vs : List V) (h : Heap) : Prop :=
  match vs with
  | [.ptr (some a1), .int .i64 a2, .bool a3] => I a1 a2 a3 h
  | _ => False

def zf37.k4 (I : Ptr → Int → Heap → Prop) (vs : List V) (h : Heap) : Prop :=
  match vs with
  | [.ptr (some a1), .int .i64 a2] => I a1 a2 h
  | _ => False

theorem zf37.p3 : (posC zf37.code []).filter (fun p => Nat.beq p.1 3) = [(3, atPos (posC zf37.code []) 3)] := by kernel_rfl

theorem zf37.e3 : ∀   (Q : Bool → Heap → Prop) (h : Heap), zf37.j3   Q h = pts (zf37.E Q []) 3000 true (atPos (posC zf37.code []) 3) (frAt [] []) h := by
  intros; kernel_rfl

theorem zf37.s3 {W0 : World} (Q : Bool → Heap → Prop)   : CutOK sg W0 91 (entered 29) (Post sg W0 (zf37.ret Q)) (posC zf37.code []) 3 [] (zf37.k3 (fun  h => zf37.j3   Q h)) := by
  refine cutOK_head (fun vs h hk => ?_)
  unfold zf37.k3 at hk
  split at hk
  · skip
    intro todo hm ρ a w s f hp
    exact piece (E := zf37.E Q []) (vs := []) (envOK seatOK zf37.callsOK noIfc_ok) (fnOK seatOK zf37.fun) trivial zf37.p3 (fuel := 3000) (by rw [← zf37.e3]; exact hk) hm s f hp
  · exact hk.elim

theorem zf37.p7 : (posC zf37.code []).filter (fun p => Nat.beq p.1 7) = [(7, atPos (posC zf37.code []) 7)] := by kernel_rfl

theorem zf37.e7 : ∀  (a1 : Ptr) (a2 : Bool) (a3 : Bool) (a4 : Bool) (Q : Bool → Heap → Prop) (h : Heap), zf37.j7  a1 a2 a3 a4 Q h = pts (zf37.E Q []) 3000 true (atPos (posC zf37.code []) 7) (frAt [1, 4, 5, 6] [.ptr (some a1), .bool a2, .bool a3, .bool a4]) h := by
  intros; kernel_rfl

theorem zf37.s7 {W0 : World} (Q : Bool → Heap → Prop)   : CutOK sg W0 91 (entered 29) (Post sg W0 (zf37.ret Q)) (posC zf37.code []) 7 [1, 4, 5, 6] (zf37.k7 (fun a1 a2 a3 a4 h => zf37.j7  a1 a2 a3 a4 Q h)) := by
  refine cutOK_head (fun vs h hk => ?_)
  unfold zf37.k7 at hk
  split at hk
  · rename_i a1 a2 a3 a4
    intro todo hm ρ a w s f hp
    exact piece (E := zf37.E Q []) (vs := [.ptr (some a1), .bool a2, .bool a3, .bool a4]) (envOK seatOK zf37.callsOK noIfc_ok) (fnOK seatOK zf37.fun) trivial zf37.p7 (fuel := 3000) (by rw [← zf37.e7]; exact hk) hm s f hp
  · exact hk.elim

theorem zf37.p6 : (posC zf37.code []).filter (fun p => Nat.beq p.1 6) = [(6, atPos (posC zf37.code []) 6)] := by kernel_rfl

theorem zf37.e6 : ∀  (a1 : Ptr) (a2 : Int) (a3 : Bool) (a4 : Bool) (Q : Bool → Heap → Prop) (h : Heap), zf37.j6  a1 a2 a3 a4 Q h = pts (zf37.E Q [(7, ([1, 4, 5, 6], zf37.k7 (fun a1 a2 a3 a4 h => zf37.j7  a1 a2 a3 a4 Q h)))]) 3000 true (atPos (posC zf37.code []) 6) (frAt [1, 3, 4, 5] [.ptr (some a1), .int .i64 a2, .bool a3, .bool a4]) h := by
  intros; kernel_rfl

theorem zf37.s6 {W0 : World} (Q : Bool → Heap → Prop)   : CutOK sg W0 91 (entered 29) (Post sg W0 (zf37.ret Q)) (posC zf37.code []) 6 [1, 3, 4, 5] (zf37.k6 (fun a1 a2 a3 a4 h => zf37.j6  a1 a2 a3 a4 Q h)) := by
  refine cutOK_head (fun vs h hk => ?_)
  unfold zf37.k6 at hk
  split at hk
  · rename_i a1 a2 a3 a4
    intro todo hm ρ a w s f hp
    exact piece (E := zf37.E Q [(7, ([1, 4, 5, 6], zf37.k7 (fun a1 a2 a3 a4 h => zf37.j7  a1 a2 a3 a4 Q h)))]) (vs := [.ptr (some a1), .int .i64 a2, .bool a3, .bool a4]) (envOK seatOK zf37.callsOK noIfc_ok) (fnOK seatOK zf37.fun) ⟨(zf37.s7 Q  ), trivial⟩ zf37.p6 (fuel := 3000) (by rw [← zf37.e6]; exact hk) hm s f hp
  · exact hk.elim

theorem zf37.p5 : (posC zf37.code []).filter (fun p => Nat.beq p.1 5) = [(5, atPos (posC zf37.code []) 5)] := by kernel_rfl

theorem zf37.e5 : ∀  (a1 : Ptr) (a2 : Int) (a3 : Bool) (Q : Bool → Heap → Prop) (h : Heap), zf37.j5  a1 a2 a3 Q h = pts (zf37.E Q [(6, ([1, 3, 4, 5], zf37.k6 (fun a1 a2 a3 a4 h => zf37.j6  a1 a2 a3 a4 Q h)))]) 3000 true (atPos (posC zf37.code []) 5) (frAt [1, 3, 4] [.ptr (some a1), .int .i64 a2, .bool a3]) h := by
  intros; kernel_rfl

theorem zf37.s5 {W0 : World} (Q : Bool → Heap → Prop)   : CutOK sg W0 91 (entered 29) (Post sg W0 (zf37.ret Q)) (posC zf37.code []) 5 [1, 3, 4] (zf37.k5 (fun a1 a2 a3 h => zf37.j5  a1 a2 a3 Q h)) := by
  refine cutOK_head (fun vs h hk => ?_)
  unfold zf37.k5 at hk
  split at hk
  · rename_i a1 a2 a3
    intro todo hm ρ a w s f hp
    exact piece (E := zf37.E Q [(6, ([1, 3, 4, 5], zf37.k6 (fun a1 a2 a3 a4 h => zf37.j6  a1 a2 a3 a4 Q h)))]) (vs := [.ptr (some a1), .int .i64 a2, .bool a3]) (envOK seatOK zf37.callsOK noIfc_ok) (fnOK seatOK zf37.fun) ⟨(zf37.s6 Q  ), trivial⟩ zf37.p5 (fuel := 3000) (by rw [← zf37.e5]; exact hk) hm s f hp
  · exact hk.elim

theorem zf37.p4 : (posC zf37.code []).filter (fun p => Nat.beq p.1 4) = [(4, atPos (posC zf37.code []) 4)] := by kernel_rfl

theorem zf37.e4 : ∀  (a1 : Ptr) (a2 : Int) (Q : Bool → Heap → Prop) (h : Heap), zf37.j4  a1 a2 Q h = pts (zf37.E Q [(5, ([1, 3, 4], zf37.k5 (fun a1 a2 a3 h => zf37.j5  a1 a2 a3 Q h)))]) 3000 true (atPos (posC zf37.code []) 4) (frAt [1, 3] [.ptr (some a1), .int .i64 a2]) h := by
  intros; kernel_rfl

theorem zf37.s4 {W0 : World} (Q : Bool → Heap → Prop)   : CutOK sg W0 91 (entered 29) (Post sg W0 (zf37.ret Q)) (posC zf37.code []) 4 [1, 3] (zf37.k4 (fun a1 a2 h => zf37.j4  a1 a2 Q h)) := by
  refine cutOK_head (fun vs h hk => ?_)
  unfold zf37.k4 at hk
  split at hk
  · rename_i a1 a2
    intro todo hm ρ a w s f hp
    exact piece (E := zf37.E Q [(5, ([1, 3, 4], zf37.k5 (fun a1 a2 a3 h => zf37.j5  a1 a2 a3 Q h)))]) (vs := [.ptr (some a1), .int .i64 a2]) (envOK seatOK zf37.callsOK noIfc_ok) (fnOK seatOK zf37.fun) ⟨(zf37.s5 Q  ), trivial⟩ zf37.p4 (fuel := 3000) (by rw [← zf37.e4]; exact hk) hm s f hp
  · exact hk.elim

theorem zf37.e : ∀ (a1 : Int) (a2 : Int) (a3 : Int) (a4 : Int) (a5 : Int) (Q : Bool → Heap → Prop) (h : Heap), zf37 a1 a2 a3 a4 a5 Q h = pts (zf37.E Q [(3, ([], zf37.k3 (fun  h => zf37.j3   Q h))), (4, ([1, 3], zf37.k4 (fun a1 a2 h => zf37.j4  a1 a2 Q h)))]) 3000 true [.code zf37.code] (frOf 0 [.agg [.int .i64 a1, .int .i64 a2, .int .i64 a3, .int .i64 a4, .int .i64 a5]]) h := by
  intros; kernel_rfl

theorem zf37.S {W0 : World} : FnS sg W0 226 zf37.C := by
  intro vs κ h wv hx w s
  unfold zf37.C at hx
  split at hx
  · rename_i a1 a2 a3 a4 a5
    refine postImp (ret := zf37.ret (fun r1 h => κ (.bool r1) h)) (fun v h hr => by unfold zf37.ret at hr; split at hr; exact hr; exact hr.elim) ?_
    exact calls_of_pts (E := zf37.E (fun r1 h => κ (.bool r1) h) [(3, ([], zf37.k3 (fun  h => zf37.j3   (fun r1 h => κ (.bool r1) h) h))), (4, ([1, 3], zf37.k4 (fun a1 a2 h => zf37.j4  a1 a2 (fun r1 h => κ (.bool r1) h) h)))]) (envOK seatOK zf37.callsOK noIfc_ok) seatOK.mixed zf37.fun (Nat.le_of_ble_eq_true rfl) wv (cutL_ok ⟨(zf37.s3 (fun r1 h => κ (.bool r1) h)), (zf37.s4 (fun r1 h => κ (.bool r1) h)), trivial⟩) s (fuel := 3000) (by rw [← zf37.e]; exact hx)
  · exact hx.elim

noncomputable def zf34.code : Code := Go.Proofs.Tryz.f30.body.getD .skip

theorem zf34.fun : Fun sg.P 30 55 [.tmp 8] zf34.code := mkFun Go.Proofs.Tryz.func30 (by kernel_rfl) (by kernel_rfl) (by kernel_rfl) (by kernel_rfl)

def zf34.ret (Q : Int → Heap → Prop) (v : V) (h : Heap) : Prop :=
  match v with
  | .int .u32 r1 => Q r1 h
  | _ => False

def zf34.C (vs : List V) (κ : V → Heap → Prop) (h : Heap) : Prop :=
  match vs with
  | [.int .u32 a1, .int .i64 a2, .int .i64 a3, .int .i64 a4] => zf34 a1 a2 a3 a4 (fun r1 h => κ (.int .u32 r1) h) h
  | _ => False

noncomputable def zf34.calls : List (Nat × (List V → (V → Heap → Prop) → Heap → Prop)) := []

noncomputable def zf34.E (Q : Int → Heap → Prop) (cuts : List (Nat × (List Nat × (List V → Heap → Prop)))) : Env := { tis := tisT, fns := fnsT, tys := tysT, gls := [], rts := rtsT, unk := [], nxt := [], calls := zf34.calls, ifc := noIfc, cuts := cuts, ret := zf34.ret Q, rets := [.tmp 8], n := 55 }

theorem zf34.callsOK {W0 : World} : CallsOK sg W0 zf34.calls := trivial

def zf34.k2 (I : Int → Heap → Prop) (vs : List V) (h : Heap) : Prop :=
  match vs with
  | [.int .u32 a1] => I a1 h
  | _ => False

def zf34.k5 (I : Int → Int → Int → Int → Int → Heap → Prop) (vs : List V) (h : Heap) : Prop :=
  match vs with
  | [.int .u32 a1, .int .i64 a2, .int .i64 a3, .int .i64 a4, .int .i64 a5] => I a1 a2 a3 a4 a5 h
  | _ => False

def zf34.k4 (I : Int → Int → Int → Int → Int → Heap → Prop) (vs : List V) (h : Heap) : Prop :=
  match vs with
  | [.int .u32 a1, .int .i64 a2, .int .i64 a3, .int .i64 a4, .int .i64 a5] => I a1 a2 a3 a4 a5 h
  | _ => False

theorem zf34.p2 : (posC zf34.code []).filter (fun p => Nat.beq p.1 2) = [(2, atPos (posC zf34.code []) 2)] := by kernel_rfl

theorem zf34.e2 : ∀  (a1 : Int) (Q : Int → Heap → Prop) (h : Heap), zf34.j2  a1 Q h = pts (zf34.E Q []) 3000 true (atPos (posC zf34.code []) 2) (frAt [0] [.int .u32 a1]) h := by
  intros; kernel_rfl

theorem zf34.s2 {W0 : World} (Q : Int → Heap → Prop)   : CutOK sg W0 55 (entered 30) (Post sg W0 (zf34.ret Q)) (posC zf34.code []) 2 [0] (zf34.k2 (fun a1 h => zf34.j2  a1 Q h)) := by
  refine cutOK_head (fun vs h hk => ?_)
  unfold zf34.k2 at hk
  split at hk
  · rename_i a1
    intro todo hm ρ a w s f hp
    exact piece (E := zf34.E Q []) (vs := [.int .u32 a1]) (envOK seatOK zf34.callsOK noIfc_ok) (fnOK seatOK zf34.fun) trivial zf34.p2 (fuel := 3000) (by rw [← zf34.e2]; exact hk) hm s f hp
  · exact hk.elim

theorem zf34.p5 : (posC zf34.code []).filter (fun p => Nat.beq p.1 5) = [(5, atPos (posC zf34.code []) 5)] := by kernel_rfl

theorem zf34.e5 : ∀ (I4 : Int → Int → Int → Int → Int → Heap → Prop) (a1 : Int) (a2 : Int) (a3 : Int) (a4 : Int) (a5 : Int) (Q : Int → Heap → Prop) (h : Heap), zf34.j5 I4 a1 a2 a3 a4 a5 Q h = pts (zf34.E Q [(4, ([0, 1, 2, 3, 9], zf34.k4 I4))]) 3000 true (atPos (posC zf34.code []) 5) (frAt [0, 1, 2, 3, 9] [.int .u32 a1, .int .i64 a2, .int .i64 a3, .int .i64 a4, .int .i64 a5]) h := by
  intros; kernel_rfl

theorem zf34.s5 {W0 : World} (Q : Int → Heap → Prop) (I4 : Int → Int → Int → Int → Int → Heap → Prop) (h4 : CutOK sg W0 55 (entered 30) (Post sg W0 (zf34.ret Q)) (posC zf34.code []) 4 [0, 1, 2, 3, 9] (zf34.k4 I4)) : CutOK sg W0 55 (entered 30) (Post sg W0 (zf34.ret Q)) (posC zf34.code []) 5 [0, 1, 2, 3, 9] (zf34.k5 (fun a1 a2 a3 a4 a5 h => zf34.j5 I4 a1 a2 a3 a4 a5 Q h)) := by
  refine cutOK_head (fun vs h hk => ?_)
  unfold zf34.k5 at hk
  split at hk
  · rename_i a1 a2 a3 a4 a5
    intro todo hm ρ a w s f hp
    exact piece (E := zf34.E Q [(4, ([0, 1, 2, 3, 9], zf34.k4 I4))]) (vs := [.int .u32 a1, .int .i64 a2, .int .i64 a3, .int .i64 a4, .int .i64 a5]) (envOK seatOK zf34.callsOK noIfc_ok) (fnOK seatOK zf34.fun) ⟨h4, trivial⟩ zf34.p5 (fuel := 3000) (by rw [← zf34.e5]; exact hk) hm s f hp
  · exact hk.elim

theorem zf34.p4 : (posC zf34.code []).filter (fun p => Nat.beq p.1 4) = [(4, atPos (posC zf34.code []) 4)] := by kernel_rfl

theorem zf34.e4 : ∀  (I4 : Int → Int → Int → Int → Int → Heap → Prop) (a1 : Int) (a2 : Int) (a3 : Int) (a4 : Int) (a5 : Int) (Q : Int → Heap → Prop) (h : Heap), zf34.b4  I4 a1 a2 a3 a4 a5 Q h = pts (zf34.E Q [(5, ([0, 1, 2, 3, 9], zf34.k5 (fun a1 a2 a3 a4 a5 h => zf34.j5 I4 a1 a2 a3 a4 a5 Q h)))]) 3000 true (atPos (posC zf34.code []) 4) (frAt [0, 1, 2, 3, 9] [.int .u32 a1, .int .i64 a2, .int .i64 a3, .int .i64 a4, .int .i64 a5]) h := by
  intros; kernel_rfl

theorem zf34.s4 {W0 : World} (Q : Int → Heap → Prop)   : CutOK sg W0 55 (entered 30) (Post sg W0 (zf34.ret Q)) (posC zf34.code []) 4 [0, 1, 2, 3, 9] (zf34.k4 (fun a1 a2 a3 a4 a5 h => zf34.j4  a1 a2 a3 a4 a5 Q h)) := by
  refine cutOK_head (fun vs h hk => ?_)
  unfold zf34.k4 at hk
  split at hk
  · rename_i a1 a2 a3 a4 a5
    refine hk (fun a1 a2 a3 a4 a5 h => Head sg W0 55 (entered 30) (Post sg W0 (zf34.ret Q)) (posC zf34.code []) 4 [0, 1, 2, 3, 9] [.int .u32 a1, .int .i64 a2, .int .i64 a3, .int .i64 a4, .int .i64 a5] h) ?_
    intro a1 a2 a3 a4 a5 h hb todo hm ρ a w s f hp
    have hself : CutOK sg W0 55 (entered 30) (Post sg W0 (zf34.ret Q)) (posC zf34.code []) 4 [0, 1, 2, 3, 9] (zf34.k4 (fun a1 a2 a3 a4 a5 h => Head sg W0 55 (entered 30) (Post sg W0 (zf34.ret Q)) (posC zf34.code []) 4 [0, 1, 2, 3, 9] [.int .u32 a1, .int .i64 a2, .int .i64 a3, .int .i64 a4, .int .i64 a5] h)) := cutOK_head (fun vs h hk => by unfold zf34.k4 at hk; split at hk; exact hk; exact hk.elim)
    exact piece (E := zf34.E Q [(5, ([0, 1, 2, 3, 9], zf34.k5 (fun a1 a2 a3 a4 a5 h => zf34.j5 (fun a1 a2 a3 a4 a5 h => Head sg W0 55 (entered 30) (Post sg W0 (zf34.ret Q)) (posC zf34.code []) 4 [0, 1, 2, 3, 9] [.int .u32 a1, .int .i64 a2, .int .i64 a3, .int .i64 a4, .int .i64 a5] h) a1 a2 a3 a4 a5 Q h)))]) (vs := [.int .u32 a1, .int .i64 a2, .int .i64 a3, .int .i64 a4, .int .i64 a5]) (envOK seatOK zf34.callsOK noIfc_ok) (fnOK seatOK zf34.fun) ⟨(zf34.s5 Q (fun a1 a2 a3 a4 a5 h => Head sg W0 55 (entered 30) (Post sg W0 (zf34.ret Q)) (posC zf34.code []) 4 [0, 1, 2, 3, 9] [.int .u32 a1, .int .i64 a2, .int .i64 a3, .int .i64 a4, .int .i64 a5] h) hself), trivial⟩ zf34.p4 (fuel := 3000) (by rw [← zf34.e4]; exact hb) hm s f hp
  · exact hk.elim

theorem zf34.e : ∀ (a1 : Int) (a2 : Int) (a3 : Int) (a4 : Int) (Q : Int → Heap → Prop) (h : Heap), zf34 a1 a2 a3 a4 Q h = pts (zf34.E Q [(2, ([0], zf34.k2 (fun a1 h => zf34.j2  a1 Q h))), (4, ([0, 1, 2, 3, 9], zf34.k4 (fun a1 a2 a3 a4 a5 h => zf34.j4  a1 a2 a3 a4 a5 Q h)))]) 3000 true [.code zf34.code] (frOf 0 [.int .u32 a1, .int .i64 a2, .int .i64 a3, .int .i64 a4]) h := by
  intros; kernel_rfl

theorem zf34.S {W0 : World} : FnS sg W0 227 zf34.C := by
  intro vs κ h wv hx w s
  unfold zf34.C at hx
  split at hx
  · rename_i a1 a2 a3 a4
    refine postImp (ret := zf34.ret (fun r1 h => κ (.int .u32 r1) h)) (fun v h hr => by unfold zf34.ret at hr; split at hr; exact hr; exact hr.elim) ?_
    exact calls_of_pts (E := zf34.E (fun r1 h => κ (.int .u32 r1) h) [(2, ([0], zf34.k2 (fun a1 h => zf34.j2  a1 (fun r1 h => κ (.int .u32 r1) h) h))), (4, ([0, 1, 2, 3, 9], zf34.k4 (fun a1 a2 a3 a4 a5 h => zf34.j4  a1 a2 a3 a4 a5 (fun r1 h => κ (.int .u32 r1) h) h)))]) (envOK seatOK zf34.callsOK noIfc_ok) seatOK.mixed zf34.fun (Nat.le_of_ble_eq_true rfl) wv (cutL_ok ⟨(zf34.s2 (fun r1 h => κ (.int .u32 r1) h)), (zf34.s4 (fun r1 h => κ (.int .u32 r1) h)), trivial⟩) s (fuel := 3000) (by rw [← zf34.e]; exact hx)
  · exact hx.elim

end Go.Fn
