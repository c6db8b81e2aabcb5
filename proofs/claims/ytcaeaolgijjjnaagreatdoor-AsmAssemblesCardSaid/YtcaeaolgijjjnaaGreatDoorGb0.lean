/- The links of the shallow functions to the machine. PRINTED by lift.py. -/
import Derived.Test.YtcaeaolgijjjnaaGreatDoorGa
import Derived.Test.YtcaeaolgijjjnaaGreatDoorLay
import Derived.Test.YtcaeaolgijjjnaaGreatDoorKb
import Derived.Test.YtcaeaolgijjjnaaGreatDoorAsAsS
set_option linter.unusedSimpArgs false
set_option linter.unusedVariables false

set_option linter.unusedVariables false
set_option maxRecDepth 100000
namespace Go.Fn
open Go.Lift

noncomputable def zf65.code : Code := Go.Proofs.Tryz.f98.body.getD .skip

theorem zf65.fun : Fun sg.P 98 8 [.tmp 4] zf65.code := mkFun Go.Proofs.Tryz.func98 (by kernel_rfl) (by kernel_rfl) (by kernel_rfl) (by kernel_rfl)

def zf65.ret (Q : Int → Heap → Prop) (v : V) (h : Heap) : Prop :=
  match v with
  | .int .i64 r1 => Q r1 h
  | _ => False

def zf65.C (vs : List V) (κ : V → Heap → Prop) (h : Heap) : Prop :=
  match vs with
  | [.str a1, .int .u8 a2] => zf65 a1 a2 (fun r1 h => κ (.int .i64 r1) h) h
  | _ => False

theorem zf65.S {W0 : World} : FnS sg W0 402 (zf65.C) := by
  intro vs κ h wv hx w s
  refine indexByte_S (g := 402) lays137 rfl zf65.fun vs κ h wv ?_ w s
  unfold zf65.C at hx
  split at hx
  · exact hx
  · exact hx.elim

noncomputable def zf72.code : Code := Go.Proofs.Tryz.f99.body.getD .skip

theorem zf72.fun : Fun sg.P 99 17 [.tmp 2] zf72.code := mkFun Go.Proofs.Tryz.func99 (by kernel_rfl) (by kernel_rfl) (by kernel_rfl) (by kernel_rfl)

def zf72.ret (Q : Bool → Heap → Prop) (v : V) (h : Heap) : Prop :=
  match v with
  | .bool r1 => Q r1 h
  | _ => False

def zf72.C (vs : List V) (κ : V → Heap → Prop) (h : Heap) : Prop :=
  match vs with
  | [.int .i32 a1] => zf72 a1 (fun r1 h => κ (.bool r1) h) h
  | _ => False

noncomputable def zf72.calls : List (Nat × (List V → (V → Heap → Prop) → Heap → Prop)) := []

noncomputable def zf72.E (Q : Bool → Heap → Prop) (cuts : List (Nat × (List Nat × (List V → Heap → Prop)))) : Env := { tis := tisT, fns := fnsT, tys := tysT, gls := [], rts := rtsT, unk := [], nxt := [], calls := zf72.calls, ifc := noIfc, cuts := cuts, ret := zf72.ret Q, rets := [.tmp 2], n := 17 }

theorem zf72.callsOK {W0 : World} : CallsOK sg W0 zf72.calls := trivial

theorem zf72.e : ∀ (a1 : Int) (Q : Bool → Heap → Prop) (h : Heap), zf72 a1 Q h = pts (zf72.E Q []) 3000 true [.code zf72.code] (frOf 0 [.int .i32 a1]) h := by
  intros; kernel_rfl

theorem zf72.S {W0 : World} : FnS sg W0 403 zf72.C := by
  intro vs κ h wv hx w s
  unfold zf72.C at hx
  split at hx
  · rename_i a1
    refine postImp (ret := zf72.ret (fun r1 h => κ (.bool r1) h)) (fun v h hr => by unfold zf72.ret at hr; split at hr; exact hr; exact hr.elim) ?_
    exact calls_of_pts (E := zf72.E (fun r1 h => κ (.bool r1) h) []) (envOK seatOK zf72.callsOK noIfc_ok) seatOK.mixed zf72.fun (Nat.le_of_ble_eq_true rfl) wv (cutL_ok trivial) s (fuel := 3000) (by rw [← zf72.e]; exact hx)
  · exact hx.elim

noncomputable def zf66.code : Code := Go.Proofs.Tryz.f73.body.getD .skip

theorem zf66.fun : Fun sg.P 73 187 [.tmp 4] zf66.code := mkFun Go.Proofs.Tryz.func73 (by kernel_rfl) (by kernel_rfl) (by kernel_rfl) (by kernel_rfl)

def zf66.ret (Q : Int → Heap → Prop) (v : V) (h : Heap) : Prop :=
  match v with
  | .int .i64 r1 => Q r1 h
  | _ => False

def zf66.C (vs : List V) (κ : V → Heap → Prop) (h : Heap) : Prop :=
  match vs with
  | [.str a1, .int .i32 a2] => zf66 a1 a2 (fun r1 h => κ (.int .i64 r1) h) h
  | _ => False

noncomputable def zf66.calls : List (Nat × (List V → (V → Heap → Prop) → Heap → Prop)) := [(402, zf65.C), (403, zf72.C)]

noncomputable def zf66.E (Q : Int → Heap → Prop) (cuts : List (Nat × (List Nat × (List V → Heap → Prop)))) : Env := { tis := tisT, fns := fnsT, tys := tysT, gls := [], rts := rtsT, unk := [], nxt := [], calls := zf66.calls, ifc := noIfc, cuts := cuts, ret := zf66.ret Q, rets := [.tmp 4], n := 187 }

theorem zf66.callsOK {W0 : World} : CallsOK sg W0 zf66.calls := ⟨zf65.S, zf72.S, trivial⟩

def zf66.k38 (I : Ptr → Heap → Prop) (vs : List V) (h : Heap) : Prop :=
  match vs with
  | [.ptr (some a1)] => I a1 h
  | _ => False

def zf66.k12 (I : (List UInt8) → (List UInt8) → Int → Int → Int → Heap → Prop) (vs : List V) (h : Heap) : Prop :=
  match vs with
  | [.str a1, .str a2, .int .i64 a3, .int .i64 a4, .int .i64 a5] => I a1 a2 a3 a4 a5 h
  | _ => False

def zf66.k11 (I : (List UInt8) → (List UInt8) → Int → Int → Heap → Prop) (vs : List V) (h : Heap) : Prop :=
  match vs with
  | [.str a1, .str a2, .int .i64 a3, .int .i64 a4] => I a1 a2 a3 a4 h
  | _ => False

def zf66.k5 (I : (List UInt8) → (List UInt8) → Int → Int → Heap → Prop) (vs : List V) (h : Heap) : Prop :=
  match vs with
  | [.str a1, .str a2, .int .i64 a3, .int .i64 a4] => I a1 a2 a3 a4 h
  | _ => False

def zf66.k1 (I : (List UInt8) → Int → Heap → Prop) (vs : List V) (h : Heap) : Prop :=
  match vs with
  | [.str a1, .int .i32 a2] => I a1 a2 h
  | _ => False

def zf66.k36 (I : (List UInt8) → Int → Heap → Prop) (vs : List V) (h : Heap) : Prop :=
  match vs with
  | [.str a1, .int .i32 a2] => I a1 a2 h
  | _ => False

theorem zf66.p38 : (posC zf66.code []).filter (fun p => Nat.beq p.1 38) = [(38, atPos (posC zf66.code []) 38)] := by kernel_rfl

theorem zf66.e38 : ∀  (I38 : Ptr → Heap → Prop) (a1 : Ptr) (Q : Int → Heap → Prop) (h : Heap), zf66.b38  I38 a1 Q h = pts (zf66.E Q [(38, ([175], zf66.k38 I38))]) 3000 true (atPos (posC zf66.code []) 38) (frAt [175] [.ptr (some a1)]) h := by
  intros; kernel_rfl

theorem zf66.s38 {W0 : World} (Q : Int → Heap → Prop)   : CutOK sg W0 187 (entered 73) (Post sg W0 (zf66.ret Q)) (posC zf66.code []) 38 [175] (zf66.k38 (fun a1 h => zf66.j38  a1 Q h)) := by
  refine cutOK_head (fun vs h hk => ?_)
  unfold zf66.k38 at hk
  split at hk
  · rename_i a1
    refine hk (fun a1 h => Head sg W0 187 (entered 73) (Post sg W0 (zf66.ret Q)) (posC zf66.code []) 38 [175] [.ptr (some a1)] h) ?_
    intro a1 h hb todo hm ρ a w s f hp
    have hself : CutOK sg W0 187 (entered 73) (Post sg W0 (zf66.ret Q)) (posC zf66.code []) 38 [175] (zf66.k38 (fun a1 h => Head sg W0 187 (entered 73) (Post sg W0 (zf66.ret Q)) (posC zf66.code []) 38 [175] [.ptr (some a1)] h)) := cutOK_head (fun vs h hk => by unfold zf66.k38 at hk; split at hk; exact hk; exact hk.elim)
    exact piece (E := zf66.E Q [(38, ([175], zf66.k38 (fun a1 h => Head sg W0 187 (entered 73) (Post sg W0 (zf66.ret Q)) (posC zf66.code []) 38 [175] [.ptr (some a1)] h)))]) (vs := [.ptr (some a1)]) (envOK seatOK zf66.callsOK noIfc_ok) (fnOK seatOK zf66.fun) ⟨hself, trivial⟩ zf66.p38 (fuel := 3000) (by rw [← zf66.e38]; exact hb) hm s f hp
  · exact hk.elim

theorem zf66.p12 : (posC zf66.code []).filter (fun p => Nat.beq p.1 12) = [(12, atPos (posC zf66.code []) 12)] := by kernel_rfl

theorem zf66.e12 : ∀ (I5 : (List UInt8) → (List UInt8) → Int → Int → Heap → Prop) (I12 : (List UInt8) → (List UInt8) → Int → Int → Int → Heap → Prop) (a1 : List UInt8) (a2 : List UInt8) (a3 : Int) (a4 : Int) (a5 : Int) (Q : Int → Heap → Prop) (h : Heap), zf66.b12 I5 I12 a1 a2 a3 a4 a5 Q h = pts (zf66.E Q [(12, ([0, 7, 8, 9, 12], zf66.k12 I12))]) 3000 true (atPos (posC zf66.code []) 12) (frAt [0, 7, 8, 9, 12] [.str a1, .str a2, .int .i64 a3, .int .i64 a4, .int .i64 a5]) h := by
  intros; kernel_rfl

theorem zf66.s12 {W0 : World} (Q : Int → Heap → Prop) (I5 : (List UInt8) → (List UInt8) → Int → Int → Heap → Prop) (h5 : CutOK sg W0 187 (entered 73) (Post sg W0 (zf66.ret Q)) (posC zf66.code []) 5 [0, 7, 8, 9] (zf66.k5 I5)) : CutOK sg W0 187 (entered 73) (Post sg W0 (zf66.ret Q)) (posC zf66.code []) 12 [0, 7, 8, 9, 12] (zf66.k12 (fun a1 a2 a3 a4 a5 h => zf66.j12 I5 a1 a2 a3 a4 a5 Q h)) := by
  refine cutOK_head (fun vs h hk => ?_)
  unfold zf66.k12 at hk
  split at hk
  · rename_i a1 a2 a3 a4 a5
    refine hk (fun a1 a2 a3 a4 a5 h => Head sg W0 187 (entered 73) (Post sg W0 (zf66.ret Q)) (posC zf66.code []) 12 [0, 7, 8, 9, 12] [.str a1, .str a2, .int .i64 a3, .int .i64 a4, .int .i64 a5] h) ?_
    intro a1 a2 a3 a4 a5 h hb todo hm ρ a w s f hp
    have hself : CutOK sg W0 187 (entered 73) (Post sg W0 (zf66.ret Q)) (posC zf66.code []) 12 [0, 7, 8, 9, 12] (zf66.k12 (fun a1 a2 a3 a4 a5 h => Head sg W0 187 (entered 73) (Post sg W0 (zf66.ret Q)) (posC zf66.code []) 12 [0, 7, 8, 9, 12] [.str a1, .str a2, .int .i64 a3, .int .i64 a4, .int .i64 a5] h)) := cutOK_head (fun vs h hk => by unfold zf66.k12 at hk; split at hk; exact hk; exact hk.elim)
    exact piece (E := zf66.E Q [(12, ([0, 7, 8, 9, 12], zf66.k12 (fun a1 a2 a3 a4 a5 h => Head sg W0 187 (entered 73) (Post sg W0 (zf66.ret Q)) (posC zf66.code []) 12 [0, 7, 8, 9, 12] [.str a1, .str a2, .int .i64 a3, .int .i64 a4, .int .i64 a5] h)))]) (vs := [.str a1, .str a2, .int .i64 a3, .int .i64 a4, .int .i64 a5]) (envOK seatOK zf66.callsOK noIfc_ok) (fnOK seatOK zf66.fun) ⟨hself, trivial⟩ zf66.p12 (fuel := 3000) (by rw [← zf66.e12]; exact hb) hm s f hp
  · exact hk.elim

theorem zf66.p11 : (posC zf66.code []).filter (fun p => Nat.beq p.1 11) = [(11, atPos (posC zf66.code []) 11)] := by kernel_rfl

theorem zf66.e11 : ∀ (I5 : (List UInt8) → (List UInt8) → Int → Int → Heap → Prop) (a1 : List UInt8) (a2 : List UInt8) (a3 : Int) (a4 : Int) (Q : Int → Heap → Prop) (h : Heap), zf66.j11 I5 a1 a2 a3 a4 Q h = pts (zf66.E Q [(12, ([0, 7, 8, 9, 12], zf66.k12 (fun a1 a2 a3 a4 a5 h => zf66.j12 I5 a1 a2 a3 a4 a5 Q h)))]) 3000 true (atPos (posC zf66.code []) 11) (frAt [0, 7, 8, 9] [.str a1, .str a2, .int .i64 a3, .int .i64 a4]) h := by
  intros; kernel_rfl

theorem zf66.s11 {W0 : World} (Q : Int → Heap → Prop) (I5 : (List UInt8) → (List UInt8) → Int → Int → Heap → Prop) (h5 : CutOK sg W0 187 (entered 73) (Post sg W0 (zf66.ret Q)) (posC zf66.code []) 5 [0, 7, 8, 9] (zf66.k5 I5)) : CutOK sg W0 187 (entered 73) (Post sg W0 (zf66.ret Q)) (posC zf66.code []) 11 [0, 7, 8, 9] (zf66.k11 (fun a1 a2 a3 a4 h => zf66.j11 I5 a1 a2 a3 a4 Q h)) := by
  refine cutOK_head (fun vs h hk => ?_)
  unfold zf66.k11 at hk
  split at hk
  · rename_i a1 a2 a3 a4
    intro todo hm ρ a w s f hp
    exact piece (E := zf66.E Q [(12, ([0, 7, 8, 9, 12], zf66.k12 (fun a1 a2 a3 a4 a5 h => zf66.j12 I5 a1 a2 a3 a4 a5 Q h)))]) (vs := [.str a1, .str a2, .int .i64 a3, .int .i64 a4]) (envOK seatOK zf66.callsOK noIfc_ok) (fnOK seatOK zf66.fun) ⟨(zf66.s12 Q I5 h5), trivial⟩ zf66.p11 (fuel := 3000) (by rw [← zf66.e11]; exact hk) hm s f hp
  · exact hk.elim

theorem zf66.p5 : (posC zf66.code []).filter (fun p => Nat.beq p.1 5) = [(5, atPos (posC zf66.code []) 5)] := by kernel_rfl

theorem zf66.e5 : ∀  (I5 : (List UInt8) → (List UInt8) → Int → Int → Heap → Prop) (a1 : List UInt8) (a2 : List UInt8) (a3 : Int) (a4 : Int) (Q : Int → Heap → Prop) (h : Heap), zf66.b5  I5 a1 a2 a3 a4 Q h = pts (zf66.E Q [(11, ([0, 7, 8, 9], zf66.k11 (fun a1 a2 a3 a4 h => zf66.j11 I5 a1 a2 a3 a4 Q h)))]) 3000 true (atPos (posC zf66.code []) 5) (frAt [0, 7, 8, 9] [.str a1, .str a2, .int .i64 a3, .int .i64 a4]) h := by
  intros; kernel_rfl

theorem zf66.s5 {W0 : World} (Q : Int → Heap → Prop)   : CutOK sg W0 187 (entered 73) (Post sg W0 (zf66.ret Q)) (posC zf66.code []) 5 [0, 7, 8, 9] (zf66.k5 (fun a1 a2 a3 a4 h => zf66.j5  a1 a2 a3 a4 Q h)) := by
  refine cutOK_head (fun vs h hk => ?_)
  unfold zf66.k5 at hk
  split at hk
  · rename_i a1 a2 a3 a4
    refine hk (fun a1 a2 a3 a4 h => Head sg W0 187 (entered 73) (Post sg W0 (zf66.ret Q)) (posC zf66.code []) 5 [0, 7, 8, 9] [.str a1, .str a2, .int .i64 a3, .int .i64 a4] h) ?_
    intro a1 a2 a3 a4 h hb todo hm ρ a w s f hp
    have hself : CutOK sg W0 187 (entered 73) (Post sg W0 (zf66.ret Q)) (posC zf66.code []) 5 [0, 7, 8, 9] (zf66.k5 (fun a1 a2 a3 a4 h => Head sg W0 187 (entered 73) (Post sg W0 (zf66.ret Q)) (posC zf66.code []) 5 [0, 7, 8, 9] [.str a1, .str a2, .int .i64 a3, .int .i64 a4] h)) := cutOK_head (fun vs h hk => by unfold zf66.k5 at hk; split at hk; exact hk; exact hk.elim)
    exact piece (E := zf66.E Q [(11, ([0, 7, 8, 9], zf66.k11 (fun a1 a2 a3 a4 h => zf66.j11 (fun a1 a2 a3 a4 h => Head sg W0 187 (entered 73) (Post sg W0 (zf66.ret Q)) (posC zf66.code []) 5 [0, 7, 8, 9] [.str a1, .str a2, .int .i64 a3, .int .i64 a4] h) a1 a2 a3 a4 Q h)))]) (vs := [.str a1, .str a2, .int .i64 a3, .int .i64 a4]) (envOK seatOK zf66.callsOK noIfc_ok) (fnOK seatOK zf66.fun) ⟨(zf66.s11 Q (fun a1 a2 a3 a4 h => Head sg W0 187 (entered 73) (Post sg W0 (zf66.ret Q)) (posC zf66.code []) 5 [0, 7, 8, 9] [.str a1, .str a2, .int .i64 a3, .int .i64 a4] h) hself), trivial⟩ zf66.p5 (fuel := 3000) (by rw [← zf66.e5]; exact hb) hm s f hp
  · exact hk.elim

theorem zf66.p1 : (posC zf66.code []).filter (fun p => Nat.beq p.1 1) = [(1, atPos (posC zf66.code []) 1)] := by kernel_rfl

theorem zf66.e1 : ∀  (a1 : List UInt8) (a2 : Int) (Q : Int → Heap → Prop) (h : Heap), zf66.j1  a1 a2 Q h = pts (zf66.E Q [(5, ([0, 7, 8, 9], zf66.k5 (fun a1 a2 a3 a4 h => zf66.j5  a1 a2 a3 a4 Q h)))]) 3000 true (atPos (posC zf66.code []) 1) (frAt [0, 1] [.str a1, .int .i32 a2]) h := by
  intros; kernel_rfl

theorem zf66.s1 {W0 : World} (Q : Int → Heap → Prop)   : CutOK sg W0 187 (entered 73) (Post sg W0 (zf66.ret Q)) (posC zf66.code []) 1 [0, 1] (zf66.k1 (fun a1 a2 h => zf66.j1  a1 a2 Q h)) := by
  refine cutOK_head (fun vs h hk => ?_)
  unfold zf66.k1 at hk
  split at hk
  · rename_i a1 a2
    intro todo hm ρ a w s f hp
    exact piece (E := zf66.E Q [(5, ([0, 7, 8, 9], zf66.k5 (fun a1 a2 a3 a4 h => zf66.j5  a1 a2 a3 a4 Q h)))]) (vs := [.str a1, .int .i32 a2]) (envOK seatOK zf66.callsOK noIfc_ok) (fnOK seatOK zf66.fun) ⟨(zf66.s5 Q  ), trivial⟩ zf66.p1 (fuel := 3000) (by rw [← zf66.e1]; exact hk) hm s f hp
  · exact hk.elim

theorem zf66.p36 : (posC zf66.code []).filter (fun p => Nat.beq p.1 36) = [(36, atPos (posC zf66.code []) 36)] := by kernel_rfl

theorem zf66.e36 : ∀  (a1 : List UInt8) (a2 : Int) (Q : Int → Heap → Prop) (h : Heap), zf66.j36  a1 a2 Q h = pts (zf66.E Q [(38, ([175], zf66.k38 (fun a1 h => zf66.j38  a1 Q h))), (1, ([0, 1], zf66.k1 (fun a1 a2 h => zf66.j1  a1 a2 Q h)))]) 3000 true (atPos (posC zf66.code []) 36) (frAt [0, 1] [.str a1, .int .i32 a2]) h := by
  intros; kernel_rfl

theorem zf66.s36 {W0 : World} (Q : Int → Heap → Prop)   : CutOK sg W0 187 (entered 73) (Post sg W0 (zf66.ret Q)) (posC zf66.code []) 36 [0, 1] (zf66.k36 (fun a1 a2 h => zf66.j36  a1 a2 Q h)) := by
  refine cutOK_head (fun vs h hk => ?_)
  unfold zf66.k36 at hk
  split at hk
  · rename_i a1 a2
    intro todo hm ρ a w s f hp
    exact piece (E := zf66.E Q [(38, ([175], zf66.k38 (fun a1 h => zf66.j38  a1 Q h))), (1, ([0, 1], zf66.k1 (fun a1 a2 h => zf66.j1  a1 a2 Q h)))]) (vs := [.str a1, .int .i32 a2]) (envOK seatOK zf66.callsOK noIfc_ok) (fnOK seatOK zf66.fun) ⟨(zf66.s38 Q  ), (zf66.s1 Q  ), trivial⟩ zf66.p36 (fuel := 3000) (by rw [← zf66.e36]; exact hk) hm s f hp
  · exact hk.elim

theorem zf66.e : ∀ (a1 : List UInt8) (a2 : Int) (Q : Int → Heap → Prop) (h : Heap), zf66 a1 a2 Q h = pts (zf66.E Q [(36, ([0, 1], zf66.k36 (fun a1 a2 h => zf66.j36  a1 a2 Q h)))]) 3000 true [.code zf66.code] (frOf 0 [.str a1, .int .i32 a2]) h := by
  intros; kernel_rfl

theorem zf66.S {W0 : World} : FnS sg W0 404 zf66.C := by
  intro vs κ h wv hx w s
  unfold zf66.C at hx
  split at hx
  · rename_i a1 a2
    refine postImp (ret := zf66.ret (fun r1 h => κ (.int .i64 r1) h)) (fun v h hr => by unfold zf66.ret at hr; split at hr; exact hr; exact hr.elim) ?_
    exact calls_of_pts (E := zf66.E (fun r1 h => κ (.int .i64 r1) h) [(36, ([0, 1], zf66.k36 (fun a1 a2 h => zf66.j36  a1 a2 (fun r1 h => κ (.int .i64 r1) h) h)))]) (envOK seatOK zf66.callsOK noIfc_ok) seatOK.mixed zf66.fun (Nat.le_of_ble_eq_true rfl) wv (cutL_ok ⟨(zf66.s36 (fun r1 h => κ (.int .i64 r1) h)), trivial⟩) s (fuel := 3000) (by rw [← zf66.e]; exact hx)
  · exact hx.elim

noncomputable def zf59.code : Code := Go.Proofs.Tryz.f44.body.getD .skip

theorem zf59.fun : Fun sg.P 44 9 [.tmp 4] zf59.code := mkFun Go.Proofs.Tryz.func44 (by kernel_rfl) (by kernel_rfl) (by kernel_rfl) (by kernel_rfl)

def zf59.ret (Q : Bool → Heap → Prop) (v : V) (h : Heap) : Prop :=
  match v with
  | .bool r1 => Q r1 h
  | _ => False

def zf59.C (vs : List V) (κ : V → Heap → Prop) (h : Heap) : Prop :=
  match vs with
  | [.str a1, .int .i32 a2] => zf59 a1 a2 (fun r1 h => κ (.bool r1) h) h
  | _ => False

noncomputable def zf59.calls : List (Nat × (List V → (V → Heap → Prop) → Heap → Prop)) := [(404, zf66.C)]

noncomputable def zf59.E (Q : Bool → Heap → Prop) (cuts : List (Nat × (List Nat × (List V → Heap → Prop)))) : Env := { tis := tisT, fns := fnsT, tys := tysT, gls := [], rts := rtsT, unk := [], nxt := [], calls := zf59.calls, ifc := noIfc, cuts := cuts, ret := zf59.ret Q, rets := [.tmp 4], n := 9 }

theorem zf59.callsOK {W0 : World} : CallsOK sg W0 zf59.calls := ⟨zf66.S, trivial⟩

theorem zf59.e : ∀ (a1 : List UInt8) (a2 : Int) (Q : Bool → Heap → Prop) (h : Heap), zf59 a1 a2 Q h = pts (zf59.E Q []) 3000 true [.code zf59.code] (frOf 0 [.str a1, .int .i32 a2]) h := by
  intros; kernel_rfl

theorem zf59.S {W0 : World} : FnS sg W0 381 zf59.C := by
  intro vs κ h wv hx w s
  unfold zf59.C at hx
  split at hx
  · rename_i a1 a2
    refine postImp (ret := zf59.ret (fun r1 h => κ (.bool r1) h)) (fun v h hr => by unfold zf59.ret at hr; split at hr; exact hr; exact hr.elim) ?_
    exact calls_of_pts (E := zf59.E (fun r1 h => κ (.bool r1) h) []) (envOK seatOK zf59.callsOK noIfc_ok) seatOK.mixed zf59.fun (Nat.le_of_ble_eq_true rfl) wv (cutL_ok trivial) s (fuel := 3000) (by rw [← zf59.e]; exact hx)
  · exact hx.elim

noncomputable def zf10.code : Code := Go.Proofs.Tryz.f43.body.getD .skip

theorem zf10.fun : Fun sg.P 43 5 [.tmp 2] zf10.code := mkFun Go.Proofs.Tryz.func43 (by kernel_rfl) (by kernel_rfl) (by kernel_rfl) (by kernel_rfl)

def zf10.ret (Q : Bool → Heap → Prop) (v : V) (h : Heap) : Prop :=
  match v with
  | .bool r1 => Q r1 h
  | _ => False

def zf10.C (vs : List V) (κ : V → Heap → Prop) (h : Heap) : Prop :=
  match vs with
  | [.int .i32 a1] => zf10 a1 (fun r1 h => κ (.bool r1) h) h
  | _ => False

noncomputable def zf10.calls : List (Nat × (List V → (V → Heap → Prop) → Heap → Prop)) := [(381, zf59.C)]

noncomputable def zf10.E (Q : Bool → Heap → Prop) (cuts : List (Nat × (List Nat × (List V → Heap → Prop)))) : Env := { tis := tisT, fns := fnsT, tys := tysT, gls := [], rts := rtsT, unk := [], nxt := [], calls := zf10.calls, ifc := noIfc, cuts := cuts, ret := zf10.ret Q, rets := [.tmp 2], n := 5 }

theorem zf10.callsOK {W0 : World} : CallsOK sg W0 zf10.calls := ⟨zf59.S, trivial⟩

theorem zf10.e : ∀ (a1 : Int) (Q : Bool → Heap → Prop) (h : Heap), zf10 a1 Q h = pts (zf10.E Q []) 3000 true [.code zf10.code] (frOf 0 [.int .i32 a1]) h := by
  intros; kernel_rfl

theorem zf10.S {W0 : World} : FnS sg W0 357 zf10.C := by
  intro vs κ h wv hx w s
  unfold zf10.C at hx
  split at hx
  · rename_i a1
    refine postImp (ret := zf10.ret (fun r1 h => κ (.bool r1) h)) (fun v h hr => by unfold zf10.ret at hr; split at hr; exact hr; exact hr.elim) ?_
    exact calls_of_pts (E := zf10.E (fun r1 h => κ (.bool r1) h) []) (envOK seatOK zf10.callsOK noIfc_ok) seatOK.mixed zf10.fun (Nat.le_of_ble_eq_true rfl) wv (cutL_ok trivial) s (fuel := 3000) (by rw [← zf10.e]; exact hx)
  · exact hx.elim

noncomputable def zf68.code : Code := Go.Proofs.Tryz.f45.body.getD .skip

theorem zf68.fun : Fun sg.P 45 8 [.tmp 4] zf68.code := mkFun Go.Proofs.Tryz.func45 (by kernel_rfl) (by kernel_rfl) (by kernel_rfl) (by kernel_rfl)

def zf68.ret (Q : Sl → Heap → Prop) (v : V) (h : Heap) : Prop :=
  match v with
  | .sl r1 => Q r1 h
  | _ => False

def zf68.C (U : Ifc) (vs : List V) (κ : V → Heap → Prop) (h : Heap) : Prop :=
  match vs with
  | [.str a1, .str a2] => zf68 U a1 a2 (fun r1 h => κ (.sl r1) h) h
  | _ => False

theorem zf68.S {W0 : World} {U : Ifc} (hU : IfcOK sg W0 glsT U) : FnS sg W0 382 (zf68.C U) := by
  intro vs κ h wv hx w s
  refine split_S (g := 382) (c := 5) (gn := 4) hU lays146 (by kernel_rfl) (by kernel_rfl) rfl zf68.fun vs κ h wv ?_ w s
  unfold zf68.C at hx
  split at hx
  · exact hx
  · exact hx.elim

noncomputable def zf60.code : Code := Go.Proofs.Tryz.f46.body.getD .skip

theorem zf60.fun : Fun sg.P 46 13 [.tmp 4, .tmp 5, .tmp 6] zf60.code := mkFun Go.Proofs.Tryz.func46 (by kernel_rfl) (by kernel_rfl) (by kernel_rfl) (by kernel_rfl)

def zf60.ret (Q : (List UInt8) → (List UInt8) → Bool → Heap → Prop) (v : V) (h : Heap) : Prop :=
  match v with
  | .tup [.str r1, .str r2, .bool r3] => Q r1 r2 r3 h
  | _ => False

def zf60.C (U : Ifc) (vs : List V) (κ : V → Heap → Prop) (h : Heap) : Prop :=
  match vs with
  | [.str a1, .str a2] => zf60 U a1 a2 (fun r1 r2 r3 h => κ (.tup [.str r1, .str r2, .bool r3]) h) h
  | _ => False

theorem zf60.S {W0 : World} {U : Ifc} (hU : IfcOK sg W0 glsT U) : FnS sg W0 383 (zf60.C U) := by
  intro vs κ h wv hx w s
  refine cut_S (g := 383) (c := 5) hU lays145 (by kernel_rfl) rfl zf60.fun vs κ h wv ?_ w s
  unfold zf60.C at hx
  split at hx
  · exact hx
  · exact hx.elim

noncomputable def zf63.code : Code := Go.Proofs.Tryz.f37.body.getD .skip

theorem zf63.fun : Fun sg.P 37 65 [.tmp 4] zf63.code := mkFun Go.Proofs.Tryz.func37 (by kernel_rfl) (by kernel_rfl) (by kernel_rfl) (by kernel_rfl)

def zf63.ret (Q : Sl → Heap → Prop) (v : V) (h : Heap) : Prop :=
  match v with
  | .sl r1 => Q r1 h
  | _ => False

def zf63.C (vs : List V) (κ : V → Heap → Prop) (h : Heap) : Prop :=
  match vs with
  | [.str a1, a2] => zf63 a1 a2 (fun r1 h => κ (.sl r1) h) h
  | _ => False

theorem zf63.S {W0 : World} : FnS sg W0 384 (zf63.C) := by
  intro vs κ h wv hx w s
  refine fieldsFunc_S (g := 384) lays229 zf10.fun (fun W x hx => ⟨zf10.C, zf10.S, fun h => Go.Asm.sep_of hx (fun _ => rfl)⟩) (by kernel_rfl) (by kernel_rfl) rfl zf63.fun vs κ h wv ?_ w s
  unfold zf63.C at hx
  split at hx
  · exact hx
  · exact hx.elim

noncomputable def zf24.code : Code := Go.Proofs.Tryz.f76.body.getD .skip

theorem zf24.fun : Fun sg.P 76 21 [.tmp 4] zf24.code := mkFun Go.Proofs.Tryz.func76 (by kernel_rfl) (by kernel_rfl) (by kernel_rfl) (by kernel_rfl)

def zf24.ret (Q : Bool → Heap → Prop) (v : V) (h : Heap) : Prop :=
  match v with
  | .bool r1 => Q r1 h
  | _ => False

def zf24.C (vs : List V) (κ : V → Heap → Prop) (h : Heap) : Prop :=
  match vs with
  | [.str a1, .str a2] => zf24 a1 a2 (fun r1 h => κ (.bool r1) h) h
  | _ => False

noncomputable def zf24.calls : List (Nat × (List V → (V → Heap → Prop) → Heap → Prop)) := []

noncomputable def zf24.E (Q : Bool → Heap → Prop) (cuts : List (Nat × (List Nat × (List V → Heap → Prop)))) : Env := { tis := tisT, fns := fnsT, tys := tysT, gls := [], rts := rtsT, unk := [], nxt := [], calls := zf24.calls, ifc := noIfc, cuts := cuts, ret := zf24.ret Q, rets := [.tmp 4], n := 21 }

theorem zf24.callsOK {W0 : World} : CallsOK sg W0 zf24.calls := trivial

theorem zf24.e : ∀ (a1 : List UInt8) (a2 : List UInt8) (Q : Bool → Heap → Prop) (h : Heap), zf24 a1 a2 Q h = pts (zf24.E Q []) 3000 true [.code zf24.code] (frOf 0 [.str a1, .str a2]) h := by
  intros; kernel_rfl

theorem zf24.S {W0 : World} : FnS sg W0 385 zf24.C := by
  intro vs κ h wv hx w s
  unfold zf24.C at hx
  split at hx
  · rename_i a1 a2
    refine postImp (ret := zf24.ret (fun r1 h => κ (.bool r1) h)) (fun v h hr => by unfold zf24.ret at hr; split at hr; exact hr; exact hr.elim) ?_
    exact calls_of_pts (E := zf24.E (fun r1 h => κ (.bool r1) h) []) (envOK seatOK zf24.callsOK noIfc_ok) seatOK.mixed zf24.fun (Nat.le_of_ble_eq_true rfl) wv (cutL_ok trivial) s (fuel := 3000) (by rw [← zf24.e]; exact hx)
  · exact hx.elim

noncomputable def zf64.code : Code := Go.Proofs.Tryz.f47.body.getD .skip

theorem zf64.fun : Fun sg.P 47 8 [.tmp 4] zf64.code := mkFun Go.Proofs.Tryz.func47 (by kernel_rfl) (by kernel_rfl) (by kernel_rfl) (by kernel_rfl)

def zf64.ret (Q : Bool → Heap → Prop) (v : V) (h : Heap) : Prop :=
  match v with
  | .bool r1 => Q r1 h
  | _ => False

def zf64.C (vs : List V) (κ : V → Heap → Prop) (h : Heap) : Prop :=
  match vs with
  | [.str a1, .str a2] => zf64 a1 a2 (fun r1 h => κ (.bool r1) h) h
  | _ => False

noncomputable def zf64.calls : List (Nat × (List V → (V → Heap → Prop) → Heap → Prop)) := [(385, zf24.C)]

noncomputable def zf64.E (Q : Bool → Heap → Prop) (cuts : List (Nat × (List Nat × (List V → Heap → Prop)))) : Env := { tis := tisT, fns := fnsT, tys := tysT, gls := [], rts := rtsT, unk := [], nxt := [], calls := zf64.calls, ifc := noIfc, cuts := cuts, ret := zf64.ret Q, rets := [.tmp 4], n := 8 }

theorem zf64.callsOK {W0 : World} : CallsOK sg W0 zf64.calls := ⟨zf24.S, trivial⟩

theorem zf64.e : ∀ (a1 : List UInt8) (a2 : List UInt8) (Q : Bool → Heap → Prop) (h : Heap), zf64 a1 a2 Q h = pts (zf64.E Q []) 3000 true [.code zf64.code] (frOf 0 [.str a1, .str a2]) h := by
  intros; kernel_rfl

theorem zf64.S {W0 : World} : FnS sg W0 386 zf64.C := by
  intro vs κ h wv hx w s
  unfold zf64.C at hx
  split at hx
  · rename_i a1 a2
    refine postImp (ret := zf64.ret (fun r1 h => κ (.bool r1) h)) (fun v h hr => by unfold zf64.ret at hr; split at hr; exact hr; exact hr.elim) ?_
    exact calls_of_pts (E := zf64.E (fun r1 h => κ (.bool r1) h) []) (envOK seatOK zf64.callsOK noIfc_ok) seatOK.mixed zf64.fun (Nat.le_of_ble_eq_true rfl) wv (cutL_ok trivial) s (fuel := 3000) (by rw [← zf64.e]; exact hx)
  · exact hx.elim

noncomputable def zf26.code : Code := Go.Proofs.Tryz.f77.body.getD .skip

theorem zf26.fun : Fun sg.P 77 16 [.tmp 4] zf26.code := mkFun Go.Proofs.Tryz.func77 (by kernel_rfl) (by kernel_rfl) (by kernel_rfl) (by kernel_rfl)

def zf26.ret (Q : (List UInt8) → Heap → Prop) (v : V) (h : Heap) : Prop :=
  match v with
  | .str r1 => Q r1 h
  | _ => False

def zf26.C (vs : List V) (κ : V → Heap → Prop) (h : Heap) : Prop :=
  match vs with
  | [.str a1, .str a2] => zf26 a1 a2 (fun r1 h => κ (.str r1) h) h
  | _ => False

noncomputable def zf26.calls : List (Nat × (List V → (V → Heap → Prop) → Heap → Prop)) := [(385, zf24.C)]

noncomputable def zf26.E (Q : (List UInt8) → Heap → Prop) (cuts : List (Nat × (List Nat × (List V → Heap → Prop)))) : Env := { tis := tisT, fns := fnsT, tys := tysT, gls := [], rts := rtsT, unk := [], nxt := [], calls := zf26.calls, ifc := noIfc, cuts := cuts, ret := zf26.ret Q, rets := [.tmp 4], n := 16 }

theorem zf26.callsOK {W0 : World} : CallsOK sg W0 zf26.calls := ⟨zf24.S, trivial⟩

theorem zf26.e : ∀ (a1 : List UInt8) (a2 : List UInt8) (Q : (List UInt8) → Heap → Prop) (h : Heap), zf26 a1 a2 Q h = pts (zf26.E Q []) 3000 true [.code zf26.code] (frOf 0 [.str a1, .str a2]) h := by
  intros; kernel_rfl

theorem zf26.S {W0 : World} : FnS sg W0 387 zf26.C := by
  intro vs κ h wv hx w s
  unfold zf26.C at hx
  split at hx
  · rename_i a1 a2
    refine postImp (ret := zf26.ret (fun r1 h => κ (.str r1) h)) (fun v h hr => by unfold zf26.ret at hr; split at hr; exact hr; exact hr.elim) ?_
    exact calls_of_pts (E := zf26.E (fun r1 h => κ (.str r1) h) []) (envOK seatOK zf26.callsOK noIfc_ok) seatOK.mixed zf26.fun (Nat.le_of_ble_eq_true rfl) wv (cutL_ok trivial) s (fuel := 3000) (by rw [← zf26.e]; exact hx)
  · exact hx.elim

noncomputable def zf71.code : Code := Go.Proofs.Tryz.f48.body.getD .skip

theorem zf71.fun : Fun sg.P 48 8 [.tmp 4] zf71.code := mkFun Go.Proofs.Tryz.func48 (by kernel_rfl) (by kernel_rfl) (by kernel_rfl) (by kernel_rfl)

def zf71.ret (Q : (List UInt8) → Heap → Prop) (v : V) (h : Heap) : Prop :=
  match v with
  | .str r1 => Q r1 h
  | _ => False

def zf71.C (vs : List V) (κ : V → Heap → Prop) (h : Heap) : Prop :=
  match vs with
  | [.str a1, .str a2] => zf71 a1 a2 (fun r1 h => κ (.str r1) h) h
  | _ => False

noncomputable def zf71.calls : List (Nat × (List V → (V → Heap → Prop) → Heap → Prop)) := [(387, zf26.C)]

noncomputable def zf71.E (Q : (List UInt8) → Heap → Prop) (cuts : List (Nat × (List Nat × (List V → Heap → Prop)))) : Env := { tis := tisT, fns := fnsT, tys := tysT, gls := [], rts := rtsT, unk := [], nxt := [], calls := zf71.calls, ifc := noIfc, cuts := cuts, ret := zf71.ret Q, rets := [.tmp 4], n := 8 }

theorem zf71.callsOK {W0 : World} : CallsOK sg W0 zf71.calls := ⟨zf26.S, trivial⟩

theorem zf71.e : ∀ (a1 : List UInt8) (a2 : List UInt8) (Q : (List UInt8) → Heap → Prop) (h : Heap), zf71 a1 a2 Q h = pts (zf71.E Q []) 3000 true [.code zf71.code] (frOf 0 [.str a1, .str a2]) h := by
  intros; kernel_rfl

theorem zf71.S {W0 : World} : FnS sg W0 388 zf71.C := by
  intro vs κ h wv hx w s
  unfold zf71.C at hx
  split at hx
  · rename_i a1 a2
    refine postImp (ret := zf71.ret (fun r1 h => κ (.str r1) h)) (fun v h hr => by unfold zf71.ret at hr; split at hr; exact hr; exact hr.elim) ?_
    exact calls_of_pts (E := zf71.E (fun r1 h => κ (.str r1) h) []) (envOK seatOK zf71.callsOK noIfc_ok) seatOK.mixed zf71.fun (Nat.le_of_ble_eq_true rfl) wv (cutL_ok trivial) s (fuel := 3000) (by rw [← zf71.e]; exact hx)
  · exact hx.elim

noncomputable def zf23.code : Code := Go.Proofs.Tryz.f141.body.getD .skip

theorem zf23.fun : Fun sg.P 141 18 [.tmp 4] zf23.code := mkFun Go.Proofs.Tryz.func141 (by kernel_rfl) (by kernel_rfl) (by kernel_rfl) (by kernel_rfl)

def zf23.ret (Q : Bool → Heap → Prop) (v : V) (h : Heap) : Prop :=
  match v with
  | .bool r1 => Q r1 h
  | _ => False

def zf23.C (vs : List V) (κ : V → Heap → Prop) (h : Heap) : Prop :=
  match vs with
  | [.str a1, .str a2] => zf23 a1 a2 (fun r1 h => κ (.bool r1) h) h
  | _ => False

noncomputable def zf23.calls : List (Nat × (List V → (V → Heap → Prop) → Heap → Prop)) := []

noncomputable def zf23.E (Q : Bool → Heap → Prop) (cuts : List (Nat × (List Nat × (List V → Heap → Prop)))) : Env := { tis := tisT, fns := fnsT, tys := tysT, gls := [], rts := rtsT, unk := [], nxt := [], calls := zf23.calls, ifc := noIfc, cuts := cuts, ret := zf23.ret Q, rets := [.tmp 4], n := 18 }

theorem zf23.callsOK {W0 : World} : CallsOK sg W0 zf23.calls := trivial

theorem zf23.e : ∀ (a1 : List UInt8) (a2 : List UInt8) (Q : Bool → Heap → Prop) (h : Heap), zf23 a1 a2 Q h = pts (zf23.E Q []) 3000 true [.code zf23.code] (frOf 0 [.str a1, .str a2]) h := by
  intros; kernel_rfl

theorem zf23.S {W0 : World} : FnS sg W0 389 zf23.C := by
  intro vs κ h wv hx w s
  unfold zf23.C at hx
  split at hx
  · rename_i a1 a2
    refine postImp (ret := zf23.ret (fun r1 h => κ (.bool r1) h)) (fun v h hr => by unfold zf23.ret at hr; split at hr; exact hr; exact hr.elim) ?_
    exact calls_of_pts (E := zf23.E (fun r1 h => κ (.bool r1) h) []) (envOK seatOK zf23.callsOK noIfc_ok) seatOK.mixed zf23.fun (Nat.le_of_ble_eq_true rfl) wv (cutL_ok trivial) s (fuel := 3000) (by rw [← zf23.e]; exact hx)
  · exact hx.elim

noncomputable def zf22.code : Code := Go.Proofs.Tryz.f130.body.getD .skip

theorem zf22.fun : Fun sg.P 130 15 [.tmp 4, .tmp 5] zf22.code := mkFun Go.Proofs.Tryz.func130 (by kernel_rfl) (by kernel_rfl) (by kernel_rfl) (by kernel_rfl)

def zf22.ret (Q : (List UInt8) → Bool → Heap → Prop) (v : V) (h : Heap) : Prop :=
  match v with
  | .tup [.str r1, .bool r2] => Q r1 r2 h
  | _ => False

def zf22.C (vs : List V) (κ : V → Heap → Prop) (h : Heap) : Prop :=
  match vs with
  | [.str a1, .str a2] => zf22 a1 a2 (fun r1 r2 h => κ (.tup [.str r1, .bool r2]) h) h
  | _ => False

noncomputable def zf22.calls : List (Nat × (List V → (V → Heap → Prop) → Heap → Prop)) := [(389, zf23.C)]

noncomputable def zf22.E (Q : (List UInt8) → Bool → Heap → Prop) (cuts : List (Nat × (List Nat × (List V → Heap → Prop)))) : Env := { tis := tisT, fns := fnsT, tys := tysT, gls := [], rts := rtsT, unk := [], nxt := [], calls := zf22.calls, ifc := noIfc, cuts := cuts, ret := zf22.ret Q, rets := [.tmp 4, .tmp 5], n := 15 }

theorem zf22.callsOK {W0 : World} : CallsOK sg W0 zf22.calls := ⟨zf23.S, trivial⟩

theorem zf22.e : ∀ (a1 : List UInt8) (a2 : List UInt8) (Q : (List UInt8) → Bool → Heap → Prop) (h : Heap), zf22 a1 a2 Q h = pts (zf22.E Q []) 3000 true [.code zf22.code] (frOf 0 [.str a1, .str a2]) h := by
  intros; kernel_rfl

theorem zf22.S {W0 : World} : FnS sg W0 390 zf22.C := by
  intro vs κ h wv hx w s
  unfold zf22.C at hx
  split at hx
  · rename_i a1 a2
    refine postImp (ret := zf22.ret (fun r1 r2 h => κ (.tup [.str r1, .bool r2]) h)) (fun v h hr => by unfold zf22.ret at hr; split at hr; exact hr; exact hr.elim) ?_
    exact calls_of_pts (E := zf22.E (fun r1 r2 h => κ (.tup [.str r1, .bool r2]) h) []) (envOK seatOK zf22.callsOK noIfc_ok) seatOK.mixed zf22.fun (Nat.le_of_ble_eq_true rfl) wv (cutL_ok trivial) s (fuel := 3000) (by rw [← zf22.e]; exact hx)
  · exact hx.elim

noncomputable def zf61.code : Code := Go.Proofs.Tryz.f106.body.getD .skip

theorem zf61.fun : Fun sg.P 106 11 [.tmp 4, .tmp 5] zf61.code := mkFun Go.Proofs.Tryz.func106 (by kernel_rfl) (by kernel_rfl) (by kernel_rfl) (by kernel_rfl)

def zf61.ret (Q : (List UInt8) → Bool → Heap → Prop) (v : V) (h : Heap) : Prop :=
  match v with
  | .tup [.str r1, .bool r2] => Q r1 r2 h
  | _ => False

def zf61.C (vs : List V) (κ : V → Heap → Prop) (h : Heap) : Prop :=
  match vs with
  | [.str a1, .str a2] => zf61 a1 a2 (fun r1 r2 h => κ (.tup [.str r1, .bool r2]) h) h
  | _ => False

noncomputable def zf61.calls : List (Nat × (List V → (V → Heap → Prop) → Heap → Prop)) := [(390, zf22.C)]

noncomputable def zf61.E (Q : (List UInt8) → Bool → Heap → Prop) (cuts : List (Nat × (List Nat × (List V → Heap → Prop)))) : Env := { tis := tisT, fns := fnsT, tys := tysT, gls := [], rts := rtsT, unk := [], nxt := [], calls := zf61.calls, ifc := noIfc, cuts := cuts, ret := zf61.ret Q, rets := [.tmp 4, .tmp 5], n := 11 }

theorem zf61.callsOK {W0 : World} : CallsOK sg W0 zf61.calls := ⟨zf22.S, trivial⟩

theorem zf61.e : ∀ (a1 : List UInt8) (a2 : List UInt8) (Q : (List UInt8) → Bool → Heap → Prop) (h : Heap), zf61 a1 a2 Q h = pts (zf61.E Q []) 3000 true [.code zf61.code] (frOf 0 [.str a1, .str a2]) h := by
  intros; kernel_rfl

theorem zf61.S {W0 : World} : FnS sg W0 391 zf61.C := by
  intro vs κ h wv hx w s
  unfold zf61.C at hx
  split at hx
  · rename_i a1 a2
    refine postImp (ret := zf61.ret (fun r1 r2 h => κ (.tup [.str r1, .bool r2]) h)) (fun v h hr => by unfold zf61.ret at hr; split at hr; exact hr; exact hr.elim) ?_
    exact calls_of_pts (E := zf61.E (fun r1 r2 h => κ (.tup [.str r1, .bool r2]) h) []) (envOK seatOK zf61.callsOK noIfc_ok) seatOK.mixed zf61.fun (Nat.le_of_ble_eq_true rfl) wv (cutL_ok trivial) s (fuel := 3000) (by rw [← zf61.e]; exact hx)
  · exact hx.elim

noncomputable def zf25.code : Code := Go.Proofs.Tryz.f133.body.getD .skip

theorem zf25.fun : Fun sg.P 133 13 [.tmp 4] zf25.code := mkFun Go.Proofs.Tryz.func133 (by kernel_rfl) (by kernel_rfl) (by kernel_rfl) (by kernel_rfl)

def zf25.ret (Q : (List UInt8) → Heap → Prop) (v : V) (h : Heap) : Prop :=
  match v with
  | .str r1 => Q r1 h
  | _ => False

def zf25.C (vs : List V) (κ : V → Heap → Prop) (h : Heap) : Prop :=
  match vs with
  | [.str a1, .str a2] => zf25 a1 a2 (fun r1 h => κ (.str r1) h) h
  | _ => False

noncomputable def zf25.calls : List (Nat × (List V → (V → Heap → Prop) → Heap → Prop)) := [(389, zf23.C)]

noncomputable def zf25.E (Q : (List UInt8) → Heap → Prop) (cuts : List (Nat × (List Nat × (List V → Heap → Prop)))) : Env := { tis := tisT, fns := fnsT, tys := tysT, gls := [], rts := rtsT, unk := [], nxt := [], calls := zf25.calls, ifc := noIfc, cuts := cuts, ret := zf25.ret Q, rets := [.tmp 4], n := 13 }

theorem zf25.callsOK {W0 : World} : CallsOK sg W0 zf25.calls := ⟨zf23.S, trivial⟩

theorem zf25.e : ∀ (a1 : List UInt8) (a2 : List UInt8) (Q : (List UInt8) → Heap → Prop) (h : Heap), zf25 a1 a2 Q h = pts (zf25.E Q []) 3000 true [.code zf25.code] (frOf 0 [.str a1, .str a2]) h := by
  intros; kernel_rfl

theorem zf25.S {W0 : World} : FnS sg W0 392 zf25.C := by
  intro vs κ h wv hx w s
  unfold zf25.C at hx
  split at hx
  · rename_i a1 a2
    refine postImp (ret := zf25.ret (fun r1 h => κ (.str r1) h)) (fun v h hr => by unfold zf25.ret at hr; split at hr; exact hr; exact hr.elim) ?_
    exact calls_of_pts (E := zf25.E (fun r1 h => κ (.str r1) h) []) (envOK seatOK zf25.callsOK noIfc_ok) seatOK.mixed zf25.fun (Nat.le_of_ble_eq_true rfl) wv (cutL_ok trivial) s (fuel := 3000) (by rw [← zf25.e]; exact hx)
  · exact hx.elim

noncomputable def zf70.code : Code := Go.Proofs.Tryz.f114.body.getD .skip

theorem zf70.fun : Fun sg.P 114 8 [.tmp 4] zf70.code := mkFun Go.Proofs.Tryz.func114 (by kernel_rfl) (by kernel_rfl) (by kernel_rfl) (by kernel_rfl)

def zf70.ret (Q : (List UInt8) → Heap → Prop) (v : V) (h : Heap) : Prop :=
  match v with
  | .str r1 => Q r1 h
  | _ => False

def zf70.C (vs : List V) (κ : V → Heap → Prop) (h : Heap) : Prop :=
  match vs with
  | [.str a1, .str a2] => zf70 a1 a2 (fun r1 h => κ (.str r1) h) h
  | _ => False

noncomputable def zf70.calls : List (Nat × (List V → (V → Heap → Prop) → Heap → Prop)) := [(392, zf25.C)]

noncomputable def zf70.E (Q : (List UInt8) → Heap → Prop) (cuts : List (Nat × (List Nat × (List V → Heap → Prop)))) : Env := { tis := tisT, fns := fnsT, tys := tysT, gls := [], rts := rtsT, unk := [], nxt := [], calls := zf70.calls, ifc := noIfc, cuts := cuts, ret := zf70.ret Q, rets := [.tmp 4], n := 8 }

theorem zf70.callsOK {W0 : World} : CallsOK sg W0 zf70.calls := ⟨zf25.S, trivial⟩

theorem zf70.e : ∀ (a1 : List UInt8) (a2 : List UInt8) (Q : (List UInt8) → Heap → Prop) (h : Heap), zf70 a1 a2 Q h = pts (zf70.E Q []) 3000 true [.code zf70.code] (frOf 0 [.str a1, .str a2]) h := by
  intros; kernel_rfl

theorem zf70.S {W0 : World} : FnS sg W0 393 zf70.C := by
  intro vs κ h wv hx w s
  unfold zf70.C at hx
  split at hx
  · rename_i a1 a2
    refine postImp (ret := zf70.ret (fun r1 h => κ (.str r1) h)) (fun v h hr => by unfold zf70.ret at hr; split at hr; exact hr; exact hr.elim) ?_
    exact calls_of_pts (E := zf70.E (fun r1 h => κ (.str r1) h) []) (envOK seatOK zf70.callsOK noIfc_ok) seatOK.mixed zf70.fun (Nat.le_of_ble_eq_true rfl) wv (cutL_ok trivial) s (fuel := 3000) (by rw [← zf70.e]; exact hx)
  · exact hx.elim

noncomputable def zf69.code : Code := Go.Proofs.Tryz.f79.body.getD .skip

theorem zf69.fun : Fun sg.P 79 43 [.tmp 4] zf69.code := mkFun Go.Proofs.Tryz.func79 (by kernel_rfl) (by kernel_rfl) (by kernel_rfl) (by kernel_rfl)

def zf69.ret (Q : (List UInt8) → Heap → Prop) (v : V) (h : Heap) : Prop :=
  match v with
  | .str r1 => Q r1 h
  | _ => False

def zf69.C (vs : List V) (κ : V → Heap → Prop) (h : Heap) : Prop :=
  match vs with
  | [.str a1, .str a2] => zf69 a1 a2 (fun r1 h => κ (.str r1) h) h
  | _ => False

theorem zf69.S {W0 : World} : FnS sg W0 394 (zf69.C) := by
  intro vs κ h wv hx w s
  refine trim_S (g := 394) lays160 (by kernel_rfl) rfl zf69.fun vs κ h wv ?_ w s
  unfold zf69.C at hx
  split at hx
  · exact hx
  · exact hx.elim

noncomputable def zf57.code : Code := Go.Proofs.Tryz.f115.body.getD .skip

theorem zf57.fun : Fun sg.P 115 18 [.tmp 2, .tmp 3] zf57.code := mkFun Go.Proofs.Tryz.func115 (by kernel_rfl) (by kernel_rfl) (by kernel_rfl) (by kernel_rfl)

def zf57.ret (Q : Int → V → Heap → Prop) (v : V) (h : Heap) : Prop :=
  match v with
  | .tup [.int .i64 r1, r2] => Q r1 r2 h
  | _ => False

def zf57.C (vs : List V) (κ : V → Heap → Prop) (h : Heap) : Prop :=
  match vs with
  | [.str a1] => zf57 a1 (fun r1 r2 h => κ (.tup [.int .i64 r1, r2]) h) h
  | _ => False

theorem zf57.S {W0 : World} : FnS sg W0 395 (zf57.C) := by
  intro vs κ h wv hx w s
  refine atoi_S (g := 395) lays172 rfl zf57.fun vs κ h wv ?_ w s
  unfold zf57.C at hx
  split at hx
  · exact hx
  · exact hx.elim

noncomputable def zf5.code : Code := Go.Proofs.Tryz.f80.body.getD .skip

theorem zf5.fun : Fun sg.P 80 39 [.tmp 2, .tmp 3] zf5.code := mkFun Go.Proofs.Tryz.func80 (by kernel_rfl) (by kernel_rfl) (by kernel_rfl) (by kernel_rfl)

def zf5.ret (Q : Int → Bool → Heap → Prop) (v : V) (h : Heap) : Prop :=
  match v with
  | .tup [.int .i64 r1, .bool r2] => Q r1 r2 h
  | _ => False

def zf5.C (vs : List V) (κ : V → Heap → Prop) (h : Heap) : Prop :=
  match vs with
  | [.str a1] => zf5 a1 (fun r1 r2 h => κ (.tup [.int .i64 r1, .bool r2]) h) h
  | _ => False

noncomputable def zf5.calls : List (Nat × (List V → (V → Heap → Prop) → Heap → Prop)) := [(394, zf69.C), (393, zf70.C), (395, zf57.C)]

noncomputable def zf5.E (Q : Int → Bool → Heap → Prop) (cuts : List (Nat × (List Nat × (List V → Heap → Prop)))) : Env := { tis := tisT, fns := fnsT, tys := tysT, gls := [], rts := rtsT, unk := [], nxt := [], calls := zf5.calls, ifc := noIfc, cuts := cuts, ret := zf5.ret Q, rets := [.tmp 2, .tmp 3], n := 39 }

theorem zf5.callsOK {W0 : World} : CallsOK sg W0 zf5.calls := ⟨zf69.S, zf70.S, zf57.S, trivial⟩

def zf5.k3 (I : Heap → Prop) (vs : List V) (h : Heap) : Prop :=
  match vs with
  | [] => I  h
  | _ => False

def zf5.k4 (I : (List UInt8) → Heap → Prop) (vs : List V) (h : Heap) : Prop :=
  match vs with
  | [.str a1] => I a1 h
  | _ => False

theorem zf5.p3 : (posC zf5.code []).filter (fun p => Nat.beq p.1 3) = [(3, atPos (posC zf5.code []) 3)] := by kernel_rfl

theorem zf5.e3 : ∀   (Q : Int → Bool → Heap → Prop) (h : Heap), zf5.j3   Q h = pts (zf5.E Q []) 3000 true (atPos (posC zf5.code []) 3) (frAt [] []) h := by
  intros; kernel_rfl

theorem zf5.s3 {W0 : World} (Q : Int → Bool → Heap → Prop)   : CutOK sg W0 39 (entered 80) (Post sg W0 (zf5.ret Q)) (posC zf5.code []) 3 [] (zf5.k3 (fun  h => zf5.j3   Q h)) := by
  refine cutOK_head (fun vs h hk => ?_)
  unfold zf5.k3 at hk
  split at hk
  · skip
    intro todo hm ρ a w s f hp
    exact piece (E := zf5.E Q []) (vs := []) (envOK seatOK zf5.callsOK noIfc_ok) (fnOK seatOK zf5.fun) trivial zf5.p3 (fuel := 3000) (by rw [← zf5.e3]; exact hk) hm s f hp
  · exact hk.elim

theorem zf5.p4 : (posC zf5.code []).filter (fun p => Nat.beq p.1 4) = [(4, atPos (posC zf5.code []) 4)] := by kernel_rfl

theorem zf5.e4 : ∀  (a1 : List UInt8) (Q : Int → Bool → Heap → Prop) (h : Heap), zf5.j4  a1 Q h = pts (zf5.E Q []) 3000 true (atPos (posC zf5.code []) 4) (frAt [0] [.str a1]) h := by
  intros; kernel_rfl

theorem zf5.s4 {W0 : World} (Q : Int → Bool → Heap → Prop)   : CutOK sg W0 39 (entered 80) (Post sg W0 (zf5.ret Q)) (posC zf5.code []) 4 [0] (zf5.k4 (fun a1 h => zf5.j4  a1 Q h)) := by
  refine cutOK_head (fun vs h hk => ?_)
  unfold zf5.k4 at hk
  split at hk
  · rename_i a1
    intro todo hm ρ a w s f hp
    exact piece (E := zf5.E Q []) (vs := [.str a1]) (envOK seatOK zf5.callsOK noIfc_ok) (fnOK seatOK zf5.fun) trivial zf5.p4 (fuel := 3000) (by rw [← zf5.e4]; exact hk) hm s f hp
  · exact hk.elim

theorem zf5.e : ∀ (a1 : List UInt8) (Q : Int → Bool → Heap → Prop) (h : Heap), zf5 a1 Q h = pts (zf5.E Q [(3, ([], zf5.k3 (fun  h => zf5.j3   Q h))), (4, ([0], zf5.k4 (fun a1 h => zf5.j4  a1 Q h)))]) 3000 true [.code zf5.code] (frOf 0 [.str a1]) h := by
  intros; kernel_rfl

theorem zf5.S {W0 : World} : FnS sg W0 396 zf5.C := by
  intro vs κ h wv hx w s
  unfold zf5.C at hx
  split at hx
  · rename_i a1
    refine postImp (ret := zf5.ret (fun r1 r2 h => κ (.tup [.int .i64 r1, .bool r2]) h)) (fun v h hr => by unfold zf5.ret at hr; split at hr; exact hr; exact hr.elim) ?_
    exact calls_of_pts (E := zf5.E (fun r1 r2 h => κ (.tup [.int .i64 r1, .bool r2]) h) [(3, ([], zf5.k3 (fun  h => zf5.j3   (fun r1 r2 h => κ (.tup [.int .i64 r1, .bool r2]) h) h))), (4, ([0], zf5.k4 (fun a1 h => zf5.j4  a1 (fun r1 r2 h => κ (.tup [.int .i64 r1, .bool r2]) h) h)))]) (envOK seatOK zf5.callsOK noIfc_ok) seatOK.mixed zf5.fun (Nat.le_of_ble_eq_true rfl) wv (cutL_ok ⟨(zf5.s3 (fun r1 r2 h => κ (.tup [.int .i64 r1, .bool r2]) h)), (zf5.s4 (fun r1 r2 h => κ (.tup [.int .i64 r1, .bool r2]) h)), trivial⟩) s (fuel := 3000) (by rw [← zf5.e]; exact hx)
  · exact hx.elim

noncomputable def zf13.code : Code := Go.Proofs.Tryz.f78.body.getD .skip

theorem zf13.fun : Fun sg.P 78 31 [.tmp 2, .tmp 3] zf13.code := mkFun Go.Proofs.Tryz.func78 (by kernel_rfl) (by kernel_rfl) (by kernel_rfl) (by kernel_rfl)

def zf13.ret (Q : Int → Bool → Heap → Prop) (v : V) (h : Heap) : Prop :=
  match v with
  | .tup [.int .i64 r1, .bool r2] => Q r1 r2 h
  | _ => False

def zf13.C (vs : List V) (κ : V → Heap → Prop) (h : Heap) : Prop :=
  match vs with
  | [.str a1] => zf13 a1 (fun r1 r2 h => κ (.tup [.int .i64 r1, .bool r2]) h) h
  | _ => False

noncomputable def zf13.calls : List (Nat × (List V → (V → Heap → Prop) → Heap → Prop)) := [(396, zf5.C), (391, zf61.C)]

noncomputable def zf13.E (Q : Int → Bool → Heap → Prop) (cuts : List (Nat × (List Nat × (List V → Heap → Prop)))) : Env := { tis := tisT, fns := fnsT, tys := tysT, gls := [], rts := rtsT, unk := [], nxt := [], calls := zf13.calls, ifc := noIfc, cuts := cuts, ret := zf13.ret Q, rets := [.tmp 2, .tmp 3], n := 31 }

theorem zf13.callsOK {W0 : World} : CallsOK sg W0 zf13.calls := ⟨zf5.S, zf61.S, trivial⟩

theorem zf13.e : ∀ (a1 : List UInt8) (Q : Int → Bool → Heap → Prop) (h : Heap), zf13 a1 Q h = pts (zf13.E Q []) 3000 true [.code zf13.code] (frOf 0 [.str a1]) h := by
  intros; kernel_rfl

theorem zf13.S {W0 : World} : FnS sg W0 397 zf13.C := by
  intro vs κ h wv hx w s
  unfold zf13.C at hx
  split at hx
  · rename_i a1
    refine postImp (ret := zf13.ret (fun r1 r2 h => κ (.tup [.int .i64 r1, .bool r2]) h)) (fun v h hr => by unfold zf13.ret at hr; split at hr; exact hr; exact hr.elim) ?_
    exact calls_of_pts (E := zf13.E (fun r1 r2 h => κ (.tup [.int .i64 r1, .bool r2]) h) []) (envOK seatOK zf13.callsOK noIfc_ok) seatOK.mixed zf13.fun (Nat.le_of_ble_eq_true rfl) wv (cutL_ok trivial) s (fuel := 3000) (by rw [← zf13.e]; exact hx)
  · exact hx.elim

noncomputable def zf4.code : Code := Go.Proofs.Tryz.f49.body.getD .skip

theorem zf4.fun : Fun sg.P 49 36 [.tmp 2] zf4.code := mkFun Go.Proofs.Tryz.func49 (by kernel_rfl) (by kernel_rfl) (by kernel_rfl) (by kernel_rfl)

def zf4.ret (Q : Bool → Heap → Prop) (v : V) (h : Heap) : Prop :=
  match v with
  | .bool r1 => Q r1 h
  | _ => False

def zf4.C (vs : List V) (κ : V → Heap → Prop) (h : Heap) : Prop :=
  match vs with
  | [.str a1] => zf4 a1 (fun r1 h => κ (.bool r1) h) h
  | _ => False

noncomputable def zf4.calls : List (Nat × (List V → (V → Heap → Prop) → Heap → Prop)) := [(397, zf13.C), (394, zf69.C)]

noncomputable def zf4.E (Q : Bool → Heap → Prop) (cuts : List (Nat × (List Nat × (List V → Heap → Prop)))) : Env := { tis := tisT, fns := fnsT, tys := tysT, gls := [], rts := rtsT, unk := [], nxt := [], calls := zf4.calls, ifc := noIfc, cuts := cuts, ret := zf4.ret Q, rets := [.tmp 2], n := 36 }

theorem zf4.callsOK {W0 : World} : CallsOK sg W0 zf4.calls := ⟨zf13.S, zf69.S, trivial⟩

theorem zf4.e : ∀ (a1 : List UInt8) (Q : Bool → Heap → Prop) (h : Heap), zf4 a1 Q h = pts (zf4.E Q []) 3000 true [.code zf4.code] (frOf 0 [.str a1]) h := by
  intros; kernel_rfl

theorem zf4.S {W0 : World} : FnS sg W0 398 zf4.C := by
  intro vs κ h wv hx w s
  unfold zf4.C at hx
  split at hx
  · rename_i a1
    refine postImp (ret := zf4.ret (fun r1 h => κ (.bool r1) h)) (fun v h hr => by unfold zf4.ret at hr; split at hr; exact hr; exact hr.elim) ?_
    exact calls_of_pts (E := zf4.E (fun r1 h => κ (.bool r1) h) []) (envOK seatOK zf4.callsOK noIfc_ok) seatOK.mixed zf4.fun (Nat.le_of_ble_eq_true rfl) wv (cutL_ok trivial) s (fuel := 3000) (by rw [← zf4.e]; exact hx)
  · exact hx.elim

noncomputable def zf62.code : Code := Go.Proofs.Tryz.f19.body.getD .skip

theorem zf62.fun : Fun sg.P 19 106 [.tmp 2] zf62.code := mkFun Go.Proofs.Tryz.func19 (by kernel_rfl) (by kernel_rfl) (by kernel_rfl) (by kernel_rfl)

def zf62.ret (Q : Sl → Heap → Prop) (v : V) (h : Heap) : Prop :=
  match v with
  | .sl r1 => Q r1 h
  | _ => False

def zf62.C (U : Ifc) (vs : List V) (κ : V → Heap → Prop) (h : Heap) : Prop :=
  match vs with
  | [.str a1] => zf62 U a1 (fun r1 h => κ (.sl r1) h) h
  | _ => False

theorem zf62.S {W0 : World} {U : Ifc} (hU : IfcOK sg W0 glsT U) : FnS sg W0 336 (zf62.C U) := by
  intro vs κ h wv hx w s
  refine fields_S (g := 336) (c := 4) hU lays157 (by kernel_rfl) (by kernel_rfl) rfl zf62.fun vs κ h wv ?_ w s
  unfold zf62.C at hx
  split at hx
  · exact hx
  · exact hx.elim

noncomputable def zf7.code : Code := Go.Proofs.Tryz.f81.body.getD .skip

theorem zf7.fun : Fun sg.P 81 18 [.tmp 0] zf7.code := mkFun Go.Proofs.Tryz.func81 (by kernel_rfl) (by kernel_rfl) (by kernel_rfl) (by kernel_rfl)

def zf7.ret (Q : (Option Nat) → Heap → Prop) (v : V) (h : Heap) : Prop :=
  match v with
  | .map r1 => Q r1 h
  | _ => False

def zf7.C (U : Ifc) (vs : List V) (κ : V → Heap → Prop) (h : Heap) : Prop :=
  match vs with
  | [] => zf7 U  (fun r1 h => κ (.map r1) h) h
  | _ => False

noncomputable def zf7.calls (U : Ifc) : List (Nat × (List V → (V → Heap → Prop) → Heap → Prop)) := [(336, zf62.C U)]

noncomputable def zf7.E (U : Ifc) (Q : (Option Nat) → Heap → Prop) (cuts : List (Nat × (List Nat × (List V → Heap → Prop)))) : Env := { tis := tisT, fns := fnsT, tys := tysT, gls := glsT, rts := rtsT, unk := [], nxt := [], calls := zf7.calls U, ifc := U, cuts := cuts, ret := zf7.ret Q, rets := [.tmp 0], n := 18 }

theorem zf7.callsOK {W0 : World} {U : Ifc} (hU : IfcOK sg W0 glsT U) : CallsOK sg W0 (zf7.calls U) := ⟨(zf62.S hU), trivial⟩

def zf7.k3 (I : (Option Nat) → Sl → Int → Int → Heap → Prop) (vs : List V) (h : Heap) : Prop :=
  match vs with
  | [.map a1, .sl a2, .int .i64 a3, .int .i64 a4] => I a1 a2 a3 a4 h
  | _ => False

theorem zf7.p3 : (posC zf7.code []).filter (fun p => Nat.beq p.1 3) = [(3, atPos (posC zf7.code []) 3)] := by kernel_rfl

theorem zf7.e3 : ∀ (U : Ifc)  (I3 : (Option Nat) → Sl → Int → Int → Heap → Prop) (a1 : Option Nat) (a2 : Sl) (a3 : Int) (a4 : Int) (Q : (Option Nat) → Heap → Prop) (h : Heap), zf7.b3 U  I3 a1 a2 a3 a4 Q h = pts (zf7.E U Q [(3, ([1, 5, 6, 7], zf7.k3 I3))]) 3000 true (atPos (posC zf7.code []) 3) (frAt [1, 5, 6, 7] [.map a1, .sl a2, .int .i64 a3, .int .i64 a4]) h := by
  intros; kernel_rfl

theorem zf7.s3 {W0 : World} {U : Ifc} (hU : IfcOK sg W0 glsT U) (Q : (Option Nat) → Heap → Prop)   : CutOK sg W0 18 (entered 81) (Post sg W0 (zf7.ret Q)) (posC zf7.code []) 3 [1, 5, 6, 7] (zf7.k3 (fun a1 a2 a3 a4 h => zf7.j3 U  a1 a2 a3 a4 Q h)) := by
  refine cutOK_head (fun vs h hk => ?_)
  unfold zf7.k3 at hk
  split at hk
  · rename_i a1 a2 a3 a4
    refine hk (fun a1 a2 a3 a4 h => Head sg W0 18 (entered 81) (Post sg W0 (zf7.ret Q)) (posC zf7.code []) 3 [1, 5, 6, 7] [.map a1, .sl a2, .int .i64 a3, .int .i64 a4] h) ?_
    intro a1 a2 a3 a4 h hb todo hm ρ a w s f hp
    have hself : CutOK sg W0 18 (entered 81) (Post sg W0 (zf7.ret Q)) (posC zf7.code []) 3 [1, 5, 6, 7] (zf7.k3 (fun a1 a2 a3 a4 h => Head sg W0 18 (entered 81) (Post sg W0 (zf7.ret Q)) (posC zf7.code []) 3 [1, 5, 6, 7] [.map a1, .sl a2, .int .i64 a3, .int .i64 a4] h)) := cutOK_head (fun vs h hk => by unfold zf7.k3 at hk; split at hk; exact hk; exact hk.elim)
    exact piece (E := zf7.E U Q [(3, ([1, 5, 6, 7], zf7.k3 (fun a1 a2 a3 a4 h => Head sg W0 18 (entered 81) (Post sg W0 (zf7.ret Q)) (posC zf7.code []) 3 [1, 5, 6, 7] [.map a1, .sl a2, .int .i64 a3, .int .i64 a4] h)))]) (vs := [.map a1, .sl a2, .int .i64 a3, .int .i64 a4]) (envOK seatOK (zf7.callsOK hU) hU) (fnOK seatOK zf7.fun) ⟨hself, trivial⟩ zf7.p3 (fuel := 3000) (by rw [← zf7.e3]; exact hb) hm s f hp
  · exact hk.elim

theorem zf7.e : ∀ (U : Ifc)  (Q : (Option Nat) → Heap → Prop) (h : Heap), zf7 U  Q h = pts (zf7.E U Q [(3, ([1, 5, 6, 7], zf7.k3 (fun a1 a2 a3 a4 h => zf7.j3 U  a1 a2 a3 a4 Q h)))]) 3000 true [.code zf7.code] (frOf 0 []) h := by
  intros; kernel_rfl

theorem zf7.S {W0 : World} {U : Ifc} (hU : IfcOK sg W0 glsT U) : FnS sg W0 399 (zf7.C U) := by
  intro vs κ h wv hx w s
  unfold zf7.C at hx
  split at hx
  · skip
    refine postImp (ret := zf7.ret (fun r1 h => κ (.map r1) h)) (fun v h hr => by unfold zf7.ret at hr; split at hr; exact hr; exact hr.elim) ?_
    exact calls_of_pts (E := zf7.E U (fun r1 h => κ (.map r1) h) [(3, ([1, 5, 6, 7], zf7.k3 (fun a1 a2 a3 a4 h => zf7.j3 U  a1 a2 a3 a4 (fun r1 h => κ (.map r1) h) h)))]) (envOK seatOK (zf7.callsOK hU) hU) seatOK.mixed zf7.fun (Nat.le_of_ble_eq_true rfl) wv (cutL_ok ⟨(zf7.s3 hU (fun r1 h => κ (.map r1) h)), trivial⟩) s (fuel := 3000) (by rw [← zf7.e]; exact hx)
  · exact hx.elim

noncomputable def zf21.code : Code := Go.Proofs.Tryz.f88.body.getD .skip

theorem zf21.fun : Fun sg.P 88 18 [] zf21.code := mkFun Go.Proofs.Tryz.func88 (by kernel_rfl) (by kernel_rfl) (by kernel_rfl) (by kernel_rfl)

def zf21.ret (Q : Heap → Prop) (v : V) (h : Heap) : Prop :=
  match v with
  | .tup [] => Q  h
  | _ => False

def zf21.C (vs : List V) (κ : V → Heap → Prop) (h : Heap) : Prop :=
  match vs with
  | [.map a1, .int .i64 a2, .sl a3] => zf21 a1 a2 a3 (fun  h => κ (.tup []) h) h
  | _ => False

noncomputable def zf21.calls : List (Nat × (List V → (V → Heap → Prop) → Heap → Prop)) := []

noncomputable def zf21.E (Q : Heap → Prop) (cuts : List (Nat × (List Nat × (List V → Heap → Prop)))) : Env := { tis := tisT, fns := fnsT, tys := tysT, gls := [], rts := rtsT, unk := [], nxt := [], calls := zf21.calls, ifc := noIfc, cuts := cuts, ret := zf21.ret Q, rets := [], n := 18 }

theorem zf21.callsOK {W0 : World} : CallsOK sg W0 zf21.calls := trivial

def zf21.k1 (I : (Option Nat) → Int → Sl → Int → Int → Heap → Prop) (vs : List V) (h : Heap) : Prop :=
  match vs with
  | [.map a1, .int .i64 a2, .sl a3, .int .i64 a4, .int .i64 a5] => I a1 a2 a3 a4 a5 h
  | _ => False

theorem zf21.p1 : (posC zf21.code []).filter (fun p => Nat.beq p.1 1) = [(1, atPos (posC zf21.code []) 1)] := by kernel_rfl

theorem zf21.e1 : ∀  (I1 : (Option Nat) → Int → Sl → Int → Int → Heap → Prop) (a1 : Option Nat) (a2 : Int) (a3 : Sl) (a4 : Int) (a5 : Int) (Q : Heap → Prop) (h : Heap), zf21.b1  I1 a1 a2 a3 a4 a5 Q h = pts (zf21.E Q [(1, ([0, 1, 8, 9, 10], zf21.k1 I1))]) 3000 true (atPos (posC zf21.code []) 1) (frAt [0, 1, 8, 9, 10] [.map a1, .int .i64 a2, .sl a3, .int .i64 a4, .int .i64 a5]) h := by
  intros; kernel_rfl

theorem zf21.s1 {W0 : World} (Q : Heap → Prop)   : CutOK sg W0 18 (entered 88) (Post sg W0 (zf21.ret Q)) (posC zf21.code []) 1 [0, 1, 8, 9, 10] (zf21.k1 (fun a1 a2 a3 a4 a5 h => zf21.j1  a1 a2 a3 a4 a5 Q h)) := by
  refine cutOK_head (fun vs h hk => ?_)
  unfold zf21.k1 at hk
  split at hk
  · rename_i a1 a2 a3 a4 a5
    refine hk (fun a1 a2 a3 a4 a5 h => Head sg W0 18 (entered 88) (Post sg W0 (zf21.ret Q)) (posC zf21.code []) 1 [0, 1, 8, 9, 10] [.map a1, .int .i64 a2, .sl a3, .int .i64 a4, .int .i64 a5] h) ?_
    intro a1 a2 a3 a4 a5 h hb todo hm ρ a w s f hp
    have hself : CutOK sg W0 18 (entered 88) (Post sg W0 (zf21.ret Q)) (posC zf21.code []) 1 [0, 1, 8, 9, 10] (zf21.k1 (fun a1 a2 a3 a4 a5 h => Head sg W0 18 (entered 88) (Post sg W0 (zf21.ret Q)) (posC zf21.code []) 1 [0, 1, 8, 9, 10] [.map a1, .int .i64 a2, .sl a3, .int .i64 a4, .int .i64 a5] h)) := cutOK_head (fun vs h hk => by unfold zf21.k1 at hk; split at hk; exact hk; exact hk.elim)
    exact piece (E := zf21.E Q [(1, ([0, 1, 8, 9, 10], zf21.k1 (fun a1 a2 a3 a4 a5 h => Head sg W0 18 (entered 88) (Post sg W0 (zf21.ret Q)) (posC zf21.code []) 1 [0, 1, 8, 9, 10] [.map a1, .int .i64 a2, .sl a3, .int .i64 a4, .int .i64 a5] h)))]) (vs := [.map a1, .int .i64 a2, .sl a3, .int .i64 a4, .int .i64 a5]) (envOK seatOK zf21.callsOK noIfc_ok) (fnOK seatOK zf21.fun) ⟨hself, trivial⟩ zf21.p1 (fuel := 3000) (by rw [← zf21.e1]; exact hb) hm s f hp
  · exact hk.elim

theorem zf21.e : ∀ (a1 : Option Nat) (a2 : Int) (a3 : Sl) (Q : Heap → Prop) (h : Heap), zf21 a1 a2 a3 Q h = pts (zf21.E Q [(1, ([0, 1, 8, 9, 10], zf21.k1 (fun a1 a2 a3 a4 a5 h => zf21.j1  a1 a2 a3 a4 a5 Q h)))]) 3000 true [.code zf21.code] (frOf 0 [.map a1, .int .i64 a2, .sl a3]) h := by
  intros; kernel_rfl

theorem zf21.S {W0 : World} : FnS sg W0 173 zf21.C := by
  intro vs κ h wv hx w s
  unfold zf21.C at hx
  split at hx
  · rename_i a1 a2 a3
    refine postImp (ret := zf21.ret (fun  h => κ (.tup []) h)) (fun v h hr => by unfold zf21.ret at hr; split at hr; exact hr; exact hr.elim) ?_
    exact calls_of_pts (E := zf21.E (fun  h => κ (.tup []) h) [(1, ([0, 1, 8, 9, 10], zf21.k1 (fun a1 a2 a3 a4 a5 h => zf21.j1  a1 a2 a3 a4 a5 (fun  h => κ (.tup []) h) h)))]) (envOK seatOK zf21.callsOK noIfc_ok) seatOK.mixed zf21.fun (Nat.le_of_ble_eq_true rfl) wv (cutL_ok ⟨(zf21.s1 (fun  h => κ (.tup []) h)), trivial⟩) s (fuel := 3000) (by rw [← zf21.e]; exact hx)
  · exact hx.elim

noncomputable def zf20.code : Code := Go.Proofs.Tryz.f64.body.getD .skip

theorem zf20.fun : Fun sg.P 64 23 [.tmp 0] zf20.code := mkFun Go.Proofs.Tryz.func64 (by kernel_rfl) (by kernel_rfl) (by kernel_rfl) (by kernel_rfl)

def zf20.ret (Q : (Option Nat) → Heap → Prop) (v : V) (h : Heap) : Prop :=
  match v with
  | .map r1 => Q r1 h
  | _ => False

def zf20.C (vs : List V) (κ : V → Heap → Prop) (h : Heap) : Prop :=
  match vs with
  | [] => zf20  (fun r1 h => κ (.map r1) h) h
  | _ => False

noncomputable def zf20.calls : List (Nat × (List V → (V → Heap → Prop) → Heap → Prop)) := [(173, zf21.C)]

noncomputable def zf20.E (Q : (Option Nat) → Heap → Prop) (cuts : List (Nat × (List Nat × (List V → Heap → Prop)))) : Env := { tis := tisT, fns := fnsT, tys := tysT, gls := [], rts := rtsT, unk := [], nxt := [], calls := zf20.calls, ifc := noIfc, cuts := cuts, ret := zf20.ret Q, rets := [.tmp 0], n := 23 }

theorem zf20.callsOK {W0 : World} : CallsOK sg W0 zf20.calls := ⟨zf21.S, trivial⟩

theorem zf20.e : ∀  (Q : (Option Nat) → Heap → Prop) (h : Heap), zf20  Q h = pts (zf20.E Q []) 3000 true [.code zf20.code] (frOf 0 []) h := by
  intros; kernel_rfl

theorem zf20.S {W0 : World} : FnS sg W0 174 zf20.C := by
  intro vs κ h wv hx w s
  unfold zf20.C at hx
  split at hx
  · skip
    refine postImp (ret := zf20.ret (fun r1 h => κ (.map r1) h)) (fun v h hr => by unfold zf20.ret at hr; split at hr; exact hr; exact hr.elim) ?_
    exact calls_of_pts (E := zf20.E (fun r1 h => κ (.map r1) h) []) (envOK seatOK zf20.callsOK noIfc_ok) seatOK.mixed zf20.fun (Nat.le_of_ble_eq_true rfl) wv (cutL_ok trivial) s (fuel := 3000) (by rw [← zf20.e]; exact hx)
  · exact hx.elim

noncomputable def zf17.code : Code := Go.Proofs.Tryz.f33.body.getD .skip

theorem zf17.fun : Fun sg.P 33 14 [.tmp 2, .tmp 3] zf17.code := mkFun Go.Proofs.Tryz.func33 (by kernel_rfl) (by kernel_rfl) (by kernel_rfl) (by kernel_rfl)

def zf17.ret (Q : Int → Bool → Heap → Prop) (v : V) (h : Heap) : Prop :=
  match v with
  | .tup [.int .i64 r1, .bool r2] => Q r1 r2 h
  | _ => False

def zf17.C (vs : List V) (κ : V → Heap → Prop) (h : Heap) : Prop :=
  match vs with
  | [.int .i64 a1] => zf17 a1 (fun r1 r2 h => κ (.tup [.int .i64 r1, .bool r2]) h) h
  | _ => False

noncomputable def zf17.calls : List (Nat × (List V → (V → Heap → Prop) → Heap → Prop)) := [(174, zf20.C)]

noncomputable def zf17.E (Q : Int → Bool → Heap → Prop) (cuts : List (Nat × (List Nat × (List V → Heap → Prop)))) : Env := { tis := tisT, fns := fnsT, tys := tysT, gls := [], rts := rtsT, unk := [], nxt := [], calls := zf17.calls, ifc := noIfc, cuts := cuts, ret := zf17.ret Q, rets := [.tmp 2, .tmp 3], n := 14 }

theorem zf17.callsOK {W0 : World} : CallsOK sg W0 zf17.calls := ⟨zf20.S, trivial⟩

theorem zf17.e : ∀ (a1 : Int) (Q : Int → Bool → Heap → Prop) (h : Heap), zf17 a1 Q h = pts (zf17.E Q []) 3000 true [.code zf17.code] (frOf 0 [.int .i64 a1]) h := by
  intros; kernel_rfl

theorem zf17.S {W0 : World} : FnS sg W0 175 zf17.C := by
  intro vs κ h wv hx w s
  unfold zf17.C at hx
  split at hx
  · rename_i a1
    refine postImp (ret := zf17.ret (fun r1 r2 h => κ (.tup [.int .i64 r1, .bool r2]) h)) (fun v h hr => by unfold zf17.ret at hr; split at hr; exact hr; exact hr.elim) ?_
    exact calls_of_pts (E := zf17.E (fun r1 r2 h => κ (.tup [.int .i64 r1, .bool r2]) h) []) (envOK seatOK zf17.callsOK noIfc_ok) seatOK.mixed zf17.fun (Nat.le_of_ble_eq_true rfl) wv (cutL_ok trivial) s (fuel := 3000) (by rw [← zf17.e]; exact hx)
  · exact hx.elim

noncomputable def zf55.code : Code := Go.Proofs.Tryz.f70.body.getD .skip

theorem zf55.fun : Fun sg.P 70 19 [.tmp 4] zf55.code := mkFun Go.Proofs.Tryz.func70 (by kernel_rfl) (by kernel_rfl) (by kernel_rfl) (by kernel_rfl)

def zf55.ret (Q : Int → Heap → Prop) (v : V) (h : Heap) : Prop :=
  match v with
  | .int .i64 r1 => Q r1 h
  | _ => False

def zf55.C (vs : List V) (κ : V → Heap → Prop) (h : Heap) : Prop :=
  match vs with
  | [.sl a1, .int .i64 a2] => zf55 a1 a2 (fun r1 h => κ (.int .i64 r1) h) h
  | _ => False

noncomputable def zf55.calls : List (Nat × (List V → (V → Heap → Prop) → Heap → Prop)) := []

noncomputable def zf55.E (Q : Int → Heap → Prop) (cuts : List (Nat × (List Nat × (List V → Heap → Prop)))) : Env := { tis := tisT, fns := fnsT, tys := tysT, gls := [], rts := rtsT, unk := [], nxt := [], calls := zf55.calls, ifc := noIfc, cuts := cuts, ret := zf55.ret Q, rets := [.tmp 4], n := 19 }

theorem zf55.callsOK {W0 : World} : CallsOK sg W0 zf55.calls := trivial

def zf55.k2 (I : Sl → Int → Int → Int → Heap → Prop) (vs : List V) (h : Heap) : Prop :=
  match vs with
  | [.sl a1, .int .i64 a2, .int .i64 a3, .int .i64 a4] => I a1 a2 a3 a4 h
  | _ => False

theorem zf55.p2 : (posC zf55.code []).filter (fun p => Nat.beq p.1 2) = [(2, atPos (posC zf55.code []) 2)] := by kernel_rfl

theorem zf55.e2 : ∀  (I2 : Sl → Int → Int → Int → Heap → Prop) (a1 : Sl) (a2 : Int) (a3 : Int) (a4 : Int) (Q : Int → Heap → Prop) (h : Heap), zf55.b2  I2 a1 a2 a3 a4 Q h = pts (zf55.E Q [(2, ([0, 1, 7, 8], zf55.k2 I2))]) 3000 true (atPos (posC zf55.code []) 2) (frAt [0, 1, 7, 8] [.sl a1, .int .i64 a2, .int .i64 a3, .int .i64 a4]) h := by
  intros; kernel_rfl

theorem zf55.s2 {W0 : World} (Q : Int → Heap → Prop)   : CutOK sg W0 19 (entered 70) (Post sg W0 (zf55.ret Q)) (posC zf55.code []) 2 [0, 1, 7, 8] (zf55.k2 (fun a1 a2 a3 a4 h => zf55.j2  a1 a2 a3 a4 Q h)) := by
  refine cutOK_head (fun vs h hk => ?_)
  unfold zf55.k2 at hk
  split at hk
  · rename_i a1 a2 a3 a4
    refine hk (fun a1 a2 a3 a4 h => Head sg W0 19 (entered 70) (Post sg W0 (zf55.ret Q)) (posC zf55.code []) 2 [0, 1, 7, 8] [.sl a1, .int .i64 a2, .int .i64 a3, .int .i64 a4] h) ?_
    intro a1 a2 a3 a4 h hb todo hm ρ a w s f hp
    have hself : CutOK sg W0 19 (entered 70) (Post sg W0 (zf55.ret Q)) (posC zf55.code []) 2 [0, 1, 7, 8] (zf55.k2 (fun a1 a2 a3 a4 h => Head sg W0 19 (entered 70) (Post sg W0 (zf55.ret Q)) (posC zf55.code []) 2 [0, 1, 7, 8] [.sl a1, .int .i64 a2, .int .i64 a3, .int .i64 a4] h)) := cutOK_head (fun vs h hk => by unfold zf55.k2 at hk; split at hk; exact hk; exact hk.elim)
    exact piece (E := zf55.E Q [(2, ([0, 1, 7, 8], zf55.k2 (fun a1 a2 a3 a4 h => Head sg W0 19 (entered 70) (Post sg W0 (zf55.ret Q)) (posC zf55.code []) 2 [0, 1, 7, 8] [.sl a1, .int .i64 a2, .int .i64 a3, .int .i64 a4] h)))]) (vs := [.sl a1, .int .i64 a2, .int .i64 a3, .int .i64 a4]) (envOK seatOK zf55.callsOK noIfc_ok) (fnOK seatOK zf55.fun) ⟨hself, trivial⟩ zf55.p2 (fuel := 3000) (by rw [← zf55.e2]; exact hb) hm s f hp
  · exact hk.elim

theorem zf55.e : ∀ (a1 : Sl) (a2 : Int) (Q : Int → Heap → Prop) (h : Heap), zf55 a1 a2 Q h = pts (zf55.E Q [(2, ([0, 1, 7, 8], zf55.k2 (fun a1 a2 a3 a4 h => zf55.j2  a1 a2 a3 a4 Q h)))]) 3000 true [.code zf55.code] (frOf 0 [.sl a1, .int .i64 a2]) h := by
  intros; kernel_rfl

theorem zf55.S {W0 : World} : FnS sg W0 337 zf55.C := by
  intro vs κ h wv hx w s
  unfold zf55.C at hx
  split at hx
  · rename_i a1 a2
    refine postImp (ret := zf55.ret (fun r1 h => κ (.int .i64 r1) h)) (fun v h hr => by unfold zf55.ret at hr; split at hr; exact hr; exact hr.elim) ?_
    exact calls_of_pts (E := zf55.E (fun r1 h => κ (.int .i64 r1) h) [(2, ([0, 1, 7, 8], zf55.k2 (fun a1 a2 a3 a4 h => zf55.j2  a1 a2 a3 a4 (fun r1 h => κ (.int .i64 r1) h) h)))]) (envOK seatOK zf55.callsOK noIfc_ok) seatOK.mixed zf55.fun (Nat.le_of_ble_eq_true rfl) wv (cutL_ok ⟨(zf55.s2 (fun r1 h => κ (.int .i64 r1) h)), trivial⟩) s (fuel := 3000) (by rw [← zf55.e]; exact hx)
  · exact hx.elim

noncomputable def zf54.code : Code := Go.Proofs.Tryz.f39.body.getD .skip

theorem zf54.fun : Fun sg.P 39 9 [.tmp 4] zf54.code := mkFun Go.Proofs.Tryz.func39 (by kernel_rfl) (by kernel_rfl) (by kernel_rfl) (by kernel_rfl)

def zf54.ret (Q : Bool → Heap → Prop) (v : V) (h : Heap) : Prop :=
  match v with
  | .bool r1 => Q r1 h
  | _ => False

def zf54.C (vs : List V) (κ : V → Heap → Prop) (h : Heap) : Prop :=
  match vs with
  | [.sl a1, .int .i64 a2] => zf54 a1 a2 (fun r1 h => κ (.bool r1) h) h
  | _ => False

noncomputable def zf54.calls : List (Nat × (List V → (V → Heap → Prop) → Heap → Prop)) := [(337, zf55.C)]

noncomputable def zf54.E (Q : Bool → Heap → Prop) (cuts : List (Nat × (List Nat × (List V → Heap → Prop)))) : Env := { tis := tisT, fns := fnsT, tys := tysT, gls := [], rts := rtsT, unk := [], nxt := [], calls := zf54.calls, ifc := noIfc, cuts := cuts, ret := zf54.ret Q, rets := [.tmp 4], n := 9 }

theorem zf54.callsOK {W0 : World} : CallsOK sg W0 zf54.calls := ⟨zf55.S, trivial⟩

theorem zf54.e : ∀ (a1 : Sl) (a2 : Int) (Q : Bool → Heap → Prop) (h : Heap), zf54 a1 a2 Q h = pts (zf54.E Q []) 3000 true [.code zf54.code] (frOf 0 [.sl a1, .int .i64 a2]) h := by
  intros; kernel_rfl

theorem zf54.S {W0 : World} : FnS sg W0 338 zf54.C := by
  intro vs κ h wv hx w s
  unfold zf54.C at hx
  split at hx
  · rename_i a1 a2
    refine postImp (ret := zf54.ret (fun r1 h => κ (.bool r1) h)) (fun v h hr => by unfold zf54.ret at hr; split at hr; exact hr; exact hr.elim) ?_
    exact calls_of_pts (E := zf54.E (fun r1 h => κ (.bool r1) h) []) (envOK seatOK zf54.callsOK noIfc_ok) seatOK.mixed zf54.fun (Nat.le_of_ble_eq_true rfl) wv (cutL_ok trivial) s (fuel := 3000) (by rw [← zf54.e]; exact hx)
  · exact hx.elim

noncomputable def zf8.code : Code := Go.Proofs.Tryz.f20.body.getD .skip

theorem zf8.fun : Fun sg.P 20 24 [.tmp 2] zf8.code := mkFun Go.Proofs.Tryz.func20 (by kernel_rfl) (by kernel_rfl) (by kernel_rfl) (by kernel_rfl)

def zf8.ret (Q : (List UInt8) → Heap → Prop) (v : V) (h : Heap) : Prop :=
  match v with
  | .str r1 => Q r1 h
  | _ => False

def zf8.C (vs : List V) (κ : V → Heap → Prop) (h : Heap) : Prop :=
  match vs with
  | [.int .i64 a1] => zf8 a1 (fun r1 h => κ (.str r1) h) h
  | _ => False

noncomputable def zf8.calls : List (Nat × (List V → (V → Heap → Prop) → Heap → Prop)) := [(175, zf17.C), (338, zf54.C)]

noncomputable def zf8.E (Q : (List UInt8) → Heap → Prop) (cuts : List (Nat × (List Nat × (List V → Heap → Prop)))) : Env := { tis := tisT, fns := fnsT, tys := tysT, gls := [], rts := rtsT, unk := [], nxt := [], calls := zf8.calls, ifc := noIfc, cuts := cuts, ret := zf8.ret Q, rets := [.tmp 2], n := 24 }

theorem zf8.callsOK {W0 : World} : CallsOK sg W0 zf8.calls := ⟨zf17.S, zf54.S, trivial⟩

theorem zf8.e : ∀ (a1 : Int) (Q : (List UInt8) → Heap → Prop) (h : Heap), zf8 a1 Q h = pts (zf8.E Q []) 3000 true [.code zf8.code] (frOf 0 [.int .i64 a1]) h := by
  intros; kernel_rfl

theorem zf8.S {W0 : World} : FnS sg W0 339 zf8.C := by
  intro vs κ h wv hx w s
  unfold zf8.C at hx
  split at hx
  · rename_i a1
    refine postImp (ret := zf8.ret (fun r1 h => κ (.str r1) h)) (fun v h hr => by unfold zf8.ret at hr; split at hr; exact hr; exact hr.elim) ?_
    exact calls_of_pts (E := zf8.E (fun r1 h => κ (.str r1) h) []) (envOK seatOK zf8.callsOK noIfc_ok) seatOK.mixed zf8.fun (Nat.le_of_ble_eq_true rfl) wv (cutL_ok trivial) s (fuel := 3000) (by rw [← zf8.e]; exact hx)
  · exact hx.elim

end Go.Fn
