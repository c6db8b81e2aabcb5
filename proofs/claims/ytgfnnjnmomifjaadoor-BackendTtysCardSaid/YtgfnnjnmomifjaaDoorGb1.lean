/- The links of the shallow functions to the machine. PRINTED by lift.py. -/
import Derived.Test.YtgfnnjnmomifjaaDoorGb0
set_option linter.unusedVariables false
set_option maxRecDepth 100000
namespace Go.Fn
open Go.Lift

noncomputable def mem_Memory_number.code : Code := Go.Proofs.Tryd.f90.body.getD .skip

theorem mem_Memory_number.fun : Fun sg.P 90 34 [.tmp 6, .tmp 7] mem_Memory_number.code := mkFun Go.Proofs.Tryd.func90 (by kernel_rfl) (by kernel_rfl) (by kernel_rfl) (by kernel_rfl)

def mem_Memory_number.ret (Q : Sl → Int → Heap → Prop) (v : V) (h : Heap) : Prop :=
  match v with
  | .tup [.sl r1, .int .i64 r2] => Q r1 r2 h
  | _ => False

def mem_Memory_number.C (vs : List V) (κ : V → Heap → Prop) (h : Heap) : Prop :=
  match vs with
  | [.ptr a1, .int .u64 a2, .int .i64 a3] => mem_Memory_number a1 a2 a3 (fun r1 r2 h => κ (.tup [.sl r1, .int .i64 r2]) h) h
  | _ => False

noncomputable def mem_Memory_number.calls : List (Nat × (List V → (V → Heap → Prop) → Heap → Prop)) := [(32, mem_Memory_part.C), (31, mem_Memory_none.C)]

noncomputable def mem_Memory_number.E (Q : Sl → Int → Heap → Prop) (cuts : List (Nat × (List Nat × (List V → Heap → Prop)))) : Env := { tis := tisT, fns := fnsT, tys := tysT, gls := [], rts := rtsT, unk := [], nxt := [], calls := mem_Memory_number.calls, ifc := noIfc, cuts := cuts, ret := mem_Memory_number.ret Q, rets := [.tmp 6, .tmp 7], n := 34 }

theorem mem_Memory_number.callsOK {W0 : World} : CallsOK sg W0 mem_Memory_number.calls := ⟨mem_Memory_part.S, mem_Memory_none.S, trivial⟩

def mem_Memory_number.k5 (I : (Option Ptr) → Int → Int → Heap → Prop) (vs : List V) (h : Heap) : Prop :=
  match vs with
  | [.ptr a1, .int .u64 a2, .int .i64 a3] => I a1 a2 a3 h
  | _ => False

theorem mem_Memory_number.p5 : (posC mem_Memory_number.code []).filter (fun p => Nat.beq p.1 5) = [(5, atPos (posC mem_Memory_number.code []) 5)] := by kernel_rfl

theorem mem_Memory_number.e5 : ∀  (a1 : Option Ptr) (a2 : Int) (a3 : Int) (Q : Sl → Int → Heap → Prop) (h : Heap), mem_Memory_number.j5  a1 a2 a3 Q h = pts (mem_Memory_number.E Q []) 3000 true (atPos (posC mem_Memory_number.code []) 5) (frAt [0, 1, 2] [.ptr a1, .int .u64 a2, .int .i64 a3]) h := by
  intros; kernel_rfl

theorem mem_Memory_number.s5 {W0 : World} (Q : Sl → Int → Heap → Prop)   : CutOK sg W0 34 (entered 90) (Post sg W0 (mem_Memory_number.ret Q)) (posC mem_Memory_number.code []) 5 [0, 1, 2] (mem_Memory_number.k5 (fun a1 a2 a3 h => mem_Memory_number.j5  a1 a2 a3 Q h)) := by
  refine cutOK_head (fun vs h hk => ?_)
  unfold mem_Memory_number.k5 at hk
  split at hk
  · rename_i a1 a2 a3
    intro todo hm ρ a w s f hp
    exact piece (E := mem_Memory_number.E Q []) (vs := [.ptr a1, .int .u64 a2, .int .i64 a3]) (envOK seatOK mem_Memory_number.callsOK noIfc_ok) (fnOK seatOK mem_Memory_number.fun) trivial mem_Memory_number.p5 (fuel := 3000) (by rw [← mem_Memory_number.e5]; exact hk) hm s f hp
  · exact hk.elim

theorem mem_Memory_number.e : ∀ (a1 : Option Ptr) (a2 : Int) (a3 : Int) (Q : Sl → Int → Heap → Prop) (h : Heap), mem_Memory_number a1 a2 a3 Q h = pts (mem_Memory_number.E Q [(5, ([0, 1, 2], mem_Memory_number.k5 (fun a1 a2 a3 h => mem_Memory_number.j5  a1 a2 a3 Q h)))]) 3000 true [.code mem_Memory_number.code] (frOf 0 [.ptr a1, .int .u64 a2, .int .i64 a3]) h := by
  intros; kernel_rfl

theorem mem_Memory_number.S {W0 : World} : FnS sg W0 59 mem_Memory_number.C := by
  intro vs κ h wv hx w s
  unfold mem_Memory_number.C at hx
  split at hx
  · rename_i a1 a2 a3
    refine postImp (ret := mem_Memory_number.ret (fun r1 r2 h => κ (.tup [.sl r1, .int .i64 r2]) h)) (fun v h hr => by unfold mem_Memory_number.ret at hr; split at hr; exact hr; exact hr.elim) ?_
    exact calls_of_pts (E := mem_Memory_number.E (fun r1 r2 h => κ (.tup [.sl r1, .int .i64 r2]) h) [(5, ([0, 1, 2], mem_Memory_number.k5 (fun a1 a2 a3 h => mem_Memory_number.j5  a1 a2 a3 (fun r1 r2 h => κ (.tup [.sl r1, .int .i64 r2]) h) h)))]) (envOK seatOK mem_Memory_number.callsOK noIfc_ok) seatOK.mixed mem_Memory_number.fun (Nat.le_of_ble_eq_true rfl) wv (cutL_ok ⟨(mem_Memory_number.s5 (fun r1 r2 h => κ (.tup [.sl r1, .int .i64 r2]) h)), trivial⟩) s (fuel := 3000) (by rw [← mem_Memory_number.e]; exact hx)
  · exact hx.elim

noncomputable def word_known.code : Code := Go.Proofs.Tryd.f104.body.getD .skip

theorem word_known.fun : Fun sg.P 104 17 [.tmp 2] word_known.code := mkFun Go.Proofs.Tryd.func104 (by kernel_rfl) (by kernel_rfl) (by kernel_rfl) (by kernel_rfl)

def word_known.ret (Q : Bool → Heap → Prop) (v : V) (h : Heap) : Prop :=
  match v with
  | .bool r1 => Q r1 h
  | _ => False

def word_known.C (U : Ifc) (vs : List V) (κ : V → Heap → Prop) (h : Heap) : Prop :=
  match vs with
  | [.int .i64 a1] => word_known U a1 (fun r1 h => κ (.bool r1) h) h
  | _ => False

noncomputable def word_known.calls (U : Ifc) : List (Nat × (List V → (V → Heap → Prop) → Heap → Prop)) := []

noncomputable def word_known.E (U : Ifc) (Q : Bool → Heap → Prop) (cuts : List (Nat × (List Nat × (List V → Heap → Prop)))) : Env := { tis := tisT, fns := fnsT, tys := tysT, gls := glsT, rts := rtsT, unk := [], nxt := [], calls := word_known.calls U, ifc := U, cuts := cuts, ret := word_known.ret Q, rets := [.tmp 2], n := 17 }

theorem word_known.callsOK {W0 : World} {U : Ifc} (hU : IfcOK sg W0 glsT U) : CallsOK sg W0 (word_known.calls U) := trivial

def word_known.k6 (I : Int → Int → Int → Int → Int → Int → Heap → Prop) (vs : List V) (h : Heap) : Prop :=
  match vs with
  | [.int .i64 a1, .agg [.int .i64 a2, .int .i64 a3, .int .i64 a4, .int .i64 a5], .int .i64 a6] => I a1 a2 a3 a4 a5 a6 h
  | _ => False

def word_known.k2 (I : Int → Int → Int → Int → Int → Int → Heap → Prop) (vs : List V) (h : Heap) : Prop :=
  match vs with
  | [.int .i64 a1, .agg [.int .i64 a2, .int .i64 a3, .int .i64 a4, .int .i64 a5], .int .i64 a6] => I a1 a2 a3 a4 a5 a6 h
  | _ => False

theorem word_known.p6 : (posC word_known.code []).filter (fun p => Nat.beq p.1 6) = [(6, atPos (posC word_known.code []) 6)] := by kernel_rfl

theorem word_known.e6 : ∀ (U : Ifc) (I2 : Int → Int → Int → Int → Int → Int → Heap → Prop) (a1 : Int) (a2 : Int) (a3 : Int) (a4 : Int) (a5 : Int) (a6 : Int) (Q : Bool → Heap → Prop) (h : Heap), word_known.j6 U I2 a1 a2 a3 a4 a5 a6 Q h = pts (word_known.E U Q [(2, ([0, 5, 6], word_known.k2 I2))]) 3000 true (atPos (posC word_known.code []) 6) (frAt [0, 5, 6] [.int .i64 a1, .agg [.int .i64 a2, .int .i64 a3, .int .i64 a4, .int .i64 a5], .int .i64 a6]) h := by
  intros; kernel_rfl

theorem word_known.s6 {W0 : World} {U : Ifc} (hU : IfcOK sg W0 glsT U) (Q : Bool → Heap → Prop) (I2 : Int → Int → Int → Int → Int → Int → Heap → Prop) (h2 : CutOK sg W0 17 (entered 104) (Post sg W0 (word_known.ret Q)) (posC word_known.code []) 2 [0, 5, 6] (word_known.k2 I2)) : CutOK sg W0 17 (entered 104) (Post sg W0 (word_known.ret Q)) (posC word_known.code []) 6 [0, 5, 6] (word_known.k6 (fun a1 a2 a3 a4 a5 a6 h => word_known.j6 U I2 a1 a2 a3 a4 a5 a6 Q h)) := by
  refine cutOK_head (fun vs h hk => ?_)
  unfold word_known.k6 at hk
  split at hk
  · rename_i a1 a2 a3 a4 a5 a6
    intro todo hm ρ a w s f hp
    exact piece (E := word_known.E U Q [(2, ([0, 5, 6], word_known.k2 I2))]) (vs := [.int .i64 a1, .agg [.int .i64 a2, .int .i64 a3, .int .i64 a4, .int .i64 a5], .int .i64 a6]) (envOK seatOK (word_known.callsOK hU) hU) (fnOK seatOK word_known.fun) ⟨h2, trivial⟩ word_known.p6 (fuel := 3000) (by rw [← word_known.e6]; exact hk) hm s f hp
  · exact hk.elim

theorem word_known.p2 : (posC word_known.code []).filter (fun p => Nat.beq p.1 2) = [(2, atPos (posC word_known.code []) 2)] := by kernel_rfl

theorem word_known.e2 : ∀ (U : Ifc)  (I2 : Int → Int → Int → Int → Int → Int → Heap → Prop) (a1 : Int) (a2 : Int) (a3 : Int) (a4 : Int) (a5 : Int) (a6 : Int) (Q : Bool → Heap → Prop) (h : Heap), word_known.b2 U  I2 a1 a2 a3 a4 a5 a6 Q h = pts (word_known.E U Q [(6, ([0, 5, 6], word_known.k6 (fun a1 a2 a3 a4 a5 a6 h => word_known.j6 U I2 a1 a2 a3 a4 a5 a6 Q h)))]) 3000 true (atPos (posC word_known.code []) 2) (frAt [0, 5, 6] [.int .i64 a1, .agg [.int .i64 a2, .int .i64 a3, .int .i64 a4, .int .i64 a5], .int .i64 a6]) h := by
  intros; kernel_rfl

theorem word_known.s2 {W0 : World} {U : Ifc} (hU : IfcOK sg W0 glsT U) (Q : Bool → Heap → Prop)   : CutOK sg W0 17 (entered 104) (Post sg W0 (word_known.ret Q)) (posC word_known.code []) 2 [0, 5, 6] (word_known.k2 (fun a1 a2 a3 a4 a5 a6 h => word_known.j2 U  a1 a2 a3 a4 a5 a6 Q h)) := by
  refine cutOK_head (fun vs h hk => ?_)
  unfold word_known.k2 at hk
  split at hk
  · rename_i a1 a2 a3 a4 a5 a6
    refine hk (fun a1 a2 a3 a4 a5 a6 h => Head sg W0 17 (entered 104) (Post sg W0 (word_known.ret Q)) (posC word_known.code []) 2 [0, 5, 6] [.int .i64 a1, .agg [.int .i64 a2, .int .i64 a3, .int .i64 a4, .int .i64 a5], .int .i64 a6] h) ?_
    intro a1 a2 a3 a4 a5 a6 h hb todo hm ρ a w s f hp
    have hself : CutOK sg W0 17 (entered 104) (Post sg W0 (word_known.ret Q)) (posC word_known.code []) 2 [0, 5, 6] (word_known.k2 (fun a1 a2 a3 a4 a5 a6 h => Head sg W0 17 (entered 104) (Post sg W0 (word_known.ret Q)) (posC word_known.code []) 2 [0, 5, 6] [.int .i64 a1, .agg [.int .i64 a2, .int .i64 a3, .int .i64 a4, .int .i64 a5], .int .i64 a6] h)) := cutOK_head (fun vs h hk => by unfold word_known.k2 at hk; split at hk; exact hk; exact hk.elim)
    exact piece (E := word_known.E U Q [(6, ([0, 5, 6], word_known.k6 (fun a1 a2 a3 a4 a5 a6 h => word_known.j6 U (fun a1 a2 a3 a4 a5 a6 h => Head sg W0 17 (entered 104) (Post sg W0 (word_known.ret Q)) (posC word_known.code []) 2 [0, 5, 6] [.int .i64 a1, .agg [.int .i64 a2, .int .i64 a3, .int .i64 a4, .int .i64 a5], .int .i64 a6] h) a1 a2 a3 a4 a5 a6 Q h)))]) (vs := [.int .i64 a1, .agg [.int .i64 a2, .int .i64 a3, .int .i64 a4, .int .i64 a5], .int .i64 a6]) (envOK seatOK (word_known.callsOK hU) hU) (fnOK seatOK word_known.fun) ⟨(word_known.s6 hU Q (fun a1 a2 a3 a4 a5 a6 h => Head sg W0 17 (entered 104) (Post sg W0 (word_known.ret Q)) (posC word_known.code []) 2 [0, 5, 6] [.int .i64 a1, .agg [.int .i64 a2, .int .i64 a3, .int .i64 a4, .int .i64 a5], .int .i64 a6] h) hself), trivial⟩ word_known.p2 (fuel := 3000) (by rw [← word_known.e2]; exact hb) hm s f hp
  · exact hk.elim

theorem word_known.e : ∀ (U : Ifc) (a1 : Int) (Q : Bool → Heap → Prop) (h : Heap), word_known U a1 Q h = pts (word_known.E U Q [(2, ([0, 5, 6], word_known.k2 (fun a1 a2 a3 a4 a5 a6 h => word_known.j2 U  a1 a2 a3 a4 a5 a6 Q h)))]) 3000 true [.code word_known.code] (frOf 0 [.int .i64 a1]) h := by
  intros; kernel_rfl

theorem word_known.S {W0 : World} {U : Ifc} (hU : IfcOK sg W0 glsT U) : FnS sg W0 93 (word_known.C U) := by
  intro vs κ h wv hx w s
  unfold word_known.C at hx
  split at hx
  · rename_i a1
    refine postImp (ret := word_known.ret (fun r1 h => κ (.bool r1) h)) (fun v h hr => by unfold word_known.ret at hr; split at hr; exact hr; exact hr.elim) ?_
    exact calls_of_pts (E := word_known.E U (fun r1 h => κ (.bool r1) h) [(2, ([0, 5, 6], word_known.k2 (fun a1 a2 a3 a4 a5 a6 h => word_known.j2 U  a1 a2 a3 a4 a5 a6 (fun r1 h => κ (.bool r1) h) h)))]) (envOK seatOK (word_known.callsOK hU) hU) seatOK.mixed word_known.fun (Nat.le_of_ble_eq_true rfl) wv (cutL_ok ⟨(word_known.s2 hU (fun r1 h => κ (.bool r1) h)), trivial⟩) s (fuel := 3000) (by rw [← word_known.e]; exact hx)
  · exact hx.elim

noncomputable def word_Store.code : Code := Go.Proofs.Tryd.f92.body.getD .skip

theorem word_Store.fun : Fun sg.P 92 27 [.tmp 4] word_Store.code := mkFun Go.Proofs.Tryd.func92 (by kernel_rfl) (by kernel_rfl) (by kernel_rfl) (by kernel_rfl)

def word_Store.ret (Q : Sl → Heap → Prop) (v : V) (h : Heap) : Prop :=
  match v with
  | .sl r1 => Q r1 h
  | _ => False

def word_Store.C (U : Ifc) (vs : List V) (κ : V → Heap → Prop) (h : Heap) : Prop :=
  match vs with
  | [.int .u64 a1, .int .i64 a2] => word_Store U a1 a2 (fun r1 h => κ (.sl r1) h) h
  | _ => False

noncomputable def word_Store.calls (U : Ifc) : List (Nat × (List V → (V → Heap → Prop) → Heap → Prop)) := [(93, word_known.C U)]

noncomputable def word_Store.E (U : Ifc) (Q : Sl → Heap → Prop) (cuts : List (Nat × (List Nat × (List V → Heap → Prop)))) : Env := { tis := tisT, fns := fnsT, tys := tysT, gls := glsT, rts := rtsT, unk := [], nxt := [], calls := word_Store.calls U, ifc := U, cuts := cuts, ret := word_Store.ret Q, rets := [.tmp 4], n := 27 }

theorem word_Store.callsOK {W0 : World} {U : Ifc} (hU : IfcOK sg W0 glsT U) : CallsOK sg W0 (word_Store.calls U) := ⟨(word_known.S hU), trivial⟩

def word_Store.k5 (I : Int → Sl → Int → Int → Heap → Prop) (vs : List V) (h : Heap) : Prop :=
  match vs with
  | [.int .u64 a1, .sl a2, .int .i64 a3, .int .i64 a4] => I a1 a2 a3 a4 h
  | _ => False

theorem word_Store.p5 : (posC word_Store.code []).filter (fun p => Nat.beq p.1 5) = [(5, atPos (posC word_Store.code []) 5)] := by kernel_rfl

theorem word_Store.e5 : ∀ (U : Ifc)  (I5 : Int → Sl → Int → Int → Heap → Prop) (a1 : Int) (a2 : Sl) (a3 : Int) (a4 : Int) (Q : Sl → Heap → Prop) (h : Heap), word_Store.b5 U  I5 a1 a2 a3 a4 Q h = pts (word_Store.E U Q [(5, ([0, 5, 13, 14], word_Store.k5 I5))]) 3000 true (atPos (posC word_Store.code []) 5) (frAt [0, 5, 13, 14] [.int .u64 a1, .sl a2, .int .i64 a3, .int .i64 a4]) h := by
  intros; kernel_rfl

theorem word_Store.s5 {W0 : World} {U : Ifc} (hU : IfcOK sg W0 glsT U) (Q : Sl → Heap → Prop)   : CutOK sg W0 27 (entered 92) (Post sg W0 (word_Store.ret Q)) (posC word_Store.code []) 5 [0, 5, 13, 14] (word_Store.k5 (fun a1 a2 a3 a4 h => word_Store.j5 U  a1 a2 a3 a4 Q h)) := by
  refine cutOK_head (fun vs h hk => ?_)
  unfold word_Store.k5 at hk
  split at hk
  · rename_i a1 a2 a3 a4
    refine hk (fun a1 a2 a3 a4 h => Head sg W0 27 (entered 92) (Post sg W0 (word_Store.ret Q)) (posC word_Store.code []) 5 [0, 5, 13, 14] [.int .u64 a1, .sl a2, .int .i64 a3, .int .i64 a4] h) ?_
    intro a1 a2 a3 a4 h hb todo hm ρ a w s f hp
    have hself : CutOK sg W0 27 (entered 92) (Post sg W0 (word_Store.ret Q)) (posC word_Store.code []) 5 [0, 5, 13, 14] (word_Store.k5 (fun a1 a2 a3 a4 h => Head sg W0 27 (entered 92) (Post sg W0 (word_Store.ret Q)) (posC word_Store.code []) 5 [0, 5, 13, 14] [.int .u64 a1, .sl a2, .int .i64 a3, .int .i64 a4] h)) := cutOK_head (fun vs h hk => by unfold word_Store.k5 at hk; split at hk; exact hk; exact hk.elim)
    exact piece (E := word_Store.E U Q [(5, ([0, 5, 13, 14], word_Store.k5 (fun a1 a2 a3 a4 h => Head sg W0 27 (entered 92) (Post sg W0 (word_Store.ret Q)) (posC word_Store.code []) 5 [0, 5, 13, 14] [.int .u64 a1, .sl a2, .int .i64 a3, .int .i64 a4] h)))]) (vs := [.int .u64 a1, .sl a2, .int .i64 a3, .int .i64 a4]) (envOK seatOK (word_Store.callsOK hU) hU) (fnOK seatOK word_Store.fun) ⟨hself, trivial⟩ word_Store.p5 (fuel := 3000) (by rw [← word_Store.e5]; exact hb) hm s f hp
  · exact hk.elim

theorem word_Store.e : ∀ (U : Ifc) (a1 : Int) (a2 : Int) (Q : Sl → Heap → Prop) (h : Heap), word_Store U a1 a2 Q h = pts (word_Store.E U Q [(5, ([0, 5, 13, 14], word_Store.k5 (fun a1 a2 a3 a4 h => word_Store.j5 U  a1 a2 a3 a4 Q h)))]) 3000 true [.code word_Store.code] (frOf 0 [.int .u64 a1, .int .i64 a2]) h := by
  intros; kernel_rfl

theorem word_Store.S {W0 : World} {U : Ifc} (hU : IfcOK sg W0 glsT U) : FnS sg W0 96 (word_Store.C U) := by
  intro vs κ h wv hx w s
  unfold word_Store.C at hx
  split at hx
  · rename_i a1 a2
    refine postImp (ret := word_Store.ret (fun r1 h => κ (.sl r1) h)) (fun v h hr => by unfold word_Store.ret at hr; split at hr; exact hr; exact hr.elim) ?_
    exact calls_of_pts (E := word_Store.E U (fun r1 h => κ (.sl r1) h) [(5, ([0, 5, 13, 14], word_Store.k5 (fun a1 a2 a3 a4 h => word_Store.j5 U  a1 a2 a3 a4 (fun r1 h => κ (.sl r1) h) h)))]) (envOK seatOK (word_Store.callsOK hU) hU) seatOK.mixed word_Store.fun (Nat.le_of_ble_eq_true rfl) wv (cutL_ok ⟨(word_Store.s5 hU (fun r1 h => κ (.sl r1) h)), trivial⟩) s (fuel := 3000) (by rw [← word_Store.e]; exact hx)
  · exact hx.elim

noncomputable def mem_Memory_Store.code : Code := Go.Proofs.Tryd.f65.body.getD .skip

theorem mem_Memory_Store.fun : Fun sg.P 65 26 [.tmp 8] mem_Memory_Store.code := mkFun Go.Proofs.Tryd.func65 (by kernel_rfl) (by kernel_rfl) (by kernel_rfl) (by kernel_rfl)

def mem_Memory_Store.ret (Q : Int → Heap → Prop) (v : V) (h : Heap) : Prop :=
  match v with
  | .int .i64 r1 => Q r1 h
  | _ => False

def mem_Memory_Store.C (U : Ifc) (vs : List V) (κ : V → Heap → Prop) (h : Heap) : Prop :=
  match vs with
  | [.ptr a1, .int .u64 a2, .int .i64 a3, .int .u64 a4] => mem_Memory_Store U a1 a2 a3 a4 (fun r1 h => κ (.int .i64 r1) h) h
  | _ => False

noncomputable def mem_Memory_Store.calls (U : Ifc) : List (Nat × (List V → (V → Heap → Prop) → Heap → Prop)) := [(59, mem_Memory_number.C), (96, word_Store.C U)]

noncomputable def mem_Memory_Store.E (U : Ifc) (Q : Int → Heap → Prop) (cuts : List (Nat × (List Nat × (List V → Heap → Prop)))) : Env := { tis := tisT, fns := fnsT, tys := tysT, gls := glsT, rts := rtsT, unk := [], nxt := [], calls := mem_Memory_Store.calls U, ifc := U, cuts := cuts, ret := mem_Memory_Store.ret Q, rets := [.tmp 8], n := 26 }

theorem mem_Memory_Store.callsOK {W0 : World} {U : Ifc} (hU : IfcOK sg W0 glsT U) : CallsOK sg W0 (mem_Memory_Store.calls U) := ⟨mem_Memory_number.S, (word_Store.S hU), trivial⟩

theorem mem_Memory_Store.e : ∀ (U : Ifc) (a1 : Option Ptr) (a2 : Int) (a3 : Int) (a4 : Int) (Q : Int → Heap → Prop) (h : Heap), mem_Memory_Store U a1 a2 a3 a4 Q h = pts (mem_Memory_Store.E U Q []) 3000 true [.code mem_Memory_Store.code] (frOf 0 [.ptr a1, .int .u64 a2, .int .i64 a3, .int .u64 a4]) h := by
  intros; kernel_rfl

theorem mem_Memory_Store.S {W0 : World} {U : Ifc} (hU : IfcOK sg W0 glsT U) : FnS sg W0 97 (mem_Memory_Store.C U) := by
  intro vs κ h wv hx w s
  unfold mem_Memory_Store.C at hx
  split at hx
  · rename_i a1 a2 a3 a4
    refine postImp (ret := mem_Memory_Store.ret (fun r1 h => κ (.int .i64 r1) h)) (fun v h hr => by unfold mem_Memory_Store.ret at hr; split at hr; exact hr; exact hr.elim) ?_
    exact calls_of_pts (E := mem_Memory_Store.E U (fun r1 h => κ (.int .i64 r1) h) []) (envOK seatOK (mem_Memory_Store.callsOK hU) hU) seatOK.mixed mem_Memory_Store.fun (Nat.le_of_ble_eq_true rfl) wv (cutL_ok trivial) s (fuel := 3000) (by rw [← mem_Memory_Store.e]; exact hx)
  · exact hx.elim

noncomputable def palisadelaw24_Flat_Store.code : Code := Go.Proofs.Tryd.f27.body.getD .skip

theorem palisadelaw24_Flat_Store.fun : Fun sg.P 27 32 [.tmp 8] palisadelaw24_Flat_Store.code := mkFun Go.Proofs.Tryd.func27 (by kernel_rfl) (by kernel_rfl) (by kernel_rfl) (by kernel_rfl)

def palisadelaw24_Flat_Store.ret (Q : Int → Heap → Prop) (v : V) (h : Heap) : Prop :=
  match v with
  | .int .i64 r1 => Q r1 h
  | _ => False

def palisadelaw24_Flat_Store.C (U : Ifc) (vs : List V) (κ : V → Heap → Prop) (h : Heap) : Prop :=
  match vs with
  | [.ptr a1, .int .u64 a2, .int .i64 a3, .int .u64 a4] => palisadelaw24_Flat_Store U a1 a2 a3 a4 (fun r1 h => κ (.int .i64 r1) h) h
  | _ => False

noncomputable def palisadelaw24_Flat_Store.calls (U : Ifc) : List (Nat × (List V → (V → Heap → Prop) → Heap → Prop)) := [(97, mem_Memory_Store.C U)]

noncomputable def palisadelaw24_Flat_Store.E (U : Ifc) (Q : Int → Heap → Prop) (cuts : List (Nat × (List Nat × (List V → Heap → Prop)))) : Env := { tis := tisT, fns := fnsT, tys := tysT, gls := glsT, rts := rtsT, unk := [], nxt := [], calls := palisadelaw24_Flat_Store.calls U, ifc := U, cuts := cuts, ret := palisadelaw24_Flat_Store.ret Q, rets := [.tmp 8], n := 32 }

theorem palisadelaw24_Flat_Store.callsOK {W0 : World} {U : Ifc} (hU : IfcOK sg W0 glsT U) : CallsOK sg W0 (palisadelaw24_Flat_Store.calls U) := ⟨(mem_Memory_Store.S hU), trivial⟩

theorem palisadelaw24_Flat_Store.e : ∀ (U : Ifc) (a1 : Option Ptr) (a2 : Int) (a3 : Int) (a4 : Int) (Q : Int → Heap → Prop) (h : Heap), palisadelaw24_Flat_Store U a1 a2 a3 a4 Q h = pts (palisadelaw24_Flat_Store.E U Q []) 3000 true [.code palisadelaw24_Flat_Store.code] (frOf 0 [.ptr a1, .int .u64 a2, .int .i64 a3, .int .u64 a4]) h := by
  intros; kernel_rfl

theorem palisadelaw24_Flat_Store.S {W0 : World} {U : Ifc} (hU : IfcOK sg W0 glsT U) : FnS sg W0 299 (palisadelaw24_Flat_Store.C U) := by
  intro vs κ h wv hx w s
  unfold palisadelaw24_Flat_Store.C at hx
  split at hx
  · rename_i a1 a2 a3 a4
    refine postImp (ret := palisadelaw24_Flat_Store.ret (fun r1 h => κ (.int .i64 r1) h)) (fun v h hr => by unfold palisadelaw24_Flat_Store.ret at hr; split at hr; exact hr; exact hr.elim) ?_
    exact calls_of_pts (E := palisadelaw24_Flat_Store.E U (fun r1 h => κ (.int .i64 r1) h) []) (envOK seatOK (palisadelaw24_Flat_Store.callsOK hU) hU) seatOK.mixed palisadelaw24_Flat_Store.fun (Nat.le_of_ble_eq_true rfl) wv (cutL_ok trivial) s (fuel := 3000) (by rw [← palisadelaw24_Flat_Store.e]; exact hx)
  · exact hx.elim

noncomputable def palisadelaw24_offer.code : Code := Go.Proofs.Tryd.f14.body.getD .skip

theorem palisadelaw24_offer.fun : Fun sg.P 14 80 [] palisadelaw24_offer.code := mkFun Go.Proofs.Tryd.func14 (by kernel_rfl) (by kernel_rfl) (by kernel_rfl) (by kernel_rfl)

def palisadelaw24_offer.ret (Q : Heap → Prop) (v : V) (h : Heap) : Prop :=
  match v with
  | .tup [] => Q  h
  | _ => False

def palisadelaw24_offer.C (U : Ifc) (vs : List V) (κ : V → Heap → Prop) (h : Heap) : Prop :=
  match vs with
  | [.ptr a1, .int .i64 a2, .sl a3] => palisadelaw24_offer U a1 a2 a3 (fun  h => κ (.tup []) h) h
  | _ => False

noncomputable def palisadelaw24_offer.calls (U : Ifc) : List (Nat × (List V → (V → Heap → Prop) → Heap → Prop)) := [(299, palisadelaw24_Flat_Store.C U)]

noncomputable def palisadelaw24_offer.E (U : Ifc) (Q : Heap → Prop) (cuts : List (Nat × (List Nat × (List V → Heap → Prop)))) : Env := { tis := tisT, fns := fnsT, tys := tysT, gls := glsT, rts := rtsT, unk := [], nxt := [], calls := palisadelaw24_offer.calls U, ifc := U, cuts := cuts, ret := palisadelaw24_offer.ret Q, rets := [], n := 80 }

theorem palisadelaw24_offer.callsOK {W0 : World} {U : Ifc} (hU : IfcOK sg W0 glsT U) : CallsOK sg W0 (palisadelaw24_offer.calls U) := ⟨(palisadelaw24_Flat_Store.S hU), trivial⟩

def palisadelaw24_offer.k2 (I : (Option Ptr) → Int → Sl → Int → Heap → Prop) (vs : List V) (h : Heap) : Prop :=
  match vs with
  | [.ptr a1, .int .i64 a2, .sl a3, .int .i64 a4] => I a1 a2 a3 a4 h
  | _ => False

def palisadelaw24_offer.k12 (I : (Option Ptr) → Int → Sl → Int → Int → Heap → Prop) (vs : List V) (h : Heap) : Prop :=
  match vs with
  | [.ptr a1, .int .i64 a2, .sl a3, .int .i64 a4, .int .u64 a5] => I a1 a2 a3 a4 a5 h
  | _ => False

def palisadelaw24_offer.k8 (I : (Option Ptr) → Int → Sl → Int → Int → Heap → Prop) (vs : List V) (h : Heap) : Prop :=
  match vs with
  | [.ptr a1, .int .i64 a2, .sl a3, .int .i64 a4, .int .u64 a5] => I a1 a2 a3 a4 a5 h
  | _ => False

def palisadelaw24_offer.k6 (I : (Option Ptr) → Int → Sl → Int → Int → Heap → Prop) (vs : List V) (h : Heap) : Prop :=
  match vs with
  | [.ptr a1, .int .i64 a2, .sl a3, .int .i64 a4, .int .u64 a5] => I a1 a2 a3 a4 a5 h
  | _ => False

def palisadelaw24_offer.k1 (I : (Option Ptr) → Int → Sl → Int → Heap → Prop) (vs : List V) (h : Heap) : Prop :=
  match vs with
  | [.ptr a1, .int .i64 a2, .sl a3, .int .i64 a4] => I a1 a2 a3 a4 h
  | _ => False

theorem palisadelaw24_offer.p2 : (posC palisadelaw24_offer.code []).filter (fun p => Nat.beq p.1 2) = [(2, atPos (posC palisadelaw24_offer.code []) 2)] := by kernel_rfl

theorem palisadelaw24_offer.e2 : ∀ (U : Ifc) (I1 : (Option Ptr) → Int → Sl → Int → Heap → Prop) (a1 : Option Ptr) (a2 : Int) (a3 : Sl) (a4 : Int) (Q : Heap → Prop) (h : Heap), palisadelaw24_offer.j2 U I1 a1 a2 a3 a4 Q h = pts (palisadelaw24_offer.E U Q [(1, ([0, 1, 2, 6], palisadelaw24_offer.k1 I1))]) 3000 true (atPos (posC palisadelaw24_offer.code []) 2) (frAt [0, 1, 2, 6] [.ptr a1, .int .i64 a2, .sl a3, .int .i64 a4]) h := by
  intros; kernel_rfl

theorem palisadelaw24_offer.s2 {W0 : World} {U : Ifc} (hU : IfcOK sg W0 glsT U) (Q : Heap → Prop) (I1 : (Option Ptr) → Int → Sl → Int → Heap → Prop) (h1 : CutOK sg W0 80 (entered 14) (Post sg W0 (palisadelaw24_offer.ret Q)) (posC palisadelaw24_offer.code []) 1 [0, 1, 2, 6] (palisadelaw24_offer.k1 I1)) : CutOK sg W0 80 (entered 14) (Post sg W0 (palisadelaw24_offer.ret Q)) (posC palisadelaw24_offer.code []) 2 [0, 1, 2, 6] (palisadelaw24_offer.k2 (fun a1 a2 a3 a4 h => palisadelaw24_offer.j2 U I1 a1 a2 a3 a4 Q h)) := by
  refine cutOK_head (fun vs h hk => ?_)
  unfold palisadelaw24_offer.k2 at hk
  split at hk
  · rename_i a1 a2 a3 a4
    intro todo hm ρ a w s f hp
    exact piece (E := palisadelaw24_offer.E U Q [(1, ([0, 1, 2, 6], palisadelaw24_offer.k1 I1))]) (vs := [.ptr a1, .int .i64 a2, .sl a3, .int .i64 a4]) (envOK seatOK (palisadelaw24_offer.callsOK hU) hU) (fnOK seatOK palisadelaw24_offer.fun) ⟨h1, trivial⟩ palisadelaw24_offer.p2 (fuel := 3000) (by rw [← palisadelaw24_offer.e2]; exact hk) hm s f hp
  · exact hk.elim

theorem palisadelaw24_offer.p12 : (posC palisadelaw24_offer.code []).filter (fun p => Nat.beq p.1 12) = [(12, atPos (posC palisadelaw24_offer.code []) 12)] := by kernel_rfl

theorem palisadelaw24_offer.e12 : ∀ (U : Ifc) (I1 : (Option Ptr) → Int → Sl → Int → Heap → Prop) (a1 : Option Ptr) (a2 : Int) (a3 : Sl) (a4 : Int) (a5 : Int) (Q : Heap → Prop) (h : Heap), palisadelaw24_offer.j12 U I1 a1 a2 a3 a4 a5 Q h = pts (palisadelaw24_offer.E U Q [(2, ([0, 1, 2, 6], palisadelaw24_offer.k2 (fun a1 a2 a3 a4 h => palisadelaw24_offer.j2 U I1 a1 a2 a3 a4 Q h)))]) 3000 true (atPos (posC palisadelaw24_offer.code []) 12) (frAt [0, 1, 2, 6, 8] [.ptr a1, .int .i64 a2, .sl a3, .int .i64 a4, .int .u64 a5]) h := by
  intros; kernel_rfl

theorem palisadelaw24_offer.s12 {W0 : World} {U : Ifc} (hU : IfcOK sg W0 glsT U) (Q : Heap → Prop) (I1 : (Option Ptr) → Int → Sl → Int → Heap → Prop) (h1 : CutOK sg W0 80 (entered 14) (Post sg W0 (palisadelaw24_offer.ret Q)) (posC palisadelaw24_offer.code []) 1 [0, 1, 2, 6] (palisadelaw24_offer.k1 I1)) : CutOK sg W0 80 (entered 14) (Post sg W0 (palisadelaw24_offer.ret Q)) (posC palisadelaw24_offer.code []) 12 [0, 1, 2, 6, 8] (palisadelaw24_offer.k12 (fun a1 a2 a3 a4 a5 h => palisadelaw24_offer.j12 U I1 a1 a2 a3 a4 a5 Q h)) := by
  refine cutOK_head (fun vs h hk => ?_)
  unfold palisadelaw24_offer.k12 at hk
  split at hk
  · rename_i a1 a2 a3 a4 a5
    intro todo hm ρ a w s f hp
    exact piece (E := palisadelaw24_offer.E U Q [(2, ([0, 1, 2, 6], palisadelaw24_offer.k2 (fun a1 a2 a3 a4 h => palisadelaw24_offer.j2 U I1 a1 a2 a3 a4 Q h)))]) (vs := [.ptr a1, .int .i64 a2, .sl a3, .int .i64 a4, .int .u64 a5]) (envOK seatOK (palisadelaw24_offer.callsOK hU) hU) (fnOK seatOK palisadelaw24_offer.fun) ⟨(palisadelaw24_offer.s2 hU Q I1 h1), trivial⟩ palisadelaw24_offer.p12 (fuel := 3000) (by rw [← palisadelaw24_offer.e12]; exact hk) hm s f hp
  · exact hk.elim

theorem palisadelaw24_offer.p8 : (posC palisadelaw24_offer.code []).filter (fun p => Nat.beq p.1 8) = [(8, atPos (posC palisadelaw24_offer.code []) 8)] := by kernel_rfl

theorem palisadelaw24_offer.e8 : ∀ (U : Ifc) (I1 : (Option Ptr) → Int → Sl → Int → Heap → Prop) (a1 : Option Ptr) (a2 : Int) (a3 : Sl) (a4 : Int) (a5 : Int) (Q : Heap → Prop) (h : Heap), palisadelaw24_offer.j8 U I1 a1 a2 a3 a4 a5 Q h = pts (palisadelaw24_offer.E U Q [(12, ([0, 1, 2, 6, 8], palisadelaw24_offer.k12 (fun a1 a2 a3 a4 a5 h => palisadelaw24_offer.j12 U I1 a1 a2 a3 a4 a5 Q h)))]) 3000 true (atPos (posC palisadelaw24_offer.code []) 8) (frAt [0, 1, 2, 6, 7] [.ptr a1, .int .i64 a2, .sl a3, .int .i64 a4, .int .u64 a5]) h := by
  intros; kernel_rfl

theorem palisadelaw24_offer.s8 {W0 : World} {U : Ifc} (hU : IfcOK sg W0 glsT U) (Q : Heap → Prop) (I1 : (Option Ptr) → Int → Sl → Int → Heap → Prop) (h1 : CutOK sg W0 80 (entered 14) (Post sg W0 (palisadelaw24_offer.ret Q)) (posC palisadelaw24_offer.code []) 1 [0, 1, 2, 6] (palisadelaw24_offer.k1 I1)) : CutOK sg W0 80 (entered 14) (Post sg W0 (palisadelaw24_offer.ret Q)) (posC palisadelaw24_offer.code []) 8 [0, 1, 2, 6, 7] (palisadelaw24_offer.k8 (fun a1 a2 a3 a4 a5 h => palisadelaw24_offer.j8 U I1 a1 a2 a3 a4 a5 Q h)) := by
  refine cutOK_head (fun vs h hk => ?_)
  unfold palisadelaw24_offer.k8 at hk
  split at hk
  · rename_i a1 a2 a3 a4 a5
    intro todo hm ρ a w s f hp
    exact piece (E := palisadelaw24_offer.E U Q [(12, ([0, 1, 2, 6, 8], palisadelaw24_offer.k12 (fun a1 a2 a3 a4 a5 h => palisadelaw24_offer.j12 U I1 a1 a2 a3 a4 a5 Q h)))]) (vs := [.ptr a1, .int .i64 a2, .sl a3, .int .i64 a4, .int .u64 a5]) (envOK seatOK (palisadelaw24_offer.callsOK hU) hU) (fnOK seatOK palisadelaw24_offer.fun) ⟨(palisadelaw24_offer.s12 hU Q I1 h1), trivial⟩ palisadelaw24_offer.p8 (fuel := 3000) (by rw [← palisadelaw24_offer.e8]; exact hk) hm s f hp
  · exact hk.elim

theorem palisadelaw24_offer.p6 : (posC palisadelaw24_offer.code []).filter (fun p => Nat.beq p.1 6) = [(6, atPos (posC palisadelaw24_offer.code []) 6)] := by kernel_rfl

theorem palisadelaw24_offer.e6 : ∀ (U : Ifc) (I1 : (Option Ptr) → Int → Sl → Int → Heap → Prop) (a1 : Option Ptr) (a2 : Int) (a3 : Sl) (a4 : Int) (a5 : Int) (Q : Heap → Prop) (h : Heap), palisadelaw24_offer.j6 U I1 a1 a2 a3 a4 a5 Q h = pts (palisadelaw24_offer.E U Q [(8, ([0, 1, 2, 6, 7], palisadelaw24_offer.k8 (fun a1 a2 a3 a4 a5 h => palisadelaw24_offer.j8 U I1 a1 a2 a3 a4 a5 Q h)))]) 3000 true (atPos (posC palisadelaw24_offer.code []) 6) (frAt [0, 1, 2, 6, 7] [.ptr a1, .int .i64 a2, .sl a3, .int .i64 a4, .int .u64 a5]) h := by
  intros; kernel_rfl

theorem palisadelaw24_offer.s6 {W0 : World} {U : Ifc} (hU : IfcOK sg W0 glsT U) (Q : Heap → Prop) (I1 : (Option Ptr) → Int → Sl → Int → Heap → Prop) (h1 : CutOK sg W0 80 (entered 14) (Post sg W0 (palisadelaw24_offer.ret Q)) (posC palisadelaw24_offer.code []) 1 [0, 1, 2, 6] (palisadelaw24_offer.k1 I1)) : CutOK sg W0 80 (entered 14) (Post sg W0 (palisadelaw24_offer.ret Q)) (posC palisadelaw24_offer.code []) 6 [0, 1, 2, 6, 7] (palisadelaw24_offer.k6 (fun a1 a2 a3 a4 a5 h => palisadelaw24_offer.j6 U I1 a1 a2 a3 a4 a5 Q h)) := by
  refine cutOK_head (fun vs h hk => ?_)
  unfold palisadelaw24_offer.k6 at hk
  split at hk
  · rename_i a1 a2 a3 a4 a5
    intro todo hm ρ a w s f hp
    exact piece (E := palisadelaw24_offer.E U Q [(8, ([0, 1, 2, 6, 7], palisadelaw24_offer.k8 (fun a1 a2 a3 a4 a5 h => palisadelaw24_offer.j8 U I1 a1 a2 a3 a4 a5 Q h)))]) (vs := [.ptr a1, .int .i64 a2, .sl a3, .int .i64 a4, .int .u64 a5]) (envOK seatOK (palisadelaw24_offer.callsOK hU) hU) (fnOK seatOK palisadelaw24_offer.fun) ⟨(palisadelaw24_offer.s8 hU Q I1 h1), trivial⟩ palisadelaw24_offer.p6 (fuel := 3000) (by rw [← palisadelaw24_offer.e6]; exact hk) hm s f hp
  · exact hk.elim

theorem palisadelaw24_offer.p1 : (posC palisadelaw24_offer.code []).filter (fun p => Nat.beq p.1 1) = [(1, atPos (posC palisadelaw24_offer.code []) 1)] := by kernel_rfl

theorem palisadelaw24_offer.e1 : ∀ (U : Ifc)  (I1 : (Option Ptr) → Int → Sl → Int → Heap → Prop) (a1 : Option Ptr) (a2 : Int) (a3 : Sl) (a4 : Int) (Q : Heap → Prop) (h : Heap), palisadelaw24_offer.b1 U  I1 a1 a2 a3 a4 Q h = pts (palisadelaw24_offer.E U Q [(6, ([0, 1, 2, 6, 7], palisadelaw24_offer.k6 (fun a1 a2 a3 a4 a5 h => palisadelaw24_offer.j6 U I1 a1 a2 a3 a4 a5 Q h)))]) 3000 true (atPos (posC palisadelaw24_offer.code []) 1) (frAt [0, 1, 2, 6] [.ptr a1, .int .i64 a2, .sl a3, .int .i64 a4]) h := by
  intros; kernel_rfl

theorem palisadelaw24_offer.s1 {W0 : World} {U : Ifc} (hU : IfcOK sg W0 glsT U) (Q : Heap → Prop)   : CutOK sg W0 80 (entered 14) (Post sg W0 (palisadelaw24_offer.ret Q)) (posC palisadelaw24_offer.code []) 1 [0, 1, 2, 6] (palisadelaw24_offer.k1 (fun a1 a2 a3 a4 h => palisadelaw24_offer.j1 U  a1 a2 a3 a4 Q h)) := by
  refine cutOK_head (fun vs h hk => ?_)
  unfold palisadelaw24_offer.k1 at hk
  split at hk
  · rename_i a1 a2 a3 a4
    refine hk (fun a1 a2 a3 a4 h => Head sg W0 80 (entered 14) (Post sg W0 (palisadelaw24_offer.ret Q)) (posC palisadelaw24_offer.code []) 1 [0, 1, 2, 6] [.ptr a1, .int .i64 a2, .sl a3, .int .i64 a4] h) ?_
    intro a1 a2 a3 a4 h hb todo hm ρ a w s f hp
    have hself : CutOK sg W0 80 (entered 14) (Post sg W0 (palisadelaw24_offer.ret Q)) (posC palisadelaw24_offer.code []) 1 [0, 1, 2, 6] (palisadelaw24_offer.k1 (fun a1 a2 a3 a4 h => Head sg W0 80 (entered 14) (Post sg W0 (palisadelaw24_offer.ret Q)) (posC palisadelaw24_offer.code []) 1 [0, 1, 2, 6] [.ptr a1, .int .i64 a2, .sl a3, .int .i64 a4] h)) := cutOK_head (fun vs h hk => by unfold palisadelaw24_offer.k1 at hk; split at hk; exact hk; exact hk.elim)
    exact piece (E := palisadelaw24_offer.E U Q [(6, ([0, 1, 2, 6, 7], palisadelaw24_offer.k6 (fun a1 a2 a3 a4 a5 h => palisadelaw24_offer.j6 U (fun a1 a2 a3 a4 h => Head sg W0 80 (entered 14) (Post sg W0 (palisadelaw24_offer.ret Q)) (posC palisadelaw24_offer.code []) 1 [0, 1, 2, 6] [.ptr a1, .int .i64 a2, .sl a3, .int .i64 a4] h) a1 a2 a3 a4 a5 Q h)))]) (vs := [.ptr a1, .int .i64 a2, .sl a3, .int .i64 a4]) (envOK seatOK (palisadelaw24_offer.callsOK hU) hU) (fnOK seatOK palisadelaw24_offer.fun) ⟨(palisadelaw24_offer.s6 hU Q (fun a1 a2 a3 a4 h => Head sg W0 80 (entered 14) (Post sg W0 (palisadelaw24_offer.ret Q)) (posC palisadelaw24_offer.code []) 1 [0, 1, 2, 6] [.ptr a1, .int .i64 a2, .sl a3, .int .i64 a4] h) hself), trivial⟩ palisadelaw24_offer.p1 (fuel := 3000) (by rw [← palisadelaw24_offer.e1]; exact hb) hm s f hp
  · exact hk.elim

theorem palisadelaw24_offer.e : ∀ (U : Ifc) (a1 : Option Ptr) (a2 : Int) (a3 : Sl) (Q : Heap → Prop) (h : Heap), palisadelaw24_offer U a1 a2 a3 Q h = pts (palisadelaw24_offer.E U Q [(1, ([0, 1, 2, 6], palisadelaw24_offer.k1 (fun a1 a2 a3 a4 h => palisadelaw24_offer.j1 U  a1 a2 a3 a4 Q h)))]) 3000 true [.code palisadelaw24_offer.code] (frOf 0 [.ptr a1, .int .i64 a2, .sl a3]) h := by
  intros; kernel_rfl

theorem palisadelaw24_offer.S {W0 : World} {U : Ifc} (hU : IfcOK sg W0 glsT U) : FnS sg W0 301 (palisadelaw24_offer.C U) := by
  intro vs κ h wv hx w s
  unfold palisadelaw24_offer.C at hx
  split at hx
  · rename_i a1 a2 a3
    refine postImp (ret := palisadelaw24_offer.ret (fun  h => κ (.tup []) h)) (fun v h hr => by unfold palisadelaw24_offer.ret at hr; split at hr; exact hr; exact hr.elim) ?_
    exact calls_of_pts (E := palisadelaw24_offer.E U (fun  h => κ (.tup []) h) [(1, ([0, 1, 2, 6], palisadelaw24_offer.k1 (fun a1 a2 a3 a4 h => palisadelaw24_offer.j1 U  a1 a2 a3 a4 (fun  h => κ (.tup []) h) h)))]) (envOK seatOK (palisadelaw24_offer.callsOK hU) hU) seatOK.mixed palisadelaw24_offer.fun (Nat.le_of_ble_eq_true rfl) wv (cutL_ok ⟨(palisadelaw24_offer.s1 hU (fun  h => κ (.tup []) h)), trivial⟩) s (fuel := 3000) (by rw [← palisadelaw24_offer.e]; exact hx)
  · exact hx.elim

noncomputable def ring_Ring_usable.code : Code := Go.Proofs.Tryd.f85.body.getD .skip

theorem ring_Ring_usable.fun : Fun sg.P 85 24 [.tmp 4] ring_Ring_usable.code := mkFun Go.Proofs.Tryd.func85 (by kernel_rfl) (by kernel_rfl) (by kernel_rfl) (by kernel_rfl)

def ring_Ring_usable.ret (Q : Int → Heap → Prop) (v : V) (h : Heap) : Prop :=
  match v with
  | .int .i64 r1 => Q r1 h
  | _ => False

def ring_Ring_usable.C (vs : List V) (κ : V → Heap → Prop) (h : Heap) : Prop :=
  match vs with
  | [.ptr a1, a2] => ring_Ring_usable a1 a2 (fun r1 h => κ (.int .i64 r1) h) h
  | _ => False

noncomputable def ring_Ring_usable.calls : List (Nat × (List V → (V → Heap → Prop) → Heap → Prop)) := []

noncomputable def ring_Ring_usable.E (Q : Int → Heap → Prop) (cuts : List (Nat × (List Nat × (List V → Heap → Prop)))) : Env := { tis := tisT, fns := fnsT, tys := tysT, gls := [], rts := rtsT, unk := [], nxt := [], calls := ring_Ring_usable.calls, ifc := noIfc, cuts := cuts, ret := ring_Ring_usable.ret Q, rets := [.tmp 4], n := 24 }

theorem ring_Ring_usable.callsOK {W0 : World} : CallsOK sg W0 ring_Ring_usable.calls := trivial

theorem ring_Ring_usable.e : ∀ (a1 : Option Ptr) (a2 : V) (Q : Int → Heap → Prop) (h : Heap), ring_Ring_usable a1 a2 Q h = pts (ring_Ring_usable.E Q []) 3000 true [.code ring_Ring_usable.code] (frOf 0 [.ptr a1, a2]) h := by
  intros; kernel_rfl

theorem ring_Ring_usable.S {W0 : World} : FnS sg W0 30 ring_Ring_usable.C := by
  intro vs κ h wv hx w s
  unfold ring_Ring_usable.C at hx
  split at hx
  · rename_i a1 a2
    refine postImp (ret := ring_Ring_usable.ret (fun r1 h => κ (.int .i64 r1) h)) (fun v h hr => by unfold ring_Ring_usable.ret at hr; split at hr; exact hr; exact hr.elim) ?_
    exact calls_of_pts (E := ring_Ring_usable.E (fun r1 h => κ (.int .i64 r1) h) []) (envOK seatOK ring_Ring_usable.callsOK noIfc_ok) seatOK.mixed ring_Ring_usable.fun (Nat.le_of_ble_eq_true rfl) wv (cutL_ok trivial) s (fuel := 3000) (by rw [← ring_Ring_usable.e]; exact hx)
  · exact hx.elim

noncomputable def ring_reader_number.code : Code := Go.Proofs.Tryd.f86.body.getD .skip

theorem ring_reader_number.fun : Fun sg.P 86 28 [.tmp 4] ring_reader_number.code := mkFun Go.Proofs.Tryd.func86 (by kernel_rfl) (by kernel_rfl) (by kernel_rfl) (by kernel_rfl)

def ring_reader_number.ret (Q : Int → Heap → Prop) (v : V) (h : Heap) : Prop :=
  match v with
  | .int .u64 r1 => Q r1 h
  | _ => False

def ring_reader_number.C (U : Ifc) (vs : List V) (κ : V → Heap → Prop) (h : Heap) : Prop :=
  match vs with
  | [.ptr a1, .int .u64 a2] => ring_reader_number U a1 a2 (fun r1 h => κ (.int .u64 r1) h) h
  | _ => False

noncomputable def ring_reader_number.calls (U : Ifc) : List (Nat × (List V → (V → Heap → Prop) → Heap → Prop)) := []

noncomputable def ring_reader_number.E (U : Ifc) (Q : Int → Heap → Prop) (cuts : List (Nat × (List Nat × (List V → Heap → Prop)))) : Env := { tis := tisT, fns := fnsT, tys := tysT, gls := glsT, rts := rtsT, unk := [], nxt := [], calls := ring_reader_number.calls U, ifc := U, cuts := cuts, ret := ring_reader_number.ret Q, rets := [.tmp 4], n := 28 }

theorem ring_reader_number.callsOK {W0 : World} {U : Ifc} (hU : IfcOK sg W0 glsT U) : CallsOK sg W0 (ring_reader_number.calls U) := trivial

theorem ring_reader_number.e : ∀ (U : Ifc) (a1 : Option Ptr) (a2 : Int) (Q : Int → Heap → Prop) (h : Heap), ring_reader_number U a1 a2 Q h = pts (ring_reader_number.E U Q []) 3000 true [.code ring_reader_number.code] (frOf 0 [.ptr a1, .int .u64 a2]) h := by
  intros; kernel_rfl

theorem ring_reader_number.S {W0 : World} {U : Ifc} (hU : IfcOK sg W0 glsT U) : FnS sg W0 74 (ring_reader_number.C U) := by
  intro vs κ h wv hx w s
  unfold ring_reader_number.C at hx
  split at hx
  · rename_i a1 a2
    refine postImp (ret := ring_reader_number.ret (fun r1 h => κ (.int .u64 r1) h)) (fun v h hr => by unfold ring_reader_number.ret at hr; split at hr; exact hr; exact hr.elim) ?_
    exact calls_of_pts (E := ring_reader_number.E U (fun r1 h => κ (.int .u64 r1) h) []) (envOK seatOK (ring_reader_number.callsOK hU) hU) seatOK.mixed ring_reader_number.fun (Nat.le_of_ble_eq_true rfl) wv (cutL_ok trivial) s (fuel := 3000) (by rw [← ring_reader_number.e]; exact hx)
  · exact hx.elim

noncomputable def ring_reader_part.code : Code := Go.Proofs.Tryd.f101.body.getD .skip

theorem ring_reader_part.fun : Fun sg.P 101 68 [.cell 4 48, .tmp 5, .tmp 6] ring_reader_part.code := mkFun Go.Proofs.Tryd.func101 (by kernel_rfl) (by kernel_rfl) (by kernel_rfl) (by kernel_rfl)

def ring_reader_part.ret (Q : Int → Int → Bool → Int → Bool → Heap → Prop) (v : V) (h : Heap) : Prop :=
  match v with
  | .tup [.agg [.int .u64 r1, .int .i64 r2, .bool r3], .int .u64 r4, .bool r5] => Q r1 r2 r3 r4 r5 h
  | _ => False

def ring_reader_part.C (U : Ifc) (vs : List V) (κ : V → Heap → Prop) (h : Heap) : Prop :=
  match vs with
  | [.ptr a1, .int .u64 a2] => ring_reader_part U a1 a2 (fun r1 r2 r3 r4 r5 h => κ (.tup [.agg [.int .u64 r1, .int .i64 r2, .bool r3], .int .u64 r4, .bool r5]) h) h
  | _ => False

noncomputable def ring_reader_part.calls (U : Ifc) : List (Nat × (List V → (V → Heap → Prop) → Heap → Prop)) := [(74, ring_reader_number.C U)]

noncomputable def ring_reader_part.E (U : Ifc) (Q : Int → Int → Bool → Int → Bool → Heap → Prop) (cuts : List (Nat × (List Nat × (List V → Heap → Prop)))) : Env := { tis := tisT, fns := fnsT, tys := tysT, gls := glsT, rts := rtsT, unk := [], nxt := [], calls := ring_reader_part.calls U, ifc := U, cuts := cuts, ret := ring_reader_part.ret Q, rets := [.cell 4 48, .tmp 5, .tmp 6], n := 68 }

theorem ring_reader_part.callsOK {W0 : World} {U : Ifc} (hU : IfcOK sg W0 glsT U) : CallsOK sg W0 (ring_reader_part.calls U) := ⟨(ring_reader_number.S hU), trivial⟩

def ring_reader_part.k7 (I : (Option Ptr) → Int → Ptr → Ptr → Int → Heap → Prop) (vs : List V) (h : Heap) : Prop :=
  match vs with
  | [.ptr a1, .int .u64 a2, .ptr (some a3), .ptr (some a4), .int .i64 a5] => I a1 a2 a3 a4 a5 h
  | _ => False

def ring_reader_part.k9 (I : (Option Ptr) → Ptr → Heap → Prop) (vs : List V) (h : Heap) : Prop :=
  match vs with
  | [.ptr a1, .ptr (some a2)] => I a1 a2 h
  | _ => False

def ring_reader_part.k3 (I : (Option Ptr) → Int → Ptr → Ptr → Int → Heap → Prop) (vs : List V) (h : Heap) : Prop :=
  match vs with
  | [.ptr a1, .int .u64 a2, .ptr (some a3), .ptr (some a4), .int .i64 a5] => I a1 a2 a3 a4 a5 h
  | _ => False

theorem ring_reader_part.p7 : (posC ring_reader_part.code []).filter (fun p => Nat.beq p.1 7) = [(7, atPos (posC ring_reader_part.code []) 7)] := by kernel_rfl

theorem ring_reader_part.e7 : ∀ (U : Ifc) (I3 : (Option Ptr) → Int → Ptr → Ptr → Int → Heap → Prop) (a1 : Option Ptr) (a2 : Int) (a3 : Ptr) (a4 : Ptr) (a5 : Int) (Q : Int → Int → Bool → Int → Bool → Heap → Prop) (h : Heap), ring_reader_part.j7 U I3 a1 a2 a3 a4 a5 Q h = pts (ring_reader_part.E U Q [(3, ([0, 1, 4, 7, 9], ring_reader_part.k3 I3))]) 3000 true (atPos (posC ring_reader_part.code []) 7) (frAt [0, 1, 4, 7, 9] [.ptr a1, .int .u64 a2, .ptr (some a3), .ptr (some a4), .int .i64 a5]) h := by
  intros; kernel_rfl

theorem ring_reader_part.s7 {W0 : World} {U : Ifc} (hU : IfcOK sg W0 glsT U) (Q : Int → Int → Bool → Int → Bool → Heap → Prop) (I3 : (Option Ptr) → Int → Ptr → Ptr → Int → Heap → Prop) (h3 : CutOK sg W0 68 (entered 101) (Post sg W0 (ring_reader_part.ret Q)) (posC ring_reader_part.code []) 3 [0, 1, 4, 7, 9] (ring_reader_part.k3 I3)) : CutOK sg W0 68 (entered 101) (Post sg W0 (ring_reader_part.ret Q)) (posC ring_reader_part.code []) 7 [0, 1, 4, 7, 9] (ring_reader_part.k7 (fun a1 a2 a3 a4 a5 h => ring_reader_part.j7 U I3 a1 a2 a3 a4 a5 Q h)) := by
  refine cutOK_head (fun vs h hk => ?_)
  unfold ring_reader_part.k7 at hk
  split at hk
  · rename_i a1 a2 a3 a4 a5
    intro todo hm ρ a w s f hp
    exact piece (E := ring_reader_part.E U Q [(3, ([0, 1, 4, 7, 9], ring_reader_part.k3 I3))]) (vs := [.ptr a1, .int .u64 a2, .ptr (some a3), .ptr (some a4), .int .i64 a5]) (envOK seatOK (ring_reader_part.callsOK hU) hU) (fnOK seatOK ring_reader_part.fun) ⟨h3, trivial⟩ ring_reader_part.p7 (fuel := 3000) (by rw [← ring_reader_part.e7]; exact hk) hm s f hp
  · exact hk.elim

theorem ring_reader_part.p9 : (posC ring_reader_part.code []).filter (fun p => Nat.beq p.1 9) = [(9, atPos (posC ring_reader_part.code []) 9)] := by kernel_rfl

theorem ring_reader_part.e9 : ∀ (U : Ifc)  (a1 : Option Ptr) (a2 : Ptr) (Q : Int → Int → Bool → Int → Bool → Heap → Prop) (h : Heap), ring_reader_part.j9 U  a1 a2 Q h = pts (ring_reader_part.E U Q []) 3000 true (atPos (posC ring_reader_part.code []) 9) (frAt [0, 4] [.ptr a1, .ptr (some a2)]) h := by
  intros; kernel_rfl

theorem ring_reader_part.s9 {W0 : World} {U : Ifc} (hU : IfcOK sg W0 glsT U) (Q : Int → Int → Bool → Int → Bool → Heap → Prop)   : CutOK sg W0 68 (entered 101) (Post sg W0 (ring_reader_part.ret Q)) (posC ring_reader_part.code []) 9 [0, 4] (ring_reader_part.k9 (fun a1 a2 h => ring_reader_part.j9 U  a1 a2 Q h)) := by
  refine cutOK_head (fun vs h hk => ?_)
  unfold ring_reader_part.k9 at hk
  split at hk
  · rename_i a1 a2
    intro todo hm ρ a w s f hp
    exact piece (E := ring_reader_part.E U Q []) (vs := [.ptr a1, .ptr (some a2)]) (envOK seatOK (ring_reader_part.callsOK hU) hU) (fnOK seatOK ring_reader_part.fun) trivial ring_reader_part.p9 (fuel := 3000) (by rw [← ring_reader_part.e9]; exact hk) hm s f hp
  · exact hk.elim

theorem ring_reader_part.p3 : (posC ring_reader_part.code []).filter (fun p => Nat.beq p.1 3) = [(3, atPos (posC ring_reader_part.code []) 3)] := by kernel_rfl

theorem ring_reader_part.e3 : ∀ (U : Ifc)  (I3 : (Option Ptr) → Int → Ptr → Ptr → Int → Heap → Prop) (a1 : Option Ptr) (a2 : Int) (a3 : Ptr) (a4 : Ptr) (a5 : Int) (Q : Int → Int → Bool → Int → Bool → Heap → Prop) (h : Heap), ring_reader_part.b3 U  I3 a1 a2 a3 a4 a5 Q h = pts (ring_reader_part.E U Q [(7, ([0, 1, 4, 7, 9], ring_reader_part.k7 (fun a1 a2 a3 a4 a5 h => ring_reader_part.j7 U I3 a1 a2 a3 a4 a5 Q h))), (9, ([0, 4], ring_reader_part.k9 (fun a1 a2 h => ring_reader_part.j9 U  a1 a2 Q h)))]) 3000 true (atPos (posC ring_reader_part.code []) 3) (frAt [0, 1, 4, 7, 9] [.ptr a1, .int .u64 a2, .ptr (some a3), .ptr (some a4), .int .i64 a5]) h := by
  intros; kernel_rfl

theorem ring_reader_part.s3 {W0 : World} {U : Ifc} (hU : IfcOK sg W0 glsT U) (Q : Int → Int → Bool → Int → Bool → Heap → Prop)   : CutOK sg W0 68 (entered 101) (Post sg W0 (ring_reader_part.ret Q)) (posC ring_reader_part.code []) 3 [0, 1, 4, 7, 9] (ring_reader_part.k3 (fun a1 a2 a3 a4 a5 h => ring_reader_part.j3 U  a1 a2 a3 a4 a5 Q h)) := by
  refine cutOK_head (fun vs h hk => ?_)
  unfold ring_reader_part.k3 at hk
  split at hk
  · rename_i a1 a2 a3 a4 a5
    refine hk (fun a1 a2 a3 a4 a5 h => Head sg W0 68 (entered 101) (Post sg W0 (ring_reader_part.ret Q)) (posC ring_reader_part.code []) 3 [0, 1, 4, 7, 9] [.ptr a1, .int .u64 a2, .ptr (some a3), .ptr (some a4), .int .i64 a5] h) ?_
    intro a1 a2 a3 a4 a5 h hb todo hm ρ a w s f hp
    have hself : CutOK sg W0 68 (entered 101) (Post sg W0 (ring_reader_part.ret Q)) (posC ring_reader_part.code []) 3 [0, 1, 4, 7, 9] (ring_reader_part.k3 (fun a1 a2 a3 a4 a5 h => Head sg W0 68 (entered 101) (Post sg W0 (ring_reader_part.ret Q)) (posC ring_reader_part.code []) 3 [0, 1, 4, 7, 9] [.ptr a1, .int .u64 a2, .ptr (some a3), .ptr (some a4), .int .i64 a5] h)) := cutOK_head (fun vs h hk => by unfold ring_reader_part.k3 at hk; split at hk; exact hk; exact hk.elim)
    exact piece (E := ring_reader_part.E U Q [(7, ([0, 1, 4, 7, 9], ring_reader_part.k7 (fun a1 a2 a3 a4 a5 h => ring_reader_part.j7 U (fun a1 a2 a3 a4 a5 h => Head sg W0 68 (entered 101) (Post sg W0 (ring_reader_part.ret Q)) (posC ring_reader_part.code []) 3 [0, 1, 4, 7, 9] [.ptr a1, .int .u64 a2, .ptr (some a3), .ptr (some a4), .int .i64 a5] h) a1 a2 a3 a4 a5 Q h))), (9, ([0, 4], ring_reader_part.k9 (fun a1 a2 h => ring_reader_part.j9 U  a1 a2 Q h)))]) (vs := [.ptr a1, .int .u64 a2, .ptr (some a3), .ptr (some a4), .int .i64 a5]) (envOK seatOK (ring_reader_part.callsOK hU) hU) (fnOK seatOK ring_reader_part.fun) ⟨(ring_reader_part.s7 hU Q (fun a1 a2 a3 a4 a5 h => Head sg W0 68 (entered 101) (Post sg W0 (ring_reader_part.ret Q)) (posC ring_reader_part.code []) 3 [0, 1, 4, 7, 9] [.ptr a1, .int .u64 a2, .ptr (some a3), .ptr (some a4), .int .i64 a5] h) hself), (ring_reader_part.s9 hU Q  ), trivial⟩ ring_reader_part.p3 (fuel := 3000) (by rw [← ring_reader_part.e3]; exact hb) hm s f hp
  · exact hk.elim

theorem ring_reader_part.e : ∀ (U : Ifc) (a1 : Option Ptr) (a2 : Int) (Q : Int → Int → Bool → Int → Bool → Heap → Prop) (h : Heap), ring_reader_part U a1 a2 Q h = pts (ring_reader_part.E U Q [(3, ([0, 1, 4, 7, 9], ring_reader_part.k3 (fun a1 a2 a3 a4 a5 h => ring_reader_part.j3 U  a1 a2 a3 a4 a5 Q h)))]) 3000 true [.code ring_reader_part.code] (frOf 0 [.ptr a1, .int .u64 a2]) h := by
  intros; kernel_rfl

theorem ring_reader_part.S {W0 : World} {U : Ifc} (hU : IfcOK sg W0 glsT U) : FnS sg W0 75 (ring_reader_part.C U) := by
  intro vs κ h wv hx w s
  unfold ring_reader_part.C at hx
  split at hx
  · rename_i a1 a2
    refine postImp (ret := ring_reader_part.ret (fun r1 r2 r3 r4 r5 h => κ (.tup [.agg [.int .u64 r1, .int .i64 r2, .bool r3], .int .u64 r4, .bool r5]) h)) (fun v h hr => by unfold ring_reader_part.ret at hr; split at hr; exact hr; exact hr.elim) ?_
    exact calls_of_pts (E := ring_reader_part.E U (fun r1 r2 r3 r4 r5 h => κ (.tup [.agg [.int .u64 r1, .int .i64 r2, .bool r3], .int .u64 r4, .bool r5]) h) [(3, ([0, 1, 4, 7, 9], ring_reader_part.k3 (fun a1 a2 a3 a4 a5 h => ring_reader_part.j3 U  a1 a2 a3 a4 a5 (fun r1 r2 r3 r4 r5 h => κ (.tup [.agg [.int .u64 r1, .int .i64 r2, .bool r3], .int .u64 r4, .bool r5]) h) h)))]) (envOK seatOK (ring_reader_part.callsOK hU) hU) seatOK.mixed ring_reader_part.fun (Nat.le_of_ble_eq_true rfl) wv (cutL_ok ⟨(ring_reader_part.s3 hU (fun r1 r2 r3 r4 r5 h => κ (.tup [.agg [.int .u64 r1, .int .i64 r2, .bool r3], .int .u64 r4, .bool r5]) h)), trivial⟩) s (fuel := 3000) (by rw [← ring_reader_part.e]; exact hx)
  · exact hx.elim

noncomputable def ring_Ring_chain.code : Code := Go.Proofs.Tryd.f87.body.getD .skip

theorem ring_Ring_chain.fun : Fun sg.P 87 82 [.cell 6 116, .tmp 7] ring_Ring_chain.code := mkFun Go.Proofs.Tryd.func87 (by kernel_rfl) (by kernel_rfl) (by kernel_rfl) (by kernel_rfl)

def ring_Ring_chain.ret (Q : Int → Sl → Bool → Heap → Prop) (v : V) (h : Heap) : Prop :=
  match v with
  | .tup [.agg [.int .i64 r1, .sl r2], .bool r3] => Q r1 r2 r3 h
  | _ => False

def ring_Ring_chain.C (U : Ifc) (vs : List V) (κ : V → Heap → Prop) (h : Heap) : Prop :=
  match vs with
  | [.ptr a1, .ptr a2, .int .u64 a3] => ring_Ring_chain U a1 a2 a3 (fun r1 r2 r3 h => κ (.tup [.agg [.int .i64 r1, .sl r2], .bool r3]) h) h
  | _ => False

noncomputable def ring_Ring_chain.calls (U : Ifc) : List (Nat × (List V → (V → Heap → Prop) → Heap → Prop)) := [(75, ring_reader_part.C U)]

noncomputable def ring_Ring_chain.E (U : Ifc) (Q : Int → Sl → Bool → Heap → Prop) (cuts : List (Nat × (List Nat × (List V → Heap → Prop)))) : Env := { tis := tisT, fns := fnsT, tys := tysT, gls := glsT, rts := rtsT, unk := [], nxt := [], calls := ring_Ring_chain.calls U, ifc := U, cuts := cuts, ret := ring_Ring_chain.ret Q, rets := [.cell 6 116, .tmp 7], n := 82 }

theorem ring_Ring_chain.callsOK {W0 : World} {U : Ifc} (hU : IfcOK sg W0 glsT U) : CallsOK sg W0 (ring_Ring_chain.calls U) := ⟨(ring_reader_part.S hU), trivial⟩

def ring_Ring_chain.k9 (I : Ptr → Heap → Prop) (vs : List V) (h : Heap) : Prop :=
  match vs with
  | [.ptr (some a1)] => I a1 h
  | _ => False

def ring_Ring_chain.k10 (I : (Option Ptr) → (Option Ptr) → Int → Ptr → Ptr → Int → Bool → Int → Int → Heap → Prop) (vs : List V) (h : Heap) : Prop :=
  match vs with
  | [.ptr a1, .ptr a2, .int .u64 a3, .ptr (some a4), .ptr (some a5), .int .u64 a6, .bool a7, .int .u64 a8, .int .u64 a9] => I a1 a2 a3 a4 a5 a6 a7 a8 a9 h
  | _ => False

def ring_Ring_chain.k8 (I : (Option Ptr) → (Option Ptr) → Int → Ptr → Ptr → Int → Bool → Int → Int → Int → Heap → Prop) (vs : List V) (h : Heap) : Prop :=
  match vs with
  | [.ptr a1, .ptr a2, .int .u64 a3, .ptr (some a4), .ptr (some a5), .int .u64 a6, .bool a7, .int .i64 a8, .int .u64 a9, .int .u64 a10] => I a1 a2 a3 a4 a5 a6 a7 a8 a9 a10 h
  | _ => False

def ring_Ring_chain.k3 (I : (Option Ptr) → (Option Ptr) → Int → Ptr → Bool → Int → Int → Int → Heap → Prop) (vs : List V) (h : Heap) : Prop :=
  match vs with
  | [.ptr a1, .ptr a2, .int .u64 a3, .ptr (some a4), .bool a5, .int .u64 a6, .int .u64 a7, .int .u64 a8] => I a1 a2 a3 a4 a5 a6 a7 a8 h
  | _ => False

theorem ring_Ring_chain.p9 : (posC ring_Ring_chain.code []).filter (fun p => Nat.beq p.1 9) = [(9, atPos (posC ring_Ring_chain.code []) 9)] := by kernel_rfl

theorem ring_Ring_chain.e9 : ∀ (U : Ifc) (I3 : (Option Ptr) → (Option Ptr) → Int → Ptr → Bool → Int → Int → Int → Heap → Prop) (a1 : Ptr) (Q : Int → Sl → Bool → Heap → Prop) (h : Heap), ring_Ring_chain.j9 U I3 a1 Q h = pts (ring_Ring_chain.E U Q []) 3000 true (atPos (posC ring_Ring_chain.code []) 9) (frAt [6] [.ptr (some a1)]) h := by
  intros; kernel_rfl

theorem ring_Ring_chain.s9 {W0 : World} {U : Ifc} (hU : IfcOK sg W0 glsT U) (Q : Int → Sl → Bool → Heap → Prop) (I3 : (Option Ptr) → (Option Ptr) → Int → Ptr → Bool → Int → Int → Int → Heap → Prop) (h3 : CutOK sg W0 82 (entered 87) (Post sg W0 (ring_Ring_chain.ret Q)) (posC ring_Ring_chain.code []) 3 [0, 1, 2, 6, 7, 8, 17, 18] (ring_Ring_chain.k3 I3)) : CutOK sg W0 82 (entered 87) (Post sg W0 (ring_Ring_chain.ret Q)) (posC ring_Ring_chain.code []) 9 [6] (ring_Ring_chain.k9 (fun a1 h => ring_Ring_chain.j9 U I3 a1 Q h)) := by
  refine cutOK_head (fun vs h hk => ?_)
  unfold ring_Ring_chain.k9 at hk
  split at hk
  · rename_i a1
    intro todo hm ρ a w s f hp
    exact piece (E := ring_Ring_chain.E U Q []) (vs := [.ptr (some a1)]) (envOK seatOK (ring_Ring_chain.callsOK hU) hU) (fnOK seatOK ring_Ring_chain.fun) trivial ring_Ring_chain.p9 (fuel := 3000) (by rw [← ring_Ring_chain.e9]; exact hk) hm s f hp
  · exact hk.elim

theorem ring_Ring_chain.p10 : (posC ring_Ring_chain.code []).filter (fun p => Nat.beq p.1 10) = [(10, atPos (posC ring_Ring_chain.code []) 10)] := by kernel_rfl

theorem ring_Ring_chain.e10 : ∀ (U : Ifc) (I3 : (Option Ptr) → (Option Ptr) → Int → Ptr → Bool → Int → Int → Int → Heap → Prop) (a1 : Option Ptr) (a2 : Option Ptr) (a3 : Int) (a4 : Ptr) (a5 : Ptr) (a6 : Int) (a7 : Bool) (a8 : Int) (a9 : Int) (Q : Int → Sl → Bool → Heap → Prop) (h : Heap), ring_Ring_chain.j10 U I3 a1 a2 a3 a4 a5 a6 a7 a8 a9 Q h = pts (ring_Ring_chain.E U Q [(3, ([0, 1, 2, 6, 7, 8, 17, 18], ring_Ring_chain.k3 I3))]) 3000 true (atPos (posC ring_Ring_chain.code []) 10) (frAt [0, 1, 2, 6, 9, 10, 11, 17, 18] [.ptr a1, .ptr a2, .int .u64 a3, .ptr (some a4), .ptr (some a5), .int .u64 a6, .bool a7, .int .u64 a8, .int .u64 a9]) h := by
  intros; kernel_rfl

theorem ring_Ring_chain.s10 {W0 : World} {U : Ifc} (hU : IfcOK sg W0 glsT U) (Q : Int → Sl → Bool → Heap → Prop) (I3 : (Option Ptr) → (Option Ptr) → Int → Ptr → Bool → Int → Int → Int → Heap → Prop) (h3 : CutOK sg W0 82 (entered 87) (Post sg W0 (ring_Ring_chain.ret Q)) (posC ring_Ring_chain.code []) 3 [0, 1, 2, 6, 7, 8, 17, 18] (ring_Ring_chain.k3 I3)) : CutOK sg W0 82 (entered 87) (Post sg W0 (ring_Ring_chain.ret Q)) (posC ring_Ring_chain.code []) 10 [0, 1, 2, 6, 9, 10, 11, 17, 18] (ring_Ring_chain.k10 (fun a1 a2 a3 a4 a5 a6 a7 a8 a9 h => ring_Ring_chain.j10 U I3 a1 a2 a3 a4 a5 a6 a7 a8 a9 Q h)) := by
  refine cutOK_head (fun vs h hk => ?_)
  unfold ring_Ring_chain.k10 at hk
  split at hk
  · rename_i a1 a2 a3 a4 a5 a6 a7 a8 a9
    intro todo hm ρ a w s f hp
    exact piece (E := ring_Ring_chain.E U Q [(3, ([0, 1, 2, 6, 7, 8, 17, 18], ring_Ring_chain.k3 I3))]) (vs := [.ptr a1, .ptr a2, .int .u64 a3, .ptr (some a4), .ptr (some a5), .int .u64 a6, .bool a7, .int .u64 a8, .int .u64 a9]) (envOK seatOK (ring_Ring_chain.callsOK hU) hU) (fnOK seatOK ring_Ring_chain.fun) ⟨h3, trivial⟩ ring_Ring_chain.p10 (fuel := 3000) (by rw [← ring_Ring_chain.e10]; exact hk) hm s f hp
  · exact hk.elim

theorem ring_Ring_chain.p8 : (posC ring_Ring_chain.code []).filter (fun p => Nat.beq p.1 8) = [(8, atPos (posC ring_Ring_chain.code []) 8)] := by kernel_rfl

theorem ring_Ring_chain.e8 : ∀ (U : Ifc) (I3 : (Option Ptr) → (Option Ptr) → Int → Ptr → Bool → Int → Int → Int → Heap → Prop) (a1 : Option Ptr) (a2 : Option Ptr) (a3 : Int) (a4 : Ptr) (a5 : Ptr) (a6 : Int) (a7 : Bool) (a8 : Int) (a9 : Int) (a10 : Int) (Q : Int → Sl → Bool → Heap → Prop) (h : Heap), ring_Ring_chain.j8 U I3 a1 a2 a3 a4 a5 a6 a7 a8 a9 a10 Q h = pts (ring_Ring_chain.E U Q [(9, ([6], ring_Ring_chain.k9 (fun a1 h => ring_Ring_chain.j9 U I3 a1 Q h))), (10, ([0, 1, 2, 6, 9, 10, 11, 17, 18], ring_Ring_chain.k10 (fun a1 a2 a3 a4 a5 a6 a7 a8 a9 h => ring_Ring_chain.j10 U I3 a1 a2 a3 a4 a5 a6 a7 a8 a9 Q h)))]) 3000 true (atPos (posC ring_Ring_chain.code []) 8) (frAt [0, 1, 2, 6, 9, 10, 11, 12, 17, 18] [.ptr a1, .ptr a2, .int .u64 a3, .ptr (some a4), .ptr (some a5), .int .u64 a6, .bool a7, .int .i64 a8, .int .u64 a9, .int .u64 a10]) h := by
  intros; kernel_rfl

theorem ring_Ring_chain.s8 {W0 : World} {U : Ifc} (hU : IfcOK sg W0 glsT U) (Q : Int → Sl → Bool → Heap → Prop) (I3 : (Option Ptr) → (Option Ptr) → Int → Ptr → Bool → Int → Int → Int → Heap → Prop) (h3 : CutOK sg W0 82 (entered 87) (Post sg W0 (ring_Ring_chain.ret Q)) (posC ring_Ring_chain.code []) 3 [0, 1, 2, 6, 7, 8, 17, 18] (ring_Ring_chain.k3 I3)) : CutOK sg W0 82 (entered 87) (Post sg W0 (ring_Ring_chain.ret Q)) (posC ring_Ring_chain.code []) 8 [0, 1, 2, 6, 9, 10, 11, 12, 17, 18] (ring_Ring_chain.k8 (fun a1 a2 a3 a4 a5 a6 a7 a8 a9 a10 h => ring_Ring_chain.j8 U I3 a1 a2 a3 a4 a5 a6 a7 a8 a9 a10 Q h)) := by
  refine cutOK_head (fun vs h hk => ?_)
  unfold ring_Ring_chain.k8 at hk
  split at hk
  · rename_i a1 a2 a3 a4 a5 a6 a7 a8 a9 a10
    intro todo hm ρ a w s f hp
    exact piece (E := ring_Ring_chain.E U Q [(9, ([6], ring_Ring_chain.k9 (fun a1 h => ring_Ring_chain.j9 U I3 a1 Q h))), (10, ([0, 1, 2, 6, 9, 10, 11, 17, 18], ring_Ring_chain.k10 (fun a1 a2 a3 a4 a5 a6 a7 a8 a9 h => ring_Ring_chain.j10 U I3 a1 a2 a3 a4 a5 a6 a7 a8 a9 Q h)))]) (vs := [.ptr a1, .ptr a2, .int .u64 a3, .ptr (some a4), .ptr (some a5), .int .u64 a6, .bool a7, .int .i64 a8, .int .u64 a9, .int .u64 a10]) (envOK seatOK (ring_Ring_chain.callsOK hU) hU) (fnOK seatOK ring_Ring_chain.fun) ⟨(ring_Ring_chain.s9 hU Q I3 h3), (ring_Ring_chain.s10 hU Q I3 h3), trivial⟩ ring_Ring_chain.p8 (fuel := 3000) (by rw [← ring_Ring_chain.e8]; exact hk) hm s f hp
  · exact hk.elim

theorem ring_Ring_chain.p3 : (posC ring_Ring_chain.code []).filter (fun p => Nat.beq p.1 3) = [(3, atPos (posC ring_Ring_chain.code []) 3)] := by kernel_rfl

theorem ring_Ring_chain.e3 : ∀ (U : Ifc)  (I3 : (Option Ptr) → (Option Ptr) → Int → Ptr → Bool → Int → Int → Int → Heap → Prop) (a1 : Option Ptr) (a2 : Option Ptr) (a3 : Int) (a4 : Ptr) (a5 : Bool) (a6 : Int) (a7 : Int) (a8 : Int) (Q : Int → Sl → Bool → Heap → Prop) (h : Heap), ring_Ring_chain.b3 U  I3 a1 a2 a3 a4 a5 a6 a7 a8 Q h = pts (ring_Ring_chain.E U Q [(8, ([0, 1, 2, 6, 9, 10, 11, 12, 17, 18], ring_Ring_chain.k8 (fun a1 a2 a3 a4 a5 a6 a7 a8 a9 a10 h => ring_Ring_chain.j8 U I3 a1 a2 a3 a4 a5 a6 a7 a8 a9 a10 Q h)))]) 3000 true (atPos (posC ring_Ring_chain.code []) 3) (frAt [0, 1, 2, 6, 7, 8, 17, 18] [.ptr a1, .ptr a2, .int .u64 a3, .ptr (some a4), .bool a5, .int .u64 a6, .int .u64 a7, .int .u64 a8]) h := by
  intros; kernel_rfl

theorem ring_Ring_chain.s3 {W0 : World} {U : Ifc} (hU : IfcOK sg W0 glsT U) (Q : Int → Sl → Bool → Heap → Prop)   : CutOK sg W0 82 (entered 87) (Post sg W0 (ring_Ring_chain.ret Q)) (posC ring_Ring_chain.code []) 3 [0, 1, 2, 6, 7, 8, 17, 18] (ring_Ring_chain.k3 (fun a1 a2 a3 a4 a5 a6 a7 a8 h => ring_Ring_chain.j3 U  a1 a2 a3 a4 a5 a6 a7 a8 Q h)) := by
  refine cutOK_head (fun vs h hk => ?_)
  unfold ring_Ring_chain.k3 at hk
  split at hk
  · rename_i a1 a2 a3 a4 a5 a6 a7 a8
    refine hk (fun a1 a2 a3 a4 a5 a6 a7 a8 h => Head sg W0 82 (entered 87) (Post sg W0 (ring_Ring_chain.ret Q)) (posC ring_Ring_chain.code []) 3 [0, 1, 2, 6, 7, 8, 17, 18] [.ptr a1, .ptr a2, .int .u64 a3, .ptr (some a4), .bool a5, .int .u64 a6, .int .u64 a7, .int .u64 a8] h) ?_
    intro a1 a2 a3 a4 a5 a6 a7 a8 h hb todo hm ρ a w s f hp
    have hself : CutOK sg W0 82 (entered 87) (Post sg W0 (ring_Ring_chain.ret Q)) (posC ring_Ring_chain.code []) 3 [0, 1, 2, 6, 7, 8, 17, 18] (ring_Ring_chain.k3 (fun a1 a2 a3 a4 a5 a6 a7 a8 h => Head sg W0 82 (entered 87) (Post sg W0 (ring_Ring_chain.ret Q)) (posC ring_Ring_chain.code []) 3 [0, 1, 2, 6, 7, 8, 17, 18] [.ptr a1, .ptr a2, .int .u64 a3, .ptr (some a4), .bool a5, .int .u64 a6, .int .u64 a7, .int .u64 a8] h)) := cutOK_head (fun vs h hk => by unfold ring_Ring_chain.k3 at hk; split at hk; exact hk; exact hk.elim)
    exact piece (E := ring_Ring_chain.E U Q [(8, ([0, 1, 2, 6, 9, 10, 11, 12, 17, 18], ring_Ring_chain.k8 (fun a1 a2 a3 a4 a5 a6 a7 a8 a9 a10 h => ring_Ring_chain.j8 U (fun a1 a2 a3 a4 a5 a6 a7 a8 h => Head sg W0 82 (entered 87) (Post sg W0 (ring_Ring_chain.ret Q)) (posC ring_Ring_chain.code []) 3 [0, 1, 2, 6, 7, 8, 17, 18] [.ptr a1, .ptr a2, .int .u64 a3, .ptr (some a4), .bool a5, .int .u64 a6, .int .u64 a7, .int .u64 a8] h) a1 a2 a3 a4 a5 a6 a7 a8 a9 a10 Q h)))]) (vs := [.ptr a1, .ptr a2, .int .u64 a3, .ptr (some a4), .bool a5, .int .u64 a6, .int .u64 a7, .int .u64 a8]) (envOK seatOK (ring_Ring_chain.callsOK hU) hU) (fnOK seatOK ring_Ring_chain.fun) ⟨(ring_Ring_chain.s8 hU Q (fun a1 a2 a3 a4 a5 a6 a7 a8 h => Head sg W0 82 (entered 87) (Post sg W0 (ring_Ring_chain.ret Q)) (posC ring_Ring_chain.code []) 3 [0, 1, 2, 6, 7, 8, 17, 18] [.ptr a1, .ptr a2, .int .u64 a3, .ptr (some a4), .bool a5, .int .u64 a6, .int .u64 a7, .int .u64 a8] h) hself), trivial⟩ ring_Ring_chain.p3 (fuel := 3000) (by rw [← ring_Ring_chain.e3]; exact hb) hm s f hp
  · exact hk.elim

theorem ring_Ring_chain.e : ∀ (U : Ifc) (a1 : Option Ptr) (a2 : Option Ptr) (a3 : Int) (Q : Int → Sl → Bool → Heap → Prop) (h : Heap), ring_Ring_chain U a1 a2 a3 Q h = pts (ring_Ring_chain.E U Q [(3, ([0, 1, 2, 6, 7, 8, 17, 18], ring_Ring_chain.k3 (fun a1 a2 a3 a4 a5 a6 a7 a8 h => ring_Ring_chain.j3 U  a1 a2 a3 a4 a5 a6 a7 a8 Q h)))]) 3000 true [.code ring_Ring_chain.code] (frOf 0 [.ptr a1, .ptr a2, .int .u64 a3]) h := by
  intros; kernel_rfl

theorem ring_Ring_chain.S {W0 : World} {U : Ifc} (hU : IfcOK sg W0 glsT U) : FnS sg W0 76 (ring_Ring_chain.C U) := by
  intro vs κ h wv hx w s
  unfold ring_Ring_chain.C at hx
  split at hx
  · rename_i a1 a2 a3
    refine postImp (ret := ring_Ring_chain.ret (fun r1 r2 r3 h => κ (.tup [.agg [.int .i64 r1, .sl r2], .bool r3]) h)) (fun v h hr => by unfold ring_Ring_chain.ret at hr; split at hr; exact hr; exact hr.elim) ?_
    exact calls_of_pts (E := ring_Ring_chain.E U (fun r1 r2 r3 h => κ (.tup [.agg [.int .i64 r1, .sl r2], .bool r3]) h) [(3, ([0, 1, 2, 6, 7, 8, 17, 18], ring_Ring_chain.k3 (fun a1 a2 a3 a4 a5 a6 a7 a8 h => ring_Ring_chain.j3 U  a1 a2 a3 a4 a5 a6 a7 a8 (fun r1 r2 r3 h => κ (.tup [.agg [.int .i64 r1, .sl r2], .bool r3]) h) h)))]) (envOK seatOK (ring_Ring_chain.callsOK hU) hU) seatOK.mixed ring_Ring_chain.fun (Nat.le_of_ble_eq_true rfl) wv (cutL_ok ⟨(ring_Ring_chain.s3 hU (fun r1 r2 r3 h => κ (.tup [.agg [.int .i64 r1, .sl r2], .bool r3]) h)), trivial⟩) s (fuel := 3000) (by rw [← ring_Ring_chain.e]; exact hx)
  · exact hx.elim

noncomputable def ring_Ring_Next.code : Code := Go.Proofs.Tryd.f54.body.getD .skip

theorem ring_Ring_Next.fun : Fun sg.P 54 109 [.cell 4 116, .tmp 5, .tmp 6] ring_Ring_Next.code := mkFun Go.Proofs.Tryd.func54 (by kernel_rfl) (by kernel_rfl) (by kernel_rfl) (by kernel_rfl)

def ring_Ring_Next.ret (Q : Int → Sl → Bool → Int → Heap → Prop) (v : V) (h : Heap) : Prop :=
  match v with
  | .tup [.agg [.int .i64 r1, .sl r2], .bool r3, .int .i64 r4] => Q r1 r2 r3 r4 h
  | _ => False

def ring_Ring_Next.C (U : Ifc) (vs : List V) (κ : V → Heap → Prop) (h : Heap) : Prop :=
  match vs with
  | [.ptr a1, a2] => ring_Ring_Next U a1 a2 (fun r1 r2 r3 r4 h => κ (.tup [.agg [.int .i64 r1, .sl r2], .bool r3, .int .i64 r4]) h) h
  | _ => False

noncomputable def ring_Ring_Next.calls (U : Ifc) : List (Nat × (List V → (V → Heap → Prop) → Heap → Prop)) := [(30, ring_Ring_usable.C), (74, ring_reader_number.C U), (76, ring_Ring_chain.C U)]

noncomputable def ring_Ring_Next.E (U : Ifc) (Q : Int → Sl → Bool → Int → Heap → Prop) (cuts : List (Nat × (List Nat × (List V → Heap → Prop)))) : Env := { tis := tisT, fns := fnsT, tys := tysT, gls := glsT, rts := rtsT, unk := [], nxt := [], calls := ring_Ring_Next.calls U, ifc := U, cuts := cuts, ret := ring_Ring_Next.ret Q, rets := [.cell 4 116, .tmp 5, .tmp 6], n := 109 }

theorem ring_Ring_Next.callsOK {W0 : World} {U : Ifc} (hU : IfcOK sg W0 glsT U) : CallsOK sg W0 (ring_Ring_Next.calls U) := ⟨ring_Ring_usable.S, (ring_reader_number.S hU), (ring_Ring_chain.S hU), trivial⟩

def ring_Ring_Next.k11 (I : (Option Ptr) → Ptr → Ptr → Int → Heap → Prop) (vs : List V) (h : Heap) : Prop :=
  match vs with
  | [.ptr a1, .ptr (some a2), .ptr (some a3), .int .u64 a4] => I a1 a2 a3 a4 h
  | _ => False

def ring_Ring_Next.k9 (I : (Option Ptr) → Ptr → Ptr → Int → Int → Heap → Prop) (vs : List V) (h : Heap) : Prop :=
  match vs with
  | [.ptr a1, .ptr (some a2), .ptr (some a3), .int .u64 a4, .int .u64 a5] => I a1 a2 a3 a4 a5 h
  | _ => False

def ring_Ring_Next.k7 (I : (Option Ptr) → Ptr → Ptr → Int → Int → Heap → Prop) (vs : List V) (h : Heap) : Prop :=
  match vs with
  | [.ptr a1, .ptr (some a2), .ptr (some a3), .int .u64 a4, .int .u64 a5] => I a1 a2 a3 a4 a5 h
  | _ => False

theorem ring_Ring_Next.p11 : (posC ring_Ring_Next.code []).filter (fun p => Nat.beq p.1 11) = [(11, atPos (posC ring_Ring_Next.code []) 11)] := by kernel_rfl

theorem ring_Ring_Next.e11 : ∀ (U : Ifc)  (a1 : Option Ptr) (a2 : Ptr) (a3 : Ptr) (a4 : Int) (Q : Int → Sl → Bool → Int → Heap → Prop) (h : Heap), ring_Ring_Next.j11 U  a1 a2 a3 a4 Q h = pts (ring_Ring_Next.E U Q []) 3000 true (atPos (posC ring_Ring_Next.code []) 11) (frAt [0, 4, 8, 11] [.ptr a1, .ptr (some a2), .ptr (some a3), .int .u64 a4]) h := by
  intros; kernel_rfl

theorem ring_Ring_Next.s11 {W0 : World} {U : Ifc} (hU : IfcOK sg W0 glsT U) (Q : Int → Sl → Bool → Int → Heap → Prop)   : CutOK sg W0 109 (entered 54) (Post sg W0 (ring_Ring_Next.ret Q)) (posC ring_Ring_Next.code []) 11 [0, 4, 8, 11] (ring_Ring_Next.k11 (fun a1 a2 a3 a4 h => ring_Ring_Next.j11 U  a1 a2 a3 a4 Q h)) := by
  refine cutOK_head (fun vs h hk => ?_)
  unfold ring_Ring_Next.k11 at hk
  split at hk
  · rename_i a1 a2 a3 a4
    intro todo hm ρ a w s f hp
    exact piece (E := ring_Ring_Next.E U Q []) (vs := [.ptr a1, .ptr (some a2), .ptr (some a3), .int .u64 a4]) (envOK seatOK (ring_Ring_Next.callsOK hU) hU) (fnOK seatOK ring_Ring_Next.fun) trivial ring_Ring_Next.p11 (fuel := 3000) (by rw [← ring_Ring_Next.e11]; exact hk) hm s f hp
  · exact hk.elim

theorem ring_Ring_Next.p9 : (posC ring_Ring_Next.code []).filter (fun p => Nat.beq p.1 9) = [(9, atPos (posC ring_Ring_Next.code []) 9)] := by kernel_rfl

theorem ring_Ring_Next.e9 : ∀ (U : Ifc)  (a1 : Option Ptr) (a2 : Ptr) (a3 : Ptr) (a4 : Int) (a5 : Int) (Q : Int → Sl → Bool → Int → Heap → Prop) (h : Heap), ring_Ring_Next.j9 U  a1 a2 a3 a4 a5 Q h = pts (ring_Ring_Next.E U Q [(11, ([0, 4, 8, 11], ring_Ring_Next.k11 (fun a1 a2 a3 a4 h => ring_Ring_Next.j11 U  a1 a2 a3 a4 Q h)))]) 3000 true (atPos (posC ring_Ring_Next.code []) 9) (frAt [0, 4, 8, 9, 10] [.ptr a1, .ptr (some a2), .ptr (some a3), .int .u64 a4, .int .u64 a5]) h := by
  intros; kernel_rfl

theorem ring_Ring_Next.s9 {W0 : World} {U : Ifc} (hU : IfcOK sg W0 glsT U) (Q : Int → Sl → Bool → Int → Heap → Prop)   : CutOK sg W0 109 (entered 54) (Post sg W0 (ring_Ring_Next.ret Q)) (posC ring_Ring_Next.code []) 9 [0, 4, 8, 9, 10] (ring_Ring_Next.k9 (fun a1 a2 a3 a4 a5 h => ring_Ring_Next.j9 U  a1 a2 a3 a4 a5 Q h)) := by
  refine cutOK_head (fun vs h hk => ?_)
  unfold ring_Ring_Next.k9 at hk
  split at hk
  · rename_i a1 a2 a3 a4 a5
    intro todo hm ρ a w s f hp
    exact piece (E := ring_Ring_Next.E U Q [(11, ([0, 4, 8, 11], ring_Ring_Next.k11 (fun a1 a2 a3 a4 h => ring_Ring_Next.j11 U  a1 a2 a3 a4 Q h)))]) (vs := [.ptr a1, .ptr (some a2), .ptr (some a3), .int .u64 a4, .int .u64 a5]) (envOK seatOK (ring_Ring_Next.callsOK hU) hU) (fnOK seatOK ring_Ring_Next.fun) ⟨(ring_Ring_Next.s11 hU Q  ), trivial⟩ ring_Ring_Next.p9 (fuel := 3000) (by rw [← ring_Ring_Next.e9]; exact hk) hm s f hp
  · exact hk.elim

theorem ring_Ring_Next.p7 : (posC ring_Ring_Next.code []).filter (fun p => Nat.beq p.1 7) = [(7, atPos (posC ring_Ring_Next.code []) 7)] := by kernel_rfl

theorem ring_Ring_Next.e7 : ∀ (U : Ifc)  (a1 : Option Ptr) (a2 : Ptr) (a3 : Ptr) (a4 : Int) (a5 : Int) (Q : Int → Sl → Bool → Int → Heap → Prop) (h : Heap), ring_Ring_Next.j7 U  a1 a2 a3 a4 a5 Q h = pts (ring_Ring_Next.E U Q [(9, ([0, 4, 8, 9, 10], ring_Ring_Next.k9 (fun a1 a2 a3 a4 a5 h => ring_Ring_Next.j9 U  a1 a2 a3 a4 a5 Q h)))]) 3000 true (atPos (posC ring_Ring_Next.code []) 7) (frAt [0, 4, 8, 9, 10] [.ptr a1, .ptr (some a2), .ptr (some a3), .int .u64 a4, .int .u64 a5]) h := by
  intros; kernel_rfl

theorem ring_Ring_Next.s7 {W0 : World} {U : Ifc} (hU : IfcOK sg W0 glsT U) (Q : Int → Sl → Bool → Int → Heap → Prop)   : CutOK sg W0 109 (entered 54) (Post sg W0 (ring_Ring_Next.ret Q)) (posC ring_Ring_Next.code []) 7 [0, 4, 8, 9, 10] (ring_Ring_Next.k7 (fun a1 a2 a3 a4 a5 h => ring_Ring_Next.j7 U  a1 a2 a3 a4 a5 Q h)) := by
  refine cutOK_head (fun vs h hk => ?_)
  unfold ring_Ring_Next.k7 at hk
  split at hk
  · rename_i a1 a2 a3 a4 a5
    intro todo hm ρ a w s f hp
    exact piece (E := ring_Ring_Next.E U Q [(9, ([0, 4, 8, 9, 10], ring_Ring_Next.k9 (fun a1 a2 a3 a4 a5 h => ring_Ring_Next.j9 U  a1 a2 a3 a4 a5 Q h)))]) (vs := [.ptr a1, .ptr (some a2), .ptr (some a3), .int .u64 a4, .int .u64 a5]) (envOK seatOK (ring_Ring_Next.callsOK hU) hU) (fnOK seatOK ring_Ring_Next.fun) ⟨(ring_Ring_Next.s9 hU Q  ), trivial⟩ ring_Ring_Next.p7 (fuel := 3000) (by rw [← ring_Ring_Next.e7]; exact hk) hm s f hp
  · exact hk.elim

theorem ring_Ring_Next.e : ∀ (U : Ifc) (a1 : Option Ptr) (a2 : V) (Q : Int → Sl → Bool → Int → Heap → Prop) (h : Heap), ring_Ring_Next U a1 a2 Q h = pts (ring_Ring_Next.E U Q [(7, ([0, 4, 8, 9, 10], ring_Ring_Next.k7 (fun a1 a2 a3 a4 a5 h => ring_Ring_Next.j7 U  a1 a2 a3 a4 a5 Q h)))]) 3000 true [.code ring_Ring_Next.code] (frOf 0 [.ptr a1, a2]) h := by
  intros; kernel_rfl

theorem ring_Ring_Next.S {W0 : World} {U : Ifc} (hU : IfcOK sg W0 glsT U) : FnS sg W0 77 (ring_Ring_Next.C U) := by
  intro vs κ h wv hx w s
  unfold ring_Ring_Next.C at hx
  split at hx
  · rename_i a1 a2
    refine postImp (ret := ring_Ring_Next.ret (fun r1 r2 r3 r4 h => κ (.tup [.agg [.int .i64 r1, .sl r2], .bool r3, .int .i64 r4]) h)) (fun v h hr => by unfold ring_Ring_Next.ret at hr; split at hr; exact hr; exact hr.elim) ?_
    exact calls_of_pts (E := ring_Ring_Next.E U (fun r1 r2 r3 r4 h => κ (.tup [.agg [.int .i64 r1, .sl r2], .bool r3, .int .i64 r4]) h) [(7, ([0, 4, 8, 9, 10], ring_Ring_Next.k7 (fun a1 a2 a3 a4 a5 h => ring_Ring_Next.j7 U  a1 a2 a3 a4 a5 (fun r1 r2 r3 r4 h => κ (.tup [.agg [.int .i64 r1, .sl r2], .bool r3, .int .i64 r4]) h) h)))]) (envOK seatOK (ring_Ring_Next.callsOK hU) hU) seatOK.mixed ring_Ring_Next.fun (Nat.le_of_ble_eq_true rfl) wv (cutL_ok ⟨(ring_Ring_Next.s7 hU (fun r1 r2 r3 r4 h => κ (.tup [.agg [.int .i64 r1, .sl r2], .bool r3, .int .i64 r4]) h)), trivial⟩) s (fuel := 3000) (by rw [← ring_Ring_Next.e]; exact hx)
  · exact hx.elim

noncomputable def ring_Ring_Push.code : Code := Go.Proofs.Tryd.f57.body.getD .skip

theorem ring_Ring_Push.fun : Fun sg.P 57 111 [.tmp 8] ring_Ring_Push.code := mkFun Go.Proofs.Tryd.func57 (by kernel_rfl) (by kernel_rfl) (by kernel_rfl) (by kernel_rfl)

def ring_Ring_Push.ret (Q : Int → Heap → Prop) (v : V) (h : Heap) : Prop :=
  match v with
  | .int .i64 r1 => Q r1 h
  | _ => False

def ring_Ring_Push.C (U : Ifc) (vs : List V) (κ : V → Heap → Prop) (h : Heap) : Prop :=
  match vs with
  | [.ptr a1, a2, .int .i64 a3, .int .i64 a4] => ring_Ring_Push U a1 a2 a3 a4 (fun r1 h => κ (.int .i64 r1) h) h
  | _ => False

noncomputable def ring_Ring_Push.calls (U : Ifc) : List (Nat × (List V → (V → Heap → Prop) → Heap → Prop)) := [(30, ring_Ring_usable.C)]

noncomputable def ring_Ring_Push.E (U : Ifc) (Q : Int → Heap → Prop) (cuts : List (Nat × (List Nat × (List V → Heap → Prop)))) : Env := { tis := tisT, fns := fnsT, tys := tysT, gls := glsT, rts := rtsT, unk := [], nxt := [], calls := ring_Ring_Push.calls U, ifc := U, cuts := cuts, ret := ring_Ring_Push.ret Q, rets := [.tmp 8], n := 111 }

theorem ring_Ring_Push.callsOK {W0 : World} {U : Ifc} (hU : IfcOK sg W0 glsT U) : CallsOK sg W0 (ring_Ring_Push.calls U) := ⟨ring_Ring_usable.S, trivial⟩

def ring_Ring_Push.k5 (I : Heap → Prop) (vs : List V) (h : Heap) : Prop :=
  match vs with
  | [] => I  h
  | _ => False

def ring_Ring_Push.k7 (I : Heap → Prop) (vs : List V) (h : Heap) : Prop :=
  match vs with
  | [] => I  h
  | _ => False

def ring_Ring_Push.k11 (I : (Option Ptr) → V → Sl → Int → Int → Heap → Prop) (vs : List V) (h : Heap) : Prop :=
  match vs with
  | [.ptr a1, a2, .sl a3, .int .i64 a4, .int .i64 a5] => I a1 a2 a3 a4 a5 h
  | _ => False

def ring_Ring_Push.k10 (I : (Option Ptr) → V → Int → Int → Int → Int → Heap → Prop) (vs : List V) (h : Heap) : Prop :=
  match vs with
  | [.ptr a1, a2, .int .i64 a3, .int .i64 a4, .int .u64 a5, .int .u64 a6] => I a1 a2 a3 a4 a5 a6 h
  | _ => False

def ring_Ring_Push.k8 (I : (Option Ptr) → V → Int → Int → Heap → Prop) (vs : List V) (h : Heap) : Prop :=
  match vs with
  | [.ptr a1, a2, .int .i64 a3, .int .i64 a4] => I a1 a2 a3 a4 h
  | _ => False

theorem ring_Ring_Push.p5 : (posC ring_Ring_Push.code []).filter (fun p => Nat.beq p.1 5) = [(5, atPos (posC ring_Ring_Push.code []) 5)] := by kernel_rfl

theorem ring_Ring_Push.e5 : ∀ (U : Ifc)   (Q : Int → Heap → Prop) (h : Heap), ring_Ring_Push.j5 U   Q h = pts (ring_Ring_Push.E U Q []) 3000 true (atPos (posC ring_Ring_Push.code []) 5) (frAt [] []) h := by
  intros; kernel_rfl

theorem ring_Ring_Push.s5 {W0 : World} {U : Ifc} (hU : IfcOK sg W0 glsT U) (Q : Int → Heap → Prop)   : CutOK sg W0 111 (entered 57) (Post sg W0 (ring_Ring_Push.ret Q)) (posC ring_Ring_Push.code []) 5 [] (ring_Ring_Push.k5 (fun  h => ring_Ring_Push.j5 U   Q h)) := by
  refine cutOK_head (fun vs h hk => ?_)
  unfold ring_Ring_Push.k5 at hk
  split at hk
  · skip
    intro todo hm ρ a w s f hp
    exact piece (E := ring_Ring_Push.E U Q []) (vs := []) (envOK seatOK (ring_Ring_Push.callsOK hU) hU) (fnOK seatOK ring_Ring_Push.fun) trivial ring_Ring_Push.p5 (fuel := 3000) (by rw [← ring_Ring_Push.e5]; exact hk) hm s f hp
  · exact hk.elim

theorem ring_Ring_Push.p7 : (posC ring_Ring_Push.code []).filter (fun p => Nat.beq p.1 7) = [(7, atPos (posC ring_Ring_Push.code []) 7)] := by kernel_rfl

theorem ring_Ring_Push.e7 : ∀ (U : Ifc)   (Q : Int → Heap → Prop) (h : Heap), ring_Ring_Push.j7 U   Q h = pts (ring_Ring_Push.E U Q []) 3000 true (atPos (posC ring_Ring_Push.code []) 7) (frAt [] []) h := by
  intros; kernel_rfl

theorem ring_Ring_Push.s7 {W0 : World} {U : Ifc} (hU : IfcOK sg W0 glsT U) (Q : Int → Heap → Prop)   : CutOK sg W0 111 (entered 57) (Post sg W0 (ring_Ring_Push.ret Q)) (posC ring_Ring_Push.code []) 7 [] (ring_Ring_Push.k7 (fun  h => ring_Ring_Push.j7 U   Q h)) := by
  refine cutOK_head (fun vs h hk => ?_)
  unfold ring_Ring_Push.k7 at hk
  split at hk
  · skip
    intro todo hm ρ a w s f hp
    exact piece (E := ring_Ring_Push.E U Q []) (vs := []) (envOK seatOK (ring_Ring_Push.callsOK hU) hU) (fnOK seatOK ring_Ring_Push.fun) trivial ring_Ring_Push.p7 (fuel := 3000) (by rw [← ring_Ring_Push.e7]; exact hk) hm s f hp
  · exact hk.elim

theorem ring_Ring_Push.p11 : (posC ring_Ring_Push.code []).filter (fun p => Nat.beq p.1 11) = [(11, atPos (posC ring_Ring_Push.code []) 11)] := by kernel_rfl

theorem ring_Ring_Push.e11 : ∀ (U : Ifc)  (I11 : (Option Ptr) → V → Sl → Int → Int → Heap → Prop) (a1 : Option Ptr) (a2 : V) (a3 : Sl) (a4 : Int) (a5 : Int) (Q : Int → Heap → Prop) (h : Heap), ring_Ring_Push.b11 U  I11 a1 a2 a3 a4 a5 Q h = pts (ring_Ring_Push.E U Q [(11, ([0, 1, 87, 88, 89], ring_Ring_Push.k11 I11))]) 3000 true (atPos (posC ring_Ring_Push.code []) 11) (frAt [0, 1, 87, 88, 89] [.ptr a1, a2, .sl a3, .int .i64 a4, .int .i64 a5]) h := by
  intros; kernel_rfl

theorem ring_Ring_Push.s11 {W0 : World} {U : Ifc} (hU : IfcOK sg W0 glsT U) (Q : Int → Heap → Prop)   : CutOK sg W0 111 (entered 57) (Post sg W0 (ring_Ring_Push.ret Q)) (posC ring_Ring_Push.code []) 11 [0, 1, 87, 88, 89] (ring_Ring_Push.k11 (fun a1 a2 a3 a4 a5 h => ring_Ring_Push.j11 U  a1 a2 a3 a4 a5 Q h)) := by
  refine cutOK_head (fun vs h hk => ?_)
  unfold ring_Ring_Push.k11 at hk
  split at hk
  · rename_i a1 a2 a3 a4 a5
    refine hk (fun a1 a2 a3 a4 a5 h => Head sg W0 111 (entered 57) (Post sg W0 (ring_Ring_Push.ret Q)) (posC ring_Ring_Push.code []) 11 [0, 1, 87, 88, 89] [.ptr a1, a2, .sl a3, .int .i64 a4, .int .i64 a5] h) ?_
    intro a1 a2 a3 a4 a5 h hb todo hm ρ a w s f hp
    have hself : CutOK sg W0 111 (entered 57) (Post sg W0 (ring_Ring_Push.ret Q)) (posC ring_Ring_Push.code []) 11 [0, 1, 87, 88, 89] (ring_Ring_Push.k11 (fun a1 a2 a3 a4 a5 h => Head sg W0 111 (entered 57) (Post sg W0 (ring_Ring_Push.ret Q)) (posC ring_Ring_Push.code []) 11 [0, 1, 87, 88, 89] [.ptr a1, a2, .sl a3, .int .i64 a4, .int .i64 a5] h)) := cutOK_head (fun vs h hk => by unfold ring_Ring_Push.k11 at hk; split at hk; exact hk; exact hk.elim)
    exact piece (E := ring_Ring_Push.E U Q [(11, ([0, 1, 87, 88, 89], ring_Ring_Push.k11 (fun a1 a2 a3 a4 a5 h => Head sg W0 111 (entered 57) (Post sg W0 (ring_Ring_Push.ret Q)) (posC ring_Ring_Push.code []) 11 [0, 1, 87, 88, 89] [.ptr a1, a2, .sl a3, .int .i64 a4, .int .i64 a5] h)))]) (vs := [.ptr a1, a2, .sl a3, .int .i64 a4, .int .i64 a5]) (envOK seatOK (ring_Ring_Push.callsOK hU) hU) (fnOK seatOK ring_Ring_Push.fun) ⟨hself, trivial⟩ ring_Ring_Push.p11 (fuel := 3000) (by rw [← ring_Ring_Push.e11]; exact hb) hm s f hp
  · exact hk.elim

theorem ring_Ring_Push.p10 : (posC ring_Ring_Push.code []).filter (fun p => Nat.beq p.1 10) = [(10, atPos (posC ring_Ring_Push.code []) 10)] := by kernel_rfl

theorem ring_Ring_Push.e10 : ∀ (U : Ifc)  (a1 : Option Ptr) (a2 : V) (a3 : Int) (a4 : Int) (a5 : Int) (a6 : Int) (Q : Int → Heap → Prop) (h : Heap), ring_Ring_Push.j10 U  a1 a2 a3 a4 a5 a6 Q h = pts (ring_Ring_Push.E U Q [(11, ([0, 1, 87, 88, 89], ring_Ring_Push.k11 (fun a1 a2 a3 a4 a5 h => ring_Ring_Push.j11 U  a1 a2 a3 a4 a5 Q h)))]) 3000 true (atPos (posC ring_Ring_Push.code []) 10) (frAt [0, 1, 2, 3, 10, 11] [.ptr a1, a2, .int .i64 a3, .int .i64 a4, .int .u64 a5, .int .u64 a6]) h := by
  intros; kernel_rfl

theorem ring_Ring_Push.s10 {W0 : World} {U : Ifc} (hU : IfcOK sg W0 glsT U) (Q : Int → Heap → Prop)   : CutOK sg W0 111 (entered 57) (Post sg W0 (ring_Ring_Push.ret Q)) (posC ring_Ring_Push.code []) 10 [0, 1, 2, 3, 10, 11] (ring_Ring_Push.k10 (fun a1 a2 a3 a4 a5 a6 h => ring_Ring_Push.j10 U  a1 a2 a3 a4 a5 a6 Q h)) := by
  refine cutOK_head (fun vs h hk => ?_)
  unfold ring_Ring_Push.k10 at hk
  split at hk
  · rename_i a1 a2 a3 a4 a5 a6
    intro todo hm ρ a w s f hp
    exact piece (E := ring_Ring_Push.E U Q [(11, ([0, 1, 87, 88, 89], ring_Ring_Push.k11 (fun a1 a2 a3 a4 a5 h => ring_Ring_Push.j11 U  a1 a2 a3 a4 a5 Q h)))]) (vs := [.ptr a1, a2, .int .i64 a3, .int .i64 a4, .int .u64 a5, .int .u64 a6]) (envOK seatOK (ring_Ring_Push.callsOK hU) hU) (fnOK seatOK ring_Ring_Push.fun) ⟨(ring_Ring_Push.s11 hU Q  ), trivial⟩ ring_Ring_Push.p10 (fuel := 3000) (by rw [← ring_Ring_Push.e10]; exact hk) hm s f hp
  · exact hk.elim

theorem ring_Ring_Push.p8 : (posC ring_Ring_Push.code []).filter (fun p => Nat.beq p.1 8) = [(8, atPos (posC ring_Ring_Push.code []) 8)] := by kernel_rfl

theorem ring_Ring_Push.e8 : ∀ (U : Ifc)  (a1 : Option Ptr) (a2 : V) (a3 : Int) (a4 : Int) (Q : Int → Heap → Prop) (h : Heap), ring_Ring_Push.j8 U  a1 a2 a3 a4 Q h = pts (ring_Ring_Push.E U Q [(10, ([0, 1, 2, 3, 10, 11], ring_Ring_Push.k10 (fun a1 a2 a3 a4 a5 a6 h => ring_Ring_Push.j10 U  a1 a2 a3 a4 a5 a6 Q h)))]) 3000 true (atPos (posC ring_Ring_Push.code []) 8) (frAt [0, 1, 2, 3] [.ptr a1, a2, .int .i64 a3, .int .i64 a4]) h := by
  intros; kernel_rfl

theorem ring_Ring_Push.s8 {W0 : World} {U : Ifc} (hU : IfcOK sg W0 glsT U) (Q : Int → Heap → Prop)   : CutOK sg W0 111 (entered 57) (Post sg W0 (ring_Ring_Push.ret Q)) (posC ring_Ring_Push.code []) 8 [0, 1, 2, 3] (ring_Ring_Push.k8 (fun a1 a2 a3 a4 h => ring_Ring_Push.j8 U  a1 a2 a3 a4 Q h)) := by
  refine cutOK_head (fun vs h hk => ?_)
  unfold ring_Ring_Push.k8 at hk
  split at hk
  · rename_i a1 a2 a3 a4
    intro todo hm ρ a w s f hp
    exact piece (E := ring_Ring_Push.E U Q [(10, ([0, 1, 2, 3, 10, 11], ring_Ring_Push.k10 (fun a1 a2 a3 a4 a5 a6 h => ring_Ring_Push.j10 U  a1 a2 a3 a4 a5 a6 Q h)))]) (vs := [.ptr a1, a2, .int .i64 a3, .int .i64 a4]) (envOK seatOK (ring_Ring_Push.callsOK hU) hU) (fnOK seatOK ring_Ring_Push.fun) ⟨(ring_Ring_Push.s10 hU Q  ), trivial⟩ ring_Ring_Push.p8 (fuel := 3000) (by rw [← ring_Ring_Push.e8]; exact hk) hm s f hp
  · exact hk.elim

theorem ring_Ring_Push.e : ∀ (U : Ifc) (a1 : Option Ptr) (a2 : V) (a3 : Int) (a4 : Int) (Q : Int → Heap → Prop) (h : Heap), ring_Ring_Push U a1 a2 a3 a4 Q h = pts (ring_Ring_Push.E U Q [(5, ([], ring_Ring_Push.k5 (fun  h => ring_Ring_Push.j5 U   Q h))), (7, ([], ring_Ring_Push.k7 (fun  h => ring_Ring_Push.j7 U   Q h))), (8, ([0, 1, 2, 3], ring_Ring_Push.k8 (fun a1 a2 a3 a4 h => ring_Ring_Push.j8 U  a1 a2 a3 a4 Q h)))]) 3000 true [.code ring_Ring_Push.code] (frOf 0 [.ptr a1, a2, .int .i64 a3, .int .i64 a4]) h := by
  intros; kernel_rfl

theorem ring_Ring_Push.S {W0 : World} {U : Ifc} (hU : IfcOK sg W0 glsT U) : FnS sg W0 78 (ring_Ring_Push.C U) := by
  intro vs κ h wv hx w s
  unfold ring_Ring_Push.C at hx
  split at hx
  · rename_i a1 a2 a3 a4
    refine postImp (ret := ring_Ring_Push.ret (fun r1 h => κ (.int .i64 r1) h)) (fun v h hr => by unfold ring_Ring_Push.ret at hr; split at hr; exact hr; exact hr.elim) ?_
    exact calls_of_pts (E := ring_Ring_Push.E U (fun r1 h => κ (.int .i64 r1) h) [(5, ([], ring_Ring_Push.k5 (fun  h => ring_Ring_Push.j5 U   (fun r1 h => κ (.int .i64 r1) h) h))), (7, ([], ring_Ring_Push.k7 (fun  h => ring_Ring_Push.j7 U   (fun r1 h => κ (.int .i64 r1) h) h))), (8, ([0, 1, 2, 3], ring_Ring_Push.k8 (fun a1 a2 a3 a4 h => ring_Ring_Push.j8 U  a1 a2 a3 a4 (fun r1 h => κ (.int .i64 r1) h) h)))]) (envOK seatOK (ring_Ring_Push.callsOK hU) hU) seatOK.mixed ring_Ring_Push.fun (Nat.le_of_ble_eq_true rfl) wv (cutL_ok ⟨(ring_Ring_Push.s5 hU (fun r1 h => κ (.int .i64 r1) h)), (ring_Ring_Push.s7 hU (fun r1 h => κ (.int .i64 r1) h)), (ring_Ring_Push.s8 hU (fun r1 h => κ (.int .i64 r1) h)), trivial⟩) s (fuel := 3000) (by rw [← ring_Ring_Push.e]; exact hx)
  · exact hx.elim

end Go.Fn
