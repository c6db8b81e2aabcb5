/- The links of the shallow functions to the machine. PRINTED by lift.py. -/
import Derived.Test.YtkfgkcdehmjmcaaGb3
set_option linter.unusedVariables false
set_option maxRecDepth 100000
namespace Go.Fn
open Go.Lift

noncomputable def word_known.code : Code := Go.Proofs.Try.f101.body.getD .skip

theorem word_known.fun : Fun sg.P 101 17 [.tmp 2] word_known.code := mkFun Go.Proofs.Try.func101 (by kernel_rfl) (by kernel_rfl) (by kernel_rfl) (by kernel_rfl)

def word_known.ret (Q : Bool → Heap → Prop) (v : V) (h : Heap) : Prop :=
  match v with
  | .bool r1 => Q r1 h
  | _ => False

def word_known.C (U : Ifc) (vs : List V) (κ : V → Heap → Prop) (h : Heap) : Prop :=
  match vs with
  | [.int .i64 a1] => word_known U a1 (fun r1 h => κ (.bool r1) h) h
  | _ => False

noncomputable def word_known.calls (U : Ifc) : List (Nat × (List V → (V → Heap → Prop) → Heap → Prop)) := []

noncomputable def word_known.E (U : Ifc) (Q : Bool → Heap → Prop) (cuts : List (Nat × (List Nat × (List V → Heap → Prop)))) : Env := { tis := tisT, fns := fnsT, tys := tysT, gls := glsT, rts := rtsT, unk := [], nxt := [], calls := word_known.calls U, ifc := U, cuts := cuts, ret := word_known.ret Q, rets := [.tmp 2], n := 17 }

theorem word_known.callsOK {W0 : World} {U : Ifc} (hU : IfcOK sg W0 glsT U) : CallsOK sg W0 (word_known.calls U) := trivial

def word_known.k6 (I : Int → Int → Int → Int → Int → Int → Heap → Prop) (vs : List V) (h : Heap) : Prop :=
  match vs with
  | [.int .i64 a1, .agg [.int .i64 a2, .int .i64 a3, .int .i64 a4, .int .i64 a5], .int .i64 a6] => I a1 a2 a3 a4 a5 a6 h
  | _ => False

def word_known.k2 (I : Int → Int → Int → Int → Int → Int → Heap → Prop) (vs : List V) (h : Heap) : Prop :=
  match vs with
  | [.int .i64 a1, .agg [.int .i64 a2, .int .i64 a3, .int .i64 a4, .int .i64 a5], .int .i64 a6] => I a1 a2 a3 a4 a5 a6 h
  | _ => False

theorem word_known.p6 : (posC word_known.code []).filter (fun p => Nat.beq p.1 6) = [(6, atPos (posC word_known.code []) 6)] := by kernel_rfl

theorem word_known.e6 : ∀ (U : Ifc) (I2 : Int → Int → Int → Int → Int → Int → Heap → Prop) (a1 : Int) (a2 : Int) (a3 : Int) (a4 : Int) (a5 : Int) (a6 : Int) (Q : Bool → Heap → Prop) (h : Heap), word_known.j6 U I2 a1 a2 a3 a4 a5 a6 Q h = pts (word_known.E U Q [(2, ([0, 5, 6], word_known.k2 I2))]) 3000 true (atPos (posC word_known.code []) 6) (frAt [0, 5, 6] [.int .i64 a1, .agg [.int .i64 a2, .int .i64 a3, .int .i64 a4, .int .i64 a5], .int .i64 a6]) h := by
  intros; kernel_rfl

theorem word_known.s6 {W0 : World} {U : Ifc} (hU : IfcOK sg W0 glsT U) (Q : Bool → Heap → Prop) (I2 : Int → Int → Int → Int → Int → Int → Heap → Prop) (h2 : CutOK sg W0 17 (entered 101) (Post sg W0 (word_known.ret Q)) (posC word_known.code []) 2 [0, 5, 6] (word_known.k2 I2)) : CutOK sg W0 17 (entered 101) (Post sg W0 (word_known.ret Q)) (posC word_known.code []) 6 [0, 5, 6] (word_known.k6 (fun a1 a2 a3 a4 a5 a6 h => word_known.j6 U I2 a1 a2 a3 a4 a5 a6 Q h)) := by
  refine cutOK_head (fun vs h hk => ?_)
  unfold word_known.k6 at hk
  split at hk
  · rename_i a1 a2 a3 a4 a5 a6
    intro todo hm ρ a w s f hp
    exact piece (E := word_known.E U Q [(2, ([0, 5, 6], word_known.k2 I2))]) (vs := [.int .i64 a1, .agg [.int .i64 a2, .int .i64 a3, .int .i64 a4, .int .i64 a5], .int .i64 a6]) (envOK seatOK (word_known.callsOK hU) hU) (fnOK seatOK word_known.fun) ⟨h2, trivial⟩ word_known.p6 (fuel := 3000) (by rw [← word_known.e6]; exact hk) hm s f hp
  · exact hk.elim

theorem word_known.p2 : (posC word_known.code []).filter (fun p => Nat.beq p.1 2) = [(2, atPos (posC word_known.code []) 2)] := by kernel_rfl

theorem word_known.e2 : ∀ (U : Ifc)  (I2 : Int → Int → Int → Int → Int → Int → Heap → Prop) (a1 : Int) (a2 : Int) (a3 : Int) (a4 : Int) (a5 : Int) (a6 : Int) (Q : Bool → Heap → Prop) (h : Heap), word_known.b2 U  I2 a1 a2 a3 a4 a5 a6 Q h = pts (word_known.E U Q [(6, ([0, 5, 6], word_known.k6 (fun a1 a2 a3 a4 a5 a6 h => word_known.j6 U I2 a1 a2 a3 a4 a5 a6 Q h)))]) 3000 true (atPos (posC word_known.code []) 2) (frAt [0, 5, 6] [.int .i64 a1, .agg [.int .i64 a2, .int .i64 a3, .int .i64 a4, .int .i64 a5], .int .i64 a6]) h := by
  intros; kernel_rfl

theorem word_known.s2 {W0 : World} {U : Ifc} (hU : IfcOK sg W0 glsT U) (Q : Bool → Heap → Prop)   : CutOK sg W0 17 (entered 101) (Post sg W0 (word_known.ret Q)) (posC word_known.code []) 2 [0, 5, 6] (word_known.k2 (fun a1 a2 a3 a4 a5 a6 h => word_known.j2 U  a1 a2 a3 a4 a5 a6 Q h)) := by
  refine cutOK_head (fun vs h hk => ?_)
  unfold word_known.k2 at hk
  split at hk
  · rename_i a1 a2 a3 a4 a5 a6
    refine hk (fun a1 a2 a3 a4 a5 a6 h => Head sg W0 17 (entered 101) (Post sg W0 (word_known.ret Q)) (posC word_known.code []) 2 [0, 5, 6] [.int .i64 a1, .agg [.int .i64 a2, .int .i64 a3, .int .i64 a4, .int .i64 a5], .int .i64 a6] h) ?_
    intro a1 a2 a3 a4 a5 a6 h hb todo hm ρ a w s f hp
    have hself : CutOK sg W0 17 (entered 101) (Post sg W0 (word_known.ret Q)) (posC word_known.code []) 2 [0, 5, 6] (word_known.k2 (fun a1 a2 a3 a4 a5 a6 h => Head sg W0 17 (entered 101) (Post sg W0 (word_known.ret Q)) (posC word_known.code []) 2 [0, 5, 6] [.int .i64 a1, .agg [.int .i64 a2, .int .i64 a3, .int .i64 a4, .int .i64 a5], .int .i64 a6] h)) := cutOK_head (fun vs h hk => by unfold word_known.k2 at hk; split at hk; exact hk; exact hk.elim)
    exact piece (E := word_known.E U Q [(6, ([0, 5, 6], word_known.k6 (fun a1 a2 a3 a4 a5 a6 h => word_known.j6 U (fun a1 a2 a3 a4 a5 a6 h => Head sg W0 17 (entered 101) (Post sg W0 (word_known.ret Q)) (posC word_known.code []) 2 [0, 5, 6] [.int .i64 a1, .agg [.int .i64 a2, .int .i64 a3, .int .i64 a4, .int .i64 a5], .int .i64 a6] h) a1 a2 a3 a4 a5 a6 Q h)))]) (vs := [.int .i64 a1, .agg [.int .i64 a2, .int .i64 a3, .int .i64 a4, .int .i64 a5], .int .i64 a6]) (envOK seatOK (word_known.callsOK hU) hU) (fnOK seatOK word_known.fun) ⟨(word_known.s6 hU Q (fun a1 a2 a3 a4 a5 a6 h => Head sg W0 17 (entered 101) (Post sg W0 (word_known.ret Q)) (posC word_known.code []) 2 [0, 5, 6] [.int .i64 a1, .agg [.int .i64 a2, .int .i64 a3, .int .i64 a4, .int .i64 a5], .int .i64 a6] h) hself), trivial⟩ word_known.p2 (fuel := 3000) (by rw [← word_known.e2]; exact hb) hm s f hp
  · exact hk.elim

theorem word_known.e : ∀ (U : Ifc) (a1 : Int) (Q : Bool → Heap → Prop) (h : Heap), word_known U a1 Q h = pts (word_known.E U Q [(2, ([0, 5, 6], word_known.k2 (fun a1 a2 a3 a4 a5 a6 h => word_known.j2 U  a1 a2 a3 a4 a5 a6 Q h)))]) 3000 true [.code word_known.code] (frOf 0 [.int .i64 a1]) h := by
  intros; kernel_rfl

theorem word_known.S {W0 : World} {U : Ifc} (hU : IfcOK sg W0 glsT U) : FnS sg W0 93 (word_known.C U) := by
  intro vs κ h wv hx w s
  unfold word_known.C at hx
  split at hx
  · rename_i a1
    refine postImp (ret := word_known.ret (fun r1 h => κ (.bool r1) h)) (fun v h hr => by unfold word_known.ret at hr; split at hr; exact hr; exact hr.elim) ?_
    exact calls_of_pts (E := word_known.E U (fun r1 h => κ (.bool r1) h) [(2, ([0, 5, 6], word_known.k2 (fun a1 a2 a3 a4 a5 a6 h => word_known.j2 U  a1 a2 a3 a4 a5 a6 (fun r1 h => κ (.bool r1) h) h)))]) (envOK seatOK (word_known.callsOK hU) hU) seatOK.mixed word_known.fun (Nat.le_of_ble_eq_true rfl) wv (cutL_ok ⟨(word_known.s2 hU (fun r1 h => κ (.bool r1) h)), trivial⟩) s (fuel := 3000) (by rw [← word_known.e]; exact hx)
  · exact hx.elim

noncomputable def word_Load.code : Code := Go.Proofs.Try.f97.body.getD .skip

theorem word_Load.fun : Fun sg.P 97 53 [.tmp 6, .tmp 7] word_Load.code := mkFun Go.Proofs.Try.func97 (by kernel_rfl) (by kernel_rfl) (by kernel_rfl) (by kernel_rfl)

def word_Load.ret (Q : Int → Bool → Heap → Prop) (v : V) (h : Heap) : Prop :=
  match v with
  | .tup [.int .u64 r1, .bool r2] => Q r1 r2 h
  | _ => False

def word_Load.C (U : Ifc) (vs : List V) (κ : V → Heap → Prop) (h : Heap) : Prop :=
  match vs with
  | [.sl a1, .int .i64 a2, .int .i64 a3] => word_Load U a1 a2 a3 (fun r1 r2 h => κ (.tup [.int .u64 r1, .bool r2]) h) h
  | _ => False

noncomputable def word_Load.calls (U : Ifc) : List (Nat × (List V → (V → Heap → Prop) → Heap → Prop)) := [(93, word_known.C U)]

noncomputable def word_Load.E (U : Ifc) (Q : Int → Bool → Heap → Prop) (cuts : List (Nat × (List Nat × (List V → Heap → Prop)))) : Env := { tis := tisT, fns := fnsT, tys := tysT, gls := glsT, rts := rtsT, unk := [], nxt := [], calls := word_Load.calls U, ifc := U, cuts := cuts, ret := word_Load.ret Q, rets := [.tmp 6, .tmp 7], n := 53 }

theorem word_Load.callsOK {W0 : World} {U : Ifc} (hU : IfcOK sg W0 glsT U) : CallsOK sg W0 (word_Load.calls U) := ⟨(word_known.S hU), trivial⟩

def word_Load.k2 (I : Heap → Prop) (vs : List V) (h : Heap) : Prop :=
  match vs with
  | [] => I  h
  | _ => False

def word_Load.k5 (I : Int → Int → Sl → Int → Int → Heap → Prop) (vs : List V) (h : Heap) : Prop :=
  match vs with
  | [.int .i64 a1, .int .u64 a2, .sl a3, .int .i64 a4, .int .i64 a5] => I a1 a2 a3 a4 a5 h
  | _ => False

theorem word_Load.p2 : (posC word_Load.code []).filter (fun p => Nat.beq p.1 2) = [(2, atPos (posC word_Load.code []) 2)] := by kernel_rfl

theorem word_Load.e2 : ∀ (U : Ifc)   (Q : Int → Bool → Heap → Prop) (h : Heap), word_Load.j2 U   Q h = pts (word_Load.E U Q []) 3000 true (atPos (posC word_Load.code []) 2) (frAt [] []) h := by
  intros; kernel_rfl

theorem word_Load.s2 {W0 : World} {U : Ifc} (hU : IfcOK sg W0 glsT U) (Q : Int → Bool → Heap → Prop)   : CutOK sg W0 53 (entered 97) (Post sg W0 (word_Load.ret Q)) (posC word_Load.code []) 2 [] (word_Load.k2 (fun  h => word_Load.j2 U   Q h)) := by
  refine cutOK_head (fun vs h hk => ?_)
  unfold word_Load.k2 at hk
  split at hk
  · skip
    intro todo hm ρ a w s f hp
    exact piece (E := word_Load.E U Q []) (vs := []) (envOK seatOK (word_Load.callsOK hU) hU) (fnOK seatOK word_Load.fun) trivial word_Load.p2 (fuel := 3000) (by rw [← word_Load.e2]; exact hk) hm s f hp
  · exact hk.elim

theorem word_Load.p5 : (posC word_Load.code []).filter (fun p => Nat.beq p.1 5) = [(5, atPos (posC word_Load.code []) 5)] := by kernel_rfl

theorem word_Load.e5 : ∀ (U : Ifc)  (I5 : Int → Int → Sl → Int → Int → Heap → Prop) (a1 : Int) (a2 : Int) (a3 : Sl) (a4 : Int) (a5 : Int) (Q : Int → Bool → Heap → Prop) (h : Heap), word_Load.b5 U  I5 a1 a2 a3 a4 a5 Q h = pts (word_Load.E U Q [(5, ([2, 8, 31, 32, 33], word_Load.k5 I5))]) 3000 true (atPos (posC word_Load.code []) 5) (frAt [2, 8, 31, 32, 33] [.int .i64 a1, .int .u64 a2, .sl a3, .int .i64 a4, .int .i64 a5]) h := by
  intros; kernel_rfl

theorem word_Load.s5 {W0 : World} {U : Ifc} (hU : IfcOK sg W0 glsT U) (Q : Int → Bool → Heap → Prop)   : CutOK sg W0 53 (entered 97) (Post sg W0 (word_Load.ret Q)) (posC word_Load.code []) 5 [2, 8, 31, 32, 33] (word_Load.k5 (fun a1 a2 a3 a4 a5 h => word_Load.j5 U  a1 a2 a3 a4 a5 Q h)) := by
  refine cutOK_head (fun vs h hk => ?_)
  unfold word_Load.k5 at hk
  split at hk
  · rename_i a1 a2 a3 a4 a5
    refine hk (fun a1 a2 a3 a4 a5 h => Head sg W0 53 (entered 97) (Post sg W0 (word_Load.ret Q)) (posC word_Load.code []) 5 [2, 8, 31, 32, 33] [.int .i64 a1, .int .u64 a2, .sl a3, .int .i64 a4, .int .i64 a5] h) ?_
    intro a1 a2 a3 a4 a5 h hb todo hm ρ a w s f hp
    have hself : CutOK sg W0 53 (entered 97) (Post sg W0 (word_Load.ret Q)) (posC word_Load.code []) 5 [2, 8, 31, 32, 33] (word_Load.k5 (fun a1 a2 a3 a4 a5 h => Head sg W0 53 (entered 97) (Post sg W0 (word_Load.ret Q)) (posC word_Load.code []) 5 [2, 8, 31, 32, 33] [.int .i64 a1, .int .u64 a2, .sl a3, .int .i64 a4, .int .i64 a5] h)) := cutOK_head (fun vs h hk => by unfold word_Load.k5 at hk; split at hk; exact hk; exact hk.elim)
    exact piece (E := word_Load.E U Q [(5, ([2, 8, 31, 32, 33], word_Load.k5 (fun a1 a2 a3 a4 a5 h => Head sg W0 53 (entered 97) (Post sg W0 (word_Load.ret Q)) (posC word_Load.code []) 5 [2, 8, 31, 32, 33] [.int .i64 a1, .int .u64 a2, .sl a3, .int .i64 a4, .int .i64 a5] h)))]) (vs := [.int .i64 a1, .int .u64 a2, .sl a3, .int .i64 a4, .int .i64 a5]) (envOK seatOK (word_Load.callsOK hU) hU) (fnOK seatOK word_Load.fun) ⟨hself, trivial⟩ word_Load.p5 (fuel := 3000) (by rw [← word_Load.e5]; exact hb) hm s f hp
  · exact hk.elim

theorem word_Load.e : ∀ (U : Ifc) (a1 : Sl) (a2 : Int) (a3 : Int) (Q : Int → Bool → Heap → Prop) (h : Heap), word_Load U a1 a2 a3 Q h = pts (word_Load.E U Q [(2, ([], word_Load.k2 (fun  h => word_Load.j2 U   Q h))), (5, ([2, 8, 31, 32, 33], word_Load.k5 (fun a1 a2 a3 a4 a5 h => word_Load.j5 U  a1 a2 a3 a4 a5 Q h)))]) 3000 true [.code word_Load.code] (frOf 0 [.sl a1, .int .i64 a2, .int .i64 a3]) h := by
  intros; kernel_rfl

theorem word_Load.S {W0 : World} {U : Ifc} (hU : IfcOK sg W0 glsT U) : FnS sg W0 94 (word_Load.C U) := by
  intro vs κ h wv hx w s
  unfold word_Load.C at hx
  split at hx
  · rename_i a1 a2 a3
    refine postImp (ret := word_Load.ret (fun r1 r2 h => κ (.tup [.int .u64 r1, .bool r2]) h)) (fun v h hr => by unfold word_Load.ret at hr; split at hr; exact hr; exact hr.elim) ?_
    exact calls_of_pts (E := word_Load.E U (fun r1 r2 h => κ (.tup [.int .u64 r1, .bool r2]) h) [(2, ([], word_Load.k2 (fun  h => word_Load.j2 U   (fun r1 r2 h => κ (.tup [.int .u64 r1, .bool r2]) h) h))), (5, ([2, 8, 31, 32, 33], word_Load.k5 (fun a1 a2 a3 a4 a5 h => word_Load.j5 U  a1 a2 a3 a4 a5 (fun r1 r2 h => κ (.tup [.int .u64 r1, .bool r2]) h) h)))]) (envOK seatOK (word_Load.callsOK hU) hU) seatOK.mixed word_Load.fun (Nat.le_of_ble_eq_true rfl) wv (cutL_ok ⟨(word_Load.s2 hU (fun r1 r2 h => κ (.tup [.int .u64 r1, .bool r2]) h)), (word_Load.s5 hU (fun r1 r2 h => κ (.tup [.int .u64 r1, .bool r2]) h)), trivial⟩) s (fuel := 3000) (by rw [← word_Load.e]; exact hx)
  · exact hx.elim

noncomputable def mem_Memory_Load.code : Code := Go.Proofs.Try.f91.body.getD .skip

theorem mem_Memory_Load.fun : Fun sg.P 91 29 [.tmp 6, .tmp 7] mem_Memory_Load.code := mkFun Go.Proofs.Try.func91 (by kernel_rfl) (by kernel_rfl) (by kernel_rfl) (by kernel_rfl)

def mem_Memory_Load.ret (Q : Int → Int → Heap → Prop) (v : V) (h : Heap) : Prop :=
  match v with
  | .tup [.int .u64 r1, .int .i64 r2] => Q r1 r2 h
  | _ => False

def mem_Memory_Load.C (U : Ifc) (vs : List V) (κ : V → Heap → Prop) (h : Heap) : Prop :=
  match vs with
  | [.ptr a1, .int .u64 a2, .int .i64 a3] => mem_Memory_Load U a1 a2 a3 (fun r1 r2 h => κ (.tup [.int .u64 r1, .int .i64 r2]) h) h
  | _ => False

noncomputable def mem_Memory_Load.calls (U : Ifc) : List (Nat × (List V → (V → Heap → Prop) → Heap → Prop)) := [(59, mem_Memory_number.C), (94, word_Load.C U)]

noncomputable def mem_Memory_Load.E (U : Ifc) (Q : Int → Int → Heap → Prop) (cuts : List (Nat × (List Nat × (List V → Heap → Prop)))) : Env := { tis := tisT, fns := fnsT, tys := tysT, gls := glsT, rts := rtsT, unk := [], nxt := [], calls := mem_Memory_Load.calls U, ifc := U, cuts := cuts, ret := mem_Memory_Load.ret Q, rets := [.tmp 6, .tmp 7], n := 29 }

theorem mem_Memory_Load.callsOK {W0 : World} {U : Ifc} (hU : IfcOK sg W0 glsT U) : CallsOK sg W0 (mem_Memory_Load.calls U) := ⟨mem_Memory_number.S, (word_Load.S hU), trivial⟩

theorem mem_Memory_Load.e : ∀ (U : Ifc) (a1 : Option Ptr) (a2 : Int) (a3 : Int) (Q : Int → Int → Heap → Prop) (h : Heap), mem_Memory_Load U a1 a2 a3 Q h = pts (mem_Memory_Load.E U Q []) 3000 true [.code mem_Memory_Load.code] (frOf 0 [.ptr a1, .int .u64 a2, .int .i64 a3]) h := by
  intros; kernel_rfl

theorem mem_Memory_Load.S {W0 : World} {U : Ifc} (hU : IfcOK sg W0 glsT U) : FnS sg W0 95 (mem_Memory_Load.C U) := by
  intro vs κ h wv hx w s
  unfold mem_Memory_Load.C at hx
  split at hx
  · rename_i a1 a2 a3
    refine postImp (ret := mem_Memory_Load.ret (fun r1 r2 h => κ (.tup [.int .u64 r1, .int .i64 r2]) h)) (fun v h hr => by unfold mem_Memory_Load.ret at hr; split at hr; exact hr; exact hr.elim) ?_
    exact calls_of_pts (E := mem_Memory_Load.E U (fun r1 r2 h => κ (.tup [.int .u64 r1, .int .i64 r2]) h) []) (envOK seatOK (mem_Memory_Load.callsOK hU) hU) seatOK.mixed mem_Memory_Load.fun (Nat.le_of_ble_eq_true rfl) wv (cutL_ok trivial) s (fuel := 3000) (by rw [← mem_Memory_Load.e]; exact hx)
  · exact hx.elim

noncomputable def palisadelaw24_Flat_Load.code : Code := Go.Proofs.Try.f87.body.getD .skip

theorem palisadelaw24_Flat_Load.fun : Fun sg.P 87 32 [.tmp 6, .tmp 7] palisadelaw24_Flat_Load.code := mkFun Go.Proofs.Try.func87 (by kernel_rfl) (by kernel_rfl) (by kernel_rfl) (by kernel_rfl)

def palisadelaw24_Flat_Load.ret (Q : Int → Int → Heap → Prop) (v : V) (h : Heap) : Prop :=
  match v with
  | .tup [.int .u64 r1, .int .i64 r2] => Q r1 r2 h
  | _ => False

def palisadelaw24_Flat_Load.C (U : Ifc) (vs : List V) (κ : V → Heap → Prop) (h : Heap) : Prop :=
  match vs with
  | [.ptr a1, .int .u64 a2, .int .i64 a3] => palisadelaw24_Flat_Load U a1 a2 a3 (fun r1 r2 h => κ (.tup [.int .u64 r1, .int .i64 r2]) h) h
  | _ => False

noncomputable def palisadelaw24_Flat_Load.calls (U : Ifc) : List (Nat × (List V → (V → Heap → Prop) → Heap → Prop)) := [(95, mem_Memory_Load.C U)]

noncomputable def palisadelaw24_Flat_Load.E (U : Ifc) (Q : Int → Int → Heap → Prop) (cuts : List (Nat × (List Nat × (List V → Heap → Prop)))) : Env := { tis := tisT, fns := fnsT, tys := tysT, gls := glsT, rts := rtsT, unk := [], nxt := [], calls := palisadelaw24_Flat_Load.calls U, ifc := U, cuts := cuts, ret := palisadelaw24_Flat_Load.ret Q, rets := [.tmp 6, .tmp 7], n := 32 }

theorem palisadelaw24_Flat_Load.callsOK {W0 : World} {U : Ifc} (hU : IfcOK sg W0 glsT U) : CallsOK sg W0 (palisadelaw24_Flat_Load.calls U) := ⟨(mem_Memory_Load.S hU), trivial⟩

theorem palisadelaw24_Flat_Load.e : ∀ (U : Ifc) (a1 : Option Ptr) (a2 : Int) (a3 : Int) (Q : Int → Int → Heap → Prop) (h : Heap), palisadelaw24_Flat_Load U a1 a2 a3 Q h = pts (palisadelaw24_Flat_Load.E U Q []) 3000 true [.code palisadelaw24_Flat_Load.code] (frOf 0 [.ptr a1, .int .u64 a2, .int .i64 a3]) h := by
  intros; kernel_rfl

theorem palisadelaw24_Flat_Load.S {W0 : World} {U : Ifc} (hU : IfcOK sg W0 glsT U) : FnS sg W0 297 (palisadelaw24_Flat_Load.C U) := by
  intro vs κ h wv hx w s
  unfold palisadelaw24_Flat_Load.C at hx
  split at hx
  · rename_i a1 a2 a3
    refine postImp (ret := palisadelaw24_Flat_Load.ret (fun r1 r2 h => κ (.tup [.int .u64 r1, .int .i64 r2]) h)) (fun v h hr => by unfold palisadelaw24_Flat_Load.ret at hr; split at hr; exact hr; exact hr.elim) ?_
    exact calls_of_pts (E := palisadelaw24_Flat_Load.E U (fun r1 r2 h => κ (.tup [.int .u64 r1, .int .i64 r2]) h) []) (envOK seatOK (palisadelaw24_Flat_Load.callsOK hU) hU) seatOK.mixed palisadelaw24_Flat_Load.fun (Nat.le_of_ble_eq_true rfl) wv (cutL_ok trivial) s (fuel := 3000) (by rw [← palisadelaw24_Flat_Load.e]; exact hx)
  · exact hx.elim

noncomputable def mem_Memory_Put.code : Code := Go.Proofs.Try.f92.body.getD .skip

theorem mem_Memory_Put.fun : Fun sg.P 92 23 [.tmp 6] mem_Memory_Put.code := mkFun Go.Proofs.Try.func92 (by kernel_rfl) (by kernel_rfl) (by kernel_rfl) (by kernel_rfl)

def mem_Memory_Put.ret (Q : Int → Heap → Prop) (v : V) (h : Heap) : Prop :=
  match v with
  | .int .i64 r1 => Q r1 h
  | _ => False

def mem_Memory_Put.C (vs : List V) (κ : V → Heap → Prop) (h : Heap) : Prop :=
  match vs with
  | [.ptr a1, .int .u64 a2, .sl a3] => mem_Memory_Put a1 a2 a3 (fun r1 h => κ (.int .i64 r1) h) h
  | _ => False

noncomputable def mem_Memory_Put.calls : List (Nat × (List V → (V → Heap → Prop) → Heap → Prop)) := [(32, mem_Memory_part.C)]

noncomputable def mem_Memory_Put.E (Q : Int → Heap → Prop) (cuts : List (Nat × (List Nat × (List V → Heap → Prop)))) : Env := { tis := tisT, fns := fnsT, tys := tysT, gls := [], rts := rtsT, unk := [], nxt := [], calls := mem_Memory_Put.calls, ifc := noIfc, cuts := cuts, ret := mem_Memory_Put.ret Q, rets := [.tmp 6], n := 23 }

theorem mem_Memory_Put.callsOK {W0 : World} : CallsOK sg W0 mem_Memory_Put.calls := ⟨mem_Memory_part.S, trivial⟩

theorem mem_Memory_Put.e : ∀ (a1 : Option Ptr) (a2 : Int) (a3 : Sl) (Q : Int → Heap → Prop) (h : Heap), mem_Memory_Put a1 a2 a3 Q h = pts (mem_Memory_Put.E Q []) 3000 true [.code mem_Memory_Put.code] (frOf 0 [.ptr a1, .int .u64 a2, .sl a3]) h := by
  intros; kernel_rfl

theorem mem_Memory_Put.S {W0 : World} : FnS sg W0 33 mem_Memory_Put.C := by
  intro vs κ h wv hx w s
  unfold mem_Memory_Put.C at hx
  split at hx
  · rename_i a1 a2 a3
    refine postImp (ret := mem_Memory_Put.ret (fun r1 h => κ (.int .i64 r1) h)) (fun v h hr => by unfold mem_Memory_Put.ret at hr; split at hr; exact hr; exact hr.elim) ?_
    exact calls_of_pts (E := mem_Memory_Put.E (fun r1 h => κ (.int .i64 r1) h) []) (envOK seatOK mem_Memory_Put.callsOK noIfc_ok) seatOK.mixed mem_Memory_Put.fun (Nat.le_of_ble_eq_true rfl) wv (cutL_ok trivial) s (fuel := 3000) (by rw [← mem_Memory_Put.e]; exact hx)
  · exact hx.elim

noncomputable def palisadelaw24_Flat_Put.code : Code := Go.Proofs.Try.f88.body.getD .skip

theorem palisadelaw24_Flat_Put.fun : Fun sg.P 88 43 [.tmp 6] palisadelaw24_Flat_Put.code := mkFun Go.Proofs.Try.func88 (by kernel_rfl) (by kernel_rfl) (by kernel_rfl) (by kernel_rfl)

def palisadelaw24_Flat_Put.ret (Q : Int → Heap → Prop) (v : V) (h : Heap) : Prop :=
  match v with
  | .int .i64 r1 => Q r1 h
  | _ => False

def palisadelaw24_Flat_Put.C (vs : List V) (κ : V → Heap → Prop) (h : Heap) : Prop :=
  match vs with
  | [.ptr a1, .int .u64 a2, .sl a3] => palisadelaw24_Flat_Put a1 a2 a3 (fun r1 h => κ (.int .i64 r1) h) h
  | _ => False

noncomputable def palisadelaw24_Flat_Put.calls : List (Nat × (List V → (V → Heap → Prop) → Heap → Prop)) := [(33, mem_Memory_Put.C)]

noncomputable def palisadelaw24_Flat_Put.E (Q : Int → Heap → Prop) (cuts : List (Nat × (List Nat × (List V → Heap → Prop)))) : Env := { tis := tisT, fns := fnsT, tys := tysT, gls := [], rts := rtsT, unk := [], nxt := [], calls := palisadelaw24_Flat_Put.calls, ifc := noIfc, cuts := cuts, ret := palisadelaw24_Flat_Put.ret Q, rets := [.tmp 6], n := 43 }

theorem palisadelaw24_Flat_Put.callsOK {W0 : World} : CallsOK sg W0 palisadelaw24_Flat_Put.calls := ⟨mem_Memory_Put.S, trivial⟩

def palisadelaw24_Flat_Put.k2 (I : Heap → Prop) (vs : List V) (h : Heap) : Prop :=
  match vs with
  | [] => I  h
  | _ => False

theorem palisadelaw24_Flat_Put.p2 : (posC palisadelaw24_Flat_Put.code []).filter (fun p => Nat.beq p.1 2) = [(2, atPos (posC palisadelaw24_Flat_Put.code []) 2)] := by kernel_rfl

theorem palisadelaw24_Flat_Put.e2 : ∀   (Q : Int → Heap → Prop) (h : Heap), palisadelaw24_Flat_Put.j2   Q h = pts (palisadelaw24_Flat_Put.E Q []) 3000 true (atPos (posC palisadelaw24_Flat_Put.code []) 2) (frAt [] []) h := by
  intros; kernel_rfl

theorem palisadelaw24_Flat_Put.s2 {W0 : World} (Q : Int → Heap → Prop)   : CutOK sg W0 43 (entered 88) (Post sg W0 (palisadelaw24_Flat_Put.ret Q)) (posC palisadelaw24_Flat_Put.code []) 2 [] (palisadelaw24_Flat_Put.k2 (fun  h => palisadelaw24_Flat_Put.j2   Q h)) := by
  refine cutOK_head (fun vs h hk => ?_)
  unfold palisadelaw24_Flat_Put.k2 at hk
  split at hk
  · skip
    intro todo hm ρ a w s f hp
    exact piece (E := palisadelaw24_Flat_Put.E Q []) (vs := []) (envOK seatOK palisadelaw24_Flat_Put.callsOK noIfc_ok) (fnOK seatOK palisadelaw24_Flat_Put.fun) trivial palisadelaw24_Flat_Put.p2 (fuel := 3000) (by rw [← palisadelaw24_Flat_Put.e2]; exact hk) hm s f hp
  · exact hk.elim

theorem palisadelaw24_Flat_Put.e : ∀ (a1 : Option Ptr) (a2 : Int) (a3 : Sl) (Q : Int → Heap → Prop) (h : Heap), palisadelaw24_Flat_Put a1 a2 a3 Q h = pts (palisadelaw24_Flat_Put.E Q [(2, ([], palisadelaw24_Flat_Put.k2 (fun  h => palisadelaw24_Flat_Put.j2   Q h)))]) 3000 true [.code palisadelaw24_Flat_Put.code] (frOf 0 [.ptr a1, .int .u64 a2, .sl a3]) h := by
  intros; kernel_rfl

theorem palisadelaw24_Flat_Put.S {W0 : World} : FnS sg W0 298 palisadelaw24_Flat_Put.C := by
  intro vs κ h wv hx w s
  unfold palisadelaw24_Flat_Put.C at hx
  split at hx
  · rename_i a1 a2 a3
    refine postImp (ret := palisadelaw24_Flat_Put.ret (fun r1 h => κ (.int .i64 r1) h)) (fun v h hr => by unfold palisadelaw24_Flat_Put.ret at hr; split at hr; exact hr; exact hr.elim) ?_
    exact calls_of_pts (E := palisadelaw24_Flat_Put.E (fun r1 h => κ (.int .i64 r1) h) [(2, ([], palisadelaw24_Flat_Put.k2 (fun  h => palisadelaw24_Flat_Put.j2   (fun r1 h => κ (.int .i64 r1) h) h)))]) (envOK seatOK palisadelaw24_Flat_Put.callsOK noIfc_ok) seatOK.mixed palisadelaw24_Flat_Put.fun (Nat.le_of_ble_eq_true rfl) wv (cutL_ok ⟨(palisadelaw24_Flat_Put.s2 (fun r1 h => κ (.int .i64 r1) h)), trivial⟩) s (fuel := 3000) (by rw [← palisadelaw24_Flat_Put.e]; exact hx)
  · exact hx.elim

noncomputable def word_Store.code : Code := Go.Proofs.Try.f98.body.getD .skip

theorem word_Store.fun : Fun sg.P 98 27 [.tmp 4] word_Store.code := mkFun Go.Proofs.Try.func98 (by kernel_rfl) (by kernel_rfl) (by kernel_rfl) (by kernel_rfl)

def word_Store.ret (Q : Sl → Heap → Prop) (v : V) (h : Heap) : Prop :=
  match v with
  | .sl r1 => Q r1 h
  | _ => False

def word_Store.C (U : Ifc) (vs : List V) (κ : V → Heap → Prop) (h : Heap) : Prop :=
  match vs with
  | [.int .u64 a1, .int .i64 a2] => word_Store U a1 a2 (fun r1 h => κ (.sl r1) h) h
  | _ => False

noncomputable def word_Store.calls (U : Ifc) : List (Nat × (List V → (V → Heap → Prop) → Heap → Prop)) := [(93, word_known.C U)]

noncomputable def word_Store.E (U : Ifc) (Q : Sl → Heap → Prop) (cuts : List (Nat × (List Nat × (List V → Heap → Prop)))) : Env := { tis := tisT, fns := fnsT, tys := tysT, gls := glsT, rts := rtsT, unk := [], nxt := [], calls := word_Store.calls U, ifc := U, cuts := cuts, ret := word_Store.ret Q, rets := [.tmp 4], n := 27 }

theorem word_Store.callsOK {W0 : World} {U : Ifc} (hU : IfcOK sg W0 glsT U) : CallsOK sg W0 (word_Store.calls U) := ⟨(word_known.S hU), trivial⟩

def word_Store.k5 (I : Int → Sl → Int → Int → Heap → Prop) (vs : List V) (h : Heap) : Prop :=
  match vs with
  | [.int .u64 a1, .sl a2, .int .i64 a3, .int .i64 a4] => I a1 a2 a3 a4 h
  | _ => False

theorem word_Store.p5 : (posC word_Store.code []).filter (fun p => Nat.beq p.1 5) = [(5, atPos (posC word_Store.code []) 5)] := by kernel_rfl

theorem word_Store.e5 : ∀ (U : Ifc)  (I5 : Int → Sl → Int → Int → Heap → Prop) (a1 : Int) (a2 : Sl) (a3 : Int) (a4 : Int) (Q : Sl → Heap → Prop) (h : Heap), word_Store.b5 U  I5 a1 a2 a3 a4 Q h = pts (word_Store.E U Q [(5, ([0, 5, 13, 14], word_Store.k5 I5))]) 3000 true (atPos (posC word_Store.code []) 5) (frAt [0, 5, 13, 14] [.int .u64 a1, .sl a2, .int .i64 a3, .int .i64 a4]) h := by
  intros; kernel_rfl

theorem word_Store.s5 {W0 : World} {U : Ifc} (hU : IfcOK sg W0 glsT U) (Q : Sl → Heap → Prop)   : CutOK sg W0 27 (entered 98) (Post sg W0 (word_Store.ret Q)) (posC word_Store.code []) 5 [0, 5, 13, 14] (word_Store.k5 (fun a1 a2 a3 a4 h => word_Store.j5 U  a1 a2 a3 a4 Q h)) := by
  refine cutOK_head (fun vs h hk => ?_)
  unfold word_Store.k5 at hk
  split at hk
  · rename_i a1 a2 a3 a4
    refine hk (fun a1 a2 a3 a4 h => Head sg W0 27 (entered 98) (Post sg W0 (word_Store.ret Q)) (posC word_Store.code []) 5 [0, 5, 13, 14] [.int .u64 a1, .sl a2, .int .i64 a3, .int .i64 a4] h) ?_
    intro a1 a2 a3 a4 h hb todo hm ρ a w s f hp
    have hself : CutOK sg W0 27 (entered 98) (Post sg W0 (word_Store.ret Q)) (posC word_Store.code []) 5 [0, 5, 13, 14] (word_Store.k5 (fun a1 a2 a3 a4 h => Head sg W0 27 (entered 98) (Post sg W0 (word_Store.ret Q)) (posC word_Store.code []) 5 [0, 5, 13, 14] [.int .u64 a1, .sl a2, .int .i64 a3, .int .i64 a4] h)) := cutOK_head (fun vs h hk => by unfold word_Store.k5 at hk; split at hk; exact hk; exact hk.elim)
    exact piece (E := word_Store.E U Q [(5, ([0, 5, 13, 14], word_Store.k5 (fun a1 a2 a3 a4 h => Head sg W0 27 (entered 98) (Post sg W0 (word_Store.ret Q)) (posC word_Store.code []) 5 [0, 5, 13, 14] [.int .u64 a1, .sl a2, .int .i64 a3, .int .i64 a4] h)))]) (vs := [.int .u64 a1, .sl a2, .int .i64 a3, .int .i64 a4]) (envOK seatOK (word_Store.callsOK hU) hU) (fnOK seatOK word_Store.fun) ⟨hself, trivial⟩ word_Store.p5 (fuel := 3000) (by rw [← word_Store.e5]; exact hb) hm s f hp
  · exact hk.elim

theorem word_Store.e : ∀ (U : Ifc) (a1 : Int) (a2 : Int) (Q : Sl → Heap → Prop) (h : Heap), word_Store U a1 a2 Q h = pts (word_Store.E U Q [(5, ([0, 5, 13, 14], word_Store.k5 (fun a1 a2 a3 a4 h => word_Store.j5 U  a1 a2 a3 a4 Q h)))]) 3000 true [.code word_Store.code] (frOf 0 [.int .u64 a1, .int .i64 a2]) h := by
  intros; kernel_rfl

theorem word_Store.S {W0 : World} {U : Ifc} (hU : IfcOK sg W0 glsT U) : FnS sg W0 96 (word_Store.C U) := by
  intro vs κ h wv hx w s
  unfold word_Store.C at hx
  split at hx
  · rename_i a1 a2
    refine postImp (ret := word_Store.ret (fun r1 h => κ (.sl r1) h)) (fun v h hr => by unfold word_Store.ret at hr; split at hr; exact hr; exact hr.elim) ?_
    exact calls_of_pts (E := word_Store.E U (fun r1 h => κ (.sl r1) h) [(5, ([0, 5, 13, 14], word_Store.k5 (fun a1 a2 a3 a4 h => word_Store.j5 U  a1 a2 a3 a4 (fun r1 h => κ (.sl r1) h) h)))]) (envOK seatOK (word_Store.callsOK hU) hU) seatOK.mixed word_Store.fun (Nat.le_of_ble_eq_true rfl) wv (cutL_ok ⟨(word_Store.s5 hU (fun r1 h => κ (.sl r1) h)), trivial⟩) s (fuel := 3000) (by rw [← word_Store.e]; exact hx)
  · exact hx.elim

noncomputable def mem_Memory_Store.code : Code := Go.Proofs.Try.f93.body.getD .skip

theorem mem_Memory_Store.fun : Fun sg.P 93 26 [.tmp 8] mem_Memory_Store.code := mkFun Go.Proofs.Try.func93 (by kernel_rfl) (by kernel_rfl) (by kernel_rfl) (by kernel_rfl)

def mem_Memory_Store.ret (Q : Int → Heap → Prop) (v : V) (h : Heap) : Prop :=
  match v with
  | .int .i64 r1 => Q r1 h
  | _ => False

def mem_Memory_Store.C (U : Ifc) (vs : List V) (κ : V → Heap → Prop) (h : Heap) : Prop :=
  match vs with
  | [.ptr a1, .int .u64 a2, .int .i64 a3, .int .u64 a4] => mem_Memory_Store U a1 a2 a3 a4 (fun r1 h => κ (.int .i64 r1) h) h
  | _ => False

noncomputable def mem_Memory_Store.calls (U : Ifc) : List (Nat × (List V → (V → Heap → Prop) → Heap → Prop)) := [(59, mem_Memory_number.C), (96, word_Store.C U)]

noncomputable def mem_Memory_Store.E (U : Ifc) (Q : Int → Heap → Prop) (cuts : List (Nat × (List Nat × (List V → Heap → Prop)))) : Env := { tis := tisT, fns := fnsT, tys := tysT, gls := glsT, rts := rtsT, unk := [], nxt := [], calls := mem_Memory_Store.calls U, ifc := U, cuts := cuts, ret := mem_Memory_Store.ret Q, rets := [.tmp 8], n := 26 }

theorem mem_Memory_Store.callsOK {W0 : World} {U : Ifc} (hU : IfcOK sg W0 glsT U) : CallsOK sg W0 (mem_Memory_Store.calls U) := ⟨mem_Memory_number.S, (word_Store.S hU), trivial⟩

theorem mem_Memory_Store.e : ∀ (U : Ifc) (a1 : Option Ptr) (a2 : Int) (a3 : Int) (a4 : Int) (Q : Int → Heap → Prop) (h : Heap), mem_Memory_Store U a1 a2 a3 a4 Q h = pts (mem_Memory_Store.E U Q []) 3000 true [.code mem_Memory_Store.code] (frOf 0 [.ptr a1, .int .u64 a2, .int .i64 a3, .int .u64 a4]) h := by
  intros; kernel_rfl

theorem mem_Memory_Store.S {W0 : World} {U : Ifc} (hU : IfcOK sg W0 glsT U) : FnS sg W0 97 (mem_Memory_Store.C U) := by
  intro vs κ h wv hx w s
  unfold mem_Memory_Store.C at hx
  split at hx
  · rename_i a1 a2 a3 a4
    refine postImp (ret := mem_Memory_Store.ret (fun r1 h => κ (.int .i64 r1) h)) (fun v h hr => by unfold mem_Memory_Store.ret at hr; split at hr; exact hr; exact hr.elim) ?_
    exact calls_of_pts (E := mem_Memory_Store.E U (fun r1 h => κ (.int .i64 r1) h) []) (envOK seatOK (mem_Memory_Store.callsOK hU) hU) seatOK.mixed mem_Memory_Store.fun (Nat.le_of_ble_eq_true rfl) wv (cutL_ok trivial) s (fuel := 3000) (by rw [← mem_Memory_Store.e]; exact hx)
  · exact hx.elim

noncomputable def palisadelaw24_Flat_Store.code : Code := Go.Proofs.Try.f89.body.getD .skip

theorem palisadelaw24_Flat_Store.fun : Fun sg.P 89 32 [.tmp 8] palisadelaw24_Flat_Store.code := mkFun Go.Proofs.Try.func89 (by kernel_rfl) (by kernel_rfl) (by kernel_rfl) (by kernel_rfl)

def palisadelaw24_Flat_Store.ret (Q : Int → Heap → Prop) (v : V) (h : Heap) : Prop :=
  match v with
  | .int .i64 r1 => Q r1 h
  | _ => False

def palisadelaw24_Flat_Store.C (U : Ifc) (vs : List V) (κ : V → Heap → Prop) (h : Heap) : Prop :=
  match vs with
  | [.ptr a1, .int .u64 a2, .int .i64 a3, .int .u64 a4] => palisadelaw24_Flat_Store U a1 a2 a3 a4 (fun r1 h => κ (.int .i64 r1) h) h
  | _ => False

noncomputable def palisadelaw24_Flat_Store.calls (U : Ifc) : List (Nat × (List V → (V → Heap → Prop) → Heap → Prop)) := [(97, mem_Memory_Store.C U)]

noncomputable def palisadelaw24_Flat_Store.E (U : Ifc) (Q : Int → Heap → Prop) (cuts : List (Nat × (List Nat × (List V → Heap → Prop)))) : Env := { tis := tisT, fns := fnsT, tys := tysT, gls := glsT, rts := rtsT, unk := [], nxt := [], calls := palisadelaw24_Flat_Store.calls U, ifc := U, cuts := cuts, ret := palisadelaw24_Flat_Store.ret Q, rets := [.tmp 8], n := 32 }

theorem palisadelaw24_Flat_Store.callsOK {W0 : World} {U : Ifc} (hU : IfcOK sg W0 glsT U) : CallsOK sg W0 (palisadelaw24_Flat_Store.calls U) := ⟨(mem_Memory_Store.S hU), trivial⟩

theorem palisadelaw24_Flat_Store.e : ∀ (U : Ifc) (a1 : Option Ptr) (a2 : Int) (a3 : Int) (a4 : Int) (Q : Int → Heap → Prop) (h : Heap), palisadelaw24_Flat_Store U a1 a2 a3 a4 Q h = pts (palisadelaw24_Flat_Store.E U Q []) 3000 true [.code palisadelaw24_Flat_Store.code] (frOf 0 [.ptr a1, .int .u64 a2, .int .i64 a3, .int .u64 a4]) h := by
  intros; kernel_rfl

theorem palisadelaw24_Flat_Store.S {W0 : World} {U : Ifc} (hU : IfcOK sg W0 glsT U) : FnS sg W0 299 (palisadelaw24_Flat_Store.C U) := by
  intro vs κ h wv hx w s
  unfold palisadelaw24_Flat_Store.C at hx
  split at hx
  · rename_i a1 a2 a3 a4
    refine postImp (ret := palisadelaw24_Flat_Store.ret (fun r1 h => κ (.int .i64 r1) h)) (fun v h hr => by unfold palisadelaw24_Flat_Store.ret at hr; split at hr; exact hr; exact hr.elim) ?_
    exact calls_of_pts (E := palisadelaw24_Flat_Store.E U (fun r1 h => κ (.int .i64 r1) h) []) (envOK seatOK (palisadelaw24_Flat_Store.callsOK hU) hU) seatOK.mixed palisadelaw24_Flat_Store.fun (Nat.le_of_ble_eq_true rfl) wv (cutL_ok trivial) s (fuel := 3000) (by rw [← palisadelaw24_Flat_Store.e]; exact hx)
  · exact hx.elim

end Go.Fn
