/- The links of the shallow functions to the machine. PRINTED by lift.py. -/
import Derived.Test.YtgfnnjnmomifjaaDoorGb1
set_option linter.unusedVariables false
set_option maxRecDepth 100000
namespace Go.Fn
open Go.Lift

noncomputable def backend_each.code : Code := Go.Proofs.Tryd.f45.body.getD .skip

theorem backend_each.fun : Fun sg.P 45 49 [.tmp 6, .tmp 7] backend_each.code := mkFun Go.Proofs.Tryd.func45 (by kernel_rfl) (by kernel_rfl) (by kernel_rfl) (by kernel_rfl)

def backend_each.ret (Q : Int → Int → Heap → Prop) (v : V) (h : Heap) : Prop :=
  match v with
  | .tup [.int .i64 r1, .int .i64 r2] => Q r1 r2 h
  | _ => False

def backend_each.C (U : Ifc) (vs : List V) (κ : V → Heap → Prop) (h : Heap) : Prop :=
  match vs with
  | [a1, .ptr a2, a3] => backend_each U a1 a2 a3 (fun r1 r2 h => κ (.tup [.int .i64 r1, .int .i64 r2]) h) h
  | _ => False

noncomputable def backend_each.calls (U : Ifc) : List (Nat × (List V → (V → Heap → Prop) → Heap → Prop)) := [(77, ring_Ring_Next.C U), (78, ring_Ring_Push.C U)]

noncomputable def backend_each.E (U : Ifc) (Q : Int → Int → Heap → Prop) (cuts : List (Nat × (List Nat × (List V → Heap → Prop)))) : Env := { tis := tisT, fns := fnsT, tys := tysT, gls := glsT, rts := rtsT, unk := [33], nxt := [], calls := backend_each.calls U, ifc := U, cuts := cuts, ret := backend_each.ret Q, rets := [.tmp 6, .tmp 7], n := 49 }

theorem backend_each.callsOK {W0 : World} {U : Ifc} (hU : IfcOK sg W0 glsT U) : CallsOK sg W0 (backend_each.calls U) := ⟨(ring_Ring_Next.S hU), (ring_Ring_Push.S hU), trivial⟩

def backend_each.k5 (I : Int → Int → Heap → Prop) (vs : List V) (h : Heap) : Prop :=
  match vs with
  | [.int .i64 a1, .int .i64 a2] => I a1 a2 h
  | _ => False

def backend_each.k2 (I : V → (Option Ptr) → V → Int → Heap → Prop) (vs : List V) (h : Heap) : Prop :=
  match vs with
  | [a1, .ptr a2, a3, .int .i64 a4] => I a1 a2 a3 a4 h
  | _ => False

def backend_each.k8 (I : V → (Option Ptr) → V → Int → Ptr → Heap → Prop) (vs : List V) (h : Heap) : Prop :=
  match vs with
  | [a1, .ptr a2, a3, .int .i64 a4, .ptr (some a5)] => I a1 a2 a3 a4 a5 h
  | _ => False

def backend_each.k3 (I : V → (Option Ptr) → V → Int → Heap → Prop) (vs : List V) (h : Heap) : Prop :=
  match vs with
  | [a1, .ptr a2, a3, .int .i64 a4] => I a1 a2 a3 a4 h
  | _ => False

theorem backend_each.p5 : (posC backend_each.code []).filter (fun p => Nat.beq p.1 5) = [(5, atPos (posC backend_each.code []) 5)] := by kernel_rfl

theorem backend_each.e5 : ∀ (U : Ifc) (I3 : V → (Option Ptr) → V → Int → Heap → Prop) (a1 : Int) (a2 : Int) (Q : Int → Int → Heap → Prop) (h : Heap), backend_each.j5 U I3 a1 a2 Q h = pts (backend_each.E U Q []) 3000 true (atPos (posC backend_each.code []) 5) (frAt [8, 11] [.int .i64 a1, .int .i64 a2]) h := by
  intros; kernel_rfl

theorem backend_each.s5 {W0 : World} {U : Ifc} (hU : IfcOK sg W0 glsT U) (Q : Int → Int → Heap → Prop) (I3 : V → (Option Ptr) → V → Int → Heap → Prop) (h3 : CutOK sg W0 49 (entered 45) (Post sg W0 (backend_each.ret Q)) (posC backend_each.code []) 3 [0, 1, 2, 8] (backend_each.k3 I3)) : CutOK sg W0 49 (entered 45) (Post sg W0 (backend_each.ret Q)) (posC backend_each.code []) 5 [8, 11] (backend_each.k5 (fun a1 a2 h => backend_each.j5 U I3 a1 a2 Q h)) := by
  refine cutOK_head (fun vs h hk => ?_)
  unfold backend_each.k5 at hk
  split at hk
  · rename_i a1 a2
    intro todo hm ρ a w s f hp
    exact piece (E := backend_each.E U Q []) (vs := [.int .i64 a1, .int .i64 a2]) (envOK seatOK (backend_each.callsOK hU) hU) (fnOK seatOK backend_each.fun) trivial backend_each.p5 (fuel := 3000) (by rw [← backend_each.e5]; exact hk) hm s f hp
  · exact hk.elim

theorem backend_each.p2 : (posC backend_each.code []).filter (fun p => Nat.beq p.1 2) = [(2, atPos (posC backend_each.code []) 2)] := by kernel_rfl

theorem backend_each.e2 : ∀ (U : Ifc) (I3 : V → (Option Ptr) → V → Int → Heap → Prop) (a1 : V) (a2 : Option Ptr) (a3 : V) (a4 : Int) (Q : Int → Int → Heap → Prop) (h : Heap), backend_each.j2 U I3 a1 a2 a3 a4 Q h = pts (backend_each.E U Q [(3, ([0, 1, 2, 8], backend_each.k3 I3))]) 3000 true (atPos (posC backend_each.code []) 2) (frAt [0, 1, 2, 8] [a1, .ptr a2, a3, .int .i64 a4]) h := by
  intros; kernel_rfl

theorem backend_each.s2 {W0 : World} {U : Ifc} (hU : IfcOK sg W0 glsT U) (Q : Int → Int → Heap → Prop) (I3 : V → (Option Ptr) → V → Int → Heap → Prop) (h3 : CutOK sg W0 49 (entered 45) (Post sg W0 (backend_each.ret Q)) (posC backend_each.code []) 3 [0, 1, 2, 8] (backend_each.k3 I3)) : CutOK sg W0 49 (entered 45) (Post sg W0 (backend_each.ret Q)) (posC backend_each.code []) 2 [0, 1, 2, 8] (backend_each.k2 (fun a1 a2 a3 a4 h => backend_each.j2 U I3 a1 a2 a3 a4 Q h)) := by
  refine cutOK_head (fun vs h hk => ?_)
  unfold backend_each.k2 at hk
  split at hk
  · rename_i a1 a2 a3 a4
    intro todo hm ρ a w s f hp
    exact piece (E := backend_each.E U Q [(3, ([0, 1, 2, 8], backend_each.k3 I3))]) (vs := [a1, .ptr a2, a3, .int .i64 a4]) (envOK seatOK (backend_each.callsOK hU) hU) (fnOK seatOK backend_each.fun) ⟨h3, trivial⟩ backend_each.p2 (fuel := 3000) (by rw [← backend_each.e2]; exact hk) hm s f hp
  · exact hk.elim

theorem backend_each.p8 : (posC backend_each.code []).filter (fun p => Nat.beq p.1 8) = [(8, atPos (posC backend_each.code []) 8)] := by kernel_rfl

theorem backend_each.e8 : ∀ (U : Ifc) (I3 : V → (Option Ptr) → V → Int → Heap → Prop) (a1 : V) (a2 : Option Ptr) (a3 : V) (a4 : Int) (a5 : Ptr) (Q : Int → Int → Heap → Prop) (h : Heap), backend_each.j8 U I3 a1 a2 a3 a4 a5 Q h = pts (backend_each.E U Q [(2, ([0, 1, 2, 8], backend_each.k2 (fun a1 a2 a3 a4 h => backend_each.j2 U I3 a1 a2 a3 a4 Q h)))]) 3000 true (atPos (posC backend_each.code []) 8) (frAt [0, 1, 2, 8, 12] [a1, .ptr a2, a3, .int .i64 a4, .ptr (some a5)]) h := by
  intros; kernel_rfl

theorem backend_each.s8 {W0 : World} {U : Ifc} (hU : IfcOK sg W0 glsT U) (Q : Int → Int → Heap → Prop) (I3 : V → (Option Ptr) → V → Int → Heap → Prop) (h3 : CutOK sg W0 49 (entered 45) (Post sg W0 (backend_each.ret Q)) (posC backend_each.code []) 3 [0, 1, 2, 8] (backend_each.k3 I3)) : CutOK sg W0 49 (entered 45) (Post sg W0 (backend_each.ret Q)) (posC backend_each.code []) 8 [0, 1, 2, 8, 12] (backend_each.k8 (fun a1 a2 a3 a4 a5 h => backend_each.j8 U I3 a1 a2 a3 a4 a5 Q h)) := by
  refine cutOK_head (fun vs h hk => ?_)
  unfold backend_each.k8 at hk
  split at hk
  · rename_i a1 a2 a3 a4 a5
    intro todo hm ρ a w s f hp
    exact piece (E := backend_each.E U Q [(2, ([0, 1, 2, 8], backend_each.k2 (fun a1 a2 a3 a4 h => backend_each.j2 U I3 a1 a2 a3 a4 Q h)))]) (vs := [a1, .ptr a2, a3, .int .i64 a4, .ptr (some a5)]) (envOK seatOK (backend_each.callsOK hU) hU) (fnOK seatOK backend_each.fun) ⟨(backend_each.s2 hU Q I3 h3), trivial⟩ backend_each.p8 (fuel := 3000) (by rw [← backend_each.e8]; exact hk) hm s f hp
  · exact hk.elim

theorem backend_each.p3 : (posC backend_each.code []).filter (fun p => Nat.beq p.1 3) = [(3, atPos (posC backend_each.code []) 3)] := by kernel_rfl

theorem backend_each.e3 : ∀ (U : Ifc)  (I3 : V → (Option Ptr) → V → Int → Heap → Prop) (a1 : V) (a2 : Option Ptr) (a3 : V) (a4 : Int) (Q : Int → Int → Heap → Prop) (h : Heap), backend_each.b3 U  I3 a1 a2 a3 a4 Q h = pts (backend_each.E U Q [(5, ([8, 11], backend_each.k5 (fun a1 a2 h => backend_each.j5 U I3 a1 a2 Q h))), (8, ([0, 1, 2, 8, 12], backend_each.k8 (fun a1 a2 a3 a4 a5 h => backend_each.j8 U I3 a1 a2 a3 a4 a5 Q h)))]) 3000 true (atPos (posC backend_each.code []) 3) (frAt [0, 1, 2, 8] [a1, .ptr a2, a3, .int .i64 a4]) h := by
  intros; kernel_rfl

theorem backend_each.s3 {W0 : World} {U : Ifc} (hU : IfcOK sg W0 glsT U) (Q : Int → Int → Heap → Prop)   : CutOK sg W0 49 (entered 45) (Post sg W0 (backend_each.ret Q)) (posC backend_each.code []) 3 [0, 1, 2, 8] (backend_each.k3 (fun a1 a2 a3 a4 h => backend_each.j3 U  a1 a2 a3 a4 Q h)) := by
  refine cutOK_head (fun vs h hk => ?_)
  unfold backend_each.k3 at hk
  split at hk
  · rename_i a1 a2 a3 a4
    refine hk (fun a1 a2 a3 a4 h => Head sg W0 49 (entered 45) (Post sg W0 (backend_each.ret Q)) (posC backend_each.code []) 3 [0, 1, 2, 8] [a1, .ptr a2, a3, .int .i64 a4] h) ?_
    intro a1 a2 a3 a4 h hb todo hm ρ a w s f hp
    have hself : CutOK sg W0 49 (entered 45) (Post sg W0 (backend_each.ret Q)) (posC backend_each.code []) 3 [0, 1, 2, 8] (backend_each.k3 (fun a1 a2 a3 a4 h => Head sg W0 49 (entered 45) (Post sg W0 (backend_each.ret Q)) (posC backend_each.code []) 3 [0, 1, 2, 8] [a1, .ptr a2, a3, .int .i64 a4] h)) := cutOK_head (fun vs h hk => by unfold backend_each.k3 at hk; split at hk; exact hk; exact hk.elim)
    exact piece (E := backend_each.E U Q [(5, ([8, 11], backend_each.k5 (fun a1 a2 h => backend_each.j5 U (fun a1 a2 a3 a4 h => Head sg W0 49 (entered 45) (Post sg W0 (backend_each.ret Q)) (posC backend_each.code []) 3 [0, 1, 2, 8] [a1, .ptr a2, a3, .int .i64 a4] h) a1 a2 Q h))), (8, ([0, 1, 2, 8, 12], backend_each.k8 (fun a1 a2 a3 a4 a5 h => backend_each.j8 U (fun a1 a2 a3 a4 h => Head sg W0 49 (entered 45) (Post sg W0 (backend_each.ret Q)) (posC backend_each.code []) 3 [0, 1, 2, 8] [a1, .ptr a2, a3, .int .i64 a4] h) a1 a2 a3 a4 a5 Q h)))]) (vs := [a1, .ptr a2, a3, .int .i64 a4]) (envOK seatOK (backend_each.callsOK hU) hU) (fnOK seatOK backend_each.fun) ⟨(backend_each.s5 hU Q (fun a1 a2 a3 a4 h => Head sg W0 49 (entered 45) (Post sg W0 (backend_each.ret Q)) (posC backend_each.code []) 3 [0, 1, 2, 8] [a1, .ptr a2, a3, .int .i64 a4] h) hself), (backend_each.s8 hU Q (fun a1 a2 a3 a4 h => Head sg W0 49 (entered 45) (Post sg W0 (backend_each.ret Q)) (posC backend_each.code []) 3 [0, 1, 2, 8] [a1, .ptr a2, a3, .int .i64 a4] h) hself), trivial⟩ backend_each.p3 (fuel := 3000) (by rw [← backend_each.e3]; exact hb) hm s f hp
  · exact hk.elim

theorem backend_each.e : ∀ (U : Ifc) (a1 : V) (a2 : Option Ptr) (a3 : V) (Q : Int → Int → Heap → Prop) (h : Heap), backend_each U a1 a2 a3 Q h = pts (backend_each.E U Q [(3, ([0, 1, 2, 8], backend_each.k3 (fun a1 a2 a3 a4 h => backend_each.j3 U  a1 a2 a3 a4 Q h)))]) 3000 true [.code backend_each.code] (frOf 0 [a1, .ptr a2, a3]) h := by
  intros; kernel_rfl

theorem backend_each.S {W0 : World} {U : Ifc} (hU : IfcOK sg W0 glsT U) : FnS sg W0 280 (backend_each.C U) := by
  intro vs κ h wv hx w s
  unfold backend_each.C at hx
  split at hx
  · rename_i a1 a2 a3
    refine postImp (ret := backend_each.ret (fun r1 r2 h => κ (.tup [.int .i64 r1, .int .i64 r2]) h)) (fun v h hr => by unfold backend_each.ret at hr; split at hr; exact hr; exact hr.elim) ?_
    exact calls_of_pts (E := backend_each.E U (fun r1 r2 h => κ (.tup [.int .i64 r1, .int .i64 r2]) h) [(3, ([0, 1, 2, 8], backend_each.k3 (fun a1 a2 a3 a4 h => backend_each.j3 U  a1 a2 a3 a4 (fun r1 r2 h => κ (.tup [.int .i64 r1, .int .i64 r2]) h) h)))]) (envOK seatOK (backend_each.callsOK hU) hU) seatOK.mixed backend_each.fun (Nat.le_of_ble_eq_true rfl) wv (cutL_ok ⟨(backend_each.s3 hU (fun r1 r2 h => κ (.tup [.int .i64 r1, .int .i64 r2]) h)), trivial⟩) s (fuel := 3000) (by rw [← backend_each.e]; exact hx)
  · exact hx.elim

noncomputable def backend_Tty_Kick.code : Code := Go.Proofs.Tryd.f15.body.getD .skip

theorem backend_Tty_Kick.fun : Fun sg.P 15 28 [.tmp 4, .tmp 5] backend_Tty_Kick.code := mkFun Go.Proofs.Tryd.func15 (by kernel_rfl) (by kernel_rfl) (by kernel_rfl) (by kernel_rfl)

def backend_Tty_Kick.ret (Q : Int → Int → Heap → Prop) (v : V) (h : Heap) : Prop :=
  match v with
  | .tup [.int .i64 r1, .int .i64 r2] => Q r1 r2 h
  | _ => False

def backend_Tty_Kick.C (U : Ifc) (vs : List V) (κ : V → Heap → Prop) (h : Heap) : Prop :=
  match vs with
  | [.ptr a1, a2] => backend_Tty_Kick U a1 a2 (fun r1 r2 h => κ (.tup [.int .i64 r1, .int .i64 r2]) h) h
  | _ => False

noncomputable def backend_Tty_Kick.calls (U : Ifc) : List (Nat × (List V → (V → Heap → Prop) → Heap → Prop)) := [(280, backend_each.C U)]

noncomputable def backend_Tty_Kick.E (U : Ifc) (Q : Int → Int → Heap → Prop) (cuts : List (Nat × (List Nat × (List V → Heap → Prop)))) : Env := { tis := tisT, fns := fnsT, tys := tysT, gls := glsT, rts := rtsT, unk := [], nxt := [], calls := backend_Tty_Kick.calls U, ifc := U, cuts := cuts, ret := backend_Tty_Kick.ret Q, rets := [.tmp 4, .tmp 5], n := 28 }

theorem backend_Tty_Kick.callsOK {W0 : World} {U : Ifc} (hU : IfcOK sg W0 glsT U) : CallsOK sg W0 (backend_Tty_Kick.calls U) := ⟨(backend_each.S hU), trivial⟩

theorem backend_Tty_Kick.e : ∀ (U : Ifc) (a1 : Option Ptr) (a2 : V) (Q : Int → Int → Heap → Prop) (h : Heap), backend_Tty_Kick U a1 a2 Q h = pts (backend_Tty_Kick.E U Q []) 3000 true [.code backend_Tty_Kick.code] (frOf 0 [.ptr a1, a2]) h := by
  intros; kernel_rfl

theorem backend_Tty_Kick.S {W0 : World} {U : Ifc} (hU : IfcOK sg W0 glsT U) : FnS sg W0 284 (backend_Tty_Kick.C U) := by
  intro vs κ h wv hx w s
  unfold backend_Tty_Kick.C at hx
  split at hx
  · rename_i a1 a2
    refine postImp (ret := backend_Tty_Kick.ret (fun r1 r2 h => κ (.tup [.int .i64 r1, .int .i64 r2]) h)) (fun v h hr => by unfold backend_Tty_Kick.ret at hr; split at hr; exact hr; exact hr.elim) ?_
    exact calls_of_pts (E := backend_Tty_Kick.E U (fun r1 r2 h => κ (.tup [.int .i64 r1, .int .i64 r2]) h) []) (envOK seatOK (backend_Tty_Kick.callsOK hU) hU) seatOK.mixed backend_Tty_Kick.fun (Nat.le_of_ble_eq_true rfl) wv (cutL_ok trivial) s (fuel := 3000) (by rw [← backend_Tty_Kick.e]; exact hx)
  · exact hx.elim

noncomputable def word_Load.code : Code := Go.Proofs.Tryd.f91.body.getD .skip

theorem word_Load.fun : Fun sg.P 91 53 [.tmp 6, .tmp 7] word_Load.code := mkFun Go.Proofs.Tryd.func91 (by kernel_rfl) (by kernel_rfl) (by kernel_rfl) (by kernel_rfl)

def word_Load.ret (Q : Int → Bool → Heap → Prop) (v : V) (h : Heap) : Prop :=
  match v with
  | .tup [.int .u64 r1, .bool r2] => Q r1 r2 h
  | _ => False

def word_Load.C (U : Ifc) (vs : List V) (κ : V → Heap → Prop) (h : Heap) : Prop :=
  match vs with
  | [.sl a1, .int .i64 a2, .int .i64 a3] => word_Load U a1 a2 a3 (fun r1 r2 h => κ (.tup [.int .u64 r1, .bool r2]) h) h
  | _ => False

noncomputable def word_Load.calls (U : Ifc) : List (Nat × (List V → (V → Heap → Prop) → Heap → Prop)) := [(93, word_known.C U)]

noncomputable def word_Load.E (U : Ifc) (Q : Int → Bool → Heap → Prop) (cuts : List (Nat × (List Nat × (List V → Heap → Prop)))) : Env := { tis := tisT, fns := fnsT, tys := tysT, gls := glsT, rts := rtsT, unk := [], nxt := [], calls := word_Load.calls U, ifc := U, cuts := cuts, ret := word_Load.ret Q, rets := [.tmp 6, .tmp 7], n := 53 }

theorem word_Load.callsOK {W0 : World} {U : Ifc} (hU : IfcOK sg W0 glsT U) : CallsOK sg W0 (word_Load.calls U) := ⟨(word_known.S hU), trivial⟩

def word_Load.k2 (I : Heap → Prop) (vs : List V) (h : Heap) : Prop :=
  match vs with
  | [] => I  h
  | _ => False

def word_Load.k5 (I : Int → Int → Sl → Int → Int → Heap → Prop) (vs : List V) (h : Heap) : Prop :=
  match vs with
  | [.int .i64 a1, .int .u64 a2, .sl a3, .int .i64 a4, .int .i64 a5] => I a1 a2 a3 a4 a5 h
  | _ => False

theorem word_Load.p2 : (posC word_Load.code []).filter (fun p => Nat.beq p.1 2) = [(2, atPos (posC word_Load.code []) 2)] := by kernel_rfl

theorem word_Load.e2 : ∀ (U : Ifc)   (Q : Int → Bool → Heap → Prop) (h : Heap), word_Load.j2 U   Q h = pts (word_Load.E U Q []) 3000 true (atPos (posC word_Load.code []) 2) (frAt [] []) h := by
  intros; kernel_rfl

theorem word_Load.s2 {W0 : World} {U : Ifc} (hU : IfcOK sg W0 glsT U) (Q : Int → Bool → Heap → Prop)   : CutOK sg W0 53 (entered 91) (Post sg W0 (word_Load.ret Q)) (posC word_Load.code []) 2 [] (word_Load.k2 (fun  h => word_Load.j2 U   Q h)) := by
  refine cutOK_head (fun vs h hk => ?_)
  unfold word_Load.k2 at hk
  split at hk
  · skip
    intro todo hm ρ a w s f hp
    exact piece (E := word_Load.E U Q []) (vs := []) (envOK seatOK (word_Load.callsOK hU) hU) (fnOK seatOK word_Load.fun) trivial word_Load.p2 (fuel := 3000) (by rw [← word_Load.e2]; exact hk) hm s f hp
  · exact hk.elim

theorem word_Load.p5 : (posC word_Load.code []).filter (fun p => Nat.beq p.1 5) = [(5, atPos (posC word_Load.code []) 5)] := by kernel_rfl

theorem word_Load.e5 : ∀ (U : Ifc)  (I5 : Int → Int → Sl → Int → Int → Heap → Prop) (a1 : Int) (a2 : Int) (a3 : Sl) (a4 : Int) (a5 : Int) (Q : Int → Bool → Heap → Prop) (h : Heap), word_Load.b5 U  I5 a1 a2 a3 a4 a5 Q h = pts (word_Load.E U Q [(5, ([2, 8, 31, 32, 33], word_Load.k5 I5))]) 3000 true (atPos (posC word_Load.code []) 5) (frAt [2, 8, 31, 32, 33] [.int .i64 a1, .int .u64 a2, .sl a3, .int .i64 a4, .int .i64 a5]) h := by
  intros; kernel_rfl

theorem word_Load.s5 {W0 : World} {U : Ifc} (hU : IfcOK sg W0 glsT U) (Q : Int → Bool → Heap → Prop)   : CutOK sg W0 53 (entered 91) (Post sg W0 (word_Load.ret Q)) (posC word_Load.code []) 5 [2, 8, 31, 32, 33] (word_Load.k5 (fun a1 a2 a3 a4 a5 h => word_Load.j5 U  a1 a2 a3 a4 a5 Q h)) := by
  refine cutOK_head (fun vs h hk => ?_)
  unfold word_Load.k5 at hk
  split at hk
  · rename_i a1 a2 a3 a4 a5
    refine hk (fun a1 a2 a3 a4 a5 h => Head sg W0 53 (entered 91) (Post sg W0 (word_Load.ret Q)) (posC word_Load.code []) 5 [2, 8, 31, 32, 33] [.int .i64 a1, .int .u64 a2, .sl a3, .int .i64 a4, .int .i64 a5] h) ?_
    intro a1 a2 a3 a4 a5 h hb todo hm ρ a w s f hp
    have hself : CutOK sg W0 53 (entered 91) (Post sg W0 (word_Load.ret Q)) (posC word_Load.code []) 5 [2, 8, 31, 32, 33] (word_Load.k5 (fun a1 a2 a3 a4 a5 h => Head sg W0 53 (entered 91) (Post sg W0 (word_Load.ret Q)) (posC word_Load.code []) 5 [2, 8, 31, 32, 33] [.int .i64 a1, .int .u64 a2, .sl a3, .int .i64 a4, .int .i64 a5] h)) := cutOK_head (fun vs h hk => by unfold word_Load.k5 at hk; split at hk; exact hk; exact hk.elim)
    exact piece (E := word_Load.E U Q [(5, ([2, 8, 31, 32, 33], word_Load.k5 (fun a1 a2 a3 a4 a5 h => Head sg W0 53 (entered 91) (Post sg W0 (word_Load.ret Q)) (posC word_Load.code []) 5 [2, 8, 31, 32, 33] [.int .i64 a1, .int .u64 a2, .sl a3, .int .i64 a4, .int .i64 a5] h)))]) (vs := [.int .i64 a1, .int .u64 a2, .sl a3, .int .i64 a4, .int .i64 a5]) (envOK seatOK (word_Load.callsOK hU) hU) (fnOK seatOK word_Load.fun) ⟨hself, trivial⟩ word_Load.p5 (fuel := 3000) (by rw [← word_Load.e5]; exact hb) hm s f hp
  · exact hk.elim

theorem word_Load.e : ∀ (U : Ifc) (a1 : Sl) (a2 : Int) (a3 : Int) (Q : Int → Bool → Heap → Prop) (h : Heap), word_Load U a1 a2 a3 Q h = pts (word_Load.E U Q [(2, ([], word_Load.k2 (fun  h => word_Load.j2 U   Q h))), (5, ([2, 8, 31, 32, 33], word_Load.k5 (fun a1 a2 a3 a4 a5 h => word_Load.j5 U  a1 a2 a3 a4 a5 Q h)))]) 3000 true [.code word_Load.code] (frOf 0 [.sl a1, .int .i64 a2, .int .i64 a3]) h := by
  intros; kernel_rfl

theorem word_Load.S {W0 : World} {U : Ifc} (hU : IfcOK sg W0 glsT U) : FnS sg W0 94 (word_Load.C U) := by
  intro vs κ h wv hx w s
  unfold word_Load.C at hx
  split at hx
  · rename_i a1 a2 a3
    refine postImp (ret := word_Load.ret (fun r1 r2 h => κ (.tup [.int .u64 r1, .bool r2]) h)) (fun v h hr => by unfold word_Load.ret at hr; split at hr; exact hr; exact hr.elim) ?_
    exact calls_of_pts (E := word_Load.E U (fun r1 r2 h => κ (.tup [.int .u64 r1, .bool r2]) h) [(2, ([], word_Load.k2 (fun  h => word_Load.j2 U   (fun r1 r2 h => κ (.tup [.int .u64 r1, .bool r2]) h) h))), (5, ([2, 8, 31, 32, 33], word_Load.k5 (fun a1 a2 a3 a4 a5 h => word_Load.j5 U  a1 a2 a3 a4 a5 (fun r1 r2 h => κ (.tup [.int .u64 r1, .bool r2]) h) h)))]) (envOK seatOK (word_Load.callsOK hU) hU) seatOK.mixed word_Load.fun (Nat.le_of_ble_eq_true rfl) wv (cutL_ok ⟨(word_Load.s2 hU (fun r1 r2 h => κ (.tup [.int .u64 r1, .bool r2]) h)), (word_Load.s5 hU (fun r1 r2 h => κ (.tup [.int .u64 r1, .bool r2]) h)), trivial⟩) s (fuel := 3000) (by rw [← word_Load.e]; exact hx)
  · exact hx.elim

noncomputable def mem_Memory_Load.code : Code := Go.Proofs.Tryd.f59.body.getD .skip

theorem mem_Memory_Load.fun : Fun sg.P 59 29 [.tmp 6, .tmp 7] mem_Memory_Load.code := mkFun Go.Proofs.Tryd.func59 (by kernel_rfl) (by kernel_rfl) (by kernel_rfl) (by kernel_rfl)

def mem_Memory_Load.ret (Q : Int → Int → Heap → Prop) (v : V) (h : Heap) : Prop :=
  match v with
  | .tup [.int .u64 r1, .int .i64 r2] => Q r1 r2 h
  | _ => False

def mem_Memory_Load.C (U : Ifc) (vs : List V) (κ : V → Heap → Prop) (h : Heap) : Prop :=
  match vs with
  | [.ptr a1, .int .u64 a2, .int .i64 a3] => mem_Memory_Load U a1 a2 a3 (fun r1 r2 h => κ (.tup [.int .u64 r1, .int .i64 r2]) h) h
  | _ => False

noncomputable def mem_Memory_Load.calls (U : Ifc) : List (Nat × (List V → (V → Heap → Prop) → Heap → Prop)) := [(59, mem_Memory_number.C), (94, word_Load.C U)]

noncomputable def mem_Memory_Load.E (U : Ifc) (Q : Int → Int → Heap → Prop) (cuts : List (Nat × (List Nat × (List V → Heap → Prop)))) : Env := { tis := tisT, fns := fnsT, tys := tysT, gls := glsT, rts := rtsT, unk := [], nxt := [], calls := mem_Memory_Load.calls U, ifc := U, cuts := cuts, ret := mem_Memory_Load.ret Q, rets := [.tmp 6, .tmp 7], n := 29 }

theorem mem_Memory_Load.callsOK {W0 : World} {U : Ifc} (hU : IfcOK sg W0 glsT U) : CallsOK sg W0 (mem_Memory_Load.calls U) := ⟨mem_Memory_number.S, (word_Load.S hU), trivial⟩

theorem mem_Memory_Load.e : ∀ (U : Ifc) (a1 : Option Ptr) (a2 : Int) (a3 : Int) (Q : Int → Int → Heap → Prop) (h : Heap), mem_Memory_Load U a1 a2 a3 Q h = pts (mem_Memory_Load.E U Q []) 3000 true [.code mem_Memory_Load.code] (frOf 0 [.ptr a1, .int .u64 a2, .int .i64 a3]) h := by
  intros; kernel_rfl

theorem mem_Memory_Load.S {W0 : World} {U : Ifc} (hU : IfcOK sg W0 glsT U) : FnS sg W0 95 (mem_Memory_Load.C U) := by
  intro vs κ h wv hx w s
  unfold mem_Memory_Load.C at hx
  split at hx
  · rename_i a1 a2 a3
    refine postImp (ret := mem_Memory_Load.ret (fun r1 r2 h => κ (.tup [.int .u64 r1, .int .i64 r2]) h)) (fun v h hr => by unfold mem_Memory_Load.ret at hr; split at hr; exact hr; exact hr.elim) ?_
    exact calls_of_pts (E := mem_Memory_Load.E U (fun r1 r2 h => κ (.tup [.int .u64 r1, .int .i64 r2]) h) []) (envOK seatOK (mem_Memory_Load.callsOK hU) hU) seatOK.mixed mem_Memory_Load.fun (Nat.le_of_ble_eq_true rfl) wv (cutL_ok trivial) s (fuel := 3000) (by rw [← mem_Memory_Load.e]; exact hx)
  · exact hx.elim

noncomputable def palisadelaw24_Flat_Load.code : Code := Go.Proofs.Tryd.f21.body.getD .skip

theorem palisadelaw24_Flat_Load.fun : Fun sg.P 21 32 [.tmp 6, .tmp 7] palisadelaw24_Flat_Load.code := mkFun Go.Proofs.Tryd.func21 (by kernel_rfl) (by kernel_rfl) (by kernel_rfl) (by kernel_rfl)

def palisadelaw24_Flat_Load.ret (Q : Int → Int → Heap → Prop) (v : V) (h : Heap) : Prop :=
  match v with
  | .tup [.int .u64 r1, .int .i64 r2] => Q r1 r2 h
  | _ => False

def palisadelaw24_Flat_Load.C (U : Ifc) (vs : List V) (κ : V → Heap → Prop) (h : Heap) : Prop :=
  match vs with
  | [.ptr a1, .int .u64 a2, .int .i64 a3] => palisadelaw24_Flat_Load U a1 a2 a3 (fun r1 r2 h => κ (.tup [.int .u64 r1, .int .i64 r2]) h) h
  | _ => False

noncomputable def palisadelaw24_Flat_Load.calls (U : Ifc) : List (Nat × (List V → (V → Heap → Prop) → Heap → Prop)) := [(95, mem_Memory_Load.C U)]

noncomputable def palisadelaw24_Flat_Load.E (U : Ifc) (Q : Int → Int → Heap → Prop) (cuts : List (Nat × (List Nat × (List V → Heap → Prop)))) : Env := { tis := tisT, fns := fnsT, tys := tysT, gls := glsT, rts := rtsT, unk := [], nxt := [], calls := palisadelaw24_Flat_Load.calls U, ifc := U, cuts := cuts, ret := palisadelaw24_Flat_Load.ret Q, rets := [.tmp 6, .tmp 7], n := 32 }

theorem palisadelaw24_Flat_Load.callsOK {W0 : World} {U : Ifc} (hU : IfcOK sg W0 glsT U) : CallsOK sg W0 (palisadelaw24_Flat_Load.calls U) := ⟨(mem_Memory_Load.S hU), trivial⟩

theorem palisadelaw24_Flat_Load.e : ∀ (U : Ifc) (a1 : Option Ptr) (a2 : Int) (a3 : Int) (Q : Int → Int → Heap → Prop) (h : Heap), palisadelaw24_Flat_Load U a1 a2 a3 Q h = pts (palisadelaw24_Flat_Load.E U Q []) 3000 true [.code palisadelaw24_Flat_Load.code] (frOf 0 [.ptr a1, .int .u64 a2, .int .i64 a3]) h := by
  intros; kernel_rfl

theorem palisadelaw24_Flat_Load.S {W0 : World} {U : Ifc} (hU : IfcOK sg W0 glsT U) : FnS sg W0 297 (palisadelaw24_Flat_Load.C U) := by
  intro vs κ h wv hx w s
  unfold palisadelaw24_Flat_Load.C at hx
  split at hx
  · rename_i a1 a2 a3
    refine postImp (ret := palisadelaw24_Flat_Load.ret (fun r1 r2 h => κ (.tup [.int .u64 r1, .int .i64 r2]) h)) (fun v h hr => by unfold palisadelaw24_Flat_Load.ret at hr; split at hr; exact hr; exact hr.elim) ?_
    exact calls_of_pts (E := palisadelaw24_Flat_Load.E U (fun r1 r2 h => κ (.tup [.int .u64 r1, .int .i64 r2]) h) []) (envOK seatOK (palisadelaw24_Flat_Load.callsOK hU) hU) seatOK.mixed palisadelaw24_Flat_Load.fun (Nat.le_of_ble_eq_true rfl) wv (cutL_ok trivial) s (fuel := 3000) (by rw [← palisadelaw24_Flat_Load.e]; exact hx)
  · exact hx.elim

noncomputable def palisadelaw24_back.code : Code := Go.Proofs.Tryd.f16.body.getD .skip

theorem palisadelaw24_back.fun : Fun sg.P 16 28 [.tmp 2, .tmp 3] palisadelaw24_back.code := mkFun Go.Proofs.Tryd.func16 (by kernel_rfl) (by kernel_rfl) (by kernel_rfl) (by kernel_rfl)

def palisadelaw24_back.ret (Q : Int → Int → Heap → Prop) (v : V) (h : Heap) : Prop :=
  match v with
  | .tup [.int .i64 r1, .int .i64 r2] => Q r1 r2 h
  | _ => False

def palisadelaw24_back.C (U : Ifc) (vs : List V) (κ : V → Heap → Prop) (h : Heap) : Prop :=
  match vs with
  | [.ptr a1] => palisadelaw24_back U a1 (fun r1 r2 h => κ (.tup [.int .i64 r1, .int .i64 r2]) h) h
  | _ => False

noncomputable def palisadelaw24_back.calls (U : Ifc) : List (Nat × (List V → (V → Heap → Prop) → Heap → Prop)) := [(297, palisadelaw24_Flat_Load.C U)]

noncomputable def palisadelaw24_back.E (U : Ifc) (Q : Int → Int → Heap → Prop) (cuts : List (Nat × (List Nat × (List V → Heap → Prop)))) : Env := { tis := tisT, fns := fnsT, tys := tysT, gls := glsT, rts := rtsT, unk := [], nxt := [], calls := palisadelaw24_back.calls U, ifc := U, cuts := cuts, ret := palisadelaw24_back.ret Q, rets := [.tmp 2, .tmp 3], n := 28 }

theorem palisadelaw24_back.callsOK {W0 : World} {U : Ifc} (hU : IfcOK sg W0 glsT U) : CallsOK sg W0 (palisadelaw24_back.calls U) := ⟨(palisadelaw24_Flat_Load.S hU), trivial⟩

theorem palisadelaw24_back.e : ∀ (U : Ifc) (a1 : Option Ptr) (Q : Int → Int → Heap → Prop) (h : Heap), palisadelaw24_back U a1 Q h = pts (palisadelaw24_back.E U Q []) 3000 true [.code palisadelaw24_back.code] (frOf 0 [.ptr a1]) h := by
  intros; kernel_rfl

theorem palisadelaw24_back.S {W0 : World} {U : Ifc} (hU : IfcOK sg W0 glsT U) : FnS sg W0 302 (palisadelaw24_back.C U) := by
  intro vs κ h wv hx w s
  unfold palisadelaw24_back.C at hx
  split at hx
  · rename_i a1
    refine postImp (ret := palisadelaw24_back.ret (fun r1 r2 h => κ (.tup [.int .i64 r1, .int .i64 r2]) h)) (fun v h hr => by unfold palisadelaw24_back.ret at hr; split at hr; exact hr; exact hr.elim) ?_
    exact calls_of_pts (E := palisadelaw24_back.E U (fun r1 r2 h => κ (.tup [.int .i64 r1, .int .i64 r2]) h) []) (envOK seatOK (palisadelaw24_back.callsOK hU) hU) seatOK.mixed palisadelaw24_back.fun (Nat.le_of_ble_eq_true rfl) wv (cutL_ok trivial) s (fuel := 3000) (by rw [← palisadelaw24_back.e]; exact hx)
  · exact hx.elim

noncomputable def bytes_Clone.code : Code := Go.Proofs.Tryd.f84.body.getD .skip

theorem bytes_Clone.fun : Fun sg.P 84 8 [.tmp 2] bytes_Clone.code := mkFun Go.Proofs.Tryd.func84 (by kernel_rfl) (by kernel_rfl) (by kernel_rfl) (by kernel_rfl)

def bytes_Clone.ret (Q : Sl → Heap → Prop) (v : V) (h : Heap) : Prop :=
  match v with
  | .sl r1 => Q r1 h
  | _ => False

def bytes_Clone.C (vs : List V) (κ : V → Heap → Prop) (h : Heap) : Prop :=
  match vs with
  | [.sl a1] => bytes_Clone a1 (fun r1 h => κ (.sl r1) h) h
  | _ => False

noncomputable def bytes_Clone.calls : List (Nat × (List V → (V → Heap → Prop) → Heap → Prop)) := []

noncomputable def bytes_Clone.E (Q : Sl → Heap → Prop) (cuts : List (Nat × (List Nat × (List V → Heap → Prop)))) : Env := { tis := tisT, fns := fnsT, tys := tysT, gls := [], rts := rtsT, unk := [], nxt := [], calls := bytes_Clone.calls, ifc := noIfc, cuts := cuts, ret := bytes_Clone.ret Q, rets := [.tmp 2], n := 8 }

theorem bytes_Clone.callsOK {W0 : World} : CallsOK sg W0 bytes_Clone.calls := trivial

theorem bytes_Clone.e : ∀ (a1 : Sl) (Q : Sl → Heap → Prop) (h : Heap), bytes_Clone a1 Q h = pts (bytes_Clone.E Q []) 3000 true [.code bytes_Clone.code] (frOf 0 [.sl a1]) h := by
  intros; kernel_rfl

theorem bytes_Clone.S {W0 : World} : FnS sg W0 39 bytes_Clone.C := by
  intro vs κ h wv hx w s
  unfold bytes_Clone.C at hx
  split at hx
  · rename_i a1
    refine postImp (ret := bytes_Clone.ret (fun r1 h => κ (.sl r1) h)) (fun v h hr => by unfold bytes_Clone.ret at hr; split at hr; exact hr; exact hr.elim) ?_
    exact calls_of_pts (E := bytes_Clone.E (fun r1 h => κ (.sl r1) h) []) (envOK seatOK bytes_Clone.callsOK noIfc_ok) seatOK.mixed bytes_Clone.fun (Nat.le_of_ble_eq_true rfl) wv (cutL_ok trivial) s (fuel := 3000) (by rw [← bytes_Clone.e]; exact hx)
  · exact hx.elim

noncomputable def mem_Memory_Bytes.code : Code := Go.Proofs.Tryd.f51.body.getD .skip

theorem mem_Memory_Bytes.fun : Fun sg.P 51 20 [.tmp 6, .tmp 7] mem_Memory_Bytes.code := mkFun Go.Proofs.Tryd.func51 (by kernel_rfl) (by kernel_rfl) (by kernel_rfl) (by kernel_rfl)

def mem_Memory_Bytes.ret (Q : Sl → Int → Heap → Prop) (v : V) (h : Heap) : Prop :=
  match v with
  | .tup [.sl r1, .int .i64 r2] => Q r1 r2 h
  | _ => False

def mem_Memory_Bytes.C (vs : List V) (κ : V → Heap → Prop) (h : Heap) : Prop :=
  match vs with
  | [.ptr a1, .int .u64 a2, .int .i64 a3] => mem_Memory_Bytes a1 a2 a3 (fun r1 r2 h => κ (.tup [.sl r1, .int .i64 r2]) h) h
  | _ => False

noncomputable def mem_Memory_Bytes.calls : List (Nat × (List V → (V → Heap → Prop) → Heap → Prop)) := [(32, mem_Memory_part.C), (39, bytes_Clone.C)]

noncomputable def mem_Memory_Bytes.E (Q : Sl → Int → Heap → Prop) (cuts : List (Nat × (List Nat × (List V → Heap → Prop)))) : Env := { tis := tisT, fns := fnsT, tys := tysT, gls := [], rts := rtsT, unk := [], nxt := [], calls := mem_Memory_Bytes.calls, ifc := noIfc, cuts := cuts, ret := mem_Memory_Bytes.ret Q, rets := [.tmp 6, .tmp 7], n := 20 }

theorem mem_Memory_Bytes.callsOK {W0 : World} : CallsOK sg W0 mem_Memory_Bytes.calls := ⟨mem_Memory_part.S, bytes_Clone.S, trivial⟩

theorem mem_Memory_Bytes.e : ∀ (a1 : Option Ptr) (a2 : Int) (a3 : Int) (Q : Sl → Int → Heap → Prop) (h : Heap), mem_Memory_Bytes a1 a2 a3 Q h = pts (mem_Memory_Bytes.E Q []) 3000 true [.code mem_Memory_Bytes.code] (frOf 0 [.ptr a1, .int .u64 a2, .int .i64 a3]) h := by
  intros; kernel_rfl

theorem mem_Memory_Bytes.S {W0 : World} : FnS sg W0 40 mem_Memory_Bytes.C := by
  intro vs κ h wv hx w s
  unfold mem_Memory_Bytes.C at hx
  split at hx
  · rename_i a1 a2 a3
    refine postImp (ret := mem_Memory_Bytes.ret (fun r1 r2 h => κ (.tup [.sl r1, .int .i64 r2]) h)) (fun v h hr => by unfold mem_Memory_Bytes.ret at hr; split at hr; exact hr; exact hr.elim) ?_
    exact calls_of_pts (E := mem_Memory_Bytes.E (fun r1 r2 h => κ (.tup [.sl r1, .int .i64 r2]) h) []) (envOK seatOK mem_Memory_Bytes.callsOK noIfc_ok) seatOK.mixed mem_Memory_Bytes.fun (Nat.le_of_ble_eq_true rfl) wv (cutL_ok trivial) s (fuel := 3000) (by rw [← mem_Memory_Bytes.e]; exact hx)
  · exact hx.elim

noncomputable def palisadelaw24_Flat_Bytes.code : Code := Go.Proofs.Tryd.f17.body.getD .skip

theorem palisadelaw24_Flat_Bytes.fun : Fun sg.P 17 49 [.tmp 6, .tmp 7] palisadelaw24_Flat_Bytes.code := mkFun Go.Proofs.Tryd.func17 (by kernel_rfl) (by kernel_rfl) (by kernel_rfl) (by kernel_rfl)

def palisadelaw24_Flat_Bytes.ret (Q : Sl → Int → Heap → Prop) (v : V) (h : Heap) : Prop :=
  match v with
  | .tup [.sl r1, .int .i64 r2] => Q r1 r2 h
  | _ => False

def palisadelaw24_Flat_Bytes.C (vs : List V) (κ : V → Heap → Prop) (h : Heap) : Prop :=
  match vs with
  | [.ptr a1, .int .u64 a2, .int .i64 a3] => palisadelaw24_Flat_Bytes a1 a2 a3 (fun r1 r2 h => κ (.tup [.sl r1, .int .i64 r2]) h) h
  | _ => False

noncomputable def palisadelaw24_Flat_Bytes.calls : List (Nat × (List V → (V → Heap → Prop) → Heap → Prop)) := [(40, mem_Memory_Bytes.C)]

noncomputable def palisadelaw24_Flat_Bytes.E (Q : Sl → Int → Heap → Prop) (cuts : List (Nat × (List Nat × (List V → Heap → Prop)))) : Env := { tis := tisT, fns := fnsT, tys := tysT, gls := [], rts := rtsT, unk := [], nxt := [], calls := palisadelaw24_Flat_Bytes.calls, ifc := noIfc, cuts := cuts, ret := palisadelaw24_Flat_Bytes.ret Q, rets := [.tmp 6, .tmp 7], n := 49 }

theorem palisadelaw24_Flat_Bytes.callsOK {W0 : World} : CallsOK sg W0 palisadelaw24_Flat_Bytes.calls := ⟨mem_Memory_Bytes.S, trivial⟩

def palisadelaw24_Flat_Bytes.k2 (I : Heap → Prop) (vs : List V) (h : Heap) : Prop :=
  match vs with
  | [] => I  h
  | _ => False

def palisadelaw24_Flat_Bytes.k3 (I : (Option Ptr) → Int → Int → Heap → Prop) (vs : List V) (h : Heap) : Prop :=
  match vs with
  | [.ptr a1, .int .u64 a2, .int .i64 a3] => I a1 a2 a3 h
  | _ => False

theorem palisadelaw24_Flat_Bytes.p2 : (posC palisadelaw24_Flat_Bytes.code []).filter (fun p => Nat.beq p.1 2) = [(2, atPos (posC palisadelaw24_Flat_Bytes.code []) 2)] := by kernel_rfl

theorem palisadelaw24_Flat_Bytes.e2 : ∀   (Q : Sl → Int → Heap → Prop) (h : Heap), palisadelaw24_Flat_Bytes.j2   Q h = pts (palisadelaw24_Flat_Bytes.E Q []) 3000 true (atPos (posC palisadelaw24_Flat_Bytes.code []) 2) (frAt [] []) h := by
  intros; kernel_rfl

theorem palisadelaw24_Flat_Bytes.s2 {W0 : World} (Q : Sl → Int → Heap → Prop)   : CutOK sg W0 49 (entered 17) (Post sg W0 (palisadelaw24_Flat_Bytes.ret Q)) (posC palisadelaw24_Flat_Bytes.code []) 2 [] (palisadelaw24_Flat_Bytes.k2 (fun  h => palisadelaw24_Flat_Bytes.j2   Q h)) := by
  refine cutOK_head (fun vs h hk => ?_)
  unfold palisadelaw24_Flat_Bytes.k2 at hk
  split at hk
  · skip
    intro todo hm ρ a w s f hp
    exact piece (E := palisadelaw24_Flat_Bytes.E Q []) (vs := []) (envOK seatOK palisadelaw24_Flat_Bytes.callsOK noIfc_ok) (fnOK seatOK palisadelaw24_Flat_Bytes.fun) trivial palisadelaw24_Flat_Bytes.p2 (fuel := 3000) (by rw [← palisadelaw24_Flat_Bytes.e2]; exact hk) hm s f hp
  · exact hk.elim

theorem palisadelaw24_Flat_Bytes.p3 : (posC palisadelaw24_Flat_Bytes.code []).filter (fun p => Nat.beq p.1 3) = [(3, atPos (posC palisadelaw24_Flat_Bytes.code []) 3)] := by kernel_rfl

theorem palisadelaw24_Flat_Bytes.e3 : ∀  (a1 : Option Ptr) (a2 : Int) (a3 : Int) (Q : Sl → Int → Heap → Prop) (h : Heap), palisadelaw24_Flat_Bytes.j3  a1 a2 a3 Q h = pts (palisadelaw24_Flat_Bytes.E Q []) 3000 true (atPos (posC palisadelaw24_Flat_Bytes.code []) 3) (frAt [0, 1, 2] [.ptr a1, .int .u64 a2, .int .i64 a3]) h := by
  intros; kernel_rfl

theorem palisadelaw24_Flat_Bytes.s3 {W0 : World} (Q : Sl → Int → Heap → Prop)   : CutOK sg W0 49 (entered 17) (Post sg W0 (palisadelaw24_Flat_Bytes.ret Q)) (posC palisadelaw24_Flat_Bytes.code []) 3 [0, 1, 2] (palisadelaw24_Flat_Bytes.k3 (fun a1 a2 a3 h => palisadelaw24_Flat_Bytes.j3  a1 a2 a3 Q h)) := by
  refine cutOK_head (fun vs h hk => ?_)
  unfold palisadelaw24_Flat_Bytes.k3 at hk
  split at hk
  · rename_i a1 a2 a3
    intro todo hm ρ a w s f hp
    exact piece (E := palisadelaw24_Flat_Bytes.E Q []) (vs := [.ptr a1, .int .u64 a2, .int .i64 a3]) (envOK seatOK palisadelaw24_Flat_Bytes.callsOK noIfc_ok) (fnOK seatOK palisadelaw24_Flat_Bytes.fun) trivial palisadelaw24_Flat_Bytes.p3 (fuel := 3000) (by rw [← palisadelaw24_Flat_Bytes.e3]; exact hk) hm s f hp
  · exact hk.elim

theorem palisadelaw24_Flat_Bytes.e : ∀ (a1 : Option Ptr) (a2 : Int) (a3 : Int) (Q : Sl → Int → Heap → Prop) (h : Heap), palisadelaw24_Flat_Bytes a1 a2 a3 Q h = pts (palisadelaw24_Flat_Bytes.E Q [(2, ([], palisadelaw24_Flat_Bytes.k2 (fun  h => palisadelaw24_Flat_Bytes.j2   Q h))), (3, ([0, 1, 2], palisadelaw24_Flat_Bytes.k3 (fun a1 a2 a3 h => palisadelaw24_Flat_Bytes.j3  a1 a2 a3 Q h)))]) 3000 true [.code palisadelaw24_Flat_Bytes.code] (frOf 0 [.ptr a1, .int .u64 a2, .int .i64 a3]) h := by
  intros; kernel_rfl

theorem palisadelaw24_Flat_Bytes.S {W0 : World} : FnS sg W0 295 palisadelaw24_Flat_Bytes.C := by
  intro vs κ h wv hx w s
  unfold palisadelaw24_Flat_Bytes.C at hx
  split at hx
  · rename_i a1 a2 a3
    refine postImp (ret := palisadelaw24_Flat_Bytes.ret (fun r1 r2 h => κ (.tup [.sl r1, .int .i64 r2]) h)) (fun v h hr => by unfold palisadelaw24_Flat_Bytes.ret at hr; split at hr; exact hr; exact hr.elim) ?_
    exact calls_of_pts (E := palisadelaw24_Flat_Bytes.E (fun r1 r2 h => κ (.tup [.sl r1, .int .i64 r2]) h) [(2, ([], palisadelaw24_Flat_Bytes.k2 (fun  h => palisadelaw24_Flat_Bytes.j2   (fun r1 r2 h => κ (.tup [.sl r1, .int .i64 r2]) h) h))), (3, ([0, 1, 2], palisadelaw24_Flat_Bytes.k3 (fun a1 a2 a3 h => palisadelaw24_Flat_Bytes.j3  a1 a2 a3 (fun r1 r2 h => κ (.tup [.sl r1, .int .i64 r2]) h) h)))]) (envOK seatOK palisadelaw24_Flat_Bytes.callsOK noIfc_ok) seatOK.mixed palisadelaw24_Flat_Bytes.fun (Nat.le_of_ble_eq_true rfl) wv (cutL_ok ⟨(palisadelaw24_Flat_Bytes.s2 (fun r1 r2 h => κ (.tup [.sl r1, .int .i64 r2]) h)), (palisadelaw24_Flat_Bytes.s3 (fun r1 r2 h => κ (.tup [.sl r1, .int .i64 r2]) h)), trivial⟩) s (fuel := 3000) (by rw [← palisadelaw24_Flat_Bytes.e]; exact hx)
  · exact hx.elim

noncomputable def slices_Clone_byte_byte.code : Code := Go.Proofs.Tryd.f52.body.getD .skip

theorem slices_Clone_byte_byte.fun : Fun sg.P 52 8 [.tmp 2] slices_Clone_byte_byte.code := mkFun Go.Proofs.Tryd.func52 (by kernel_rfl) (by kernel_rfl) (by kernel_rfl) (by kernel_rfl)

def slices_Clone_byte_byte.ret (Q : Sl → Heap → Prop) (v : V) (h : Heap) : Prop :=
  match v with
  | .sl r1 => Q r1 h
  | _ => False

def slices_Clone_byte_byte.C (vs : List V) (κ : V → Heap → Prop) (h : Heap) : Prop :=
  match vs with
  | [.sl a1] => slices_Clone_byte_byte a1 (fun r1 h => κ (.sl r1) h) h
  | _ => False

noncomputable def slices_Clone_byte_byte.calls : List (Nat × (List V → (V → Heap → Prop) → Heap → Prop)) := []

noncomputable def slices_Clone_byte_byte.E (Q : Sl → Heap → Prop) (cuts : List (Nat × (List Nat × (List V → Heap → Prop)))) : Env := { tis := tisT, fns := fnsT, tys := tysT, gls := [], rts := rtsT, unk := [], nxt := [], calls := slices_Clone_byte_byte.calls, ifc := noIfc, cuts := cuts, ret := slices_Clone_byte_byte.ret Q, rets := [.tmp 2], n := 8 }

theorem slices_Clone_byte_byte.callsOK {W0 : World} : CallsOK sg W0 slices_Clone_byte_byte.calls := trivial

theorem slices_Clone_byte_byte.e : ∀ (a1 : Sl) (Q : Sl → Heap → Prop) (h : Heap), slices_Clone_byte_byte a1 Q h = pts (slices_Clone_byte_byte.E Q []) 3000 true [.code slices_Clone_byte_byte.code] (frOf 0 [.sl a1]) h := by
  intros; kernel_rfl

theorem slices_Clone_byte_byte.S {W0 : World} : FnS sg W0 58 slices_Clone_byte_byte.C := by
  intro vs κ h wv hx w s
  unfold slices_Clone_byte_byte.C at hx
  split at hx
  · rename_i a1
    refine postImp (ret := slices_Clone_byte_byte.ret (fun r1 h => κ (.sl r1) h)) (fun v h hr => by unfold slices_Clone_byte_byte.ret at hr; split at hr; exact hr; exact hr.elim) ?_
    exact calls_of_pts (E := slices_Clone_byte_byte.E (fun r1 h => κ (.sl r1) h) []) (envOK seatOK slices_Clone_byte_byte.callsOK noIfc_ok) seatOK.mixed slices_Clone_byte_byte.fun (Nat.le_of_ble_eq_true rfl) wv (cutL_ok trivial) s (fuel := 3000) (by rw [← slices_Clone_byte_byte.e]; exact hx)
  · exact hx.elim

noncomputable def console_Console_Written.code : Code := Go.Proofs.Tryd.f18.body.getD .skip

theorem console_Console_Written.fun : Fun sg.P 18 10 [.tmp 2] console_Console_Written.code := mkFun Go.Proofs.Tryd.func18 (by kernel_rfl) (by kernel_rfl) (by kernel_rfl) (by kernel_rfl)

def console_Console_Written.ret (Q : Sl → Heap → Prop) (v : V) (h : Heap) : Prop :=
  match v with
  | .sl r1 => Q r1 h
  | _ => False

def console_Console_Written.C (vs : List V) (κ : V → Heap → Prop) (h : Heap) : Prop :=
  match vs with
  | [.ptr a1] => console_Console_Written a1 (fun r1 h => κ (.sl r1) h) h
  | _ => False

noncomputable def console_Console_Written.calls : List (Nat × (List V → (V → Heap → Prop) → Heap → Prop)) := [(291, console_Console_none.C), (58, slices_Clone_byte_byte.C)]

noncomputable def console_Console_Written.E (Q : Sl → Heap → Prop) (cuts : List (Nat × (List Nat × (List V → Heap → Prop)))) : Env := { tis := tisT, fns := fnsT, tys := tysT, gls := [], rts := rtsT, unk := [], nxt := [], calls := console_Console_Written.calls, ifc := noIfc, cuts := cuts, ret := console_Console_Written.ret Q, rets := [.tmp 2], n := 10 }

theorem console_Console_Written.callsOK {W0 : World} : CallsOK sg W0 console_Console_Written.calls := ⟨console_Console_none.S, slices_Clone_byte_byte.S, trivial⟩

theorem console_Console_Written.e : ∀ (a1 : Option Ptr) (Q : Sl → Heap → Prop) (h : Heap), console_Console_Written a1 Q h = pts (console_Console_Written.E Q []) 3000 true [.code console_Console_Written.code] (frOf 0 [.ptr a1]) h := by
  intros; kernel_rfl

theorem console_Console_Written.S {W0 : World} : FnS sg W0 310 console_Console_Written.C := by
  intro vs κ h wv hx w s
  unfold console_Console_Written.C at hx
  split at hx
  · rename_i a1
    refine postImp (ret := console_Console_Written.ret (fun r1 h => κ (.sl r1) h)) (fun v h hr => by unfold console_Console_Written.ret at hr; split at hr; exact hr; exact hr.elim) ?_
    exact calls_of_pts (E := console_Console_Written.E (fun r1 h => κ (.sl r1) h) []) (envOK seatOK console_Console_Written.callsOK noIfc_ok) seatOK.mixed console_Console_Written.fun (Nat.le_of_ble_eq_true rfl) wv (cutL_ok trivial) s (fuel := 3000) (by rw [← console_Console_Written.e]; exact hx)
  · exact hx.elim

noncomputable def palisadelaw24_BackendTtys.code : Code := Go.Proofs.Tryd.f3.body.getD .skip

theorem palisadelaw24_BackendTtys.fun : Fun sg.P 3 126 [.tmp 6] palisadelaw24_BackendTtys.code := mkFun Go.Proofs.Tryd.func3 (by kernel_rfl) (by kernel_rfl) (by kernel_rfl) (by kernel_rfl)

def palisadelaw24_BackendTtys.ret (Q : Bool → Heap → Prop) (v : V) (h : Heap) : Prop :=
  match v with
  | .bool r1 => Q r1 h
  | _ => False

def palisadelaw24_BackendTtys.C (U : Ifc) (vs : List V) (κ : V → Heap → Prop) (h : Heap) : Prop :=
  match vs with
  | [.sl a1, .sl a2, .int .i64 a3] => palisadelaw24_BackendTtys U a1 a2 a3 (fun r1 h => κ (.bool r1) h) h
  | _ => False

noncomputable def palisadelaw24_BackendTtys.calls (U : Ifc) : List (Nat × (List V → (V → Heap → Prop) → Heap → Prop)) := [(265, palisadelaw24_begin.C), (308, console_New.C), (285, backend_NewTty.C), (309, console_Console_Input.C), (298, palisadelaw24_Flat_Put.C), (301, palisadelaw24_offer.C U), (284, backend_Tty_Kick.C U), (302, palisadelaw24_back.C U), (295, palisadelaw24_Flat_Bytes.C), (310, console_Console_Written.C)]

noncomputable def palisadelaw24_BackendTtys.E (U : Ifc) (Q : Bool → Heap → Prop) (cuts : List (Nat × (List Nat × (List V → Heap → Prop)))) : Env := { tis := tisT, fns := fnsT, tys := tysT, gls := glsT, rts := rtsT, unk := [], nxt := [], calls := palisadelaw24_BackendTtys.calls U, ifc := U, cuts := cuts, ret := palisadelaw24_BackendTtys.ret Q, rets := [.tmp 6], n := 126 }

theorem palisadelaw24_BackendTtys.callsOK {W0 : World} {U : Ifc} (hU : IfcOK sg W0 glsT U) : CallsOK sg W0 (palisadelaw24_BackendTtys.calls U) := ⟨palisadelaw24_begin.S, console_New.S, backend_NewTty.S, console_Console_Input.S, palisadelaw24_Flat_Put.S, (palisadelaw24_offer.S hU), (backend_Tty_Kick.S hU), (palisadelaw24_back.S hU), palisadelaw24_Flat_Bytes.S, console_Console_Written.S, trivial⟩

def palisadelaw24_BackendTtys.k4 (I : Heap → Prop) (vs : List V) (h : Heap) : Prop :=
  match vs with
  | [] => I  h
  | _ => False

def palisadelaw24_BackendTtys.k7 (I : Heap → Prop) (vs : List V) (h : Heap) : Prop :=
  match vs with
  | [] => I  h
  | _ => False

def palisadelaw24_BackendTtys.k21 (I : Sl → Sl → (Option Ptr) → Int → Int → Int → Int → Sl → Heap → Prop) (vs : List V) (h : Heap) : Prop :=
  match vs with
  | [.sl a1, .sl a2, .ptr a3, .int .i64 a4, .int .i64 a5, .int .i64 a6, .int .i64 a7, .sl a8] => I a1 a2 a3 a4 a5 a6 a7 a8 h
  | _ => False

def palisadelaw24_BackendTtys.k17 (I : Sl → Sl → Int → (Option Ptr) → (Option Ptr) → (Option Ptr) → Heap → Prop) (vs : List V) (h : Heap) : Prop :=
  match vs with
  | [.sl a1, .sl a2, .int .i64 a3, .ptr a4, .ptr a5, .ptr a6] => I a1 a2 a3 a4 a5 a6 h
  | _ => False

def palisadelaw24_BackendTtys.k12 (I : Sl → Sl → Int → (Option Ptr) → (Option Ptr) → (Option Ptr) → Heap → Prop) (vs : List V) (h : Heap) : Prop :=
  match vs with
  | [.sl a1, .sl a2, .int .i64 a3, .ptr a4, .ptr a5, .ptr a6] => I a1 a2 a3 a4 a5 a6 h
  | _ => False

def palisadelaw24_BackendTtys.k10 (I : Sl → Sl → Int → (Option Ptr) → (Option Ptr) → (Option Ptr) → Heap → Prop) (vs : List V) (h : Heap) : Prop :=
  match vs with
  | [.sl a1, .sl a2, .int .i64 a3, .ptr a4, .ptr a5, .ptr a6] => I a1 a2 a3 a4 a5 a6 h
  | _ => False

def palisadelaw24_BackendTtys.k8 (I : Sl → Sl → Int → (Option Ptr) → (Option Ptr) → (Option Ptr) → Heap → Prop) (vs : List V) (h : Heap) : Prop :=
  match vs with
  | [.sl a1, .sl a2, .int .i64 a3, .ptr a4, .ptr a5, .ptr a6] => I a1 a2 a3 a4 a5 a6 h
  | _ => False

theorem palisadelaw24_BackendTtys.p4 : (posC palisadelaw24_BackendTtys.code []).filter (fun p => Nat.beq p.1 4) = [(4, atPos (posC palisadelaw24_BackendTtys.code []) 4)] := by kernel_rfl

theorem palisadelaw24_BackendTtys.e4 : ∀ (U : Ifc)   (Q : Bool → Heap → Prop) (h : Heap), palisadelaw24_BackendTtys.j4 U   Q h = pts (palisadelaw24_BackendTtys.E U Q []) 3000 true (atPos (posC palisadelaw24_BackendTtys.code []) 4) (frAt [] []) h := by
  intros; kernel_rfl

theorem palisadelaw24_BackendTtys.s4 {W0 : World} {U : Ifc} (hU : IfcOK sg W0 glsT U) (Q : Bool → Heap → Prop)   : CutOK sg W0 126 (entered 3) (Post sg W0 (palisadelaw24_BackendTtys.ret Q)) (posC palisadelaw24_BackendTtys.code []) 4 [] (palisadelaw24_BackendTtys.k4 (fun  h => palisadelaw24_BackendTtys.j4 U   Q h)) := by
  refine cutOK_head (fun vs h hk => ?_)
  unfold palisadelaw24_BackendTtys.k4 at hk
  split at hk
  · skip
    intro todo hm ρ a w s f hp
    exact piece (E := palisadelaw24_BackendTtys.E U Q []) (vs := []) (envOK seatOK (palisadelaw24_BackendTtys.callsOK hU) hU) (fnOK seatOK palisadelaw24_BackendTtys.fun) trivial palisadelaw24_BackendTtys.p4 (fuel := 3000) (by rw [← palisadelaw24_BackendTtys.e4]; exact hk) hm s f hp
  · exact hk.elim

theorem palisadelaw24_BackendTtys.p7 : (posC palisadelaw24_BackendTtys.code []).filter (fun p => Nat.beq p.1 7) = [(7, atPos (posC palisadelaw24_BackendTtys.code []) 7)] := by kernel_rfl

theorem palisadelaw24_BackendTtys.e7 : ∀ (U : Ifc)   (Q : Bool → Heap → Prop) (h : Heap), palisadelaw24_BackendTtys.j7 U   Q h = pts (palisadelaw24_BackendTtys.E U Q []) 3000 true (atPos (posC palisadelaw24_BackendTtys.code []) 7) (frAt [] []) h := by
  intros; kernel_rfl

theorem palisadelaw24_BackendTtys.s7 {W0 : World} {U : Ifc} (hU : IfcOK sg W0 glsT U) (Q : Bool → Heap → Prop)   : CutOK sg W0 126 (entered 3) (Post sg W0 (palisadelaw24_BackendTtys.ret Q)) (posC palisadelaw24_BackendTtys.code []) 7 [] (palisadelaw24_BackendTtys.k7 (fun  h => palisadelaw24_BackendTtys.j7 U   Q h)) := by
  refine cutOK_head (fun vs h hk => ?_)
  unfold palisadelaw24_BackendTtys.k7 at hk
  split at hk
  · skip
    intro todo hm ρ a w s f hp
    exact piece (E := palisadelaw24_BackendTtys.E U Q []) (vs := []) (envOK seatOK (palisadelaw24_BackendTtys.callsOK hU) hU) (fnOK seatOK palisadelaw24_BackendTtys.fun) trivial palisadelaw24_BackendTtys.p7 (fuel := 3000) (by rw [← palisadelaw24_BackendTtys.e7]; exact hk) hm s f hp
  · exact hk.elim

theorem palisadelaw24_BackendTtys.p21 : (posC palisadelaw24_BackendTtys.code []).filter (fun p => Nat.beq p.1 21) = [(21, atPos (posC palisadelaw24_BackendTtys.code []) 21)] := by kernel_rfl

theorem palisadelaw24_BackendTtys.e21 : ∀ (U : Ifc)  (a1 : Sl) (a2 : Sl) (a3 : Option Ptr) (a4 : Int) (a5 : Int) (a6 : Int) (a7 : Int) (a8 : Sl) (Q : Bool → Heap → Prop) (h : Heap), palisadelaw24_BackendTtys.j21 U  a1 a2 a3 a4 a5 a6 a7 a8 Q h = pts (palisadelaw24_BackendTtys.E U Q []) 3000 true (atPos (posC palisadelaw24_BackendTtys.code []) 21) (frAt [0, 1, 8, 10, 12, 14, 15, 16] [.sl a1, .sl a2, .ptr a3, .int .i64 a4, .int .i64 a5, .int .i64 a6, .int .i64 a7, .sl a8]) h := by
  intros; kernel_rfl

theorem palisadelaw24_BackendTtys.s21 {W0 : World} {U : Ifc} (hU : IfcOK sg W0 glsT U) (Q : Bool → Heap → Prop)   : CutOK sg W0 126 (entered 3) (Post sg W0 (palisadelaw24_BackendTtys.ret Q)) (posC palisadelaw24_BackendTtys.code []) 21 [0, 1, 8, 10, 12, 14, 15, 16] (palisadelaw24_BackendTtys.k21 (fun a1 a2 a3 a4 a5 a6 a7 a8 h => palisadelaw24_BackendTtys.j21 U  a1 a2 a3 a4 a5 a6 a7 a8 Q h)) := by
  refine cutOK_head (fun vs h hk => ?_)
  unfold palisadelaw24_BackendTtys.k21 at hk
  split at hk
  · rename_i a1 a2 a3 a4 a5 a6 a7 a8
    intro todo hm ρ a w s f hp
    exact piece (E := palisadelaw24_BackendTtys.E U Q []) (vs := [.sl a1, .sl a2, .ptr a3, .int .i64 a4, .int .i64 a5, .int .i64 a6, .int .i64 a7, .sl a8]) (envOK seatOK (palisadelaw24_BackendTtys.callsOK hU) hU) (fnOK seatOK palisadelaw24_BackendTtys.fun) trivial palisadelaw24_BackendTtys.p21 (fuel := 3000) (by rw [← palisadelaw24_BackendTtys.e21]; exact hk) hm s f hp
  · exact hk.elim

theorem palisadelaw24_BackendTtys.p17 : (posC palisadelaw24_BackendTtys.code []).filter (fun p => Nat.beq p.1 17) = [(17, atPos (posC palisadelaw24_BackendTtys.code []) 17)] := by kernel_rfl

theorem palisadelaw24_BackendTtys.e17 : ∀ (U : Ifc)  (a1 : Sl) (a2 : Sl) (a3 : Int) (a4 : Option Ptr) (a5 : Option Ptr) (a6 : Option Ptr) (Q : Bool → Heap → Prop) (h : Heap), palisadelaw24_BackendTtys.j17 U  a1 a2 a3 a4 a5 a6 Q h = pts (palisadelaw24_BackendTtys.E U Q [(21, ([0, 1, 8, 10, 12, 14, 15, 16], palisadelaw24_BackendTtys.k21 (fun a1 a2 a3 a4 a5 a6 a7 a8 h => palisadelaw24_BackendTtys.j21 U  a1 a2 a3 a4 a5 a6 a7 a8 Q h)))]) 3000 true (atPos (posC palisadelaw24_BackendTtys.code []) 17) (frAt [0, 1, 2, 8, 9, 11] [.sl a1, .sl a2, .int .i64 a3, .ptr a4, .ptr a5, .ptr a6]) h := by
  intros; kernel_rfl

theorem palisadelaw24_BackendTtys.s17 {W0 : World} {U : Ifc} (hU : IfcOK sg W0 glsT U) (Q : Bool → Heap → Prop)   : CutOK sg W0 126 (entered 3) (Post sg W0 (palisadelaw24_BackendTtys.ret Q)) (posC palisadelaw24_BackendTtys.code []) 17 [0, 1, 2, 8, 9, 11] (palisadelaw24_BackendTtys.k17 (fun a1 a2 a3 a4 a5 a6 h => palisadelaw24_BackendTtys.j17 U  a1 a2 a3 a4 a5 a6 Q h)) := by
  refine cutOK_head (fun vs h hk => ?_)
  unfold palisadelaw24_BackendTtys.k17 at hk
  split at hk
  · rename_i a1 a2 a3 a4 a5 a6
    intro todo hm ρ a w s f hp
    exact piece (E := palisadelaw24_BackendTtys.E U Q [(21, ([0, 1, 8, 10, 12, 14, 15, 16], palisadelaw24_BackendTtys.k21 (fun a1 a2 a3 a4 a5 a6 a7 a8 h => palisadelaw24_BackendTtys.j21 U  a1 a2 a3 a4 a5 a6 a7 a8 Q h)))]) (vs := [.sl a1, .sl a2, .int .i64 a3, .ptr a4, .ptr a5, .ptr a6]) (envOK seatOK (palisadelaw24_BackendTtys.callsOK hU) hU) (fnOK seatOK palisadelaw24_BackendTtys.fun) ⟨(palisadelaw24_BackendTtys.s21 hU Q  ), trivial⟩ palisadelaw24_BackendTtys.p17 (fuel := 3000) (by rw [← palisadelaw24_BackendTtys.e17]; exact hk) hm s f hp
  · exact hk.elim

theorem palisadelaw24_BackendTtys.p12 : (posC palisadelaw24_BackendTtys.code []).filter (fun p => Nat.beq p.1 12) = [(12, atPos (posC palisadelaw24_BackendTtys.code []) 12)] := by kernel_rfl

theorem palisadelaw24_BackendTtys.e12 : ∀ (U : Ifc)  (a1 : Sl) (a2 : Sl) (a3 : Int) (a4 : Option Ptr) (a5 : Option Ptr) (a6 : Option Ptr) (Q : Bool → Heap → Prop) (h : Heap), palisadelaw24_BackendTtys.j12 U  a1 a2 a3 a4 a5 a6 Q h = pts (palisadelaw24_BackendTtys.E U Q [(17, ([0, 1, 2, 8, 9, 11], palisadelaw24_BackendTtys.k17 (fun a1 a2 a3 a4 a5 a6 h => palisadelaw24_BackendTtys.j17 U  a1 a2 a3 a4 a5 a6 Q h)))]) 3000 true (atPos (posC palisadelaw24_BackendTtys.code []) 12) (frAt [0, 1, 2, 7, 8, 9] [.sl a1, .sl a2, .int .i64 a3, .ptr a4, .ptr a5, .ptr a6]) h := by
  intros; kernel_rfl

theorem palisadelaw24_BackendTtys.s12 {W0 : World} {U : Ifc} (hU : IfcOK sg W0 glsT U) (Q : Bool → Heap → Prop)   : CutOK sg W0 126 (entered 3) (Post sg W0 (palisadelaw24_BackendTtys.ret Q)) (posC palisadelaw24_BackendTtys.code []) 12 [0, 1, 2, 7, 8, 9] (palisadelaw24_BackendTtys.k12 (fun a1 a2 a3 a4 a5 a6 h => palisadelaw24_BackendTtys.j12 U  a1 a2 a3 a4 a5 a6 Q h)) := by
  refine cutOK_head (fun vs h hk => ?_)
  unfold palisadelaw24_BackendTtys.k12 at hk
  split at hk
  · rename_i a1 a2 a3 a4 a5 a6
    intro todo hm ρ a w s f hp
    exact piece (E := palisadelaw24_BackendTtys.E U Q [(17, ([0, 1, 2, 8, 9, 11], palisadelaw24_BackendTtys.k17 (fun a1 a2 a3 a4 a5 a6 h => palisadelaw24_BackendTtys.j17 U  a1 a2 a3 a4 a5 a6 Q h)))]) (vs := [.sl a1, .sl a2, .int .i64 a3, .ptr a4, .ptr a5, .ptr a6]) (envOK seatOK (palisadelaw24_BackendTtys.callsOK hU) hU) (fnOK seatOK palisadelaw24_BackendTtys.fun) ⟨(palisadelaw24_BackendTtys.s17 hU Q  ), trivial⟩ palisadelaw24_BackendTtys.p12 (fuel := 3000) (by rw [← palisadelaw24_BackendTtys.e12]; exact hk) hm s f hp
  · exact hk.elim

theorem palisadelaw24_BackendTtys.p10 : (posC palisadelaw24_BackendTtys.code []).filter (fun p => Nat.beq p.1 10) = [(10, atPos (posC palisadelaw24_BackendTtys.code []) 10)] := by kernel_rfl

theorem palisadelaw24_BackendTtys.e10 : ∀ (U : Ifc)  (a1 : Sl) (a2 : Sl) (a3 : Int) (a4 : Option Ptr) (a5 : Option Ptr) (a6 : Option Ptr) (Q : Bool → Heap → Prop) (h : Heap), palisadelaw24_BackendTtys.j10 U  a1 a2 a3 a4 a5 a6 Q h = pts (palisadelaw24_BackendTtys.E U Q [(12, ([0, 1, 2, 7, 8, 9], palisadelaw24_BackendTtys.k12 (fun a1 a2 a3 a4 a5 a6 h => palisadelaw24_BackendTtys.j12 U  a1 a2 a3 a4 a5 a6 Q h)))]) 3000 true (atPos (posC palisadelaw24_BackendTtys.code []) 10) (frAt [0, 1, 2, 7, 8, 9] [.sl a1, .sl a2, .int .i64 a3, .ptr a4, .ptr a5, .ptr a6]) h := by
  intros; kernel_rfl

theorem palisadelaw24_BackendTtys.s10 {W0 : World} {U : Ifc} (hU : IfcOK sg W0 glsT U) (Q : Bool → Heap → Prop)   : CutOK sg W0 126 (entered 3) (Post sg W0 (palisadelaw24_BackendTtys.ret Q)) (posC palisadelaw24_BackendTtys.code []) 10 [0, 1, 2, 7, 8, 9] (palisadelaw24_BackendTtys.k10 (fun a1 a2 a3 a4 a5 a6 h => palisadelaw24_BackendTtys.j10 U  a1 a2 a3 a4 a5 a6 Q h)) := by
  refine cutOK_head (fun vs h hk => ?_)
  unfold palisadelaw24_BackendTtys.k10 at hk
  split at hk
  · rename_i a1 a2 a3 a4 a5 a6
    intro todo hm ρ a w s f hp
    exact piece (E := palisadelaw24_BackendTtys.E U Q [(12, ([0, 1, 2, 7, 8, 9], palisadelaw24_BackendTtys.k12 (fun a1 a2 a3 a4 a5 a6 h => palisadelaw24_BackendTtys.j12 U  a1 a2 a3 a4 a5 a6 Q h)))]) (vs := [.sl a1, .sl a2, .int .i64 a3, .ptr a4, .ptr a5, .ptr a6]) (envOK seatOK (palisadelaw24_BackendTtys.callsOK hU) hU) (fnOK seatOK palisadelaw24_BackendTtys.fun) ⟨(palisadelaw24_BackendTtys.s12 hU Q  ), trivial⟩ palisadelaw24_BackendTtys.p10 (fuel := 3000) (by rw [← palisadelaw24_BackendTtys.e10]; exact hk) hm s f hp
  · exact hk.elim

theorem palisadelaw24_BackendTtys.p8 : (posC palisadelaw24_BackendTtys.code []).filter (fun p => Nat.beq p.1 8) = [(8, atPos (posC palisadelaw24_BackendTtys.code []) 8)] := by kernel_rfl

theorem palisadelaw24_BackendTtys.e8 : ∀ (U : Ifc)  (a1 : Sl) (a2 : Sl) (a3 : Int) (a4 : Option Ptr) (a5 : Option Ptr) (a6 : Option Ptr) (Q : Bool → Heap → Prop) (h : Heap), palisadelaw24_BackendTtys.j8 U  a1 a2 a3 a4 a5 a6 Q h = pts (palisadelaw24_BackendTtys.E U Q [(10, ([0, 1, 2, 7, 8, 9], palisadelaw24_BackendTtys.k10 (fun a1 a2 a3 a4 a5 a6 h => palisadelaw24_BackendTtys.j10 U  a1 a2 a3 a4 a5 a6 Q h)))]) 3000 true (atPos (posC palisadelaw24_BackendTtys.code []) 8) (frAt [0, 1, 2, 7, 8, 9] [.sl a1, .sl a2, .int .i64 a3, .ptr a4, .ptr a5, .ptr a6]) h := by
  intros; kernel_rfl

theorem palisadelaw24_BackendTtys.s8 {W0 : World} {U : Ifc} (hU : IfcOK sg W0 glsT U) (Q : Bool → Heap → Prop)   : CutOK sg W0 126 (entered 3) (Post sg W0 (palisadelaw24_BackendTtys.ret Q)) (posC palisadelaw24_BackendTtys.code []) 8 [0, 1, 2, 7, 8, 9] (palisadelaw24_BackendTtys.k8 (fun a1 a2 a3 a4 a5 a6 h => palisadelaw24_BackendTtys.j8 U  a1 a2 a3 a4 a5 a6 Q h)) := by
  refine cutOK_head (fun vs h hk => ?_)
  unfold palisadelaw24_BackendTtys.k8 at hk
  split at hk
  · rename_i a1 a2 a3 a4 a5 a6
    intro todo hm ρ a w s f hp
    exact piece (E := palisadelaw24_BackendTtys.E U Q [(10, ([0, 1, 2, 7, 8, 9], palisadelaw24_BackendTtys.k10 (fun a1 a2 a3 a4 a5 a6 h => palisadelaw24_BackendTtys.j10 U  a1 a2 a3 a4 a5 a6 Q h)))]) (vs := [.sl a1, .sl a2, .int .i64 a3, .ptr a4, .ptr a5, .ptr a6]) (envOK seatOK (palisadelaw24_BackendTtys.callsOK hU) hU) (fnOK seatOK palisadelaw24_BackendTtys.fun) ⟨(palisadelaw24_BackendTtys.s10 hU Q  ), trivial⟩ palisadelaw24_BackendTtys.p8 (fuel := 3000) (by rw [← palisadelaw24_BackendTtys.e8]; exact hk) hm s f hp
  · exact hk.elim

theorem palisadelaw24_BackendTtys.e : ∀ (U : Ifc) (a1 : Sl) (a2 : Sl) (a3 : Int) (Q : Bool → Heap → Prop) (h : Heap), palisadelaw24_BackendTtys U a1 a2 a3 Q h = pts (palisadelaw24_BackendTtys.E U Q [(4, ([], palisadelaw24_BackendTtys.k4 (fun  h => palisadelaw24_BackendTtys.j4 U   Q h))), (7, ([], palisadelaw24_BackendTtys.k7 (fun  h => palisadelaw24_BackendTtys.j7 U   Q h))), (8, ([0, 1, 2, 7, 8, 9], palisadelaw24_BackendTtys.k8 (fun a1 a2 a3 a4 a5 a6 h => palisadelaw24_BackendTtys.j8 U  a1 a2 a3 a4 a5 a6 Q h)))]) 3000 true [.code palisadelaw24_BackendTtys.code] (frOf 0 [.sl a1, .sl a2, .int .i64 a3]) h := by
  intros; kernel_rfl

theorem palisadelaw24_BackendTtys.S {W0 : World} {U : Ifc} (hU : IfcOK sg W0 glsT U) : FnS sg W0 311 (palisadelaw24_BackendTtys.C U) := by
  intro vs κ h wv hx w s
  unfold palisadelaw24_BackendTtys.C at hx
  split at hx
  · rename_i a1 a2 a3
    refine postImp (ret := palisadelaw24_BackendTtys.ret (fun r1 h => κ (.bool r1) h)) (fun v h hr => by unfold palisadelaw24_BackendTtys.ret at hr; split at hr; exact hr; exact hr.elim) ?_
    exact calls_of_pts (E := palisadelaw24_BackendTtys.E U (fun r1 h => κ (.bool r1) h) [(4, ([], palisadelaw24_BackendTtys.k4 (fun  h => palisadelaw24_BackendTtys.j4 U   (fun r1 h => κ (.bool r1) h) h))), (7, ([], palisadelaw24_BackendTtys.k7 (fun  h => palisadelaw24_BackendTtys.j7 U   (fun r1 h => κ (.bool r1) h) h))), (8, ([0, 1, 2, 7, 8, 9], palisadelaw24_BackendTtys.k8 (fun a1 a2 a3 a4 a5 a6 h => palisadelaw24_BackendTtys.j8 U  a1 a2 a3 a4 a5 a6 (fun r1 h => κ (.bool r1) h) h)))]) (envOK seatOK (palisadelaw24_BackendTtys.callsOK hU) hU) seatOK.mixed palisadelaw24_BackendTtys.fun (Nat.le_of_ble_eq_true rfl) wv (cutL_ok ⟨(palisadelaw24_BackendTtys.s4 hU (fun r1 h => κ (.bool r1) h)), (palisadelaw24_BackendTtys.s7 hU (fun r1 h => κ (.bool r1) h)), (palisadelaw24_BackendTtys.s8 hU (fun r1 h => κ (.bool r1) h)), trivial⟩) s (fuel := 3000) (by rw [← palisadelaw24_BackendTtys.e]; exact hx)
  · exact hx.elim

noncomputable def backend_tell.code : Code := Go.Proofs.Tryd.f58.body.getD .skip

theorem backend_tell.fun : Fun sg.P 58 27 [.tmp 6] backend_tell.code := mkFun Go.Proofs.Tryd.func58 (by kernel_rfl) (by kernel_rfl) (by kernel_rfl) (by kernel_rfl)

def backend_tell.ret (Q : Int → Heap → Prop) (v : V) (h : Heap) : Prop :=
  match v with
  | .int .i64 r1 => Q r1 h
  | _ => False

def backend_tell.C (U : Ifc) (vs : List V) (κ : V → Heap → Prop) (h : Heap) : Prop :=
  match vs with
  | [a1, .agg [.int .i64 a2, .sl a3], .int .u8 a4] => backend_tell U a1 a2 a3 a4 (fun r1 h => κ (.int .i64 r1) h) h
  | _ => False

noncomputable def backend_tell.calls (U : Ifc) : List (Nat × (List V → (V → Heap → Prop) → Heap → Prop)) := []

noncomputable def backend_tell.E (U : Ifc) (Q : Int → Heap → Prop) (cuts : List (Nat × (List Nat × (List V → Heap → Prop)))) : Env := { tis := tisT, fns := fnsT, tys := tysT, gls := glsT, rts := rtsT, unk := [], nxt := [], calls := backend_tell.calls U, ifc := U, cuts := cuts, ret := backend_tell.ret Q, rets := [.tmp 6], n := 27 }

theorem backend_tell.callsOK {W0 : World} {U : Ifc} (hU : IfcOK sg W0 glsT U) : CallsOK sg W0 (backend_tell.calls U) := trivial

theorem backend_tell.e : ∀ (U : Ifc) (a1 : V) (a2 : Int) (a3 : Sl) (a4 : Int) (Q : Int → Heap → Prop) (h : Heap), backend_tell U a1 a2 a3 a4 Q h = pts (backend_tell.E U Q []) 3000 true [.code backend_tell.code] (frOf 0 [a1, .agg [.int .i64 a2, .sl a3], .int .u8 a4]) h := by
  intros; kernel_rfl

theorem backend_tell.S {W0 : World} {U : Ifc} (hU : IfcOK sg W0 glsT U) : FnS sg W0 274 (backend_tell.C U) := by
  intro vs κ h wv hx w s
  unfold backend_tell.C at hx
  split at hx
  · rename_i a1 a2 a3 a4
    refine postImp (ret := backend_tell.ret (fun r1 h => κ (.int .i64 r1) h)) (fun v h hr => by unfold backend_tell.ret at hr; split at hr; exact hr; exact hr.elim) ?_
    exact calls_of_pts (E := backend_tell.E U (fun r1 h => κ (.int .i64 r1) h) []) (envOK seatOK (backend_tell.callsOK hU) hU) seatOK.mixed backend_tell.fun (Nat.le_of_ble_eq_true rfl) wv (cutL_ok trivial) s (fuel := 3000) (by rw [← backend_tell.e]; exact hx)
  · exact hx.elim

noncomputable def backend_number.code : Code := Go.Proofs.Tryd.f69.body.getD .skip

theorem backend_number.fun : Fun sg.P 69 17 [.tmp 2] backend_number.code := mkFun Go.Proofs.Tryd.func69 (by kernel_rfl) (by kernel_rfl) (by kernel_rfl) (by kernel_rfl)

def backend_number.ret (Q : Int → Heap → Prop) (v : V) (h : Heap) : Prop :=
  match v with
  | .int .u64 r1 => Q r1 h
  | _ => False

def backend_number.C (vs : List V) (κ : V → Heap → Prop) (h : Heap) : Prop :=
  match vs with
  | [.sl a1] => backend_number a1 (fun r1 h => κ (.int .u64 r1) h) h
  | _ => False

noncomputable def backend_number.calls : List (Nat × (List V → (V → Heap → Prop) → Heap → Prop)) := []

noncomputable def backend_number.E (Q : Int → Heap → Prop) (cuts : List (Nat × (List Nat × (List V → Heap → Prop)))) : Env := { tis := tisT, fns := fnsT, tys := tysT, gls := [], rts := rtsT, unk := [], nxt := [], calls := backend_number.calls, ifc := noIfc, cuts := cuts, ret := backend_number.ret Q, rets := [.tmp 2], n := 17 }

theorem backend_number.callsOK {W0 : World} : CallsOK sg W0 backend_number.calls := trivial

def backend_number.k2 (I : Sl → Int → Int → Heap → Prop) (vs : List V) (h : Heap) : Prop :=
  match vs with
  | [.sl a1, .int .u64 a2, .int .i64 a3] => I a1 a2 a3 h
  | _ => False

theorem backend_number.p2 : (posC backend_number.code []).filter (fun p => Nat.beq p.1 2) = [(2, atPos (posC backend_number.code []) 2)] := by kernel_rfl

theorem backend_number.e2 : ∀  (I2 : Sl → Int → Int → Heap → Prop) (a1 : Sl) (a2 : Int) (a3 : Int) (Q : Int → Heap → Prop) (h : Heap), backend_number.b2  I2 a1 a2 a3 Q h = pts (backend_number.E Q [(2, ([0, 2, 3], backend_number.k2 I2))]) 3000 true (atPos (posC backend_number.code []) 2) (frAt [0, 2, 3] [.sl a1, .int .u64 a2, .int .i64 a3]) h := by
  intros; kernel_rfl

theorem backend_number.s2 {W0 : World} (Q : Int → Heap → Prop)   : CutOK sg W0 17 (entered 69) (Post sg W0 (backend_number.ret Q)) (posC backend_number.code []) 2 [0, 2, 3] (backend_number.k2 (fun a1 a2 a3 h => backend_number.j2  a1 a2 a3 Q h)) := by
  refine cutOK_head (fun vs h hk => ?_)
  unfold backend_number.k2 at hk
  split at hk
  · rename_i a1 a2 a3
    refine hk (fun a1 a2 a3 h => Head sg W0 17 (entered 69) (Post sg W0 (backend_number.ret Q)) (posC backend_number.code []) 2 [0, 2, 3] [.sl a1, .int .u64 a2, .int .i64 a3] h) ?_
    intro a1 a2 a3 h hb todo hm ρ a w s f hp
    have hself : CutOK sg W0 17 (entered 69) (Post sg W0 (backend_number.ret Q)) (posC backend_number.code []) 2 [0, 2, 3] (backend_number.k2 (fun a1 a2 a3 h => Head sg W0 17 (entered 69) (Post sg W0 (backend_number.ret Q)) (posC backend_number.code []) 2 [0, 2, 3] [.sl a1, .int .u64 a2, .int .i64 a3] h)) := cutOK_head (fun vs h hk => by unfold backend_number.k2 at hk; split at hk; exact hk; exact hk.elim)
    exact piece (E := backend_number.E Q [(2, ([0, 2, 3], backend_number.k2 (fun a1 a2 a3 h => Head sg W0 17 (entered 69) (Post sg W0 (backend_number.ret Q)) (posC backend_number.code []) 2 [0, 2, 3] [.sl a1, .int .u64 a2, .int .i64 a3] h)))]) (vs := [.sl a1, .int .u64 a2, .int .i64 a3]) (envOK seatOK backend_number.callsOK noIfc_ok) (fnOK seatOK backend_number.fun) ⟨hself, trivial⟩ backend_number.p2 (fuel := 3000) (by rw [← backend_number.e2]; exact hb) hm s f hp
  · exact hk.elim

theorem backend_number.e : ∀ (a1 : Sl) (Q : Int → Heap → Prop) (h : Heap), backend_number a1 Q h = pts (backend_number.E Q [(2, ([0, 2, 3], backend_number.k2 (fun a1 a2 a3 h => backend_number.j2  a1 a2 a3 Q h)))]) 3000 true [.code backend_number.code] (frOf 0 [.sl a1]) h := by
  intros; kernel_rfl

theorem backend_number.S {W0 : World} : FnS sg W0 267 backend_number.C := by
  intro vs κ h wv hx w s
  unfold backend_number.C at hx
  split at hx
  · rename_i a1
    refine postImp (ret := backend_number.ret (fun r1 h => κ (.int .u64 r1) h)) (fun v h hr => by unfold backend_number.ret at hr; split at hr; exact hr; exact hr.elim) ?_
    exact calls_of_pts (E := backend_number.E (fun r1 h => κ (.int .u64 r1) h) [(2, ([0, 2, 3], backend_number.k2 (fun a1 a2 a3 h => backend_number.j2  a1 a2 a3 (fun r1 h => κ (.int .u64 r1) h) h)))]) (envOK seatOK backend_number.callsOK noIfc_ok) seatOK.mixed backend_number.fun (Nat.le_of_ble_eq_true rfl) wv (cutL_ok ⟨(backend_number.s2 (fun r1 h => κ (.int .u64 r1) h)), trivial⟩) s (fuel := 3000) (by rw [← backend_number.e]; exact hx)
  · exact hx.elim

noncomputable def mem_Memory_Frames.code : Code := Go.Proofs.Tryd.f73.body.getD .skip

theorem mem_Memory_Frames.fun : Fun sg.P 73 11 [.tmp 2] mem_Memory_Frames.code := mkFun Go.Proofs.Tryd.func73 (by kernel_rfl) (by kernel_rfl) (by kernel_rfl) (by kernel_rfl)

def mem_Memory_Frames.ret (Q : Int → Heap → Prop) (v : V) (h : Heap) : Prop :=
  match v with
  | .int .i64 r1 => Q r1 h
  | _ => False

def mem_Memory_Frames.C (vs : List V) (κ : V → Heap → Prop) (h : Heap) : Prop :=
  match vs with
  | [.ptr a1] => mem_Memory_Frames a1 (fun r1 h => κ (.int .i64 r1) h) h
  | _ => False

noncomputable def mem_Memory_Frames.calls : List (Nat × (List V → (V → Heap → Prop) → Heap → Prop)) := [(31, mem_Memory_none.C)]

noncomputable def mem_Memory_Frames.E (Q : Int → Heap → Prop) (cuts : List (Nat × (List Nat × (List V → Heap → Prop)))) : Env := { tis := tisT, fns := fnsT, tys := tysT, gls := [], rts := rtsT, unk := [], nxt := [], calls := mem_Memory_Frames.calls, ifc := noIfc, cuts := cuts, ret := mem_Memory_Frames.ret Q, rets := [.tmp 2], n := 11 }

theorem mem_Memory_Frames.callsOK {W0 : World} : CallsOK sg W0 mem_Memory_Frames.calls := ⟨mem_Memory_none.S, trivial⟩

theorem mem_Memory_Frames.e : ∀ (a1 : Option Ptr) (Q : Int → Heap → Prop) (h : Heap), mem_Memory_Frames a1 Q h = pts (mem_Memory_Frames.E Q []) 3000 true [.code mem_Memory_Frames.code] (frOf 0 [.ptr a1]) h := by
  intros; kernel_rfl

theorem mem_Memory_Frames.S {W0 : World} : FnS sg W0 55 mem_Memory_Frames.C := by
  intro vs κ h wv hx w s
  unfold mem_Memory_Frames.C at hx
  split at hx
  · rename_i a1
    refine postImp (ret := mem_Memory_Frames.ret (fun r1 h => κ (.int .i64 r1) h)) (fun v h hr => by unfold mem_Memory_Frames.ret at hr; split at hr; exact hr; exact hr.elim) ?_
    exact calls_of_pts (E := mem_Memory_Frames.E (fun r1 h => κ (.int .i64 r1) h) []) (envOK seatOK mem_Memory_Frames.callsOK noIfc_ok) seatOK.mixed mem_Memory_Frames.fun (Nat.le_of_ble_eq_true rfl) wv (cutL_ok trivial) s (fuel := 3000) (by rw [← mem_Memory_Frames.e]; exact hx)
  · exact hx.elim

noncomputable def palisadelaw24_Flat_Frame.code : Code := Go.Proofs.Tryd.f123.body.getD .skip

theorem palisadelaw24_Flat_Frame.fun : Fun sg.P 123 24 [.tmp 6, .tmp 7] palisadelaw24_Flat_Frame.code := mkFun Go.Proofs.Tryd.func123 (by kernel_rfl) (by kernel_rfl) (by kernel_rfl) (by kernel_rfl)

def palisadelaw24_Flat_Frame.ret (Q : Int → Bool → Heap → Prop) (v : V) (h : Heap) : Prop :=
  match v with
  | .tup [.int .i64 r1, .bool r2] => Q r1 r2 h
  | _ => False

def palisadelaw24_Flat_Frame.C (vs : List V) (κ : V → Heap → Prop) (h : Heap) : Prop :=
  match vs with
  | [.ptr a1, .int .i64 a2, .bool a3] => palisadelaw24_Flat_Frame a1 a2 a3 (fun r1 r2 h => κ (.tup [.int .i64 r1, .bool r2]) h) h
  | _ => False

noncomputable def palisadelaw24_Flat_Frame.calls : List (Nat × (List V → (V → Heap → Prop) → Heap → Prop)) := []

noncomputable def palisadelaw24_Flat_Frame.E (Q : Int → Bool → Heap → Prop) (cuts : List (Nat × (List Nat × (List V → Heap → Prop)))) : Env := { tis := tisT, fns := fnsT, tys := tysT, gls := [], rts := rtsT, unk := [], nxt := [], calls := palisadelaw24_Flat_Frame.calls, ifc := noIfc, cuts := cuts, ret := palisadelaw24_Flat_Frame.ret Q, rets := [.tmp 6, .tmp 7], n := 24 }

theorem palisadelaw24_Flat_Frame.callsOK {W0 : World} : CallsOK sg W0 palisadelaw24_Flat_Frame.calls := trivial

theorem palisadelaw24_Flat_Frame.e : ∀ (a1 : Option Ptr) (a2 : Int) (a3 : Bool) (Q : Int → Bool → Heap → Prop) (h : Heap), palisadelaw24_Flat_Frame a1 a2 a3 Q h = pts (palisadelaw24_Flat_Frame.E Q []) 3000 true [.code palisadelaw24_Flat_Frame.code] (frOf 0 [.ptr a1, .int .i64 a2, .bool a3]) h := by
  intros; kernel_rfl

theorem palisadelaw24_Flat_Frame.S {W0 : World} : FnS sg W0 296 palisadelaw24_Flat_Frame.C := by
  intro vs κ h wv hx w s
  unfold palisadelaw24_Flat_Frame.C at hx
  split at hx
  · rename_i a1 a2 a3
    refine postImp (ret := palisadelaw24_Flat_Frame.ret (fun r1 r2 h => κ (.tup [.int .i64 r1, .bool r2]) h)) (fun v h hr => by unfold palisadelaw24_Flat_Frame.ret at hr; split at hr; exact hr; exact hr.elim) ?_
    exact calls_of_pts (E := palisadelaw24_Flat_Frame.E (fun r1 r2 h => κ (.tup [.int .i64 r1, .bool r2]) h) []) (envOK seatOK palisadelaw24_Flat_Frame.callsOK noIfc_ok) seatOK.mixed palisadelaw24_Flat_Frame.fun (Nat.le_of_ble_eq_true rfl) wv (cutL_ok trivial) s (fuel := 3000) (by rw [← palisadelaw24_Flat_Frame.e]; exact hx)
  · exact hx.elim

noncomputable def backend_gather.code : Code := Go.Proofs.Tryd.f47.body.getD .skip

theorem backend_gather.fun : Fun sg.P 47 47 [.tmp 6, .tmp 7] backend_gather.code := mkFun Go.Proofs.Tryd.func47 (by kernel_rfl) (by kernel_rfl) (by kernel_rfl) (by kernel_rfl)

def backend_gather.ret (Q : Sl → Bool → Heap → Prop) (v : V) (h : Heap) : Prop :=
  match v with
  | .tup [.sl r1, .bool r2] => Q r1 r2 h
  | _ => False

def backend_gather.C (U : Ifc) (vs : List V) (κ : V → Heap → Prop) (h : Heap) : Prop :=
  match vs with
  | [a1, .agg [.int .i64 a2, .sl a3], .int .i64 a4] => backend_gather U a1 a2 a3 a4 (fun r1 r2 h => κ (.tup [.sl r1, .bool r2]) h) h
  | _ => False

noncomputable def backend_gather.calls (U : Ifc) : List (Nat × (List V → (V → Heap → Prop) → Heap → Prop)) := []

noncomputable def backend_gather.E (U : Ifc) (Q : Sl → Bool → Heap → Prop) (cuts : List (Nat × (List Nat × (List V → Heap → Prop)))) : Env := { tis := tisT, fns := fnsT, tys := tysT, gls := glsT, rts := rtsT, unk := [], nxt := [], calls := backend_gather.calls U, ifc := U, cuts := cuts, ret := backend_gather.ret Q, rets := [.tmp 6, .tmp 7], n := 47 }

theorem backend_gather.callsOK {W0 : World} {U : Ifc} (hU : IfcOK sg W0 glsT U) : CallsOK sg W0 (backend_gather.calls U) := trivial

def backend_gather.k8 (I : Heap → Prop) (vs : List V) (h : Heap) : Prop :=
  match vs with
  | [] => I  h
  | _ => False

def backend_gather.k9 (I : V → Int → Sl → Sl → Sl → Int → Int → Heap → Prop) (vs : List V) (h : Heap) : Prop :=
  match vs with
  | [a1, .int .i64 a2, .sl a3, .sl a4, .sl a5, .int .i64 a6, .int .i64 a7] => I a1 a2 a3 a4 a5 a6 a7 h
  | _ => False

def backend_gather.k3 (I : V → Int → Sl → Sl → Int → Int → Heap → Prop) (vs : List V) (h : Heap) : Prop :=
  match vs with
  | [a1, .int .i64 a2, .sl a3, .sl a4, .int .i64 a5, .int .i64 a6] => I a1 a2 a3 a4 a5 a6 h
  | _ => False

theorem backend_gather.p8 : (posC backend_gather.code []).filter (fun p => Nat.beq p.1 8) = [(8, atPos (posC backend_gather.code []) 8)] := by kernel_rfl

theorem backend_gather.e8 : ∀ (U : Ifc) (I3 : V → Int → Sl → Sl → Int → Int → Heap → Prop)  (Q : Sl → Bool → Heap → Prop) (h : Heap), backend_gather.j8 U I3  Q h = pts (backend_gather.E U Q []) 3000 true (atPos (posC backend_gather.code []) 8) (frAt [] []) h := by
  intros; kernel_rfl

theorem backend_gather.s8 {W0 : World} {U : Ifc} (hU : IfcOK sg W0 glsT U) (Q : Sl → Bool → Heap → Prop) (I3 : V → Int → Sl → Sl → Int → Int → Heap → Prop) (h3 : CutOK sg W0 47 (entered 47) (Post sg W0 (backend_gather.ret Q)) (posC backend_gather.code []) 3 [0, 2, 8, 14, 15, 16] (backend_gather.k3 I3)) : CutOK sg W0 47 (entered 47) (Post sg W0 (backend_gather.ret Q)) (posC backend_gather.code []) 8 [] (backend_gather.k8 (fun  h => backend_gather.j8 U I3  Q h)) := by
  refine cutOK_head (fun vs h hk => ?_)
  unfold backend_gather.k8 at hk
  split at hk
  · skip
    intro todo hm ρ a w s f hp
    exact piece (E := backend_gather.E U Q []) (vs := []) (envOK seatOK (backend_gather.callsOK hU) hU) (fnOK seatOK backend_gather.fun) trivial backend_gather.p8 (fuel := 3000) (by rw [← backend_gather.e8]; exact hk) hm s f hp
  · exact hk.elim

theorem backend_gather.p9 : (posC backend_gather.code []).filter (fun p => Nat.beq p.1 9) = [(9, atPos (posC backend_gather.code []) 9)] := by kernel_rfl

theorem backend_gather.e9 : ∀ (U : Ifc) (I3 : V → Int → Sl → Sl → Int → Int → Heap → Prop) (a1 : V) (a2 : Int) (a3 : Sl) (a4 : Sl) (a5 : Sl) (a6 : Int) (a7 : Int) (Q : Sl → Bool → Heap → Prop) (h : Heap), backend_gather.j9 U I3 a1 a2 a3 a4 a5 a6 a7 Q h = pts (backend_gather.E U Q [(3, ([0, 2, 8, 14, 15, 16], backend_gather.k3 I3))]) 3000 true (atPos (posC backend_gather.code []) 9) (frAt [0, 2, 8, 11, 14, 15, 16] [a1, .int .i64 a2, .sl a3, .sl a4, .sl a5, .int .i64 a6, .int .i64 a7]) h := by
  intros; kernel_rfl

theorem backend_gather.s9 {W0 : World} {U : Ifc} (hU : IfcOK sg W0 glsT U) (Q : Sl → Bool → Heap → Prop) (I3 : V → Int → Sl → Sl → Int → Int → Heap → Prop) (h3 : CutOK sg W0 47 (entered 47) (Post sg W0 (backend_gather.ret Q)) (posC backend_gather.code []) 3 [0, 2, 8, 14, 15, 16] (backend_gather.k3 I3)) : CutOK sg W0 47 (entered 47) (Post sg W0 (backend_gather.ret Q)) (posC backend_gather.code []) 9 [0, 2, 8, 11, 14, 15, 16] (backend_gather.k9 (fun a1 a2 a3 a4 a5 a6 a7 h => backend_gather.j9 U I3 a1 a2 a3 a4 a5 a6 a7 Q h)) := by
  refine cutOK_head (fun vs h hk => ?_)
  unfold backend_gather.k9 at hk
  split at hk
  · rename_i a1 a2 a3 a4 a5 a6 a7
    intro todo hm ρ a w s f hp
    exact piece (E := backend_gather.E U Q [(3, ([0, 2, 8, 14, 15, 16], backend_gather.k3 I3))]) (vs := [a1, .int .i64 a2, .sl a3, .sl a4, .sl a5, .int .i64 a6, .int .i64 a7]) (envOK seatOK (backend_gather.callsOK hU) hU) (fnOK seatOK backend_gather.fun) ⟨h3, trivial⟩ backend_gather.p9 (fuel := 3000) (by rw [← backend_gather.e9]; exact hk) hm s f hp
  · exact hk.elim

theorem backend_gather.p3 : (posC backend_gather.code []).filter (fun p => Nat.beq p.1 3) = [(3, atPos (posC backend_gather.code []) 3)] := by kernel_rfl

theorem backend_gather.e3 : ∀ (U : Ifc)  (I3 : V → Int → Sl → Sl → Int → Int → Heap → Prop) (a1 : V) (a2 : Int) (a3 : Sl) (a4 : Sl) (a5 : Int) (a6 : Int) (Q : Sl → Bool → Heap → Prop) (h : Heap), backend_gather.b3 U  I3 a1 a2 a3 a4 a5 a6 Q h = pts (backend_gather.E U Q [(3, ([0, 2, 8, 14, 15, 16], backend_gather.k3 I3)), (8, ([], backend_gather.k8 (fun  h => backend_gather.j8 U I3  Q h))), (9, ([0, 2, 8, 11, 14, 15, 16], backend_gather.k9 (fun a1 a2 a3 a4 a5 a6 a7 h => backend_gather.j9 U I3 a1 a2 a3 a4 a5 a6 a7 Q h)))]) 3000 true (atPos (posC backend_gather.code []) 3) (frAt [0, 2, 8, 14, 15, 16] [a1, .int .i64 a2, .sl a3, .sl a4, .int .i64 a5, .int .i64 a6]) h := by
  intros; kernel_rfl

theorem backend_gather.s3 {W0 : World} {U : Ifc} (hU : IfcOK sg W0 glsT U) (Q : Sl → Bool → Heap → Prop)   : CutOK sg W0 47 (entered 47) (Post sg W0 (backend_gather.ret Q)) (posC backend_gather.code []) 3 [0, 2, 8, 14, 15, 16] (backend_gather.k3 (fun a1 a2 a3 a4 a5 a6 h => backend_gather.j3 U  a1 a2 a3 a4 a5 a6 Q h)) := by
  refine cutOK_head (fun vs h hk => ?_)
  unfold backend_gather.k3 at hk
  split at hk
  · rename_i a1 a2 a3 a4 a5 a6
    refine hk (fun a1 a2 a3 a4 a5 a6 h => Head sg W0 47 (entered 47) (Post sg W0 (backend_gather.ret Q)) (posC backend_gather.code []) 3 [0, 2, 8, 14, 15, 16] [a1, .int .i64 a2, .sl a3, .sl a4, .int .i64 a5, .int .i64 a6] h) ?_
    intro a1 a2 a3 a4 a5 a6 h hb todo hm ρ a w s f hp
    have hself : CutOK sg W0 47 (entered 47) (Post sg W0 (backend_gather.ret Q)) (posC backend_gather.code []) 3 [0, 2, 8, 14, 15, 16] (backend_gather.k3 (fun a1 a2 a3 a4 a5 a6 h => Head sg W0 47 (entered 47) (Post sg W0 (backend_gather.ret Q)) (posC backend_gather.code []) 3 [0, 2, 8, 14, 15, 16] [a1, .int .i64 a2, .sl a3, .sl a4, .int .i64 a5, .int .i64 a6] h)) := cutOK_head (fun vs h hk => by unfold backend_gather.k3 at hk; split at hk; exact hk; exact hk.elim)
    exact piece (E := backend_gather.E U Q [(3, ([0, 2, 8, 14, 15, 16], backend_gather.k3 (fun a1 a2 a3 a4 a5 a6 h => Head sg W0 47 (entered 47) (Post sg W0 (backend_gather.ret Q)) (posC backend_gather.code []) 3 [0, 2, 8, 14, 15, 16] [a1, .int .i64 a2, .sl a3, .sl a4, .int .i64 a5, .int .i64 a6] h))), (8, ([], backend_gather.k8 (fun  h => backend_gather.j8 U (fun a1 a2 a3 a4 a5 a6 h => Head sg W0 47 (entered 47) (Post sg W0 (backend_gather.ret Q)) (posC backend_gather.code []) 3 [0, 2, 8, 14, 15, 16] [a1, .int .i64 a2, .sl a3, .sl a4, .int .i64 a5, .int .i64 a6] h)  Q h))), (9, ([0, 2, 8, 11, 14, 15, 16], backend_gather.k9 (fun a1 a2 a3 a4 a5 a6 a7 h => backend_gather.j9 U (fun a1 a2 a3 a4 a5 a6 h => Head sg W0 47 (entered 47) (Post sg W0 (backend_gather.ret Q)) (posC backend_gather.code []) 3 [0, 2, 8, 14, 15, 16] [a1, .int .i64 a2, .sl a3, .sl a4, .int .i64 a5, .int .i64 a6] h) a1 a2 a3 a4 a5 a6 a7 Q h)))]) (vs := [a1, .int .i64 a2, .sl a3, .sl a4, .int .i64 a5, .int .i64 a6]) (envOK seatOK (backend_gather.callsOK hU) hU) (fnOK seatOK backend_gather.fun) ⟨hself, (backend_gather.s8 hU Q (fun a1 a2 a3 a4 a5 a6 h => Head sg W0 47 (entered 47) (Post sg W0 (backend_gather.ret Q)) (posC backend_gather.code []) 3 [0, 2, 8, 14, 15, 16] [a1, .int .i64 a2, .sl a3, .sl a4, .int .i64 a5, .int .i64 a6] h) hself), (backend_gather.s9 hU Q (fun a1 a2 a3 a4 a5 a6 h => Head sg W0 47 (entered 47) (Post sg W0 (backend_gather.ret Q)) (posC backend_gather.code []) 3 [0, 2, 8, 14, 15, 16] [a1, .int .i64 a2, .sl a3, .sl a4, .int .i64 a5, .int .i64 a6] h) hself), trivial⟩ backend_gather.p3 (fuel := 3000) (by rw [← backend_gather.e3]; exact hb) hm s f hp
  · exact hk.elim

theorem backend_gather.e : ∀ (U : Ifc) (a1 : V) (a2 : Int) (a3 : Sl) (a4 : Int) (Q : Sl → Bool → Heap → Prop) (h : Heap), backend_gather U a1 a2 a3 a4 Q h = pts (backend_gather.E U Q [(3, ([0, 2, 8, 14, 15, 16], backend_gather.k3 (fun a1 a2 a3 a4 a5 a6 h => backend_gather.j3 U  a1 a2 a3 a4 a5 a6 Q h)))]) 3000 true [.code backend_gather.code] (frOf 0 [a1, .agg [.int .i64 a2, .sl a3], .int .i64 a4]) h := by
  intros; kernel_rfl

theorem backend_gather.S {W0 : World} {U : Ifc} (hU : IfcOK sg W0 glsT U) : FnS sg W0 287 (backend_gather.C U) := by
  intro vs κ h wv hx w s
  unfold backend_gather.C at hx
  split at hx
  · rename_i a1 a2 a3 a4
    refine postImp (ret := backend_gather.ret (fun r1 r2 h => κ (.tup [.sl r1, .bool r2]) h)) (fun v h hr => by unfold backend_gather.ret at hr; split at hr; exact hr; exact hr.elim) ?_
    exact calls_of_pts (E := backend_gather.E U (fun r1 r2 h => κ (.tup [.sl r1, .bool r2]) h) [(3, ([0, 2, 8, 14, 15, 16], backend_gather.k3 (fun a1 a2 a3 a4 a5 a6 h => backend_gather.j3 U  a1 a2 a3 a4 a5 a6 (fun r1 r2 h => κ (.tup [.sl r1, .bool r2]) h) h)))]) (envOK seatOK (backend_gather.callsOK hU) hU) seatOK.mixed backend_gather.fun (Nat.le_of_ble_eq_true rfl) wv (cutL_ok ⟨(backend_gather.s3 hU (fun r1 r2 h => κ (.tup [.sl r1, .bool r2]) h)), trivial⟩) s (fuel := 3000) (by rw [← backend_gather.e]; exact hx)
  · exact hx.elim

noncomputable def console_Console_Write.code : Code := Go.Proofs.Tryd.f48.body.getD .skip

theorem console_Console_Write.fun : Fun sg.P 48 40 [.tmp 4, .tmp 5] console_Console_Write.code := mkFun Go.Proofs.Tryd.func48 (by kernel_rfl) (by kernel_rfl) (by kernel_rfl) (by kernel_rfl)

def console_Console_Write.ret (Q : Int → Int → Heap → Prop) (v : V) (h : Heap) : Prop :=
  match v with
  | .tup [.int .i64 r1, .int .i64 r2] => Q r1 r2 h
  | _ => False

def console_Console_Write.C (vs : List V) (κ : V → Heap → Prop) (h : Heap) : Prop :=
  match vs with
  | [.ptr a1, .sl a2] => console_Console_Write a1 a2 (fun r1 r2 h => κ (.tup [.int .i64 r1, .int .i64 r2]) h) h
  | _ => False

noncomputable def console_Console_Write.calls : List (Nat × (List V → (V → Heap → Prop) → Heap → Prop)) := [(291, console_Console_none.C)]

noncomputable def console_Console_Write.E (Q : Int → Int → Heap → Prop) (cuts : List (Nat × (List Nat × (List V → Heap → Prop)))) : Env := { tis := tisT, fns := fnsT, tys := tysT, gls := [], rts := rtsT, unk := [], nxt := [], calls := console_Console_Write.calls, ifc := noIfc, cuts := cuts, ret := console_Console_Write.ret Q, rets := [.tmp 4, .tmp 5], n := 40 }

theorem console_Console_Write.callsOK {W0 : World} : CallsOK sg W0 console_Console_Write.calls := ⟨console_Console_none.S, trivial⟩

def console_Console_Write.k5 (I : (Option Ptr) → Int → Heap → Prop) (vs : List V) (h : Heap) : Prop :=
  match vs with
  | [.ptr a1, .int .i64 a2] => I a1 a2 h
  | _ => False

theorem console_Console_Write.p5 : (posC console_Console_Write.code []).filter (fun p => Nat.beq p.1 5) = [(5, atPos (posC console_Console_Write.code []) 5)] := by kernel_rfl

theorem console_Console_Write.e5 : ∀  (a1 : Option Ptr) (a2 : Int) (Q : Int → Int → Heap → Prop) (h : Heap), console_Console_Write.j5  a1 a2 Q h = pts (console_Console_Write.E Q []) 3000 true (atPos (posC console_Console_Write.code []) 5) (frAt [0, 6] [.ptr a1, .int .i64 a2]) h := by
  intros; kernel_rfl

theorem console_Console_Write.s5 {W0 : World} (Q : Int → Int → Heap → Prop)   : CutOK sg W0 40 (entered 48) (Post sg W0 (console_Console_Write.ret Q)) (posC console_Console_Write.code []) 5 [0, 6] (console_Console_Write.k5 (fun a1 a2 h => console_Console_Write.j5  a1 a2 Q h)) := by
  refine cutOK_head (fun vs h hk => ?_)
  unfold console_Console_Write.k5 at hk
  split at hk
  · rename_i a1 a2
    intro todo hm ρ a w s f hp
    exact piece (E := console_Console_Write.E Q []) (vs := [.ptr a1, .int .i64 a2]) (envOK seatOK console_Console_Write.callsOK noIfc_ok) (fnOK seatOK console_Console_Write.fun) trivial console_Console_Write.p5 (fuel := 3000) (by rw [← console_Console_Write.e5]; exact hk) hm s f hp
  · exact hk.elim

theorem console_Console_Write.e : ∀ (a1 : Option Ptr) (a2 : Sl) (Q : Int → Int → Heap → Prop) (h : Heap), console_Console_Write a1 a2 Q h = pts (console_Console_Write.E Q [(5, ([0, 6], console_Console_Write.k5 (fun a1 a2 h => console_Console_Write.j5  a1 a2 Q h)))]) 3000 true [.code console_Console_Write.code] (frOf 0 [.ptr a1, .sl a2]) h := by
  intros; kernel_rfl

theorem console_Console_Write.S {W0 : World} : FnS sg W0 292 console_Console_Write.C := by
  intro vs κ h wv hx w s
  unfold console_Console_Write.C at hx
  split at hx
  · rename_i a1 a2
    refine postImp (ret := console_Console_Write.ret (fun r1 r2 h => κ (.tup [.int .i64 r1, .int .i64 r2]) h)) (fun v h hr => by unfold console_Console_Write.ret at hr; split at hr; exact hr; exact hr.elim) ?_
    exact calls_of_pts (E := console_Console_Write.E (fun r1 r2 h => κ (.tup [.int .i64 r1, .int .i64 r2]) h) [(5, ([0, 6], console_Console_Write.k5 (fun a1 a2 h => console_Console_Write.j5  a1 a2 (fun r1 r2 h => κ (.tup [.int .i64 r1, .int .i64 r2]) h) h)))]) (envOK seatOK console_Console_Write.callsOK noIfc_ok) seatOK.mixed console_Console_Write.fun (Nat.le_of_ble_eq_true rfl) wv (cutL_ok ⟨(console_Console_Write.s5 (fun r1 r2 h => κ (.tup [.int .i64 r1, .int .i64 r2]) h)), trivial⟩) s (fuel := 3000) (by rw [← console_Console_Write.e]; exact hx)
  · exact hx.elim

noncomputable def slices_Delete_byte_byte.code : Code := Go.Proofs.Tryd.f83.body.getD .skip

theorem slices_Delete_byte_byte.fun : Fun sg.P 83 33 [.tmp 6] slices_Delete_byte_byte.code := mkFun Go.Proofs.Tryd.func83 (by kernel_rfl) (by kernel_rfl) (by kernel_rfl) (by kernel_rfl)

def slices_Delete_byte_byte.ret (Q : Sl → Heap → Prop) (v : V) (h : Heap) : Prop :=
  match v with
  | .sl r1 => Q r1 h
  | _ => False

def slices_Delete_byte_byte.C (vs : List V) (κ : V → Heap → Prop) (h : Heap) : Prop :=
  match vs with
  | [.sl a1, .int .i64 a2, .int .i64 a3] => slices_Delete_byte_byte a1 a2 a3 (fun r1 h => κ (.sl r1) h) h
  | _ => False

noncomputable def slices_Delete_byte_byte.calls : List (Nat × (List V → (V → Heap → Prop) → Heap → Prop)) := []

noncomputable def slices_Delete_byte_byte.E (Q : Sl → Heap → Prop) (cuts : List (Nat × (List Nat × (List V → Heap → Prop)))) : Env := { tis := tisT, fns := fnsT, tys := tysT, gls := [], rts := rtsT, unk := [], nxt := [], calls := slices_Delete_byte_byte.calls, ifc := noIfc, cuts := cuts, ret := slices_Delete_byte_byte.ret Q, rets := [.tmp 6], n := 33 }

theorem slices_Delete_byte_byte.callsOK {W0 : World} : CallsOK sg W0 slices_Delete_byte_byte.calls := trivial

def slices_Delete_byte_byte.k7 (I : Sl → Heap → Prop) (vs : List V) (h : Heap) : Prop :=
  match vs with
  | [.sl a1] => I a1 h
  | _ => False

theorem slices_Delete_byte_byte.p7 : (posC slices_Delete_byte_byte.code []).filter (fun p => Nat.beq p.1 7) = [(7, atPos (posC slices_Delete_byte_byte.code []) 7)] := by kernel_rfl

theorem slices_Delete_byte_byte.e7 : ∀  (a1 : Sl) (Q : Sl → Heap → Prop) (h : Heap), slices_Delete_byte_byte.j7  a1 Q h = pts (slices_Delete_byte_byte.E Q []) 3000 true (atPos (posC slices_Delete_byte_byte.code []) 7) (frAt [0] [.sl a1]) h := by
  intros; kernel_rfl

theorem slices_Delete_byte_byte.s7 {W0 : World} (Q : Sl → Heap → Prop)   : CutOK sg W0 33 (entered 83) (Post sg W0 (slices_Delete_byte_byte.ret Q)) (posC slices_Delete_byte_byte.code []) 7 [0] (slices_Delete_byte_byte.k7 (fun a1 h => slices_Delete_byte_byte.j7  a1 Q h)) := by
  refine cutOK_head (fun vs h hk => ?_)
  unfold slices_Delete_byte_byte.k7 at hk
  split at hk
  · rename_i a1
    intro todo hm ρ a w s f hp
    exact piece (E := slices_Delete_byte_byte.E Q []) (vs := [.sl a1]) (envOK seatOK slices_Delete_byte_byte.callsOK noIfc_ok) (fnOK seatOK slices_Delete_byte_byte.fun) trivial slices_Delete_byte_byte.p7 (fuel := 3000) (by rw [← slices_Delete_byte_byte.e7]; exact hk) hm s f hp
  · exact hk.elim

theorem slices_Delete_byte_byte.e : ∀ (a1 : Sl) (a2 : Int) (a3 : Int) (Q : Sl → Heap → Prop) (h : Heap), slices_Delete_byte_byte a1 a2 a3 Q h = pts (slices_Delete_byte_byte.E Q [(7, ([0], slices_Delete_byte_byte.k7 (fun a1 h => slices_Delete_byte_byte.j7  a1 Q h)))]) 3000 true [.code slices_Delete_byte_byte.code] (frOf 0 [.sl a1, .int .i64 a2, .int .i64 a3]) h := by
  intros; kernel_rfl

theorem slices_Delete_byte_byte.S {W0 : World} : FnS sg W0 293 slices_Delete_byte_byte.C := by
  intro vs κ h wv hx w s
  unfold slices_Delete_byte_byte.C at hx
  split at hx
  · rename_i a1 a2 a3
    refine postImp (ret := slices_Delete_byte_byte.ret (fun r1 h => κ (.sl r1) h)) (fun v h hr => by unfold slices_Delete_byte_byte.ret at hr; split at hr; exact hr; exact hr.elim) ?_
    exact calls_of_pts (E := slices_Delete_byte_byte.E (fun r1 h => κ (.sl r1) h) [(7, ([0], slices_Delete_byte_byte.k7 (fun a1 h => slices_Delete_byte_byte.j7  a1 (fun r1 h => κ (.sl r1) h) h)))]) (envOK seatOK slices_Delete_byte_byte.callsOK noIfc_ok) seatOK.mixed slices_Delete_byte_byte.fun (Nat.le_of_ble_eq_true rfl) wv (cutL_ok ⟨(slices_Delete_byte_byte.s7 (fun r1 h => κ (.sl r1) h)), trivial⟩) s (fuel := 3000) (by rw [← slices_Delete_byte_byte.e]; exact hx)
  · exact hx.elim

end Go.Fn
