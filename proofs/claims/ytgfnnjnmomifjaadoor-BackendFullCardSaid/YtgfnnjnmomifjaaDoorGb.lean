/- The links of the shallow functions to the machine. PRINTED by lift.py. -/
import Derived.Test.YtgfnnjnmomifjaaDoorGb3
set_option linter.unusedVariables false
set_option maxRecDepth 100000
namespace Go.Fn
open Go.Lift

noncomputable def palisadelaw24_Flat_Frame.code : Code := Go.Proofs.Tryd.f123.body.getD .skip

theorem palisadelaw24_Flat_Frame.fun : Fun sg.P 123 24 [.tmp 6, .tmp 7] palisadelaw24_Flat_Frame.code := mkFun Go.Proofs.Tryd.func123 (by kernel_rfl) (by kernel_rfl) (by kernel_rfl) (by kernel_rfl)

def palisadelaw24_Flat_Frame.ret (Q : Int → Bool → Heap → Prop) (v : V) (h : Heap) : Prop :=
  match v with
  | .tup [.int .i64 r1, .bool r2] => Q r1 r2 h
  | _ => False

def palisadelaw24_Flat_Frame.C (vs : List V) (κ : V → Heap → Prop) (h : Heap) : Prop :=
  match vs with
  | [.ptr a1, .int .i64 a2, .bool a3] => palisadelaw24_Flat_Frame a1 a2 a3 (fun r1 r2 h => κ (.tup [.int .i64 r1, .bool r2]) h) h
  | _ => False

noncomputable def palisadelaw24_Flat_Frame.calls : List (Nat × (List V → (V → Heap → Prop) → Heap → Prop)) := []

noncomputable def palisadelaw24_Flat_Frame.E (Q : Int → Bool → Heap → Prop) (cuts : List (Nat × (List Nat × (List V → Heap → Prop)))) : Env := { tis := tisT, fns := fnsT, tys := tysT, gls := [], rts := rtsT, unk := [], nxt := [], calls := palisadelaw24_Flat_Frame.calls, ifc := noIfc, cuts := cuts, ret := palisadelaw24_Flat_Frame.ret Q, rets := [.tmp 6, .tmp 7], n := 24 }

theorem palisadelaw24_Flat_Frame.callsOK {W0 : World} : CallsOK sg W0 palisadelaw24_Flat_Frame.calls := trivial

theorem palisadelaw24_Flat_Frame.e : ∀ (a1 : Option Ptr) (a2 : Int) (a3 : Bool) (Q : Int → Bool → Heap → Prop) (h : Heap), palisadelaw24_Flat_Frame a1 a2 a3 Q h = pts (palisadelaw24_Flat_Frame.E Q []) 3000 true [.code palisadelaw24_Flat_Frame.code] (frOf 0 [.ptr a1, .int .i64 a2, .bool a3]) h := by
  intros; kernel_rfl

theorem palisadelaw24_Flat_Frame.S {W0 : World} : FnS sg W0 296 palisadelaw24_Flat_Frame.C := by
  intro vs κ h wv hx w s
  unfold palisadelaw24_Flat_Frame.C at hx
  split at hx
  · rename_i a1 a2 a3
    refine postImp (ret := palisadelaw24_Flat_Frame.ret (fun r1 r2 h => κ (.tup [.int .i64 r1, .bool r2]) h)) (fun v h hr => by unfold palisadelaw24_Flat_Frame.ret at hr; split at hr; exact hr; exact hr.elim) ?_
    exact calls_of_pts (E := palisadelaw24_Flat_Frame.E (fun r1 r2 h => κ (.tup [.int .i64 r1, .bool r2]) h) []) (envOK seatOK palisadelaw24_Flat_Frame.callsOK noIfc_ok) seatOK.mixed palisadelaw24_Flat_Frame.fun (Nat.le_of_ble_eq_true rfl) wv (cutL_ok trivial) s (fuel := 3000) (by rw [← palisadelaw24_Flat_Frame.e]; exact hx)
  · exact hx.elim

end Go.Fn
