/- errors.As at the assembler's errors: the word's link. -/
import Derived.Test.YtcaeaolgijjjnaaGreatDoorLc
import Derived.Test.YtcaeaolgijjjnaaGreatDoorAsAs
set_option linter.unusedSimpArgs false
set_option linter.unusedVariables false

set_option linter.unusedSimpArgs false
set_option linter.unusedVariables false
set_option maxRecDepth 100000
namespace Go.Lift
open Go Go.RowKit Go.Asm.As

def asErrC (U : Ifc) (c F E pF pE rt : Nat) (vs : List V) (κ : V → Heap → Prop) (h : Heap) : Prop :=
  match vs with
  | [a1, a2] => asErrI U c F E pF pE rt a1 a2 (fun b h => κ (.bool b) h) h
  | _ => False

section
variable {σ : Seat} {W0 : World} {h : Heap} {w : World}

theorem tab_cell (s : Sim σ W0 h w) {gls : List (Nat × Nat)} {U : Ifc} (hU : IfcOK σ W0 gls U) {g c : Nat} {v : V} (hl : looks gls g = some c) (ht : (c, [v]) ∈ U.tabs) : w.cell? ⟨g, 0, none⟩ = some (v.val σ) := by
  obtain ⟨el, fz, h0⟩ := hU.tabs _ _ ht
  rw [looks_pair2 hU.gl hl, Nat.mul_div_cancel_left g (by omega)] at h0
  have hlt : g < W0.heap.size := by
    rcases Nat.lt_or_ge g W0.heap.size with h1 | h1
    · exact h1
    · rw [Array.getElem?_eq_none h1] at h0; cases h0
  unfold World.cell?
  rw [s.old g hlt, h0]
  rfl

theorem Sim.al (s : Sim σ W0 h w) (o : Obj) : Sim σ W0 h (w.alloc o) := s.belowW ((Below.refl _ _).alloc (Nat.le_refl _) o)

theorem as_S {n : Nat} {rets : List ResultVar} {code : Code} {g c F E pF pE rt : Nat} {gls : List (Nat × Nat)} {U : Ifc} (hU : IfcOK σ W0 gls U) (hP : σ.P = Go.Proofs.Tryz.prog) (hl : looks gls 0 = some c) (hfn : σ.fn g = 13)
    (hF : σ.ty F = 44) (hE : σ.ty E = 24) (hpF : σ.ty pF = 46) (hpE : σ.ty pE = 47) (hrt : σ.ty rt = 121) (hf : Fun σ.P (σ.fn g) n rets code) : FnS σ W0 g (asErrC U c F E pF pE rt) := by
  intro vs κ h wv hx w s
  unfold asErrC at hx
  split at hx
  case h_2 => exact hx.elim
  case h_1 a1 a2 =>
    unfold asErrI at hx
    obtain ⟨ht, hx⟩ := hx
    have hg := tab_cell s hU hl ht
    rw [show (V.iface rt (.agg [.ptr (some ⟨24, 40⟩)])).val σ = .iface 121 (.agg #[.pointer (some ⟨12, 40, none⟩)]) by
      show Value.iface (σ.ty rt) _ = _
      rw [hrt]; rfl] at hg
    refine calls_val hf ?_
    rw [hfn, hP]
    split at hx
    case h_2 => exact hx.elim
    case h_1 t v pt p =>
      split at hx
      case isTrue hc =>
        obtain ⟨rfl, rfl⟩ := hc
        obtain ⟨k, rfl, ⟨u, hu⟩, hk⟩ := hx
        obtain ⟨hc', hf', _⟩ := s.getW hu
        rw [show (V.vals σ [V.iface t (.agg [.int .i64 k]), V.iface pt (.ptr (some p))]).toArray = #[Value.iface 44 (.agg #[.int .i64 k]), Value.iface 46 (.pointer (some p.addr))] by
          show #[Value.iface (σ.ty t) _, Value.iface (σ.ty pt) _] = _
          rw [hF, hpF]; rfl]
        refine (as_hit44 p.addr k _ w hg hc' hf').mono (fun e w' ⟨he, hw⟩ => ?_)
        subst hw
        exact ⟨.bool true, _, he, V.wf_one rfl, Sim.set ((((s.al _).al _).al _).al _) hu rfl, hk⟩
      case isFalse hc0 =>
        split at hx
        case isTrue hc =>
          obtain ⟨rfl, rfl⟩ := hc
          obtain ⟨k, rfl, ⟨u, hu⟩, hk⟩ := hx
          obtain ⟨hc', hf', _⟩ := s.getW hu
          rw [show (V.vals σ [V.iface t (.int .i64 k), V.iface pt (.ptr (some p))]).toArray = #[Value.iface 24 (.int .i64 k), Value.iface 47 (.pointer (some p.addr))] by
            show #[Value.iface (σ.ty t) _, Value.iface (σ.ty pt) _] = _
            rw [hE, hpE]; rfl]
          refine (as_hit24 p.addr k _ w hg hc' hf').mono (fun e w' ⟨he, hw⟩ => ?_)
          subst hw
          exact ⟨.bool true, _, he, V.wf_one rfl, Sim.set ((((s.al _).al _).al _).al _) hu rfl, hk⟩
        case isFalse hc1 =>
          split at hx
          case isTrue hc =>
            obtain ⟨rfl, rfl⟩ := hc
            obtain ⟨⟨k, rfl⟩, hk⟩ := hx
            rw [show (V.vals σ [V.iface t (.int .i64 k), V.iface pt (.ptr (some p))]).toArray = #[Value.iface 24 (.int .i64 k), Value.iface 46 (.pointer (some p.addr))] by
              show #[Value.iface (σ.ty t) _, Value.iface (σ.ty pt) _] = _
              rw [hE, hpF]; rfl]
            refine (as_miss p.addr k w hg).mono (fun e w' ⟨he, hw⟩ => ?_)
            subst hw
            exact ⟨.bool false, _, he, V.wf_one rfl, ((s.al _).al _).al _, hk⟩
          case isFalse hc2 => exact hx.elim
end
end Go.Lift
