/- Calls of values and of interface methods: by tables of functions, and of types' methods. -/
import Derived.Test.YtgigbjieppllgaaDoorLiftN
import GoSem.Instr.Method
namespace Go.Lift
open Go.RowKit

abbrev CTab := List (Nat × (List V → (V → Heap → Prop) → Heap → Prop))

def inTab (tab : CTab) (g : Nat) (vs : List V) (κ : V → Heap → Prop) (h : Heap) : Prop :=
  match looks tab g with
  | some C => C vs κ h
  | none => False

def methL : List (String × Nat) → String → Option Nat
  | [], _ => none
  | (n, g) :: l, m => bif n == m then some g else methL l m

def methT : List (Nat × List (String × Nat)) → Nat → String → Option Nat
  | [], _, _ => none
  | (t', l) :: ts, t, m => bif Nat.beq t' t then methL l m else methT ts t m

def mkIfc (glob : Nat → Nat) (tab : CTab) (mt : List (Nat × List (String × Nat))) : Ifc where
  glob := glob
  callV := fun v vs κ h => match v with
    | .fn g caps => chk (caps.all V.wfb) (inTab tab g (vs ++ caps) κ h)
    | _ => False
  inv := fun v m vs κ h => match v with
    | .iface t u => match methT mt t m with
      | some g => chk (V.wfb u) (inTab tab g (u :: vs) κ h)
      | none => False
    | _ => False
  ahead := fun v m => match v with
    | .iface t _ => (methT mt t m).isSome
    | _ => false
  tabs := []

/-- With package variables whose cells are known. -/
def mkIfcT (glob : Nat → Nat) (tab : CTab) (mt : List (Nat × List (String × Nat))) (tabs : List (Nat × List V)) : Ifc := { mkIfc glob tab mt with tabs := tabs }

def methB (P : Program) (t : Nat) (m : String) (f : Nat) : Bool :=
  match P.info? t, P.underlying t with
  | some info, some d => match info.methods.find? (·.name == m) with
    | some r => r.path.isEmpty && (match r.func with
      | some (g, b) => Nat.beq g f && (match d, b with
        | .pointer _, b => b
        | _, b => !b)
      | none => false)
    | none => false
  | _, _ => false

def methsB (P : Program) (fn : Nat → Nat) (t : Nat) : List (String × Nat) → Bool
  | [] => true
  | (m, g) :: l => methB P t m (fn g) && methsB P fn t l

def methTB (σ : Seat) : List (Nat × List (String × Nat)) → Bool
  | [] => true
  | (t, l) :: ts => methsB σ.P σ.fn (σ.ty t) l && methTB σ ts

theorem methsB_ok {P : Program} {fn : Nat → Nat} {t : Nat} : ∀ {l : List (String × Nat)}, methsB P fn t l = true → ∀ {m g}, methL l m = some g → methB P t m (fn g) = true
  | [], _, _, _, h => by cases h
  | (n, g') :: l, hl, m, g, h => by
    simp only [methsB, Bool.and_eq_true] at hl
    simp only [methL] at h
    cases hb : n == m with
    | true =>
      rw [hb] at h
      have := eq_of_beq hb
      subst this
      cases h
      exact hl.1
    | false => rw [hb] at h; exact methsB_ok hl.2 h

theorem methTB_ok {σ : Seat} : ∀ {mt : List (Nat × List (String × Nat))}, methTB σ mt = true → ∀ {t m g}, methT mt t m = some g → methB σ.P (σ.ty t) m (σ.fn g) = true
  | [], _, _, _, _, h => by cases h
  | (t', l) :: ts, hl, t, m, g, h => by
    simp only [methTB, Bool.and_eq_true] at hl
    simp only [methT] at h
    cases hb : Nat.beq t' t with
    | true =>
      rw [hb] at h
      have := Nat.eq_of_beq_eq_true hb
      subst this
      exact methsB_ok hl.1 h
    | false => rw [hb] at h; exact methTB_ok hl.2 h

theorem method_run {P : Program} {t : Nat} {m : String} {f : Nat} (h : methB P t m f = true) (v : Value) (n : Nat) (w : World) : (method (n + 1) t v m).run P w = .ok (f, v) w := by
  unfold methB at h
  split at h
  · rename_i info d hi hd
    split at h
    · rename_i r hr
      simp only [Bool.and_eq_true] at h
      obtain ⟨hp, h⟩ := h
      split at h
      · rename_i g b hf
        simp only [Bool.and_eq_true] at h
        obtain ⟨hg, h⟩ := h
        have := Nat.eq_of_beq_eq_true hg
        subst this
        have hpath : r.path = #[] := by simpa using hp
        have hrec : ∀ nm, (receiverAt t (.val v) b (some nm)).run P w = .ok v w := by
          intro nm
          unfold receiverAt
          simp only [Sem.run_bind, run_under hd, Result.andThen_ok]
          cases d <;> cases b <;> first | rfl | cases h
        simp [method, typeInfo, hi, hr, hpath, follow, hf, hrec]
      · cases h
    · cases h
  · cases h

theorem ahead_run {P : Program} {t : Nat} {m : String} {f : Nat} (h : methB P t m f = true) (v : Value) (n : Nat) (w : World) : (nilAhead (n + 1) t v m).run P w = .ok (some false) w := by
  unfold methB at h
  split at h
  · rename_i info d hi hd
    split at h
    · rename_i r hr
      simp only [Bool.and_eq_true] at h
      obtain ⟨hp, h⟩ := h
      split at h
      · rename_i g b hf
        simp only [Bool.and_eq_true] at h
        obtain ⟨hg, h⟩ := h
        have hpath : r.path = #[] := by simpa using hp
        cases b with
        | true => simp [nilAhead, typeInfo, hi, hr, hpath, followBlind, hf]
        | false => cases d <;> first | (cases h; done) | (simp [nilAhead, typeInfo, hi, hr, hpath, followBlind, hf, run_under hd])
      · cases h
    · cases h
  · cases h

theorem wfb_wf {v : V} (h : V.wfb v = true) : v.wf := by
  cases v <;> first | exact V.wf_one rfl | exact absurd h Bool.false_ne_true | exact List.all_eq_true.1 h

theorem inTab_ok {σ : Seat} {W0 : World} {tab : CTab} (ht : CallsOK σ W0 tab) {g : Nat} {vs : List V} {κ : V → Heap → Prop} {h : Heap} (wv : ∀ v ∈ vs, v.wf) (hx : inTab tab g vs κ h) {w : World} (s : Sim σ W0 h w) :
    CallsVal σ.P (.func (.func (σ.fn g)) #[] #[]) (V.vals σ vs).toArray w (Post σ W0 κ) := by
  unfold inTab at hx
  split at hx
  · rename_i C hC; exact callsOK_looks ht hC vs κ h wv hx w s
  · exact hx.elim

theorem mkIfc_ok {σ : Seat} {W0 : World} {gls : List (Nat × Nat)} {glob : Nat → Nat} {tab : CTab} {mt : List (Nat × List (String × Nat))} (hg : pairsOK2 glob gls = true) (hm : methTB σ mt = true) (ht : CallsOK σ W0 tab) : IfcOK σ W0 gls (mkIfc glob tab mt) := by
  refine ⟨hg, ?_, ?_, ?_, fun _ _ h => (by cases h)⟩
  · intro v vs κ h wv wvs hx w s
    unfold mkIfc at hx
    simp only at hx
    split at hx
    · rename_i g caps
      obtain ⟨hcaps, hk⟩ := chk_true hx
      have wcaps : ∀ v ∈ vs ++ caps, v.wf := by
        intro v hv
        rcases List.mem_append.1 hv with hv | hv
        · exact wvs v hv
        · exact wfb_wf (List.all_eq_true.1 hcaps v hv)
      obtain ⟨ff, as, hr, hcall⟩ := inTab_ok ht wcaps hk s
      refine ⟨ff, as, ?_, hcall⟩
      rw [← hr]
      simp [V.val, Deferred.ofValue, invoke, vals_map]
    · exact hx.elim
  · intro v m ha
    unfold mkIfc at ha
    simp only at ha
    split at ha
    · rename_i t u
      cases hmg : methT mt t m with
      | none => rw [hmg] at ha; cases ha
      | some g =>
        refine ⟨t, u, rfl, fun w => ?_⟩
        have hmr := ahead_run (methTB_ok hm hmg) (V.val σ u) (σ.P.types.size + Made.depth - 1) w
        have he : σ.P.types.size + Made.depth - 1 + 1 = σ.P.types.size + Made.depth := by
          have : 0 < Made.depth := by decide
          omega
        rw [he] at hmr
        exact hmr
    · cases ha
  · intro v m vs κ h wv wvs hx w s
    unfold mkIfc at hx
    simp only at hx
    split at hx
    · rename_i t u
      split at hx
      · rename_i g hmg
        obtain ⟨hu, hk⟩ := chk_true hx
        have wus : ∀ v ∈ u :: vs, v.wf := by
          intro v hv
          rcases List.mem_cons.1 hv with rfl | hv
          · exact wfb_wf hu
          · exact wvs v hv
        obtain ⟨ff, as, hr, hcall⟩ := inTab_ok ht wus hk s
        refine ⟨ff, as, ?_, hcall⟩
        rw [← hr]
        have hmr := method_run (methTB_ok hm hmg) (V.val σ u) (σ.P.types.size + Made.depth - 1) w
        have he : σ.P.types.size + Made.depth - 1 + 1 = σ.P.types.size + Made.depth := by
          have : 0 < Made.depth := by decide
          omega
        rw [he] at hmr
        simp [V.val, V.vals, Deferred.ofValue, invoke, callMethod, hmr]
      · exact hx.elim
    · exact hx.elim

theorem mkIfcT_ok {σ : Seat} {W0 : World} {gls : List (Nat × Nat)} {glob : Nat → Nat} {tab : CTab} {mt : List (Nat × List (String × Nat))} {tabs : List (Nat × List V)} (h : IfcOK σ W0 gls (mkIfc glob tab mt)) (ht : ∀ c l, (c, l) ∈ tabs → ∃ el fz, W0.heap[glob c / 2]? = some (.cells (V.vals σ l).toArray el fz)) : IfcOK σ W0 gls (mkIfcT glob tab mt tabs) := ⟨h.gl, h.callV, h.ahead, h.inv, ht⟩

end Go.Lift
