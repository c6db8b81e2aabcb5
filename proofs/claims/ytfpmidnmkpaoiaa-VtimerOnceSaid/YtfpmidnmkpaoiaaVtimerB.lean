/- Timers of one virtual processor. -/
import Derived.Test.YtfpmidnmkpaoiaaVtimerA
set_option linter.unusedSimpArgs false
set_option linter.unusedVariables false
set_option maxRecDepth 100000
namespace Go.Vtimer
open Go.Lift Go.Fn

def top : Int := 4611686018427387904

structure Tm where
  base : Int
  halted : Bool
  still : Int
  set : Bool
  at_ : Int

def Tm.cells (x : Tm) : List V := [.int .u64 x.base, .bool x.halted, .int .u64 x.still, .bool x.set, .int .u64 x.at_]

/-- Timers with one, of number 4. -/
structure St (tb m xb : Nat) (x : Tm) (h : Heap) : Prop where
  t : h.obj tb = some (.cells [.map (some m)] false)
  m : MapAt h m .i64 [(4, .ptr (some ⟨xb, 0⟩))]
  x : h.obj xb = some (.cells x.cells false)
  ne : tb ≠ xb

def Tm.now (x : Tm) (c : Int) : Int := if x.halted then x.still else IntKind.u64.wrap (maxI (minI c top) x.base - x.base)

section
variable {tb m xb : Nat} {x : Tm} {h h' : Heap}

theorem asP_ptr {p : Option Ptr} {κ : Option Ptr → Prop} : asP (.ptr p) κ = κ p := rfl
theorem one_keys : IKeys [((4 : Int), V.ptr (some ⟨xb, 0⟩))] := by simp [IKeys]

theorem St.keeps {S : Nat → Prop} (s : St tb m xb x h) (k : Keeps S h h') (h1 : ¬ S tb) (h2 : ¬ S m) (h3 : ¬ S xb) : St tb m xb x h' := ⟨k.obj s.t h1, s.m.keeps k h2, k.obj s.x h3, s.ne⟩
theorem St.keep0 (s : St tb m xb x h) (k : Keeps none_ h h') : St tb m xb x h' := s.keeps k (fun f => f) (fun f => f) (fun f => f)

theorem St.set (s : St tb m xb x h) {x' : Tm} (k : Keeps (· = xb) h h') (hx : h'.obj xb = some (.cells x'.cells false)) : St tb m xb x' h' :=
  ⟨k.obj s.t s.ne, s.m.keeps k (s.m.cells s.x), hx, s.ne⟩

theorem of_of (s : St tb m xb x h) {Q : Option Ptr → Int → Heap → Prop} (hq : Q (some ⟨xb, 0⟩) 0 h) : vtimer_Timers_of (some ⟨tb, 0⟩) 4 Q h := by
  unfold vtimer_Timers_of
  refine br_f rfl ?_
  rw [der_some]
  refine loc_M s.t rfl (br_f rfl ?_)
  rw [der_some]
  refine loc_M s.t rfl (mapGet_of s.m ?_)
  exact hq

theorem now_of (s : St tb m xb x h) {c : Int} {Q : Int → Heap → Prop} (hq : Q (x.now c) h) : vtimer_timer_now (some ⟨xb, 0⟩) c Q h := by
  unfold vtimer_timer_now
  rw [der_some]
  unfold Tm.now at hq
  refine loc_B s.x rfl (br_if (fun hh => ?_) (fun hh => ?_))
  · rw [hh] at hq
    rw [der_some]
    exact loc_I s.x rfl hq
  · rw [hh] at hq
    rw [der_some]
    refine loc_I s.x rfl ?_
    rw [der_some]
    refine loc_I s.x rfl ⟨⟨(get_cells s.x _).trans rfl, trivial⟩, ⟨(get_cells s.x _).trans rfl, trivial⟩, ⟨(get_cells s.x _).trans rfl, trivial⟩, hq⟩

theorem Now_of (s : St tb m xb x h) {c : Int} {Q : Int → Bool → Heap → Prop} (hq : Q (x.now c) true h) : vtimer_Timers_Now (some ⟨tb, 0⟩) 4 c Q h := by
  unfold vtimer_Timers_Now
  exact of_of s (br_f rfl (now_of s hq))

theorem Set_of (s : St tb m xb x h) {a : Int} {Q : Int → Heap → Prop} (hq : ∀ h', St tb m xb { x with set := true, at_ := minI a top } h' → Keeps (· = xb) h h' → Q 0 h') : vtimer_Timers_Set (some ⟨tb, 0⟩) 4 a Q h := by
  unfold vtimer_Timers_Set
  refine of_of s (br_t rfl ?_)
  rw [der_some]
  refine loc_wr s.x rfl (fun h1 ho1 k1 => ?_)
  rw [der_some]
  refine loc_wr ho1 rfl (fun h2 ho2 k2 => hq h2 (s.set (k1.trans k2) ho2) (k1.trans k2))

theorem Halt_of (s : St tb m xb x h) (hh : x.halted = false) {c : Int} {Q : Int → Heap → Prop} (hq : ∀ h', St tb m xb { x with halted := true, still := x.now c } h' → Keeps (· = xb) h h' → Q 0 h') : vtimer_Timers_Halt (some ⟨tb, 0⟩) 4 c Q h := by
  unfold vtimer_Timers_Halt
  refine of_of s (br_f rfl ?_)
  rw [der_some]
  refine loc_B s.x rfl (br_f hh (now_of s ?_))
  rw [der_some]
  refine loc_wr s.x rfl (fun h1 ho1 k1 => ?_)
  rw [der_some]
  refine loc_wr ho1 rfl (fun h2 ho2 k2 => ?_)
  unfold vtimer_Timers_Halt.j7
  exact hq h2 (s.set (k1.trans k2) ho2) (k1.trans k2)

theorem Go_of (s : St tb m xb x h) (hh : x.halted = true) {c : Int} {Q : Int → Heap → Prop} (hq : ∀ h', St tb m xb { x with halted := false, base := IntKind.u64.wrap (maxI (minI c top) x.still - x.still) } h' → Keeps (· = xb) h h' → Q 0 h') : vtimer_Timers_Go (some ⟨tb, 0⟩) 4 c Q h := by
  unfold vtimer_Timers_Go
  refine of_of s (br_f rfl ?_)
  rw [der_some]
  refine loc_B s.x rfl (br_f (by rw [hh]; rfl) ?_)
  rw [der_some]
  refine loc_I s.x rfl ?_
  rw [der_some]
  refine loc_I s.x rfl ⟨⟨(get_cells s.x _).trans rfl, trivial⟩, ⟨(get_cells s.x _).trans rfl, trivial⟩, ⟨(get_cells s.x _).trans rfl, trivial⟩, ?_⟩
  rw [der_some]
  refine loc_wr s.x rfl (fun h1 ho1 k1 => ?_)
  rw [der_some]
  refine loc_wr ho1 rfl (fun h2 ho2 k2 => ?_)
  unfold vtimer_Timers_Go.j7
  exact hq h2 (s.set (k1.trans k2) ho2) (k1.trans k2)

/-- Is it due? -/
def Tm.due (x : Tm) (c : Int) : Bool := x.set && !x.halted && decide (x.now c ≥ x.at_)

theorem Due_of (s : St tb m xb x h) {c : Int} {Q : Sl → Heap → Prop}
    (h0 : x.due c = false → ∀ h', St tb m xb x h' → Keeps none_ h h' → Q ⟨none, 0, 0⟩ h')
    (h1 : x.due c = true → ∀ sl h', sl.len = 1 → Held h' sl 1 [.int .i64 4] → (∀ p, sl.p = some p → h.obj p.b = none) → St tb m xb { x with set := false } h' → Keeps (· = xb) h h' → Q sl h') : vtimer_Timers_Due (some ⟨tb, 0⟩) c Q h := by
  unfold vtimer_Timers_Due
  refine br_f rfl ?_
  rw [der_some]
  refine loc_M s.t rfl (range_of s.m (fun it g1 hit I1 k1 => ?_))
  have hith : h.obj it = none := hit
  have nit : tb ≠ it := Heap.ne_of s.t hit
  have nix : xb ≠ it := Heap.ne_of s.x hit
  have nim : it ≠ m := s.m.ne hit
  unfold vtimer_Timers_Due.j5
  intro I H
  refine H _ _ _ _ ?_
  unfold vtimer_Timers_Due.b5
  refine ⟨rfl, next_of one_keys I1 (fun hall => ?_) (fun a v hav hnd g2 I2 k2 => ?_)⟩
  · have := hall 4 _ (List.mem_singleton.2 rfl); cases this
  · obtain ⟨rfl, rfl⟩ : a = 4 ∧ v = .ptr (some ⟨xb, 0⟩) := by
      have := List.mem_singleton.1 hav; cases this; exact ⟨rfl, rfl⟩
    have hwide : ∀ (S : Nat → Prop) g, Keeps S g2 g → Keeps (fun z => S z ∨ z = it) h g := fun S g k =>
      ((k1.mono (fun _ f => f.elim)).trans (k2.mono (fun z e => .inr e))).trans (k.mono (fun z e => .inl e))
    have s2 : St tb m xb x g2 := (s.keep0 k1).keeps k2 nit nim.symm nix
    refine ⟨rfl, entry_of one_keys I2 hav ?_⟩
    have asI4 : ∀ κ : Int → Prop, κ 4 → asI .i64 (.int .i64 4) κ := fun κ hk => by simp [asI, chk]; exact hk
    refine asI4 _ ?_
    rw [asP_ptr, der_some]
    -- the way on, with what was found
    have done : ∀ (sl : Sl) (g : Heap), sl.len ≤ 1 → IterAt g it m .i64 [(4, .ptr (some ⟨xb, 0⟩))] ([] ++ [4]) → Q sl g → I c sl ⟨it, 0⟩ g := by
      intro sl g hl Ig hq
      refine H _ _ _ _ ?_
      unfold vtimer_Timers_Due.b5
      refine ⟨rfl, next_of one_keys Ig (fun _ => sort_few hl hq) (fun a v hav hnd => ?_)⟩
      have := List.mem_singleton.1 hav; cases this
      exact absurd (by simp) hnd
    have no : x.due c = false → I c ⟨none, 0, 0⟩ ⟨it, 0⟩ g2 := by
      intro hd
      refine done _ g2 (by decide) I2 (h0 hd g2 s2 ?_)
      have := hwide none_ g2 (Keeps.refl _ _)
      exact ⟨fun z hz _ => this.same z hz (fun e => e.elim (fun f => f) (fun e => hz (e ▸ hit))), this.known⟩
    refine loc_B s2.x rfl (br_if (fun hs => ?_) (fun hs => no (by unfold Tm.due; rw [hs]; rfl)))
    rw [der_some]
    refine loc_B s2.x rfl (br_if (fun hh => ?_) (fun hh => no (by unfold Tm.due; rw [hs, hh]; rfl)))
    rw [der_some]
    refine loc_I s2.x rfl (now_of s2 ⟨⟨(get_cells s2.x _).trans rfl, trivial⟩, ?_⟩)
    refine br_if (fun hd => ?_) (fun hd => no (by unfold Tm.due; rw [hs, hh, hd]; rfl))
    have hdue : x.due c = true := by unfold Tm.due; rw [hs, hh, hd]; rfl
    unfold vtimer_Timers_Due.j8
    rw [der_some]
    refine loc_wr s2.x rfl (fun g3 ho3 k3 => ?_)
    have s3 : St tb m xb { x with set := false } g3 := s2.set k3 ho3
    refine al_of (fun b2 g4 hb2 ho4 k4 => ?_)
    have s4 := s3.keep0 k4
    have I4 := (I2.keeps k3 (fun e => nix e.symm) (s.m.cells s.x)).keeps k4 (fun f => f) (fun f => f)
    refine rdN_held (vs := [.int .i64 4]) rfl (fun j v hv => by rw [get_cells ho4, Nat.zero_add]; exact hv) ?_
    refine appS_nil (sz := 1) (bytes := 8) (m := 1) rfl (by omega) rfl (by omega) (by omega) (fun sl g5 b5 O hl hb5 k5 => ?_)
    have k35 : Keeps (· = xb) g2 g5 := (k3.trans (k4.mono (fun _ f => f.elim))).trans (k5.mono (fun _ f => f.elim))
    have kall := hwide _ g5 k35
    have kx : Keeps (· = xb) h g5 := ⟨fun z hz hne => kall.same z hz (fun e => e.elim hne (fun e => hz (e ▸ hit))), kall.known⟩
    refine done sl g5 (by omega) (I4.keeps k5 (fun f => f) (fun f => f)) (h1 hdue sl g5 hl O.held (fun p hp => ?_) (s4.keep0 k5) kx)
    rw [O.p] at hp; cases hp
    have kh4 : Keeps (fun z => z = xb ∨ z = it) h g4 := hwide _ g4 (k3.trans (k4.mono (fun _ f => f.elim)))
    cases hx : h.obj b5 with
    | none => rfl
    | some z => exact absurd hb5 (kh4.known b5 (by rw [hx]; simp))

theorem Next_of (s : St tb m xb x h) {Q : Int → Bool → Heap → Prop}
    (h0 : x.set = false → ∀ h', St tb m xb x h' → Keeps none_ h h' → Q 0 false h')
    (h1 : x.set = true → x.halted = false → ∀ h', St tb m xb x h' → Keeps none_ h h' → Q (minI (IntKind.u64.wrap (x.base + x.at_)) top) true h')
    (hhalt : x.halted = false) : vtimer_Timers_Next (some ⟨tb, 0⟩) Q h := by
  unfold vtimer_Timers_Next
  refine br_f rfl ?_
  rw [der_some]
  refine loc_M s.t rfl (range_of s.m (fun it g1 hit I1 k1 => ?_))
  have nit : tb ≠ it := Heap.ne_of s.t hit
  have nix : xb ≠ it := Heap.ne_of s.x hit
  have nim : it ≠ m := s.m.ne hit
  unfold vtimer_Timers_Next.j5
  intro I H
  refine H _ _ _ _ ?_
  unfold vtimer_Timers_Next.b5
  refine ⟨rfl, next_of one_keys I1 (fun hall => ?_) (fun a v hav hnd g2 I2 k2 => ?_)⟩
  · have := hall 4 _ (List.mem_singleton.2 rfl); cases this
  · obtain ⟨rfl, rfl⟩ : a = 4 ∧ v = .ptr (some ⟨xb, 0⟩) := by
      have := List.mem_singleton.1 hav; cases this; exact ⟨rfl, rfl⟩
    have s2 : St tb m xb x g2 := (s.keep0 k1).keeps k2 nit nim.symm nix
    have k02 : Keeps none_ h g2 := Keeps.widen' k1 k2 hit
    refine ⟨rfl, entry_of one_keys I2 hav ?_⟩
    have asI4 : ∀ κ : Int → Prop, κ 4 → asI .i64 (.int .i64 4) κ := fun κ hk => by simp [asI, chk]; exact hk
    refine asI4 _ ?_
    rw [asP_ptr, der_some]
    have done : ∀ (n : Int) (b : Bool), Q n b g2 → I n b ⟨it, 0⟩ g2 := by
      intro n b hq
      refine H _ _ _ _ ?_
      unfold vtimer_Timers_Next.b5
      refine ⟨rfl, next_of one_keys I2 (fun _ => hq) (fun a v hav hnd => ?_)⟩
      have := List.mem_singleton.1 hav; cases this
      exact absurd (by simp) hnd
    refine loc_I s2.x rfl ?_
    rw [der_some]
    refine loc_I s2.x rfl ?_
    rw [der_some]
    refine loc_B s2.x rfl (br_if (fun hs => ?_) (fun hs => done _ _ (h0 hs g2 s2 k02)))
    rw [der_some]
    refine loc_B s2.x rfl (br_t (by rw [hhalt]; rfl) (br_t rfl ?_))
    unfold vtimer_Timers_Next.j9
    exact done _ _ (h1 hs hhalt g2 s2 k02)

end
end Go.Vtimer
