/- RingNobody: rings that no call made, and what has no guest, take nothing. -/
import Derived.Test.YtlnigofbpnehlaaMem
set_option linter.unusedSimpArgs false
set_option linter.unusedVariables false
set_option maxRecDepth 100000
namespace Go.Ring
open Go.Lift Go.Fn

/-- A ring that no call made. -/
def No (x : Option Ptr) (h : Heap) : Prop := x = none ∨ ∃ b, x = some ⟨b, 0⟩ ∧ h.obj b = some (.cells [.int .u64 0, .int .u64 0, .int .u64 0, .int .u64 0, .bool false] false)

section
variable {x : Option Ptr} {h h' : Heap} {U : Ifc}

theorem No.keep0 (N : No x h) (k : Keeps none_ h h') : No x h' := by
  rcases N with rfl | ⟨b, rfl, ho⟩
  · exact .inl rfl
  · exact .inr ⟨b, rfl, k.obj ho (fun f => f)⟩

theorem no_usable (N : No x h) {g : V} {Q : Int → Heap → Prop} (hq : Q 1 h) : ring_Ring_usable x g Q h := by
  unfold ring_Ring_usable
  rcases N with rfl | ⟨b, rfl, ho⟩
  · exact br_t rfl hq
  · exact br_f rfl (loc_I ho rfl (br_t rfl hq))

theorem ret2_of {b : Nat} {l : List V} {n : Int} {s : Sl} (hl : l.length = 2) (ho : h.obj b = some (.cells l false)) {K : Int → Sl → Heap → Prop} (hk : ∀ h', Keeps (· = b) h h' → K n s h') :
    wrL [.int .i64 n, .sl s] ⟨b, 0⟩ 0 (fun h => rdI .i64 ((⟨b, 0⟩ : Ptr).add 0) (fun x1 => rdSl ((⟨b, 0⟩ : Ptr).add 1) (fun x2 => K x1 x2 h) h) h) h := by
  refine wrL_of (j := 0) ho (by rw [hl]; simp) (fun h' ho' k => ?_)
  have e : splice l (0 + 0) [.int .i64 n, .sl s] = [.int .i64 n, .sl s] := by
    unfold splice
    rw [List.drop_of_length_le (by rw [hl]; simp)]
    simp
  rw [e] at ho'
  exact loc_I ho' rfl (loc_Sl ho' rfl (hk h' k))

/-- Where the ring or the guest is none, nothing is taken. -/
theorem nil_next {g : V} (hu : ∀ h', Keeps none_ h h' → ∀ Q : Int → Heap → Prop, Q 1 h' → ring_Ring_usable x g Q h') {Q : Int → Sl → Bool → Int → Heap → Prop} (hq : ∀ h', Keeps none_ h h' → Q 0 ⟨none, 0, 0⟩ false 1 h') : ring_Ring_Next U x g Q h := by
  unfold ring_Ring_Next
  refine al_of (fun b h1 hb ho k1 => hu h1 k1 _ (br_t rfl ?_))
  refine ret2_of rfl ho (fun h2 k2 => hq h2 ?_)
  refine ⟨fun y hy _ => ?_, fun y hy => k2.known y (k1.known y hy)⟩
  rw [k2.same y (k1.known y hy) (fun e => hy (e ▸ hb))]
  exact k1.same y hy (fun f => f)

theorem nil_push {g : V} {a b : Int} (hu : ∀ Q : Int → Heap → Prop, Q 1 h → ring_Ring_usable x g Q h) {Q : Int → Heap → Prop} (hq : Q 1 h) : ring_Ring_Push U x g a b Q h := by
  unfold ring_Ring_Push
  exact hu _ (br_t rfl hq)

theorem no_told (N : No x h) {Q : Int → Int → Bool → Heap → Prop} (hq : Q 0 0 false h) : ring_Ring_Told x Q h := by
  unfold ring_Ring_Told
  rcases N with rfl | ⟨b, rfl, ho⟩
  · exact br_t rfl hq
  · exact br_f rfl (loc_I ho rfl (loc_I ho rfl (loc_B ho rfl hq)))

theorem same_nil {Q : Bool → Heap → Prop} (hq : ∀ h', Keeps none_ h h' → Q true h') : palisadelaw23_same 0 ⟨none, 0, 0⟩ 0 ⟨none, 0, 0⟩ Q h := by
  unfold palisadelaw23_same
  refine al_of (fun b1 h1 hb1 ho1 k1 => al_of (fun b2 h2 hb2 ho2 k2 => ?_))
  have ho1 := k2.obj ho1 (fun f => f)
  refine loc_I ho1 rfl (loc_I ho2 rfl (br_f rfl (loc_Sl ho1 rfl (loc_Sl ho2 rfl (br_f rfl ?_)))))
  unfold palisadelaw23_same.j4
  intro I H
  refine H _ _ _ _ ?_
  unfold palisadelaw23_same.b4
  exact loc_Sl ho1 rfl (br_f rfl (hq h2 (k1.trans k2)))

end

theorem nobody {U : Ifc} (a1 a2 a3 a4 a5 : Int) (h : Heap) (Q : Bool → Heap → Prop) (hQ : ∀ h, Q true h) : palisadelaw23_RingNobody U a1 a2 a3 a4 a5 Q h := by
  unfold palisadelaw23_RingNobody
  refine al_of (fun b1 h1 hb1 ho1 k1 => ?_)
  refine Mem.New_of (by omega) (by omega) (fun pm bm h2 M _ _ k2 => ?_)
  refine al_of (fun b4 h3 hb4 ho4 k3 => al_of (fun b5 h4 hb5 ho5 k4 => ?_))
  unfold palisadelaw23_RingNobody.j3
  intro I H
  have ho1 := k4.obj (k3.obj (k2.obj ho1 (fun f => f)) (fun f => f)) (fun f => f)
  have ho4 := k4.obj ho4 (fun f => f)
  have round : ∀ (i : Nat) (x : Option Ptr) (g : Heap), i < 2 → [V.ptr none, V.ptr (some ⟨b4, 0⟩)][i]? = some (.ptr x) → No x g → Keeps none_ h4 g → (∀ g', Keeps none_ h4 g' → I ⟨b1, 0⟩ (some ⟨pm, 0⟩) ⟨some ⟨b5, 0⟩, 2, 2⟩ 2 ((i + 1 : Nat) : Int) g') → I ⟨b1, 0⟩ (some ⟨pm, 0⟩) ⟨some ⟨b5, 0⟩, 2, 2⟩ 2 (i : Int) g := by
    intro i x g hi hx N kg hnext
    refine H _ _ _ _ _ _ ?_
    unfold palisadelaw23_RingNobody.b3
    refine br_t (by simp; omega) (ix_of (by omega) (by show (i : Int) < ((2 : Nat) : Int); omega) ?_)
    rw [der_some, Int.toNat_natCast]
    refine loc_P (kg.obj ho5 (fun f => f)) (by rw [Nat.mul_one, Nat.zero_add]; exact hx) ?_
    refine nil_next (fun h' k Q hq => no_usable (N.keep0 k) hq) (fun g1 q1 => ?_)
    refine al_wrL rfl (fun b8 g2 hb8 ho8 q2 => ?_)
    have N2 := (N.keep0 q1).keep0 q2
    refine no_told N2 ?_
    unfold palisadelaw23_RingNobody.j7
    refine loc_I ho8 rfl (loc_Sl ho8 rfl (same_nil (fun g3 q3 => ?_)))
    have go1 := q3.obj (q2.obj (q1.obj (kg.obj ho1 (fun f => f)) (fun f => f)) (fun f => f)) (fun f => f)
    refine br_f rfl (br_f rfl (br_f rfl (loc_I go1 rfl (loc_I go1 rfl ?_))))
    have N3 := N2.keep0 q3
    refine nil_push (fun Q hq => no_usable N3 hq) (br_f rfl (br_f rfl (br_f rfl (br_f rfl ?_))))
    unfold palisadelaw23_RingNobody.j9
    rw [wrap64]
    exact hnext g3 (((kg.trans q1).trans q2).trans q3)
  refine round 0 none h4 (by omega) rfl (.inl rfl) (Keeps.refl _ _) (fun g1 kg1 => ?_)
  refine round 1 (some ⟨b4, 0⟩) g1 (by omega) rfl (.inr ⟨b4, rfl, kg1.obj ho4 (fun f => f)⟩) kg1 (fun g2 kg2 => ?_)
  refine H _ _ _ _ _ _ ?_
  unfold palisadelaw23_RingNobody.b3
  refine br_f rfl ?_
  unfold ring_New ring_right
  refine br_t rfl (br_t rfl (br_f rfl (nz_of (by decide) (br_f rfl (br_f rfl ?_)))))
  refine al_of (fun b h5 hb ho k5 => br_f rfl ?_)
  have us : ∀ h', Keeps none_ h5 h' → ∀ Q : Int → Heap → Prop, Q 1 h' → ring_Ring_usable (some ⟨b, 0⟩) .nilif Q h' := by
    intro h' k Q hq
    unfold ring_Ring_usable
    refine br_f rfl (loc_I (k.obj ho (fun f => f)) rfl (br_f rfl ?_))
    exact hq
  refine nil_next us (fun h6 k6 => ?_)
  refine al_wrL rfl (fun b18 h7 hb18 ho18 k7 => ?_)
  refine br_t rfl (br_t rfl (nil_push (us h7 (k6.trans k7)) ?_))
  exact hQ _

end Go.Ring
