/- Timers that no call made. -/
import Derived.Test.YtfpmidnmkpaoiaaSeqKit
import Derived.Test.YtfpmidnmkpaoiaaFa
import Derived.Test.YtfpmidnmkpaoiaaNumKit
set_option linter.unusedSimpArgs false
set_option linter.unusedVariables false
set_option maxRecDepth 100000
namespace Go.Vtimer
open Go.Lift Go.Fn

/-- A sort of at most twelve that are in order already: none, or one. -/
theorem insertion_few {s : Sl} {h : Heap} (hl : s.len ≤ 1) {Q : Heap → Prop} (hq : Q h) : slices_insertionSortOrdered_int s 0 (s.len : Int) Q h := by
  unfold slices_insertionSortOrdered_int
  rw [wrap64]
  unfold slices_insertionSortOrdered_int.j1
  intro I H
  refine H _ _ _ _ _ ?_
  unfold slices_insertionSortOrdered_int.b1
  exact br_f (by simp; omega) hq

theorem pdq_few {s : Sl} {h : Heap} (hl : s.len ≤ 1) {n : Int} {Q : Heap → Prop} (hq : Q h) : slices_pdqsortOrdered_int s 0 (s.len : Int) n Q h := by
  unfold slices_pdqsortOrdered_int slices_pdqsortOrdered_int.j2
  intro I H
  refine H _ _ _ _ _ _ _ ?_
  unfold slices_pdqsortOrdered_int.b2
  rw [wrap64]
  exact br_t (by simp; omega) (insertion_few hl hq)

/-- Timers that no call made. -/
def No (x : Option Ptr) (h : Heap) : Prop := x = none ∨ ∃ b, x = some ⟨b, 0⟩ ∧ h.obj b = some (.cells [.map none] false)

section
variable {x : Option Ptr} {h h' : Heap}

theorem No.keep0 (N : No x h) (k : Keeps none_ h h') : No x h' := by
  rcases N with rfl | ⟨b, rfl, ho⟩
  · exact .inl rfl
  · exact .inr ⟨b, rfl, k.obj ho (fun f => f)⟩

theorem no_of (N : No x h) {i : Int} {Q : Option Ptr → Int → Heap → Prop} (hq : Q none 1 h) : vtimer_Timers_of x i Q h := by
  unfold vtimer_Timers_of
  rcases N with rfl | ⟨b, rfl, ho⟩
  · exact br_t rfl hq
  · exact br_f rfl (loc_M ho rfl (br_t rfl hq))

theorem none_range {κ : Nat → Heap → Prop} (hk : ∀ b h', h'.obj b = some (.iter none 0 [] 0) → Keeps none_ h h' → κ b h') : rangeM none κ h :=
  fun b hb => hk b _ Heap.new_obj (Keeps.new hb _)

theorem no_next (N : No x h) {Q : Int → Bool → Heap → Prop} (hq : ∀ h', Keeps none_ h h' → Q 0 false h') : vtimer_Timers_Next x Q h := by
  unfold vtimer_Timers_Next
  rcases N with rfl | ⟨b, rfl, ho⟩
  · exact br_t rfl (hq h (Keeps.refl _ _))
  · refine br_f rfl (loc_M ho rfl (none_range (fun it h1 hi k => ?_)))
    unfold vtimer_Timers_Next.j5
    intro I H
    refine H _ _ _ _ ?_
    unfold vtimer_Timers_Next.b5
    exact ⟨rfl, none, 0, [], 0, hi, hq h1 k⟩

theorem len_few {n : Nat} (hn : n ≤ 1) {Q : Int → Heap → Prop} (hq : ∀ r, Q r h) : math_bits_Len (IntKind.u64.wrap (n : Int)) Q h := by
  have : n = 0 ∨ n = 1 := by omega
  rcases this with rfl | rfl
  · unfold math_bits_Len math_bits_Len64 math_bits_Len64.j4 math_bits_Len64.j7
    exact br_f rfl (br_f rfl (br_f rfl (ix_of (by decide) (by decide) (hq _))))
  · unfold math_bits_Len math_bits_Len64 math_bits_Len64.j4 math_bits_Len64.j7
    exact br_f rfl (br_f rfl (br_f rfl (ix_of (by decide) (by decide) (hq _))))

theorem sort_few {s : Sl} (hl : s.len ≤ 1) {Q : Heap → Prop} (hq : Q h) : slices_Sort_int_int s Q h := by
  unfold slices_Sort_int_int
  exact len_few hl (fun r => pdq_few hl hq)

theorem no_due (N : No x h) {c : Int} {Q : Sl → Heap → Prop} (hq : ∀ h', Keeps none_ h h' → Q ⟨none, 0, 0⟩ h') : vtimer_Timers_Due x c Q h := by
  unfold vtimer_Timers_Due
  rcases N with rfl | ⟨b, rfl, ho⟩
  · exact br_t rfl (hq h (Keeps.refl _ _))
  · refine br_f rfl (loc_M ho rfl (none_range (fun it h1 hi k => ?_)))
    unfold vtimer_Timers_Due.j5
    intro I H
    refine H _ _ _ _ ?_
    unfold vtimer_Timers_Due.b5
    exact ⟨rfl, none, 0, [], 0, hi, sort_few (by decide) (hq h1 k)⟩

end

theorem nobody (a1 a2 a3 : Int) (h : Heap) (Q : Bool → Heap → Prop) (hQ : ∀ h, Q true h) : palisadelaw21_VtimerNobody a1 a2 a3 Q h := by
  unfold palisadelaw21_VtimerNobody
  refine al_of (fun b1 h1 hb1 ho1 k1 => al_of (fun b2 h2 hb2 ho2 k2 => al_of (fun b3 h3 hb3 ho3 k3 => ?_)))
  unfold palisadelaw21_VtimerNobody.j2
  intro I H
  have ho1 := k3.obj (k2.obj ho1 (fun f => f)) (fun f => f)
  have ho2 := k3.obj ho2 (fun f => f)
  have round : ∀ (i : Nat) (x : Option Ptr) (g : Heap), i < 2 → [V.ptr none, V.ptr (some ⟨b2, 0⟩)][i]? = some (.ptr x) → No x g → Keeps none_ h3 g → (∀ g', Keeps none_ h3 g' → I ⟨b1, 0⟩ ⟨some ⟨b3, 0⟩, 2, 2⟩ 2 ((i + 1 : Nat) : Int) g') → I ⟨b1, 0⟩ ⟨some ⟨b3, 0⟩, 2, 2⟩ 2 (i : Int) g := by
    intro i x g hi hx N kg hnext
    refine H _ _ _ _ _ ?_
    unfold palisadelaw21_VtimerNobody.b2
    refine br_t (by simp; omega) (ix_of (by omega) (by show (i : Int) < ((2 : Nat) : Int); omega) ?_)
    rw [der_some, Int.toNat_natCast]
    have go1 := kg.obj ho1 (fun f => f)
    refine loc_P (kg.obj ho3 (fun f => f)) (by rw [Nat.mul_one, Nat.zero_add]; exact hx) ?_
    refine loc_I go1 rfl (loc_I go1 rfl ?_)
    unfold vtimer_Timers_Now
    refine no_of N (br_t rfl ?_)
    refine no_next N (fun g1 q1 => ?_)
    have go1 := q1.obj go1 (fun f => f)
    have N1 := N.keep0 q1
    refine loc_I go1 rfl (loc_I go1 rfl ?_)
    unfold vtimer_Timers_Begin
    refine no_of N1 (br_t rfl (br_f rfl (br_f rfl (br_f rfl (loc_I go1 rfl (loc_I go1 rfl ?_))))))
    unfold vtimer_Timers_Set
    refine no_of N1 (br_f rfl (br_f rfl (loc_I go1 rfl ?_)))
    unfold vtimer_Timers_Stop
    refine no_of N1 (br_f rfl (br_f rfl (loc_I go1 rfl (loc_I go1 rfl ?_))))
    unfold vtimer_Timers_Halt
    refine no_of N1 (br_t rfl (br_f rfl (loc_I go1 rfl (loc_I go1 rfl ?_))))
    unfold vtimer_Timers_Go
    refine no_of N1 (br_t rfl (br_f rfl (br_f rfl (br_f rfl (loc_I go1 rfl ?_)))))
    refine no_due N1 (fun g2 q2 => br_f rfl ?_)
    have go1 := q2.obj go1 (fun f => f)
    have N2 := N1.keep0 q2
    refine loc_I go1 rfl ?_
    unfold vtimer_Timers_End
    refine no_of N2 (br_f rfl (br_f rfl ?_))
    unfold palisadelaw21_VtimerNobody.j8
    rw [wrap64]
    exact hnext g2 ((kg.trans q1).trans q2)
  refine round 0 none h3 (by omega) rfl (.inl rfl) (Keeps.refl _ _) (fun g1 kg1 => ?_)
  refine round 1 (some ⟨b2, 0⟩) g1 (by omega) rfl (.inr ⟨b2, rfl, kg1.obj ho2 (fun f => f)⟩) kg1 (fun g2 kg2 => ?_)
  refine H _ _ _ _ _ ?_
  unfold palisadelaw21_VtimerNobody.b2
  exact br_f rfl (hQ _)

end Go.Vtimer
