/- DiskNobody: disks that no call made, and what has no memory, do nothing. -/
import Derived.Test.YtlnigofbpnehlaaDiskD
set_option linter.unusedSimpArgs false
set_option linter.unusedVariables false
set_option maxRecDepth 100000
namespace Go.Disk
open Go.Lift Go.Fn

/-- A disk that no call made. -/
def No (x : Option Ptr) (h : Heap) : Prop := x = none ∨ ∃ b, x = some ⟨b, 0⟩ ∧ h.obj b = some (.cells [.int .i64 0, .map none, .sl ⟨none, 0, 0⟩] false)

section
variable {x : Option Ptr} {h h' : Heap}

theorem No.keep0 (N : No x h) (k : Keeps none_ h h') : No x h' := by
  rcases N with rfl | ⟨b, rfl, ho⟩
  · exact .inl rfl
  · exact .inr ⟨b, rfl, k.obj ho (fun f => f)⟩

theorem no_none (N : No x h) {Q : Bool → Heap → Prop} (hq : Q true h) : disk_Disk_none x Q h := by
  unfold disk_Disk_none
  rcases N with rfl | ⟨b, rfl, ho⟩
  · exact br_t rfl hq
  · exact br_f rfl (loc_M ho rfl hq)

theorem no_wrong (N : No x h) {i : Int} {Q : Int → Heap → Prop} (hq : Q 1 h) : disk_Disk_wrong x i Q h := by
  unfold disk_Disk_wrong
  exact no_none N hq

theorem no_complete {U : Ifc} (N : No x h) {m : Option Ptr} {k : Int} {Q : Int → Bool → Int → Int → Int → Heap → Prop} (hq : ∀ h', Keeps none_ h h' → Q 0 false 0 0 1 h') : disk_Disk_Complete U x m k Q h := by
  unfold disk_Disk_Complete
  refine al_of (fun b h1 hb ho k1 => no_none (N.keep0 k1) ?_)
  refine br_t rfl ?_
  unfold disk_Disk_Complete.j2
  refine ret_of (r := ⟨0, false, 0, 0⟩) rfl ho (fun h2 k2 => hq h2 ?_)
  exact Keeps.widen (k1.mono (S' := (· = b)) (fun _ f => f.elim) |>.trans k2) (fun x hx => .inr (hx ▸ hb))

theorem nomem_complete {U : Ifc} {y : Lay} {d : Dsk} (R : Rep y d h) {m : Option Ptr} (hm : ∀ h', Keeps none_ h h' → ∀ Q : Int → Heap → Prop, Q 0 h' → mem_Memory_Frames m Q h') {k : Int} {Q : Int → Bool → Int → Int → Int → Heap → Prop} (hq : ∀ h', Keeps none_ h h' → Q 0 false 0 0 1 h') : disk_Disk_Complete U (some ⟨y.pb, 0⟩) m k Q h := by
  unfold disk_Disk_Complete
  refine al_of (fun b h1 hb ho k1 => none_of (R.keep0 k1) ?_)
  refine br_f rfl (hm h1 k1 _ (br_t rfl ?_))
  unfold disk_Disk_Complete.j2
  refine ret_of (r := ⟨0, false, 0, 0⟩) rfl ho (fun h2 k2 => hq h2 ?_)
  exact Keeps.widen (k1.mono (S' := (· = b)) (fun _ f => f.elim) |>.trans k2) (fun x hx => .inr (hx ▸ hb))

end

theorem nobody {U : Ifc} (u : DU U) (a1 : Int) (a2 : Int) (a3 : Bool) (a4 : Int) (a5 : Int) (a6 : Int) (a7 : Sl) (h : Heap) (Q : Bool → Heap → Prop) (hQ : ∀ h, Q true h) : palisadelaw12_DiskNobody U a1 a2 a3 a4 a5 a6 a7 Q h := by
  unfold palisadelaw12_DiskNobody
  refine al_of (fun b1 h1 hb1 ho1 k1 => ?_)
  refine Mem.New_of (by omega) (by omega) (fun pm bm h2 M _ _ k2 => ?_)
  refine al_of (fun b4 h3 hb4 ho4 k3 => al_of (fun b5 h4 hb5 ho5 k4 => ?_))
  unfold palisadelaw12_DiskNobody.j3
  intro I H
  have ho1 := k4.obj (k3.obj (k2.obj ho1 (fun f => f)) (fun f => f)) (fun f => f)
  have ho4 := k4.obj ho4 (fun f => f)
  have round : ∀ (i : Nat) (x : Option Ptr) (g : Heap), i < 2 → [V.ptr none, V.ptr (some ⟨b4, 0⟩)][i]? = some (.ptr x) → No x g → Keeps none_ h4 g → (∀ g', Keeps none_ h4 g' → I ⟨b1, 0⟩ (some ⟨pm, 0⟩) ⟨some ⟨b5, 0⟩, 2, 2⟩ 2 ((i + 1 : Nat) : Int) g') → I ⟨b1, 0⟩ (some ⟨pm, 0⟩) ⟨some ⟨b5, 0⟩, 2, 2⟩ 2 (i : Int) g := by
    intro i x g hi hx N kg hnext
    refine H _ _ _ _ _ _ ?_
    unfold palisadelaw12_DiskNobody.b3
    have go1 := kg.obj ho1 (fun f => f)
    refine br_t (by simp; omega) (ix_of (by omega) (by show (i : Int) < ((2 : Nat) : Int); omega) ?_)
    rw [der_some, Int.toNat_natCast]
    refine loc_P (kg.obj ho5 (fun f => f)) (by rw [Nat.mul_one, Nat.zero_add]; exact hx) ?_
    refine no_complete N (fun g1 q1 => ?_)
    refine al_wrL rfl (fun b9 g2 hb9 ho9 q2 => ?_)
    have N2 := (N.keep0 q1).keep0 q2
    have q02 := q1.trans q2
    refine loc_I (q02.obj go1 (fun f => f)) rfl ?_
    unfold disk_Disk_Block
    refine no_wrong N2 (br_t rfl ?_)
    unfold disk_Disk_Blocks
    refine no_none N2 ?_
    refine br_t rfl (br_f rfl ?_)
    have go1 := q02.obj go1 (fun f => f)
    refine loc_I go1 rfl (loc_B go1 rfl (loc_I go1 rfl (loc_I go1 rfl ?_)))
    unfold disk_Disk_Submit
    refine al_of (fun b g3 hb ho q3 => loc_I ho rfl (no_wrong (N2.keep0 q3) (br_t rfl (br_f rfl ?_))))
    unfold disk_Disk_Pending
    have N3 := N2.keep0 q3
    have ho9 := q3.obj ho9 (fun f => f)
    have go1 := q3.obj go1 (fun f => f)
    refine no_none N3 (br_t rfl (br_f rfl ?_))
    refine loc_I ho9 rfl (loc_B ho9 rfl (loc_I ho9 rfl (loc_I ho9 rfl ?_)))
    refine br_f rfl (br_f rfl (br_f rfl (br_f rfl ?_)))
    refine loc_I go1 rfl (loc_Sl go1 rfl ?_)
    unfold disk_Disk_Put
    refine no_wrong N3 (br_t rfl (br_f rfl ?_))
    unfold palisadelaw12_DiskNobody.j9
    rw [wrap64]
    exact hnext g3 (kg.trans (q02.trans q3))
  refine round 0 none h4 (by omega) rfl (.inl rfl) (Keeps.refl _ _) (fun g1 kg1 => ?_)
  refine round 1 (some ⟨b4, 0⟩) g1 (by omega) rfl (.inr ⟨b4, rfl, kg1.obj ho4 (fun f => f)⟩) kg1 (fun g2 kg2 => ?_)
  refine H _ _ _ _ _ _ ?_
  unfold palisadelaw12_DiskNobody.b3
  refine br_f rfl ?_
  refine New_of (by omega) (by omega) (fun y g3 R _ k3 => br_f rfl ?_)
  have ok0 : Dsk.Ok ⟨1, fun _ => zeros, []⟩ := ⟨by decide, by decide, by decide, fun _ => by simp [zeros], List.Pairwise.nil, by intro r hr; cases hr⟩
  refine Submit_of u R ok0 (r := ⟨0, false, 0, 0⟩) (fun y' g4 R4 hp g q4 => br_f rfl ?_)
  have e : Dsk.sub ⟨1, fun _ => zeros, []⟩ ⟨0, false, 0, 0⟩ = ⟨1, fun _ => zeros, [⟨0, false, 0, 0⟩]⟩ := rfl
  rw [e] at R4
  rw [← hp]
  refine nomem_complete R4 (fun g5 _ Q hq => ?_) (fun g5 q5 => ?_)
  · unfold mem_Memory_Frames mem_Memory_none
    exact br_t rfl (br_t rfl hq)
  · have R5 := R4.keep0 q5
    refine al_wrL rfl (fun b g6 hb ho q6 => ?_)
    have R6 := R5.keep0 q6
    refine al_of (fun b' g7 hb' ho' q7 => ?_)
    have R7 := R6.keep0 q7
    refine nomem_complete R7 (fun g8 q8 Q hq => ?_) (fun g8 q8 => ?_)
    · unfold mem_Memory_Frames mem_Memory_none
      exact br_f rfl (loc_Sl (q8.obj ho' (fun f => f)) rfl (br_t rfl hq))
    · have R8 := R7.keep0 q8
      refine al_wrL rfl (fun b2 g9 hb2 ho2 q9 => ?_)
      have R9 := R8.keep0 q9
      unfold palisadelaw12_DiskNobody.j15
      refine br_t rfl (br_t rfl ?_)
      have ok1 : Dsk.Ok ⟨1, fun _ => zeros, [⟨0, false, 0, 0⟩]⟩ := ⟨by decide, by decide, by decide, fun _ => by simp [zeros], by simp, by intro r hr; simp at hr; subst hr; decide⟩
      refine Pending_of R9 ok1 (fun s g10 H10 _ _ _ => ?_)
      have := Held.slen H10
      have e : ((s.len : Nat) : Int) == 1 := by rw [this]; rfl
      rw [e]
      exact hQ _

end Go.Disk
