/- MachineNobody: machines that no call made do nothing. -/
import Derived.Test.YtfpmidnmkpaoiaaGreatSeqKit
import Derived.Test.YtfpmidnmkpaoiaaGreatFa
import Derived.Test.YtfpmidnmkpaoiaaGreatNumKit
set_option linter.unusedSimpArgs false
set_option linter.unusedVariables false
set_option maxRecDepth 100000
namespace Go.Machine
open Go.Lift Go.Fn

theorem fresh {h h1 h2 : Heap} {b : Nat} (hb : h.obj b = none) (k1 : Keeps none_ h h1) (k2 : Keeps (· = b) h1 h2) : Keeps none_ h h2 := by
  refine ⟨fun y hy _ => ?_, fun y hy => k2.known y (k1.known y hy)⟩
  rw [k2.same y (k1.known y hy) (fun e => hy (e ▸ hb))]
  exact k1.same y hy (fun f => f)

theorem fill {z vs : List V} {b : Nat} {κ : Heap → Prop} {h : Heap} (ho : h.obj b = some (.cells z false)) (hl : z.length = vs.length) (hk : ∀ h', h'.obj b = some (.cells vs false) → Keeps (· = b) h h' → κ h') : wrL vs ⟨b, 0⟩ 0 κ h := by
  refine wrL_of (j := 0) ho (by omega) (fun h' ho' k => hk h' ?_ k)
  rw [ho']
  unfold splice
  rw [List.drop_of_length_le (by omega)]
  simp

theorem row {vs : List V} {n b : Nat} {κ : List V → Prop} {h : Heap} (ho : h.obj b = some (.cells vs false)) (hl : vs.length = n) (hk : κ vs) : rdN n ⟨b, 0⟩ κ h :=
  rdN_held hl (fun i v hv => by rw [get_cells ho, Nat.zero_add]; exact hv) hk

/-- A machine that no call made. -/
def No (x : Option Ptr) (h : Heap) : Prop := x = none ∨ ∃ b, x = some ⟨b, 0⟩ ∧ h.obj b = some (.cells [.ptr none, .sl ⟨none, 0, 0⟩] false)

abbrev z21 : List V := z_palisade_machine_Context

section
variable {x : Option Ptr} {h h' : Heap}

theorem No.keep0 (N : No x h) (k : Keeps none_ h h') : No x h' := by
  rcases N with rfl | ⟨b, rfl, ho⟩
  · exact .inl rfl
  · exact .inr ⟨b, rfl, k.obj ho (fun f => f)⟩

theorem no_cores (N : No x h) {Q : Int → Heap → Prop} (hq : Q 0 h) : machine_Machine_Cores x Q h := by
  unfold machine_Machine_Cores
  rcases N with rfl | ⟨b, rfl, ho⟩
  · exact br_t rfl hq
  · exact br_f rfl (loc_Sl ho rfl hq)

theorem no_memory (N : No x h) {Q : Option Ptr → Heap → Prop} (hq : Q none h) : machine_Machine_Memory x Q h := by
  unfold machine_Machine_Memory
  rcases N with rfl | ⟨b, rfl, ho⟩
  · exact br_t rfl hq
  · exact br_f rfl (loc_P ho rfl hq)

theorem no_of {n : Int} (N : No x h) {Q : Option Ptr → Int → Heap → Prop} (hq : Q none 1 h) : machine_Machine_of x n Q h := by
  unfold machine_Machine_of
  exact no_cores N (br_t rfl hq)

theorem no_get {n : Int} (N : No x h) {Q : List V → Bool → Heap → Prop} (hq : ∀ h', Keeps none_ h h' → Q z21 false h') : machine_Machine_Get x n Q h := by
  unfold machine_Machine_Get
  refine al_of (fun b h1 hb ho k1 => no_of (N.keep0 k1) ?_)
  unfold machine_Machine_Get.j2
  refine br_t rfl ?_
  unfold machine_Machine_Get.j3
  exact ⟨rfl, fill ho rfl (fun h2 ho2 k2 => row ho2 rfl (hq h2 (fresh hb k1 k2)))⟩

theorem no_take {n : Int} (N : No x h) {Q : List V → Int → Heap → Prop} (hq : ∀ h', Keeps none_ h h' → Q z21 1 h') : machine_Machine_Take x n Q h := by
  unfold machine_Machine_Take
  refine al_of (fun b h1 hb ho k1 => no_of (N.keep0 k1) ?_)
  unfold machine_Machine_Take.j2
  refine br_t rfl ?_
  exact ⟨rfl, fill ho rfl (fun h2 ho2 k2 => row ho2 rfl (hq h2 (fresh hb k1 k2)))⟩

theorem no_step {n : Int} (N : No x h) {Q : Int → Int → Int → Int → Bool → Bool → Int → Heap → Prop} (hq : ∀ h', Keeps none_ h h' → Q 0 0 0 0 false false 1 h') : machine_Machine_Step x n Q h := by
  unfold machine_Machine_Step
  refine al_of (fun b h1 hb ho k1 => no_of (N.keep0 k1) ?_)
  unfold machine_Machine_Step.j2
  refine br_t rfl ?_
  refine fill ho rfl (fun h2 ho2 k2 => ?_)
  exact loc_I ho2 rfl (loc_I ho2 rfl (loc_I ho2 rfl (loc_I ho2 rfl (loc_B ho2 rfl (loc_B ho2 rfl (hq h2 (fresh hb k1 k2)))))))

theorem no_flush {n m : Int} (N : No x h) {Q : Int → Int → Heap → Prop} (hq : Q 0 1 h) : machine_Machine_Flush x n m Q h := by
  unfold machine_Machine_Flush
  refine no_of N ?_
  unfold machine_Machine_Flush.j2
  exact br_t rfl hq

theorem no_put {n : Int} {c : List V} (hc : c.length = 21) (N : No x h) {Q : Int → Heap → Prop} (hq : ∀ h', Keeps none_ h h' → Q 1 h') : machine_Machine_Put x n c Q h := by
  unfold machine_Machine_Put
  refine ⟨hc, al_of (fun b h1 hb ho k1 => no_of (N.keep0 k1) ?_)⟩
  unfold machine_Machine_Put.j2
  exact br_t rfl (hq h1 k1)

theorem no_kept {n m : Int} (N : No x h) {Q : Sl → Heap → Prop} (hq : Q ⟨none, 0, 0⟩ h) : machine_Machine_Kept x n m Q h := by
  unfold machine_Machine_Kept
  refine no_of N ?_
  unfold machine_Machine_Kept.j2
  exact br_t rfl hq

theorem file_new {Q : Option Ptr → Heap → Prop} (hq : ∀ b h', Keeps none_ h h' → Q (some ⟨b, 0⟩) h') : csr_New 0 Q h := by
  unfold csr_New
  refine al_of (fun b h1 hb ho k1 => ix_of (by decide) (by decide) ?_)
  refine loc_wr ho rfl (fun h2 ho2 k2 => ?_)
  unfold csr_New.j3
  exact hq b h2 (fresh hb k1 k2)

end

theorem nobody (a1 a2 a3 a4 a5 : Int) (h : Heap) (Q : Bool → Heap → Prop) (hQ : ∀ h, Q true h) : palisadelaw11_MachineNobody a1 a2 a3 a4 a5 Q h := by
  unfold palisadelaw11_MachineNobody
  refine al_of (fun b1 h1 hb1 ho1 k1 => al_of (fun b2 h2 hb2 ho2 k2 => al_of (fun b3 h3 hb3 ho3 k3 => ?_)))
  unfold palisadelaw11_MachineNobody.j2
  intro I H
  have ho1 := k3.obj (k2.obj ho1 (fun f => f)) (fun f => f)
  have ho2 := k3.obj ho2 (fun f => f)
  have round : ∀ (i : Nat) (x : Option Ptr) (g : Heap), i < 2 → [V.ptr none, V.ptr (some ⟨b2, 0⟩)][i]? = some (.ptr x) → No x g → Keeps none_ h3 g → (∀ g', Keeps none_ h3 g' → I ⟨b1, 0⟩ ⟨some ⟨b3, 0⟩, 2, 2⟩ 2 ((i + 1 : Nat) : Int) g') → I ⟨b1, 0⟩ ⟨some ⟨b3, 0⟩, 2, 2⟩ 2 (i : Int) g := by
    intro i x g hi hx N kg hnext
    refine H _ _ _ _ _ ?_
    unfold palisadelaw11_MachineNobody.b2
    refine br_t (by simp; omega) (ix_of (by omega) (by show (i : Int) < ((2 : Nat) : Int); omega) ?_)
    rw [der_some, Int.toNat_natCast]
    have go1 := kg.obj ho1 (fun f => f)
    refine loc_P (kg.obj ho3 (fun f => f)) (by rw [Nat.mul_one, Nat.zero_add]; exact hx) ?_
    refine loc_I go1 rfl (no_get N (fun g1 q1 => ?_))
    refine al_of (fun b7 g2 hb7 ho7 q2 => ⟨rfl, fill ho7 rfl (fun g3 ho7 q3 => ?_)⟩)
    have q3 := q1.trans (fresh hb7 q2 q3)
    have go1 := q3.obj go1 (fun f => f)
    have N := N.keep0 q3
    have kg := kg.trans q3
    unfold palisadelaw11_MachineNobody.j5
    refine loc_I go1 rfl (no_take N (fun g4 q4 => ?_))
    refine al_of (fun b8 g5 hb8 ho8 q5 => ⟨rfl, fill ho8 rfl (fun g6 ho8 q6 => ?_)⟩)
    have q6 := q4.trans (fresh hb8 q5 q6)
    have go1 := q6.obj go1 (fun f => f)
    have ho7 := q6.obj ho7 (fun f => f)
    have N := N.keep0 q6
    have kg := kg.trans q6
    unfold palisadelaw11_MachineNobody.j6
    refine loc_I go1 rfl (no_step N (fun g7 q7 => ?_))
    refine al_of (fun b9 g8 hb9 ho9 q8 => fill ho9 rfl (fun g9 ho9 q9 => ?_))
    have q9 := q7.trans (fresh hb9 q8 q9)
    have go1 := q9.obj go1 (fun f => f)
    have ho7 := q9.obj ho7 (fun f => f)
    have ho8 := q9.obj ho8 (fun f => f)
    have N := N.keep0 q9
    have kg := kg.trans q9
    unfold palisadelaw11_MachineNobody.j7
    refine loc_I go1 rfl (loc_I go1 rfl (no_flush N ?_))
    unfold palisadelaw11_MachineNobody.j8
    refine no_cores N (br_f rfl (no_memory N (br_f rfl (loc_I go1 rfl (file_new (fun bf g10 q10 => ?_))))))
    have go1 := q10.obj go1 (fun f => f)
    have ho7 := q10.obj ho7 (fun f => f)
    have ho8 := q10.obj ho8 (fun f => f)
    have ho9 := q10.obj ho9 (fun f => f)
    have N := N.keep0 q10
    have kg := kg.trans q10
    have c1 : ck ((⟨b1, 0⟩ : Ptr).add 1) [.int .i64 a2] 0 g10 := ⟨(get_cells go1 _).trans rfl, trivial⟩
    refine ⟨c1, c1, no_put rfl N (fun g11 q11 => br_f rfl ?_)⟩
    have go1 := q11.obj go1 (fun f => f)
    have ho7 := q11.obj ho7 (fun f => f)
    have ho8 := q11.obj ho8 (fun f => f)
    have ho9 := q11.obj ho9 (fun f => f)
    have N := N.keep0 q11
    have kg := kg.trans q11
    refine loc_P ho7 rfl (br_f rfl (br_f rfl (loc_P ho8 rfl (br_f rfl (br_f rfl ?_)))))
    refine loc_I ho9 rfl (loc_I ho9 rfl (loc_I ho9 rfl (loc_I ho9 rfl (loc_B ho9 rfl (loc_B ho9 rfl ?_)))))
    refine ⟨⟨(get_cells ho9 _).trans rfl, (get_cells ho9 _).trans rfl, (get_cells ho9 _).trans rfl, (get_cells ho9 _).trans rfl, (get_cells ho9 _).trans rfl, (get_cells ho9 _).trans rfl, trivial⟩, ?_⟩
    refine br_f rfl (br_f rfl (br_f rfl (br_f rfl (loc_I go1 rfl (loc_I go1 rfl (no_kept N (br_f rfl ?_)))))))
    unfold palisadelaw11_MachineNobody.j10
    rw [wrap64]
    exact hnext g11 kg
  refine round 0 none h3 (by omega) rfl (.inl rfl) (Keeps.refl _ _) (fun g1 kg1 => ?_)
  refine round 1 (some ⟨b2, 0⟩) g1 (by omega) rfl (.inr ⟨b2, rfl, kg1.obj ho2 (fun f => f)⟩) kg1 (fun g2 kg2 => ?_)
  refine H _ _ _ _ _ ?_
  unfold palisadelaw11_MachineNobody.b2
  exact br_f rfl (hQ _)

end Go.Machine
