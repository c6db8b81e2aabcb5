/- VintcNobody: controllers that no call made tell nothing. -/
import Derived.Test.YtlnigofbpnehlaaVintc
set_option linter.unusedSimpArgs false
set_option linter.unusedVariables false
set_option maxRecDepth 100000
namespace Go.Vintc
open Go.Lift Go.Fn

def Nobody (q : Option Ptr) (h : Heap) : Prop := ∀ p, q = some p → h.get p.b (p.o + 0) = some (.int .i64 0)

variable {q : Option Ptr} {h : Heap}

theorem nb_none (N : Nobody q h) {Q : Bool → Heap → Prop} (hq : Q true h) : vintc_Intc_none q Q h := by
  unfold vintc_Intc_none
  cases q with
  | none => exact hq
  | some p => exact rdI_of (N p rfl) hq

theorem nb_has (N : Nobody q h) {v : Int} {Q : Bool → Heap → Prop} (hq : Q false h) : vintc_Intc_has q v Q h := by
  unfold vintc_Intc_has
  exact nb_none N hq

theorem nb_wrong (N : Nobody q h) {r : Bool} {Q : Int → Heap → Prop} (hq : Q 1 h) : vintc_Intc_wrong q r Q h := by
  unfold vintc_Intc_wrong
  exact nb_none N hq

theorem nb_Claim (N : Nobody q h) {v : Int} {Q : Int → Int → Heap → Prop} (hq : Q 0 1 h) : vintc_Intc_Claim q v Q h := by
  unfold vintc_Intc_Claim
  exact nb_has N (nb_wrong N hq)

theorem nb_Told (N : Nobody q h) {v : Int} {Q : Bool → Int → Heap → Prop} (hq : Q false (-1) h) : vintc_Intc_Told q v Q h := by
  unfold vintc_Intc_Told
  exact nb_none N hq

theorem nb_Raise (N : Nobody q h) {v : Int} {Q : Int → Heap → Prop} (hq : Q 1 h) : vintc_Intc_Raise q v Q h := by
  unfold vintc_Intc_Raise
  rw [isSource_eq]
  exact nb_wrong N hq

theorem nb_Enable (N : Nobody q h) {v a : Int} {on : Bool} {Q : Int → Heap → Prop} (hq : Q 1 h) : vintc_Intc_Enable q v a on Q h := by
  unfold vintc_Intc_Enable
  exact nb_has N (br_f rfl <| nb_wrong N (Q := fun r h => vintc_Intc_Enable.j2 q v a on r Q h) hq)

theorem nb_Weigh (N : Nobody q h) {v a : Int} {Q : Int → Heap → Prop} (hq : Q 1 h) : vintc_Intc_Weigh q v a Q h := by
  unfold vintc_Intc_Weigh
  rw [isSource_eq]
  refine br_if (fun _ => ?_) (fun _ => nb_wrong N hq)
  rw [isLevel_eq]
  exact nb_wrong N hq

theorem nb_Bar (N : Nobody q h) {v a : Int} {Q : Int → Heap → Prop} (hq : Q 1 h) : vintc_Intc_Bar q v a Q h := by
  unfold vintc_Intc_Bar
  exact nb_has N (br_f rfl (nb_wrong N hq))

theorem nb_Line (N : Nobody q h) {v : Int} {Q : Bool → Heap → Prop} (hq : Q false h) : vintc_Intc_Line q v Q h := by
  unfold vintc_Intc_Line
  exact nb_has N hq

theorem nb_Complete (N : Nobody q h) {v a : Int} {Q : Int → Heap → Prop} (hq : Q 1 h) : vintc_Intc_Complete q v a Q h := by
  unfold vintc_Intc_Complete
  exact nb_has N (br_f rfl <| nb_wrong N (Q := fun r h => vintc_Intc_Complete.j2 q v a r Q h) hq)

theorem nb_Poke (N : Nobody q h) {v : Int} {Q : Int → Heap → Prop} (hq : Q 1 h) : vintc_Intc_Poke q v Q h := by
  unfold vintc_Intc_Poke
  exact nb_has N (nb_wrong N hq)

theorem nb_Soft (N : Nobody q h) {v : Int} {Q : Bool → Heap → Prop} (hq : Q false h) : vintc_Intc_Soft q v Q h := by
  unfold vintc_Intc_Soft
  exact nb_has N hq

theorem nobody (a1 a2 a3 a4 : Int) (a5 : Bool) (h : Heap) (Q : Bool → Heap → Prop) (hQ : ∀ h', Q true h') : palisadelaw20_VintcNobody a1 a2 a3 a4 a5 Q h := by
  unfold palisadelaw20_VintcNobody
  refine al_of (fun b1 h1 hb1 ho1 k1 => ⟨rfl, al_of (fun b2 h2 hb2 ho2 k2 => al_of (fun b3 h3 hb3 ho3 k3 => ?_))⟩)
  have g1 := (k2.trans k3).obj ho1 (fun x => x)
  have g2 := k3.obj ho2 (fun x => x)
  have N0 : Nobody none h3 := fun p hp => by cases hp
  have N1 : Nobody (some ⟨b2, 0⟩) h3 := fun p hp => by cases hp; exact (get_cells g2 _).trans rfl
  unfold palisadelaw20_VintcNobody.j2
  intro I H
  have step : ∀ (i : Int) (x : Option Ptr), 0 ≤ i → i < 2 → ([.ptr none, .ptr (some ⟨b2, 0⟩)] : List V)[i.toNat]? = some (.ptr x) → Nobody x h3 → I ⟨b1, 0⟩ ⟨some ⟨b3, 0⟩, 2, 2⟩ 2 (i + 1) h3 → I ⟨b1, 0⟩ ⟨some ⟨b3, 0⟩, 2, 2⟩ 2 i h3 := by
    intro i x h0 h1 hx N hI
    refine H _ _ _ _ _ ?_
    unfold palisadelaw20_VintcNobody.b2
    refine br_if (fun _ => ?_) (fun e => by simp at e; omega)
    refine ix_of h0 (by simpa using h1) ?_
    rw [der_some]
    refine rdP_of (x := x) ?_ ?_
    · refine (get_cells ho3 _).trans ?_
      simpa [Ptr.add] using hx
    refine loc_I g1 rfl (nb_Claim N (loc_I g1 rfl (nb_Told N (loc_I g1 rfl (nb_Raise N (br_f rfl ?_))))))
    refine loc_I g1 rfl (loc_I g1 rfl (loc_B g1 rfl (nb_Enable N (br_f rfl ?_))))
    refine loc_I g1 rfl (loc_I g1 rfl (nb_Weigh N (br_f rfl ?_)))
    refine loc_I g1 rfl (loc_I g1 rfl (nb_Bar N (br_f rfl ?_)))
    refine loc_I g1 rfl (nb_Line N (br_f rfl (br_f rfl (br_f rfl ?_))))
    refine loc_I g1 rfl (loc_I g1 rfl (nb_Complete N (br_f rfl ?_)))
    refine loc_I g1 rfl (nb_Poke N (br_f rfl ?_))
    refine loc_I g1 rfl (nb_Soft N (br_f rfl (br_f rfl (br_f rfl ?_))))
    rw [wrap64]
    exact hI
  refine step 0 none (by omega) (by omega) rfl N0 (step 1 (some ⟨b2, 0⟩) (by omega) (by omega) rfl N1 ?_)
  refine H _ _ _ _ _ ?_
  unfold palisadelaw20_VintcNobody.b2
  exact hQ _

end Go.Vintc
