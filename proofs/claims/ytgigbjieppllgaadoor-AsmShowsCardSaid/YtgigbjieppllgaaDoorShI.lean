/- What the reference shows of a word, whole. -/
import Derived.Test.YtgigbjieppllgaaDoorShH
set_option linter.unusedSimpArgs false
set_option linter.unusedVariables false
set_option maxRecDepth 100000
namespace Go.Insn
open Go.Lift Go.Fn

def textW (w : Int) : List UInt8 := if (decOf w).e ≠ 0 then [46, 119, 111, 114, 100, 32] ++ Lib.itoa w else textOf (decOf w)

theorem ord_len {n : Nat} (hn : n < 64) : (ordOf (n : Int)).length ≤ 3 := by
  have key : ∀ n : Fin 64, (ordOf ((n.val : Nat) : Int)).length ≤ 3 := by decide +kernel
  exact key ⟨n, hn⟩

theorem name_len {n : Nat} (hn : n < 48) : (namesL.getD n []).length ≤ 10 := by
  have key : ∀ n : Fin 48, (namesL.getD n.val []).length ≤ 10 := by decide +kernel
  exact key ⟨n, hn⟩

theorem names_len : namesL.length = 48 := by decide +kernel

section
variable {U : Ifc} {h : Heap}

theorem Names_ref {Q : Sl → Heap → Prop} (hq : ∀ b h', h.obj b = none → h'.obj b = some (.cells (namesL.map V.str) false) → Keeps none_ h h' → Q ⟨some ⟨b, 0⟩, 48, 48⟩ h') : palisaderef03_Names Q h := by
  unfold palisaderef03_Names
  exact al_of (fun b g hb ho k => hq b g hb ho k)

theorem Show_ref (du : DecAt 10 U) {w : Nat} (hw : w < 2 ^ 32) {Q : List UInt8 → Heap → Prop} (hq : ∀ h', Keeps none_ h h' → Q (textW (w : Int)) h') : palisaderef03_Show U (w : Int) Q h := by
  unfold palisaderef03_Show
  refine Decode_ref hw (fun g1 k1 => ?_)
  have S_ := (St.start h none_).keep k1
  have hd := dec_is hw
  unfold textW at hq
  generalize decOf (w : Int) = d at hq hd ⊢
  ((with_reducible apply St.al); assumption; intro b g_ S_)
  refine S_.wrL i0 (Nat.le_refl 5) (fun g2 S2 => ?_)
  have S3 : St h none_ [(b, .cells [.int .i64 d.op, .int .i64 d.rd, .int .i64 d.rs1, .int .i64 d.rs2, .int .i64 d.imm] false)] g2 := S2
  clear S2 S_
  rcases hd with e | D
  · rw [if_pos (by rw [e]; decide)] at hq
    refine br_t (by rw [e]; rfl) ?_
    refine Field_ref (at_ := 0) (n := 32) hw (by decide) (by decide) ?_
    have ef : fld w 0 32 = (w : Int) := by unfold fld; omega
    rw [ef]
    refine Decimal_int du (by decide) (by omega) (by simp; omega) (fun g3 k3 l3 => ?_)
    exact ⟨by simp; omega, hq g3 (S3.keep k3).keeps⟩
  · rw [if_neg (fun hh => hh D.e)] at hq
    refine br_f (by rw [D.e]; rfl) (S3.rI i0 rfl (Names_ref (fun nb g3 hb ho k3 => ?_)))
    have S4 := S3.keep k3
    obtain ⟨n, hn⟩ : ∃ n : Nat, d.op = (n : Int) := ⟨d.op.toNat, by have := D.op; omega⟩
    have hop := D.op
    refine ⟨S4.ck1 i0 rfl, ?_⟩
    have ew : IntKind.i64.wrap (d.op - 1) = ((n - 1 : Nat) : Int) := by rw [wrap64] <;> omega
    rw [ew]
    refine ix_of (by omega) (by show ((n - 1 : Nat) : Int) < 48; omega) ?_
    rw [der_some, Int.toNat_natCast]
    have hnm : g3.get nb (0 + (n - 1) * 1) = some (.str (namesL.getD (n - 1) [])) := by
      rw [get_cells ho, Nat.zero_add, Nat.mul_one, List.getElem?_map, List.getD_eq_getElem?_getD, List.getElem?_eq_getElem (by rw [names_len]; omega)]
      rfl
    refine rdStr_of hnm (S4.rI i0 rfl ?_)
    have hq2 := hq
    unfold textOf at hq2
    rw [hn] at hq2
    have e1 : (((n : Int) - 1).toNat) = n - 1 := by omega
    rw [e1] at hq2
    rw [show (d.op : Int) = (n : Int) from hn]
    refine Order_ref (by omega) ?_
    unfold palisaderef03_Show.j7
    intro I HI
    have ol := ord_len (n := n) (by omega)
    have nl := name_len (n := n - 1) (by omega)
    exact loop_ref du D (by omega) HI (ordOf (n : Int)).length 0 (by omega) _ _ (by omega) S4 (fun h' k' => hq2 h' k')

end
end Go.Insn
