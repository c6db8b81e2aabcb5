/- A hart's world from any state: it is always made. -/
import Derived.Test.YthapldoonognpaaGreatDoorHartP
set_option linter.unusedSimpArgs false
set_option linter.unusedVariables false
set_option maxRecDepth 100000
namespace Go.Hart
open Go.Lift Go.Fn Go.Mem

section
variable {U : Ifc} {x : Nat → Int} {h : Heap}

theorem csr_any {gb fb pr br pm bm b1 : Nat} {gl fl : List V} {cs : List V} {se : Int} (hcs : ∀ i, i < 12 → ∃ v, cs[18 + i]? = some (.int .u64 v)) (hse : cs[33]? = some (.int .i64 se)) (hgl : gl.length = 12) (hfl : fl.length = 12)
    {rs bs : List UInt8} {mk2 mk : Bool} {g : Heap} (S : St h none_ (world gb fb pr br pm bm b1 (.cells gl false) (.cells (.bool true :: fl) false) rs bs mk2 mk cs) g)
    {Q : Option Ptr → Option Ptr → Option Ptr → Option Ptr → Bool → Heap → Prop}
    (hq : ∀ bb pb g', Keeps none_ h g' → Q (some ⟨fb, 0⟩) (some ⟨gb, 0⟩) (some ⟨bb, 0⟩) pb true g') :
    palisadelaw09_both.j25 U ⟨b1, 0⟩ (some ⟨pm, 0⟩) (some ⟨pr, 0⟩) (some ⟨fb, 0⟩) (some ⟨gb, 0⟩) 0 Q g := by
  unfold palisadelaw09_both.j25
  intro I HI
  have key : ∀ (j i : Nat) (gl fl : List V) (g : Heap), i + j = 12 → gl.length = 12 → fl.length = 12 → St h none_ (world gb fb pr br pm bm b1 (.cells gl false) (.cells (.bool true :: fl) false) rs bs mk2 mk cs) g → I ⟨b1, 0⟩ (some ⟨pm, 0⟩) (some ⟨pr, 0⟩) (some ⟨fb, 0⟩) (some ⟨gb, 0⟩) (i : Int) g := by
    intro j
    induction j with
    | zero =>
      intro i gl fl g hi hgl hfl S
      refine HI _ _ _ _ _ _ _ ?_
      unfold palisadelaw09_both.b25 palisadelaw09_bus
      simp only [world] at S
      refine br_f (by simp; omega) (S.rI i6 (by simpa [Ptr.add] using hse) (S.rI i6 (by simpa [Ptr.add] using hse) ⟨⟨S.ck1 i6 (by simpa [Ptr.add] using hse), ?_, ?_⟩, ?_⟩))
      · refine S.al (fun b9 g1 S1 => ⟨S1.ck1 i7 (by simpa [Ptr.add] using hse), br_any (S1.al (fun b2 g2 S2 => hq _ _ _ S2.keeps)) (S1.al (fun b2 g2 S2 => hq _ _ _ S2.keeps))⟩)
      · exact br_any (S.al (fun b2 g2 S2 => S2.al (fun b3 g3 S3 => hq _ _ _ S3.keeps))) (S.al (fun b2 g2 S2 => S2.al (fun b3 g3 S3 => hq _ _ _ S3.keeps)))
      · exact br_any (S.al (fun b2 g2 S2 => ⟨S2.ck1 i7 (by simpa [Ptr.add] using hse), S2.al (fun b3 g3 S3 => hq _ _ _ S3.keeps)⟩)) (S.al (fun b2 g2 S2 => ⟨S2.ck1 i7 (by simpa [Ptr.add] using hse), S2.al (fun b3 g3 S3 => hq _ _ _ S3.keeps)⟩))
    | succ j ih =>
      intro i gl fl g hi hgl hfl S
      refine HI _ _ _ _ _ _ _ ?_
      unfold palisadelaw09_both.b25 csr_File_Set csr_File_none csr_known palisaderef08_File_Set
      obtain ⟨v, hv⟩ := hcs i (by omega)
      have hv' : cs[0 + 18 + i * 1]? = some (.int .u64 v) := by rw [show 0 + 18 + i * 1 = 18 + i by omega]; exact hv
      simp only [world] at S
      refine br_t (by simp; omega) (ix_of (by omega) (by omega) ?_)
      rw [Int.toNat_natCast]
      refine S.rI (p := (((⟨b1, 0⟩ : Ptr).add 18).add (i * 1))) i6 hv' ?_
      refine br_f rfl (der_of (S.rB (p := (⟨fb, 0⟩ : Ptr).add 0) i1 rfl (br_f rfl (br_t (by simp) (br_f (by simp; omega) (der_of (ix_of (by omega) (by omega) ?_)))))))
      rw [Int.toNat_natCast]
      obtain ⟨f0, hf0⟩ : ∃ u, fl[i]? = some u := ⟨_, List.getElem?_eq_getElem (by omega)⟩
      refine S.wr (p := (((⟨fb, 0⟩ : Ptr).add 1).add (i * 1))) (u := f0) i1 (by show (V.bool true :: fl)[0 + 1 + i * 1]? = _; rw [show 0 + 1 + i * 1 = i + 1 by omega, List.getElem?_cons_succ]; exact hf0) (fun g1 S1 => ?_)
      have e1 : (V.bool true :: fl).set ((((⟨fb, 0⟩ : Ptr).add 1).add (i * 1))).o (.int .u64 v) = V.bool true :: fl.set i (.int .u64 v) := by
        show (V.bool true :: fl).set (0 + 1 + i * 1) _ = _
        rw [show 0 + 1 + i * 1 = i + 1 by omega, List.set_cons_succ]
      rw [e1] at S1
      simp only [List.set, Ptr.add] at S1
      refine ix_of (by omega) (by omega) ?_
      rw [Int.toNat_natCast]
      refine S1.rI (p := (((⟨b1, 0⟩ : Ptr).add 18).add (i * 1))) i6 hv' ?_
      refine br_f (by simp) (br_f (by simp; omega) (der_of (ix_of (by omega) (by omega) ?_)))
      rw [Int.toNat_natCast]
      obtain ⟨u0, hu0⟩ : ∃ u, gl[i]? = some u := ⟨_, List.getElem?_eq_getElem (by omega)⟩
      refine S1.wr (p := (((⟨gb, 0⟩ : Ptr).add 0).add (i * 1))) (u := u0) i0 (by show gl[0 + 0 + i * 1]? = _; rw [show 0 + 0 + i * 1 = i by omega]; exact hu0) (fun g2 S2 => ?_)
      have e2 : gl.set ((((⟨gb, 0⟩ : Ptr).add 0).add (i * 1))).o (.int .u64 v) = gl.set i (.int .u64 v) := by
        show gl.set (0 + 0 + i * 1) _ = _
        rw [show 0 + 0 + i * 1 = i by omega]
      rw [e2] at S2
      simp only [List.set, Ptr.add] at S2
      rw [wrap64]
      have := ih (i + 1) (gl.set i (.int .u64 v)) (fl.set i (.int .u64 v)) g2 (by omega) (by simpa using hgl) (by simpa using hfl) S2
      simpa using this
  have := key 12 0 gl fl g (by omega) hgl hfl S
  simpa using this

theorem both_any (w : Wid U h x) (hk4 : knownB x 4 = true) (hk8 : knownB x 8 = true) {cs : List V} {pc se : Int} {is ws ps : Sl} (hl : cs.length = 34) (hpc : cs[16]? = some (.int .u64 pc)) (hc : ∀ i, i < 12 → ∃ v, cs[18 + i]? = some (.int .u64 v)) (h30 : cs[30]? = some (.sl is)) (h31 : cs[31]? = some (.sl ws)) (h32 : cs[32]? = some (.sl ps)) (h33 : cs[33]? = some (.int .i64 se))
    {wl : List Int} (hI : InsAt h is) (hP : PokeAt h ps) (hW : Held h ws 1 (wl.map (V.int .u32))) (hr : ∀ v ∈ wl, W32 v) (hcap : ws.len ≤ ws.cap) (hwb : ∀ p, ws.p = some p → wl ≠ [] → h.obj p.b ≠ none) (hsz : wl.length + is.len ≤ 9000000)
    {Q : Option Ptr → Option Ptr → Option Ptr → Option Ptr → Bool → Heap → Prop}
    (hq : ∀ fb gb bb pb g', Keeps none_ h g' → Q (some ⟨fb, 0⟩) gb (some ⟨bb, 0⟩) pb true g') : palisadelaw09_both U cs Q h := by
  unfold palisadelaw09_both
  refine ⟨hl, ?_⟩
  have S := St.start h none_
  refine S.al (fun b1 g0 S0 => ?_)
  refine new_st S0 (by decide) (by decide) (fun pm bm mk g1 S1 => ?_)
  refine rnew_st S1 (by decide) (by decide) (fun pr br mk2 g2 S2 => ?_)
  have e3072 : ((12 : Int) * 256).toNat = 3072 := by decide
  rw [e3072] at S2
  clear S S0 S1
  unfold csr_New palisaderef08_New
  ((with_reducible apply St.al); assumption; intro fb_ g_ S_)
  repeat (first | ((with_reducible first|apply St.rI|apply St.rB|apply St.rP|apply St.rSl|apply St.rV|apply St.rM|apply St.rS|apply St.rN|apply St.ckA);assumption;(first|exact i0|exact i1|exact i2|exact i3|exact i4|exact i5|exact i6|exact i7|exact i8|exact i9|exact i10|exact i11|exact i12|exact i13|exact i14|exact i15);(first|rfl|exact Nat.le_of_ble_eq_true rfl)) | with_reducible refine der_of ?_ | ((with_reducible refine br_t ?_ ?_);rfl) | ((with_reducible refine br_f ?_ ?_);rfl) | ((with_reducible refine br_t ?_ ?_);assumption) | ((with_reducible refine br_f ?_ ?_);assumption) | ((with_reducible first|apply St.wrL|apply St.wr);assumption;(first|exact i0|exact i1|exact i2|exact i3|exact i4|exact i5|exact i6|exact i7|exact i8|exact i9|exact i10|exact i11|exact i12|exact i13|exact i14|exact i15);(first|exact Nat.le_of_ble_eq_true rfl|rfl);intro g_ S_;simp only [Ptr.add, List.set, splice, List.take, List.drop, List.nil_append, List.append_nil, List.cons_append, List.length_cons, List.length_nil, Nat.zero_add, Nat.add_zero, Nat.reduceAdd, Nat.reduceMul, Nat.mul_one, Int.toNat_zero, Int.toNat_one, Int.reduceToNat] at S_) | ((with_reducible first|apply St.al|apply St.alM);assumption;intro b_ g_ S_) | ((with_reducible refine ix_of ?_ ?_ ?_);exact of_decide_eq_true rfl;exact of_decide_eq_true rfl) | ((with_reducible first|refine nz_of ?_ ?_|refine nneg_of ?_ ?_);exact of_decide_eq_true rfl) | ((with_reducible refine chk_of ?_ ?_);rfl) | (with_reducible first|apply asI_of|apply asB_of|apply asP_of|apply asSl_of|apply asAggV_of|apply asTupV_of|apply asCons_of|apply asNil_of|apply isNil_n|apply isNil_i|apply nilC_i|apply nilCU_i|apply nilCU_f|apply mthC_i) | ((with_reducible refine And.intro ?_ ?_);rfl) | ((with_reducible apply exAnd);rfl))
  unfold palisadelaw09_both.j6
  have S_ := ‹St _ _ _ _›
  have hbm : h.obj bm = none := by
    rcases S_.new bm _ (List.mem_of_getElem? i5) with h | h
    · exact h
    · exact h.elim
  have hbr : h.obj br = none := by
    rcases S_.new br _ (List.mem_of_getElem? i3) with h | h
    · exact h
    · exact h.elim
  refine pokes_any w hk8 h32 h31 hP S_ (by simp) (by simp) (fun rs bs mk2 mk g3 hrs hbs S3 => ?_)
  refine ins_any h30 hI hsz hr S3 (hW.keeps S3.keeps (fun _ _ f => f)) (fun p hp hn => ⟨fun e => hwb p hp hn (e ▸ hbm), fun e => hwb p hp hn (e ▸ hbr)⟩) hcap (fun s wl g4 hwl hr4 S4 H4 hs4 => ?_)
  refine words_any w hk4 hpc hwl hr4 S4 hrs hbs H4 hs4 (fun rs bs mk2 mk g5 S5 => ?_)
  exact csr_any hc h33 rfl rfl S5 (fun bb pb g' k => hq _ _ _ _ _ k)

end
end Go.Hart
