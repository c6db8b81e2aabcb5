/- HartNobody: the plain law. -/
import Derived.Test.YthapldoonognpaaGreatDoorHartQ
set_option linter.unusedSimpArgs false
set_option linter.unusedVariables false
set_option maxRecDepth 100000
namespace Go.Hart
open Go.Lift Go.Fn Go.Mem

theorem keq_self (l : List V) (h : l.all (fun v => match v with | .int _ _ => true | .bool _ => true | .str _ => true | _ => false) = true) : keqL l l = true := by
  induction l with
  | nil => rfl
  | cons v l ih =>
    simp only [List.all_cons, Bool.and_eq_true] at h
    simp only [keqL, Bool.and_eq_true]
    refine ⟨?_, ih h.2⟩
    cases v <;> simp_all [keq]

theorem regs_same' {z0 z1 z2 z3 z4 z5 z6 z7 z8 z9 z10 z11 z12 z13 z14 z15 z16 z17 : Int} {xs ys : List V} {κ : Bool → Prop} (hx : xs = [.int .u64 z0, .int .u64 z1, .int .u64 z2, .int .u64 z3, .int .u64 z4, .int .u64 z5, .int .u64 z6, .int .u64 z7, .int .u64 z8, .int .u64 z9, .int .u64 z10, .int .u64 z11, .int .u64 z12, .int .u64 z13, .int .u64 z14, .int .u64 z15, .int .u64 z16, .int .i64 z17]) (hy : ys = xs) (hk : κ true) : eqAgo [.int .u64, .int .u64, .int .u64, .int .u64, .int .u64, .int .u64, .int .u64, .int .u64, .int .u64, .int .u64, .int .u64, .int .u64, .int .u64, .int .u64, .int .u64, .int .u64, .int .u64, .int .i64] xs ys κ := by
  subst hx hy
  have hf : fitsL [.int .u64, .int .u64, .int .u64, .int .u64, .int .u64, .int .u64, .int .u64, .int .u64, .int .u64, .int .u64, .int .u64, .int .u64, .int .u64, .int .u64, .int .u64, .int .u64, .int .u64, .int .i64] [.int .u64 z0, .int .u64 z1, .int .u64 z2, .int .u64 z3, .int .u64 z4, .int .u64 z5, .int .u64 z6, .int .u64 z7, .int .u64 z8, .int .u64 z9, .int .u64 z10, .int .u64 z11, .int .u64 z12, .int .u64 z13, .int .u64 z14, .int .u64 z15, .int .u64 z16, .int .i64 z17] := by simp [fitsL, keyIs]
  refine ⟨hf, hf, ?_⟩
  rw [keq_self _ rfl]
  exact hk

/-- The kinds of a state. -/
def stateDS : DSL := (.cons 0 18 (.struct (.cons 0 16 (.arr 16 1 (.int .u64)) (.cons 16 1 (.int .u64) (.cons 17 1 (.int .i64) .nil)))) (.cons 18 12 (.arr 12 1 (.int .u64)) (.cons 30 1 (.slice 5 (.struct (.cons 0 1 (.int .i64) (.cons 1 1 (.int .i64) (.cons 2 1 (.int .i64) (.cons 3 1 (.int .i64) (.cons 4 1 (.int .i64) .nil))))))) (.cons 31 1 (.slice 1 (.int .u32)) (.cons 32 1 (.slice 2 (.struct (.cons 0 1 (.int .u64) (.cons 1 1 (.int .u64) .nil)))) (.cons 33 1 (.int .i64) .nil))))))

theorem arr_at {h : Heap} {n : Nat} {k : IntKind} {l : List V} (f : Fits h (.arr n 1 (.int k)) l) {i : Nat} (hi : i < n) : ∃ v, l[i]? = some (.int k v) := by
  obtain ⟨hl, hf⟩ := f
  obtain ⟨v, hv, hw⟩ := hf i hi
  refine ⟨v, ?_⟩
  have := congrArg (fun l => l[0]?) hv
  rw [List.getElem?_take_of_lt (by omega), List.getElem?_drop, Nat.mul_one] at this
  simpa using this

theorem one_at {l : List V} {o : Nat} {v : V} (e : (l.drop o).take 1 = [v]) : l[o]? = some v := by
  have := congrArg (fun l => l[0]?) e
  rw [List.getElem?_take_of_lt (by omega), List.getElem?_drop] at this
  simpa using this

section
variable {U : Ifc} {x : Nat → Int} {h : Heap}

theorem state_all {l : List V} (hl : l.length = 34) (f : FitsL h stateDS l) :
    (∃ z0 z1 z2 z3 z4 z5 z6 z7 z8 z9 z10 z11 z12 z13 z14 z15 z16 z17 : Int, l.take 18 = [.int .u64 z0, .int .u64 z1, .int .u64 z2, .int .u64 z3, .int .u64 z4, .int .u64 z5, .int .u64 z6, .int .u64 z7, .int .u64 z8, .int .u64 z9, .int .u64 z10, .int .u64 z11, .int .u64 z12, .int .u64 z13, .int .u64 z14, .int .u64 z15, .int .u64 z16, .int .i64 z17]) ∧
    (∃ pc, l[16]? = some (.int .u64 pc)) ∧ (∀ i, i < 12 → ∃ v, l[18 + i]? = some (.int .u64 v)) ∧ (∃ is, l[30]? = some (.sl is) ∧ InsAt h is) ∧ (∃ ws, l[31]? = some (.sl ws) ∧ ws.len ≤ ws.cap ∧ ∃ wl : List Int, Held h ws 1 (wl.map (V.int .u32)) ∧ (∀ v ∈ wl, W32 v) ∧ ∀ p, ws.p = some p → wl ≠ [] → h.obj p.b ≠ none) ∧ (∃ ps, l[32]? = some (.sl ps) ∧ PokeAt h ps) ∧ ∃ se, l[33]? = some (.int .i64 se) := by
  obtain ⟨⟨fr, fp, fm, -⟩, fc, ⟨is, ei, fi⟩, ⟨ws, ew, fw⟩, ⟨ps, ep, fp2⟩, ⟨se, es, -⟩, -⟩ := f
  obtain ⟨pc, hpc, -⟩ := fp
  obtain ⟨md, hmd, -⟩ := fm
  have hp := one_at hpc
  have hm := one_at hmd
  rw [List.getElem?_take_of_lt (by omega), List.getElem?_drop] at hp hm
  have hr : ∀ i, i < 16 → ∃ v, l[i]? = some (.int .u64 v) := by
    intro i hi
    obtain ⟨v, hv⟩ := arr_at fr hi
    refine ⟨v, ?_⟩
    rw [List.getElem?_take_of_lt hi, List.getElem?_drop, List.getElem?_take_of_lt (by omega), List.getElem?_drop] at hv
    simpa using hv
  refine ⟨?_, ⟨pc, by simpa using hp⟩, ?_, ⟨is, one_at ei, ins_of fi⟩, ⟨ws, one_at ew, fw.1, ?_⟩, ⟨ps, one_at ep, poke_of fp2⟩, se, one_at es⟩
  · obtain ⟨z0, h0⟩ := hr 0 (by omega)
    obtain ⟨z1, h1⟩ := hr 1 (by omega)
    obtain ⟨z2, h2⟩ := hr 2 (by omega)
    obtain ⟨z3, h3⟩ := hr 3 (by omega)
    obtain ⟨z4, h4⟩ := hr 4 (by omega)
    obtain ⟨z5, h5⟩ := hr 5 (by omega)
    obtain ⟨z6, h6⟩ := hr 6 (by omega)
    obtain ⟨z7, h7⟩ := hr 7 (by omega)
    obtain ⟨z8, h8⟩ := hr 8 (by omega)
    obtain ⟨z9, h9⟩ := hr 9 (by omega)
    obtain ⟨z10, h10⟩ := hr 10 (by omega)
    obtain ⟨z11, h11⟩ := hr 11 (by omega)
    obtain ⟨z12, h12⟩ := hr 12 (by omega)
    obtain ⟨z13, h13⟩ := hr 13 (by omega)
    obtain ⟨z14, h14⟩ := hr 14 (by omega)
    obtain ⟨z15, h15⟩ := hr 15 (by omega)
    refine ⟨z0, z1, z2, z3, z4, z5, z6, z7, z8, z9, z10, z11, z12, z13, z14, z15, pc, md, List.ext_getElem? (fun i => ?_)⟩
    by_cases hi : i < 18
    · rw [List.getElem?_take_of_lt hi]
      have : i = 0 ∨ i = 1 ∨ i = 2 ∨ i = 3 ∨ i = 4 ∨ i = 5 ∨ i = 6 ∨ i = 7 ∨ i = 8 ∨ i = 9 ∨ i = 10 ∨ i = 11 ∨ i = 12 ∨ i = 13 ∨ i = 14 ∨ i = 15 ∨ i = 16 ∨ i = 17 := by omega
      rcases this with rfl | rfl | rfl | rfl | rfl | rfl | rfl | rfl | rfl | rfl | rfl | rfl | rfl | rfl | rfl | rfl | rfl | rfl
      · exact h0
      · exact h1
      · exact h2
      · exact h3
      · exact h4
      · exact h5
      · exact h6
      · exact h7
      · exact h8
      · exact h9
      · exact h10
      · exact h11
      · exact h12
      · exact h13
      · exact h14
      · exact h15
      · simpa using hp
      · simpa using hm
    · rw [List.getElem?_eq_none (by simp; omega), List.getElem?_eq_none (by simp; omega)]
  · intro i hi
    obtain ⟨v, hv⟩ := arr_at fc hi
    refine ⟨v, ?_⟩
    rw [List.getElem?_take_of_lt hi, List.getElem?_drop] at hv
    exact hv
  · obtain ⟨wl, H, hw⟩ := words_of fw
    refine ⟨wl, H, hw, fun p hp hn e => ?_⟩
    cases wl with
    | nil => exact hn rfl
    | cons v r =>
      have := H.row p hp 0 _ rfl
      rw [Heap.get, e] at this
      simp at this

theorem nobody (w : Wid U h x) (hk4 : knownB x 4 = true) (hk8 : knownB x 8 = true) {l : List V} (hl : l.length = 34) (f : FitsL h stateDS l) (hi : ∀ s, l[30]? = some (.sl s) → s.len ≤ 1048576) (hw : ∀ s, l[31]? = some (.sl s) → s.len ≤ 1048576) {Q : Bool → Heap → Prop} (hQ : ∀ h', Q true h') : palisadelaw09_HartNobody U l Q h := by
  obtain ⟨⟨z0, z1, z2, z3, z4, z5, z6, z7, z8, z9, z10, z11, z12, z13, z14, z15, z16, z17, hz⟩, ⟨pc, hpc⟩, hc, ⟨is, h30, hI⟩, ⟨ws, h31, hcap, wl, hW, hwl, hwb⟩, ⟨ps, h32, hP⟩, se, h33⟩ := state_all hl f
  have hwlen : wl.length = ws.len := by have := hW.len; simp at this; omega
  have q1 := hi is h30
  have q2 := hw ws h31
  unfold palisadelaw09_HartNobody
  refine ⟨hl, ?_⟩
  have S := St.start h none_
  refine S.al (fun b1 g1 S1 => ?_)
  clear S
  refine S1.rN (n := 34) i0 (by show 0 + 34 ≤ l.length; omega) ?_
  have e34 : (l.drop (⟨b1, 0⟩ : Ptr).o).take 34 = l := by show (l.drop 0).take 34 = l; rw [List.drop_zero]; exact List.take_of_length_le (by omega)
  rw [e34]
  have k1 := S1.keeps
  refine both_any (w.keeps k1 (fun f => f)) hk4 hk8 hl hpc hc h30 h31 h32 h33 (hI.keep k1) (hP.keep k1) (hW.keeps k1 (fun _ _ f => f)) hwl hcap (fun p hp hn => k1.known _ (hwb p hp hn)) (by omega) (fun fb gb bb pb g2 k2 => ?_)
  have S2 := S1.keep k2
  clear S1
  refine br_f rfl (S2.rN (n := 18) i0 (by show 0 + 18 ≤ l.length; omega) ?_)
  have e18 : (l.drop ((⟨b1, 0⟩ : Ptr).add 0).o).take 18 = l.take 18 := by show (l.drop 0).take 18 = _; rw [List.drop_zero]
  rw [e18, hz]
  ((with_reducible apply St.al); assumption; intro b9 g_ S_)
  refine ⟨rfl, ?_⟩
  unfold hart_Step hart_Step.j2
  repeat (first | ((with_reducible first|apply St.rI|apply St.rB|apply St.rP|apply St.rSl|apply St.rV|apply St.rM|apply St.rS|apply St.rN|apply St.ckA);assumption;(first|exact i0|exact i1|exact i2|exact i3|exact i4|exact i5|exact i6|exact i7|exact i8|exact i9|exact i10|exact i11|exact i12|exact i13|exact i14|exact i15);(first|rfl|exact Nat.le_of_ble_eq_true rfl)) | with_reducible refine der_of ?_ | ((with_reducible refine br_t ?_ ?_);rfl) | ((with_reducible refine br_f ?_ ?_);rfl) | ((with_reducible refine br_t ?_ ?_);assumption) | ((with_reducible refine br_f ?_ ?_);assumption) | ((with_reducible first|apply St.wrL|apply St.wr);assumption;(first|exact i0|exact i1|exact i2|exact i3|exact i4|exact i5|exact i6|exact i7|exact i8|exact i9|exact i10|exact i11|exact i12|exact i13|exact i14|exact i15);(first|exact Nat.le_of_ble_eq_true rfl|rfl);intro g_ S_;simp only [Ptr.add, List.set, splice, List.take, List.drop, List.nil_append, List.append_nil, List.cons_append, List.length_cons, List.length_nil, Nat.zero_add, Nat.add_zero, Nat.reduceAdd, Nat.reduceMul, Nat.mul_one, Int.toNat_zero, Int.toNat_one, Int.reduceToNat] at S_) | ((with_reducible first|apply St.al|apply St.alM);assumption;intro b_ g_ S_) | ((with_reducible refine ix_of ?_ ?_ ?_);exact of_decide_eq_true rfl;exact of_decide_eq_true rfl) | ((with_reducible first|refine nz_of ?_ ?_|refine nneg_of ?_ ?_);exact of_decide_eq_true rfl) | ((with_reducible refine chk_of ?_ ?_);rfl) | (with_reducible first|apply asI_of|apply asB_of|apply asP_of|apply asSl_of|apply asAggV_of|apply asTupV_of|apply asCons_of|apply asNil_of|apply isNil_n|apply isNil_i|apply nilC_i|apply nilCU_i|apply nilCU_f|apply mthC_i) | ((with_reducible refine And.intro ?_ ?_);rfl) | ((with_reducible apply exAnd);rfl))
  unfold palisadelaw09_HartNobody.j6
  repeat (first | ((with_reducible first|apply St.rI|apply St.rB|apply St.rP|apply St.rSl|apply St.rV|apply St.rM|apply St.rS|apply St.rN|apply St.ckA);assumption;(first|exact i0|exact i1|exact i2|exact i3|exact i4|exact i5|exact i6|exact i7|exact i8|exact i9|exact i10|exact i11|exact i12|exact i13|exact i14|exact i15);(first|rfl|exact Nat.le_of_ble_eq_true rfl)) | with_reducible refine der_of ?_ | ((with_reducible refine br_t ?_ ?_);rfl) | ((with_reducible refine br_f ?_ ?_);rfl) | ((with_reducible refine br_t ?_ ?_);assumption) | ((with_reducible refine br_f ?_ ?_);assumption) | ((with_reducible first|apply St.wrL|apply St.wr);assumption;(first|exact i0|exact i1|exact i2|exact i3|exact i4|exact i5|exact i6|exact i7|exact i8|exact i9|exact i10|exact i11|exact i12|exact i13|exact i14|exact i15);(first|exact Nat.le_of_ble_eq_true rfl|rfl);intro g_ S_;simp only [Ptr.add, List.set, splice, List.take, List.drop, List.nil_append, List.append_nil, List.cons_append, List.length_cons, List.length_nil, Nat.zero_add, Nat.add_zero, Nat.reduceAdd, Nat.reduceMul, Nat.mul_one, Int.toNat_zero, Int.toNat_one, Int.reduceToNat] at S_) | ((with_reducible first|apply St.al|apply St.alM);assumption;intro b_ g_ S_) | ((with_reducible refine ix_of ?_ ?_ ?_);exact of_decide_eq_true rfl;exact of_decide_eq_true rfl) | ((with_reducible first|refine nz_of ?_ ?_|refine nneg_of ?_ ?_);exact of_decide_eq_true rfl) | ((with_reducible refine chk_of ?_ ?_);rfl) | (with_reducible first|apply asI_of|apply asB_of|apply asP_of|apply asSl_of|apply asAggV_of|apply asTupV_of|apply asCons_of|apply asNil_of|apply isNil_n|apply isNil_i|apply nilC_i|apply nilCU_i|apply nilCU_f|apply mthC_i) | ((with_reducible refine And.intro ?_ ?_);rfl) | ((with_reducible apply exAnd);rfl) | unfold hart_Step | unfold hart_Step.j2 | unfold csr_File_Clone | unfold csr_File_none)
  unfold palisadelaw09_HartNobody.j9
  repeat (first | ((with_reducible first|apply St.rI|apply St.rB|apply St.rP|apply St.rSl|apply St.rV|apply St.rM|apply St.rS|apply St.rN|apply St.ckA);assumption;(first|exact i0|exact i1|exact i2|exact i3|exact i4|exact i5|exact i6|exact i7|exact i8|exact i9|exact i10|exact i11|exact i12|exact i13|exact i14|exact i15);(first|rfl|exact Nat.le_of_ble_eq_true rfl)) | with_reducible refine der_of ?_ | ((with_reducible refine br_t ?_ ?_);rfl) | ((with_reducible refine br_f ?_ ?_);rfl) | ((with_reducible refine br_t ?_ ?_);assumption) | ((with_reducible refine br_f ?_ ?_);assumption) | ((with_reducible first|apply St.wrL|apply St.wr);assumption;(first|exact i0|exact i1|exact i2|exact i3|exact i4|exact i5|exact i6|exact i7|exact i8|exact i9|exact i10|exact i11|exact i12|exact i13|exact i14|exact i15);(first|exact Nat.le_of_ble_eq_true rfl|rfl);intro g_ S_;simp only [Ptr.add, List.set, splice, List.take, List.drop, List.nil_append, List.append_nil, List.cons_append, List.length_cons, List.length_nil, Nat.zero_add, Nat.add_zero, Nat.reduceAdd, Nat.reduceMul, Nat.mul_one, Int.toNat_zero, Int.toNat_one, Int.reduceToNat] at S_) | ((with_reducible first|apply St.al|apply St.alM);assumption;intro b_ g_ S_) | ((with_reducible refine ix_of ?_ ?_ ?_);exact of_decide_eq_true rfl;exact of_decide_eq_true rfl) | ((with_reducible first|refine nz_of ?_ ?_|refine nneg_of ?_ ?_);exact of_decide_eq_true rfl) | ((with_reducible refine chk_of ?_ ?_);rfl) | (with_reducible first|apply asI_of|apply asB_of|apply asP_of|apply asSl_of|apply asAggV_of|apply asTupV_of|apply asCons_of|apply asNil_of|apply isNil_n|apply isNil_i|apply nilC_i|apply nilCU_i|apply nilCU_f|apply mthC_i) | ((with_reducible refine And.intro ?_ ?_);rfl) | ((with_reducible apply exAnd);rfl))
  ((with_reducible apply St.rN); assumption; (first|exact i0|exact i1|exact i2|exact i3|exact i4|exact i5|exact i6|exact i7|exact i8|exact i9|exact i10|exact i11|exact i12|exact i13|exact i14|exact i15); (show 0 + 18 ≤ l.length; omega))
  refine regs_same' (z0 := z0) (z17 := z17) rfl ?_ (hQ _)
  rw [e18, hz]
  rfl

end
end Go.Hart
