/- The memory's methods, each by what it answers and leaves. -/
import Derived.Test.YtmpjgafkdhineaaMem0
set_option linter.unusedSimpArgs false
set_option linter.unusedVariables false
set_option maxRecDepth 100000
namespace Go.Mem
open Go.Lift Go.Fn

section
variable {pb bb : Nat} {bs : List UInt8} {h h' : Heap}

theorem Frames_of (R : Rep pb bb bs h) {Q : Int → Heap → Prop} (hq : Q ((bs.length / 256 : Nat) : Int) h) : mem_Memory_Frames (some ⟨pb, 0⟩) Q h := by
  unfold mem_Memory_Frames
  refine none_of R ?_
  simp only [br_true, br_false, der_some, if_true, if_false, beq_self_eq_true, bne_self_eq_false, Bool.false_eq_true, Bool.and_true, Bool.true_and, Bool.and_false, Bool.false_and, Bool.not_true, Bool.not_false, Option.isNone_some, Option.isNone_none]
  refine loc_Sl R.cell rfl (nz_of (by decide) ?_)
  have := R.size
  have e : ((bs.length : Nat) : Int).tdiv 256 = ((bs.length / 256 : Nat) : Int) := by
    rw [Int.tdiv_eq_ediv_of_nonneg (by omega)]; omega
  rw [e, wrap64]
  exact hq

theorem clone_of {s : Sl} {x : List UInt8} (H : Held h s 1 (strCells x)) (hs : s.p ≠ none) (hl : x.length ≤ 140737488355328) {Q : Sl → Heap → Prop} (hq : ∀ s' h' b, Own h' s' 1 (strCells x) b → s'.len = x.length → h.obj b = none → Keeps none_ h h' → Q s' h') : bytes_Clone s Q h := by
  unfold bytes_Clone
  have : s.p.isNone = false := by cases hp : s.p; exact absurd hp hs; rfl
  refine br_f this ?_
  intro b hb
  have hlen : s.len = x.length := by have := H.len; simp [strCells_length] at this; omega
  refine cellsS_of (H.keeps (Keeps.new (S := none_) hb _) (fun _ _ f => f)) ?_
  rw [hlen]
  exact copy_of (sz := 1) (bytes := 1) (n := x.length) (by simp [strCells_length]) rfl (by omega) (by omega) hq hb

theorem sclone_of {s : Sl} {x : List UInt8} (H : Held h s 1 (strCells x)) (hs : s.p ≠ none) (hl : x.length ≤ 140737488355328) {Q : Sl → Heap → Prop} (hq : ∀ s' h' b, Own h' s' 1 (strCells x) b → s'.len = x.length → h.obj b = none → Keeps none_ h h' → Q s' h') : slices_Clone_byte_byte s Q h := clone_of H hs hl hq

theorem Bytes_of (R : Rep pb bb bs h) {a n : Int} (ha : 0 ≤ a) (ha2 : a ≤ 18446744073709551615) (hn1 : -9223372036854775808 ≤ n) (hn : n ≤ 9223372036854775807) {Q : Sl → Int → Heap → Prop}
    (h2 : n < 0 → ∀ h', Keeps none_ h h' → Q ⟨none, 0, 0⟩ 2 h')
    (h12 : 0 ≤ n → lies bs.length a n = false → ∀ h', Keeps none_ h h' → Q ⟨none, 0, 0⟩ 12 h')
    (h00 : 0 ≤ n → n ≤ bs.length → a ≤ bs.length - n → ∀ s' h' b, Own h' s' 1 (strCells ((bs.drop a.toNat).take n.toNat)) b → s'.len = n.toNat → h.obj b = none → Keeps none_ h h' → Q s' 0 h') : mem_Memory_Bytes (some ⟨pb, 0⟩) a n Q h := by
  unfold mem_Memory_Bytes
  have nilc : ∀ (h : Heap) (Q : Sl → Heap → Prop), Q ⟨none, 0, 0⟩ h → bytes_Clone ⟨none, 0, 0⟩ Q h := fun h Q hq => by unfold bytes_Clone; exact br_t rfl hq
  refine part_of R ha ha2 hn1 hn (fun h h' k => nilc _ _ (h2 h h' k)) (fun p q h' k => nilc _ _ (h12 p q h' k)) (fun p q r d h' hd _ ⟨o, hp, ho, hol⟩ k => ?_)
  have R' := R.keep0 k
  have hs := R.size
  refine clone_of (R'.held hp hol) (by rw [hp]; simp) (by simp; omega) (fun s' h'' b O hl hb k' => ?_)
  have e : (bs.drop o).take d.len = (bs.drop a.toNat).take n.toNat := by
    rw [hd]
    by_cases hn : 0 < n
    · rw [ho hn]
    · have : n.toNat = 0 := by omega
      rw [this]; simp
  rw [e] at O hl
  exact h00 p q r s' h'' b O (by rw [hl]; simp; omega) (fresh_of k hb) (k.trans k')

theorem Put_of (R : Rep pb bb bs h) {a : Int} (ha : 0 ≤ a) (ha2 : a ≤ 18446744073709551615) {s : Sl} {x : List UInt8} (H : Held h s 1 (strCells x)) (hx : x.length ≤ 9223372036854775807) {Q : Int → Heap → Prop}
    (h12 : lies bs.length a x.length = false → ∀ h', Keeps none_ h h' → Q 12 h')
    (h00 : a + x.length ≤ bs.length → ∀ h', Rep pb bb (put bs a.toNat x) h' → Keeps (· = bb) h h' → Q 0 h') : mem_Memory_Put (some ⟨pb, 0⟩) a s Q h := by
  unfold mem_Memory_Put
  have hlen : s.len = x.length := by have := H.len; simp [strCells_length] at this; omega
  rw [hlen]
  refine part_of R ha ha2 (by omega) (by omega) (fun h => by omega) (fun _ q h' k => br_f rfl (h12 q h' k)) (fun _ q r d h' hd _ ⟨o, hp, ho, hol⟩ k => br_t rfl ?_)
  have R' := R.keep0 k
  refine cellsS_of (H.keeps k (fun _ _ f => f)) ?_
  obtain ⟨mk, harr⟩ := R'.arr
  have hmin : min x.length d.len = x.length := by omega
  have htk : (strCells x).take (min x.length d.len * 1) = strCells x := by rw [hmin, Nat.mul_one]; exact List.take_of_length_le (by simp [strCells_length])
  refine copyS_of (o := o) hp harr (by rw [htk, strCells_length, strCells_length]; omega) (fun h2 ho2 k2 => ?_)
  rw [htk, put_cells] at ho2
  have e : put bs o x = put bs a.toNat x := by
    by_cases hx0 : x.length = 0
    · have : x = [] := List.length_eq_zero_iff.1 hx0
      subst this; simp [put]
    · rw [ho (by omega)]
  rw [e] at ho2
  have hpl : (put bs a.toNat x).length = bs.length := put_length (by omega)
  refine h00 (by omega) h2 ⟨?_, ⟨mk, ho2⟩, R.ne, by rw [hpl]; exact R.size⟩ ((k.mono (fun _ f => f.elim)).trans k2)
  rw [hpl]
  exact k2.obj R'.cell R.ne

end
end Go.Mem
