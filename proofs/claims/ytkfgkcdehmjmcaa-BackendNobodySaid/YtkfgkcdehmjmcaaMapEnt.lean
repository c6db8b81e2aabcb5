/- A place of a map, taken ahead by an assignment. -/
import Derived.Test.YtkfgkcdehmjmcaaSeqKit
set_option linter.unusedSimpArgs false
set_option linter.unusedVariables false
set_option maxRecDepth 100000
namespace Go.Lift

theorem iput_iput {a : Int} {u v : V} : ∀ l : List (Int × V), iput a v (iput a u l) = iput a v l
  | [] => by simp [iput]
  | (a', v') :: l => by
    simp only [iput]
    by_cases e : a = a'
    · simp [e, iput]
    · simp [e, iput, iput_iput l]

theorem mset_ikeys {k : IntKind} {a : Int} {v : V} : ∀ l : List (Int × V), ifind a l ≠ none → mset (.int k a) v (ikeys k l) = ikeys k (iput a v l)
  | [], h => absurd rfl h
  | (a', v') :: l, h => by
    simp only [ifind] at h
    by_cases e : a = a'
    · subst e; simp [ikeys, mset, keq, iput]
    · rw [if_neg e] at h
      have ih := mset_ikeys (k := k) (v := v) l h
      simp only [ikeys, List.map_cons, mset, keq, beq_eq_false_iff_ne.2 e, cond_false, iput, if_neg e]
      simpa [ikeys] using ih

/-- The stamp of a key's entry. -/
def EntAt (h : Heap) (m : Nat) (k : IntKind) (a b : Int) : Prop :=
  ∃ es bs c, ∃ n : Nat, h.obj m = some (.map (.int k) es bs c) ∧ bfind (.int k a) es bs = some n ∧ (n : Int) = b

section
variable {h : Heap} {m : Nat} {k : IntKind} {l : List (Int × V)}

theorem mapEnt_of {a : Int} {z : V} {κ : V → Int → Heap → Prop} (M : MapAt h m k l) (hk : ∀ b h', MapAt h' m k (iput a ((ifind a l).getD z) l) → EntAt h' m k a b → Keeps (· = m) h h' → κ ((ifind a l).getD z) b h') : mapEnt (.int k) (some m) (.int k a) z κ h := by
  obtain ⟨bs, c, ho, h1, h2, h3⟩ := M
  refine ⟨_, bs, c, ho, fun b hb => ?_⟩
  rw [mfind_ikeys] at hb ⊢
  refine hk b _ ?_ ?_ (Keeps.setO ho)
  · unfold putO
    rw [mfind_ikeys]
    cases hf : ifind a l with
    | some w => exact ⟨bs, c, by simp [Heap.setO, mput_ikeys], h1, h2, by rw [iput_length, if_neg (by rw [hf]; simp)]; exact h3⟩
    | none =>
      refine ⟨bs ++ [c], c + 1, by simp [Heap.setO, mput_ikeys], ?_, ?_, by rw [iput_length, if_pos hf]; simp [h3]⟩
      · rw [List.nodup_append]
        exact ⟨h1, by simp, fun x hx y hy => by simp at hy; subst hy; have := h2 x hx; omega⟩
      · intro b hb
        rcases List.mem_append.1 hb with hb | hb
        · have := h2 b hb; omega
        · simp at hb; omega
  · generalize hp : putO (.int k) (ikeys k l) bs c (.int k a) ((ifind a l).getD z) = o at *
    cases o with
    | map ks es bs' c' =>
      have : ks = .int k := by
        unfold putO at hp
        rw [mfind_ikeys] at hp
        cases hf : ifind a l <;> rw [hf] at hp <;> cases hp <;> rfl
      subst this
      exact ⟨es, bs', c', b, by simp [Heap.setO], hb, rfl⟩
    | _ => cases hb

theorem entPut_of {a b : Int} {v : V} {κ : Heap → Prop} (M : MapAt h m k l) (E : EntAt h m k a b) (hf : ifind a l ≠ none) (hk : ∀ h', MapAt h' m k (iput a v l) → Keeps (· = m) h h' → κ h') : entPut (some m) b v κ h := by
  obtain ⟨bs, c, ho, h1, h2, h3⟩ := M
  obtain ⟨es, bs', c', n, ho', hb, hn⟩ := E
  rw [ho] at ho'
  cases ho'
  refine ⟨_, _, _, _, _, n, ho, hb, hn, hk _ ⟨bs, c, by simp [Heap.setO, mset_ikeys l hf], h1, h2, by rw [iput_length, if_neg hf]; exact h3⟩ (Keeps.setO ho)⟩

/-- An assignment to an entry. -/
theorem entry_put {a : Int} {z v : V} {κ : V → (Heap → Prop) → Heap → Prop} {F : Heap → Prop} (M : MapAt h m k l)
    (hκ : ∀ r g (A : Heap → Prop), A g → κ r A g)
    (hF : ∀ h', MapAt h' m k (iput a v l) → Keeps (· = m) h h' → F h') : mapEnt (.int k) (some m) (.int k a) z (fun r b h => κ r (fun h => entPut (some m) b v F h) h) h :=
  mapEnt_of M (fun b g M1 E k1 => hκ _ _ _ (entPut_of M1 E (by rw [ifind_iput, if_pos rfl]; simp) (fun g2 M2 k2 => hF g2 (by rw [iput_iput] at M2; exact M2) (k1.trans k2))))

end
end Go.Lift
