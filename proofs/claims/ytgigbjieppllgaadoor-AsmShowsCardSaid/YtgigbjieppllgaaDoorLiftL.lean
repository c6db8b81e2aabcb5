/- Regions whose order is open: what reads and reckons is taken first; what is read is looked at again behind each operation that may write. -/
import Derived.Test.YtgigbjieppllgaaDoorLiftJ
namespace Go.Lift
open Go.RowKit

section
variable {P : Program} {ops : Array Oper} {Q : Exit → Act → World → Prop}

abbrev ready (ops : Array Oper) (listed : Array Bool) : List Nat := Region.ready .any ops listed

def Closed (ops : Array Oper) (listed : Array Bool) : Prop :=
  ∀ i o, ops[i]? = some o → listed.getD i false = true → ∀ e ∈ o.after, Region.binds .any e = true → listed.getD e.on false = true

theorem edgeM_bits {C : Nat → Prop} : ∀ (l : List Edge) (m : Nat), (∀ j, m.testBit j = true → C j) → (∀ e ∈ l, Region.binds .any e = true → C e.on) → ∀ j, (edgeM l m).testBit j = true → C j
  | [], m, hm, _, j, h => hm j h
  | e :: es, m, hm, hl, j, h => by
    refine edgeM_bits es _ ?_ (fun e' he => hl e' (List.mem_cons_of_mem _ he)) j h
    intro k hk
    cases hb : Region.binds .any e with
    | false => rw [hb] at hk; exact hm k hk
    | true =>
      rw [hb] at hk
      simp only [cond_true, Nat.testBit_or, Bool.or_eq_true] at hk
      rcases hk with hk | hk
      · exact hm k hk
      · rw [Nat.one_shiftLeft, Nat.testBit_two_pow] at hk
        rw [← of_decide_eq_true hk]
        exact hl e (List.mem_cons_self ..) hb

theorem upM_bits {ops : Array Oper} {C : Nat → Prop} (hC : ∀ k o, ops[k]? = some o → C k → ∀ e ∈ o.after.toList, Region.binds .any e = true → C e.on) :
    ∀ (n m : Nat), (∀ j, m.testBit j = true → C j) → ∀ j, (upM ops n m).testBit j = true → C j
  | 0, m, hm, j, h => hm j h
  | n + 1, m, hm, j, h => by
    unfold upM at h
    refine upM_bits hC n _ ?_ j h
    intro k hk
    cases hb : m.testBit n with
    | false => rw [hb] at hk; exact hm k hk
    | true =>
      rw [hb] at hk
      simp only [cond_true] at hk
      split at hk
      · rename_i o ho
        exact edgeM_bits _ _ hm (hC n o ho (hm n hb)) k hk
      · exact hm k hk

theorem anc_listed {listed : Array Bool} (hc : Closed ops listed) (n j i : Nat) (hi : ∀ o, ops[i]? = some o → ∀ e ∈ o.after, Region.binds .any e = true → listed.getD e.on false = true) (h : anc ops n j i = true) : listed.getD j false = true := by
  unfold anc at h
  split at h
  · rename_i o ho
    exact upM_bits (C := fun j => listed.getD j false = true) (fun k o' ho' hk e he hb => hc k o' ho' hk e (Array.mem_toList_iff.1 he) hb) n _
      (edgeM_bits _ _ (fun j hj => by rw [Nat.zero_testBit] at hj; cases hj) (fun e he hb => hi o ho e (Array.mem_toList_iff.1 he) hb)) j h
  · cases h

theorem closed_set {listed : Array Bool} (hc : Closed ops listed) {i : Nat} (hr : i ∈ ready ops listed) : Closed ops (listed.setIfInBounds i true) := by
  obtain ⟨_, oi, hoi, hall⟩ := mem_ready.1 hr
  intro k o ho hk e he hb
  by_cases hik : i = k
  · subst hik
    rw [hoi] at ho; cases ho
    exact getD_set_true (hall e he hb)
  · rw [getD_set_ne false hik] at hk
    exact getD_set_true (hc k o ho hk e he hb)

def wpAnyF (P : Program) (ops : Array Oper) (Q : Exit → Act → World → Prop) : Nat → Array Bool → List (Nat × (World → Prop)) → Act → World → Prop
  | 0, listed, F, a, w => (∀ p ∈ F, p.2 w) ∧ ready ops listed = [] ∧ Q .normal a w
  | n + 1, listed, F, a, w => (∀ p ∈ F, p.2 w) ∧ (ready ops listed = [] → Q .normal a w) ∧
      ∀ i ∈ ready ops listed, wpOp P ops Q i (wpAnyF P ops Q n (listed.setIfInBounds i true) (F.filter fun p => !anc ops ops.size p.1 i)) a w

theorem wpAnyF_any : ∀ (n : Nat) {listed : Array Bool} {F : List (Nat × (World → Prop))} {a : Act} {w : World}, wpAnyF P ops Q n listed F a w → wpAny P .any ops Q n listed a w := by
  intro n
  induction n with
  | zero => intro listed F a w h; exact h.2
  | succ n ih => intro listed F a w h; exact ⟨h.2.1, fun i hi => wpOp_mono (fun a w h => ih h) (h.2.2 i hi)⟩

theorem wpAnyF_sub : ∀ (n : Nat) {listed : Array Bool} {F F' : List (Nat × (World → Prop))} {a : Act} {w : World}, (∀ p ∈ F', p ∈ F) → wpAnyF P ops Q n listed F a w → wpAnyF P ops Q n listed F' a w := by
  intro n
  induction n with
  | zero => intro listed F F' a w hs h; exact ⟨fun p hp => h.1 p (hs p hp), h.2⟩
  | succ n ih =>
    intro listed F F' a w hs h
    refine ⟨fun p hp => h.1 p (hs p hp), h.2.1, fun i hi => wpOp_mono (fun a w h => ih ?_ h) (h.2.2 i hi)⟩
    intro p hp
    simp only [List.mem_filter] at hp ⊢
    exact ⟨hs p hp.1, hp.2⟩

/-- In the worlds of C the operation gives v, from a frame whose slots that it names are as here. -/
def YC (P : Program) (ops : Array Oper) (C : World → Prop) (o : Oper) (v : Value) (a : Act) : Prop :=
  (Region.wanted o (yielded ops a.tmps) = true ∧ ∀ w, C w → (execOp a.eval o).run P w = .ok (.value v) w) ∨
  (Region.wanted o (yielded ops a.tmps) = false ∧ v = Go.undef)

theorem YC.now {C : World → Prop} {i : Nat} {o : Oper} {v : Value} {a : Act} {w : World} (hi : ops[i]? = some o) (hy : YC P ops C o v a) (hw : C w) {K : Act → World → Prop} (h : K (a.put o.dst v) w) : wpOp P ops Q i K a w := by
  unfold wpOp
  rw [hi]
  rcases hy with ⟨h1, h2⟩ | ⟨h1, rfl⟩
  · simp only [if_pos h1]
    refine .inl ?_
    unfold Oper.wp
    rw [h2 w hw, Oper.upon_value]
    exact h
  · have : ¬ Region.wanted o (yielded ops a.tmps) = true := by rw [h1]; exact Bool.false_ne_true
    simp only [if_neg this]
    exact h

/-- The frame that an operation leaves. -/
def Left (a : Act) (dst : Option Tmp) (a' : Act) : Prop := ∃ u ds, a' = ({ a with defers := ds } : Act).put dst u

theorem YC.left {C : World → Prop} {oi oj : Oper} {v : Value} {a a' : Act} (hy : YC P ops C oi v a) (hap : oi.apart ops oj = true) (hsi : ∀ cs b, oi.op ≠ .select cs b) (hl : Left a oj.dst a') : YC P ops C oi v a' := by
  obtain ⟨_, _, h3⟩ := Oper.apart_spec hap
  obtain ⟨u, ds, rfl⟩ := hl
  have e1 : execOp (({ a with defers := ds } : Act).put oj.dst u).eval oi = execOp a.eval oi := (execOp_put oi hsi _ oj.dst u h3).trans rfl
  have e2 : Region.wanted oi (yielded ops (({ a with defers := ds } : Act).put oj.dst u).tmps) = Region.wanted oi (yielded ops a.tmps) := (wanted_put oi _ oj.dst u h3).trans rfl
  unfold YC
  rw [e1, e2]
  exact hy

/-- An operation performed ahead of the slot's writing instead of behind it. -/
theorem wpOp_ahead {j : Nat} {oi oj : Oper} {v : Value} (hj : ops[j]? = some oj) (hap : oi.apart ops oj = true) (hsj : ∀ cs b, oj.op ≠ .select cs b)
    (hQ : ∀ c a w, Q (.panic c) (a.put oi.dst v) w → Q (.panic c) a w) {K : Act → World → Prop} {a : Act} {w : World} (h : wpOp P ops Q j K (a.put oi.dst v) w) :
    wpOp P ops Q j (fun a' w' => Left a oj.dst a' ∧ K (a'.put oi.dst v) w') a w := by
  obtain ⟨h1, h2, _⟩ := Oper.apart_spec hap
  have hleft : ∀ u, Left a oj.dst (a.put oj.dst u) := fun u => ⟨u, a.defers, rfl⟩
  have hcomm : ∀ u, (a.put oi.dst v).put oj.dst u = (a.put oj.dst u).put oi.dst v := fun u => Act.put_comm a v u h2
  have hexec : execOp (a.put oi.dst v).eval oj = execOp a.eval oj := execOp_put oj hsj a oi.dst v h1
  unfold wpOp at *
  rw [hj] at h ⊢
  simp only at h ⊢
  rw [wanted_put oj a oi.dst v h1] at h
  by_cases hw : Region.wanted oj (yielded ops a.tmps) = true
  · rw [if_pos hw] at h ⊢
    rcases h with h | ⟨ha, hl⟩
    · left
      unfold Oper.wp at *
      rw [hexec] at h
      cases hr : (execOp a.eval oj).run P w with
      | halt x w' =>
        rw [hr] at h
        cases x <;> first | exact h.elim | exact hQ _ _ _ h
      | ok n w' =>
        rw [hr] at h
        cases n with
        | value u => exact ⟨hleft u, hcomm u ▸ h⟩
        | skip => exact ⟨hleft Go.undef, hcomm Go.undef ▸ h⟩
        | defer d =>
          refine ⟨⟨Go.undef, d :: a.defers, rfl⟩, ?_⟩
          have : ({ a.put oi.dst v with defers := d :: (a.put oi.dst v).defers } : Act).put oj.dst Go.undef = (({ a with defers := d :: a.defers } : Act).put oj.dst Go.undef).put oi.dst v := by
            rw [Act.put_defers]
            exact Act.put_comm _ v Go.undef h2
          exact this ▸ h
        | enter f args =>
          refine Calls.mono h ?_
          rintro (u | c | _) w'' he
          · exact ⟨hleft u, hcomm u ▸ he⟩
          · exact hQ _ _ _ he
          · exact he
        | row r args => exact Rows.mono h fun u w'' he => ⟨hleft u, hcomm u ▸ he⟩
        | _ => exact h.elim
    · right
      refine ⟨?_, hl⟩
      unfold Oper.asks at *
      rw [hexec] at ha
      exact ha
  · rw [if_neg hw] at h ⊢
    exact ⟨hleft _, hcomm _ ▸ h⟩

/-- What reads and reckons may be taken first. -/
theorem wpAnyF_first {i : Nat} {oi : Oper} {v : Value} {C : World → Prop} (hi : ops[i]? = some oi) (hsel : ∀ (j : Nat) (o : Oper) cs b, ops[j]? = some o → o.op ≠ .select cs b)
    (hQ : ∀ c a w, Q (.panic c) (a.put oi.dst v) w → Q (.panic c) a w) :
    ∀ (n : Nat) (listed : Array Bool) (F : List (Nat × (World → Prop))) (a : Act) (w : World), Closed ops listed →
      (∀ j oj, ops[j]? = some oj → j ≠ i → listed.getD j true = false → (∀ e ∈ oj.after, Region.binds .any e = true → e.on ≠ i) → oi.apart ops oj = true) →
      i ∈ ready ops listed → YC P ops C oi v a →
      wpAnyF P ops Q n (listed.setIfInBounds i true) ((i, C) :: F) (a.put oi.dst v) w → wpAnyF P ops Q (n + 1) listed F a w := by
  intro n
  induction n with
  | zero =>
    intro listed F a w hc _ hr hy H
    refine ⟨fun p hp => H.1 p (by simp [hp]), fun h => (by rw [h] at hr; cases hr), fun j hj => ?_⟩
    by_cases hji : j = i
    · subst hji
      exact hy.now hi (H.1 (j, C) (by simp)) ⟨fun p hp => H.1 p (by simp at hp; simp [hp.1]), H.2⟩
    · have : j ∈ ready ops (listed.setIfInBounds i true) := ready_mono hj hji
      rw [H.2.1] at this
      cases this
  | succ n ih =>
    intro listed F a w hc hfree hr hy H
    refine ⟨fun p hp => H.1 p (by simp [hp]), fun h => (by rw [h] at hr; cases hr), fun j hj => ?_⟩
    by_cases hji : j = i
    · subst hji
      refine hy.now hi (H.1 (j, C) (by simp)) (wpAnyF_sub _ ?_ H)
      intro p hp
      simp only [List.mem_filter] at hp
      simp [hp.1]
    · have h1 := H.2.2 j (ready_mono hj hji)
      obtain ⟨hjun, oj, hoj, hall⟩ := mem_ready.1 hj
      have hiun := (mem_ready.1 hr).1
      have hil : listed.getD i false = false := by
        rcases Nat.lt_or_ge i listed.size with h' | h'
        · simp [h'] at hiun ⊢; exact hiun
        · simp [Array.getElem?_eq_none h']
      have hnot : ∀ e ∈ oj.after, Region.binds .any e = true → e.on ≠ i := fun e he hb heq => by
        have h1 := hall e he hb
        rw [heq, hil] at h1; cases h1
      have hanc : anc ops ops.size i j = false := by
        cases ha : anc ops ops.size i j with
        | false => rfl
        | true =>
          have := anc_listed hc ops.size i j (fun o ho => by rw [hoj] at ho; cases ho; exact hall) ha
          rw [hil] at this; cases this
      have hap := hfree j oj hoj hji hjun hnot
      have h2 := wpOp_ahead hoj hap (fun cs b => hsel j oj cs b hoj) hQ h1
      have hfree' : ∀ k ok, ops[k]? = some ok → k ≠ i → (listed.setIfInBounds j true).getD k true = false →
          (∀ e ∈ ok.after, Region.binds .any e = true → e.on ≠ i) → oi.apart ops ok = true := fun k ok hk hki hun hno => by
        refine hfree k ok hk hki ?_ hno
        by_cases hjk : j = k
        · subst hjk; exact hjun
        · rw [getD_set_ne true hjk] at hun; exact hun
      refine wpOp_mono (fun a' w' h3 => ih (listed.setIfInBounds j true) _ a' w' (closed_set hc hj) hfree' (ready_mono hr (Ne.symm hji)) (hy.left hap (fun cs b => hsel i oi cs b hi) h3.1) ?_) h2
      rw [Array.setIfInBounds_comm _ _ hji]
      have hfl : ((i, C) :: F).filter (fun p => !anc ops ops.size p.1 j) = (i, C) :: F.filter (fun p => !anc ops ops.size p.1 j) := by
        simp [hanc]
      rw [← hfl]
      exact h3.2

end
end Go.Lift
