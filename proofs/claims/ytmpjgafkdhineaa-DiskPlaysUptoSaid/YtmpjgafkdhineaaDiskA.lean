/- Requests in rows, and the library's functions on them. -/
import Derived.Test.YtmpjgafkdhineaaMem
set_option linter.unusedSimpArgs false
set_option linter.unusedVariables false
set_option maxRecDepth 100000
namespace Go.Disk
open Go.Lift Go.Fn

structure Req where
  id : Int
  write : Bool
  block : Int
  frame : Int
  deriving DecidableEq

def Req.cells (r : Req) : List V := [.int .i64 r.id, .bool r.write, .int .i64 r.block, .int .i64 r.frame]
def reqs (l : List Req) : List V := l.flatMap Req.cells

theorem reqs_length (l : List Req) : (reqs l).length = l.length * 4 := by
  induction l with
  | nil => rfl
  | cons r l ih => simp only [reqs, List.flatMap_cons, List.length_append, List.length_cons] at ih ⊢; rw [ih]; simp [Req.cells]; omega
theorem reqs_append (a b : List Req) : reqs (a ++ b) = reqs a ++ reqs b := by simp [reqs]
theorem reqs_cons (r : Req) (l : List Req) : reqs (r :: l) = r.cells ++ reqs l := by simp [reqs]

theorem reqs_get : ∀ {l : List Req} {n : Nat} {r : Req} {j : Nat}, l[n]? = some r → j < 4 → (reqs l)[n * 4 + j]? = r.cells[j]?
  | [], n, r, j, h, _ => by cases h
  | q :: l, 0, r, j, h, hj => by
    cases h
    rw [reqs_cons, Nat.zero_mul, Nat.zero_add, List.getElem?_append_left (by simp [Req.cells]; exact hj)]
  | q :: l, n + 1, r, j, h, hj => by
    rw [reqs_cons, List.getElem?_append_right (by simp [Req.cells]; omega)]
    have : (n + 1) * 4 + j - q.cells.length = n * 4 + j := by simp [Req.cells]; omega
    rw [this]
    exact reqs_get (by simpa using h) hj

section
variable {h : Heap} {s : Sl} {l : List Req} {p : Ptr} {n : Nat} {r : Req}

theorem rd0 (H : Held h s 4 (reqs l)) (hp : s.p = some p) (hn : l[n]? = some r) {κ : Int → Prop} (hk : κ r.id) : rdI .i64 ((p.add (n * 4)).add 0) κ h := rdI_of (H.row p hp (n * 4 + 0) _ (by rw [reqs_get hn (by omega)]; rfl)) hk
theorem rd1 (H : Held h s 4 (reqs l)) (hp : s.p = some p) (hn : l[n]? = some r) {κ : Bool → Prop} (hk : κ r.write) : rdB ((p.add (n * 4)).add 1) κ h := rdB_of (by have := H.row p hp (n * 4 + 1) _ (by rw [reqs_get hn (by omega)]; rfl); rw [← Nat.add_assoc] at this; exact this) hk
theorem rd2 (H : Held h s 4 (reqs l)) (hp : s.p = some p) (hn : l[n]? = some r) {κ : Int → Prop} (hk : κ r.block) : rdI .i64 ((p.add (n * 4)).add 2) κ h := rdI_of (by have := H.row p hp (n * 4 + 2) _ (by rw [reqs_get hn (by omega)]; rfl); rw [← Nat.add_assoc] at this; exact this) hk
theorem rd3 (H : Held h s 4 (reqs l)) (hp : s.p = some p) (hn : l[n]? = some r) {κ : Int → Prop} (hk : κ r.frame) : rdI .i64 ((p.add (n * 4)).add 3) κ h := rdI_of (by have := H.row p hp (n * 4 + 3) _ (by rw [reqs_get hn (by omega)]; rfl); rw [← Nat.add_assoc] at this; exact this) hk

theorem Held.slen (H : Held h s 4 (reqs l)) : s.len = l.length := by have := H.len; rw [reqs_length] at this; omega
theorem Held.some (H : Held h s 4 (reqs l)) (hn : n < l.length) : ∃ p, s.p = some p := by
  cases hp : s.p with
  | none => have := H.nil hp; have := Held.slen H; omega
  | some p => exact ⟨p, rfl⟩

end

/-- Where a call of a value answers P, and leaves what was known. -/
def Asks (U : Ifc) (f : V) (P : Req → Bool) (S : Nat → Prop) (h : Heap) : Prop :=
  ∀ q h1 κ, Keeps S h h1 → (∀ h2, Keeps none_ h1 h2 → κ (.bool (P q)) h2) → U.callV f [.agg q.cells] κ h1

theorem index_of {U : Ifc} {f : V} {P : Req → Bool} {h : Heap} {s : Sl} {l : List Req} (H : Held h s 4 (reqs l)) (hl : l.length ≤ 1000000) (hf : Asks U f P none_ h)
    {Q : Int → Heap → Prop} (hq : ∀ h', Keeps none_ h h' → Q (match l.findIdx? P with | some i => (i : Int) | none => -1) h') : slices_IndexFunc_disk_Request_disk_Request U s f Q h := by
  unfold slices_IndexFunc_disk_Request_disk_Request slices_IndexFunc_disk_Request_disk_Request.j2
  intro I hI
  have key : ∀ (m j : Nat) (h1 : Heap), l.length = j + m → Keeps none_ h h1 → (∀ i q, i < j → l[i]? = some q → P q = false) → I s f s.len j h1 := by
    intro m
    induction m with
    | zero =>
      intro j h1 hj k hno
      refine hI _ _ _ _ _ ?_
      unfold slices_IndexFunc_disk_Request_disk_Request.b2
      refine br_f (by simp [Held.slen H]; omega) ?_
      have : l.findIdx? P = none := by
        rw [List.findIdx?_eq_none_iff]
        intro q hq
        obtain ⟨i, hi⟩ := List.getElem?_of_mem hq
        have hlt : i < l.length := by rcases Nat.lt_or_ge i l.length with h | h; exact h; rw [List.getElem?_eq_none h] at hi; cases hi
        exact hno i q (by omega) hi
      have := hq h1 k
      simp only [‹l.findIdx? P = none›] at this
      exact this
    | succ m ih =>
      intro j h1 hj k hno
      refine hI _ _ _ _ _ ?_
      unfold slices_IndexFunc_disk_Request_disk_Request.b2
      have hlt : j < l.length := by omega
      obtain ⟨p, hp⟩ := Held.some H hlt
      have hn : l[j]? = some l[j] := List.getElem?_eq_getElem hlt
      have H1 := H.keeps k (fun _ _ f => f)
      refine br_t (by simp [Held.slen H]; omega) (ix_of (by omega) (by rw [Held.slen H]; omega) ?_)
      rw [hp, der_some, Int.toNat_natCast]
      refine rd0 H1 hp hn (rd1 H1 hp hn (rd2 H1 hp hn (rd3 H1 hp hn ?_)))
      refine hf l[j] h1 _ k (fun h2 k2 => ?_)
      show asB (.bool (P l[j])) _
      refine br_if (fun ht => ?_) (fun hf' => ?_)
      · have : l.findIdx? P = some j := by
          rw [List.findIdx?_eq_some_iff_getElem]
          exact ⟨hlt, ht, fun i hi => by have := hno i l[i] hi (List.getElem?_eq_getElem (by omega)); simp [this]⟩
        have := hq h2 (k.trans k2)
        simp only [‹l.findIdx? P = _›] at this
        exact this
      · rw [wrap64]
        have := ih (j + 1) h2 (by omega) (k.trans k2) (fun i q hi hq' => by
          by_cases e : i = j
          · subst e; rw [hn] at hq'; cases hq'; exact hf'
          · exact hno i q (by omega) hq')
        simpa using this
  have := key l.length 0 h (by omega) (Keeps.refl _ _) (by intro i q hi; omega)
  simpa using this

theorem contains_of {U : Ifc} {f : V} {P : Req → Bool} {h : Heap} {s : Sl} {l : List Req} (H : Held h s 4 (reqs l)) (hl : l.length ≤ 1000000) (hf : Asks U f P none_ h)
    {Q : Bool → Heap → Prop} (hq : ∀ h', Keeps none_ h h' → Q (l.any P) h') : slices_ContainsFunc_disk_Request_disk_Request U s f Q h := by
  unfold slices_ContainsFunc_disk_Request_disk_Request
  refine index_of H hl hf (fun h' k => ?_)
  have e : decide ((match l.findIdx? P with | some i => (i : Int) | none => -1) ≥ 0) = l.any P := by
    cases hx : l.findIdx? P with
    | none =>
      rw [List.findIdx?_eq_none_iff] at hx
      have : l.any P = false := by rw [List.any_eq_false]; intro q hq; simp [hx q hq]
      rw [this]; rfl
    | some i =>
      rw [List.findIdx?_eq_some_iff_getElem] at hx
      obtain ⟨hi, ht, _⟩ := hx
      have : l.any P = true := List.any_eq_true.2 ⟨l[i], List.getElem_mem hi, ht⟩
      rw [this]; simp
  rw [e]
  exact hq h' k

theorem splice_mid {A B v : List V} {o : Nat} (ho : o = A.length) (hl : v.length ≤ B.length) : splice (A ++ B) o v = A ++ (v ++ B.drop v.length) := by
  subst ho
  simp [splice, List.drop_append]

theorem delete_of {U : Ifc} {f : V} {P : Req → Bool} {h : Heap} {s : Sl} {b : Nat} {l : List Req} (O : Own h s 4 (reqs l) b) (hl : l.length ≤ 1000000) (hf : Asks U f P (· = b) h)
    {Q : Sl → Heap → Prop} (hq : ∀ s' h', Own h' s' 4 (reqs (l.filter (fun q => !P q))) b → s'.cap = s.cap → Keeps (· = b) h h' → Q s' h') : slices_DeleteFunc_disk_Request_disk_Request U s f Q h := by
  unfold slices_DeleteFunc_disk_Request_disk_Request
  have H := O.held
  have hs0 : Asks U f P none_ h := fun q h1 κ k hk => hf q h1 κ (k.mono (fun _ f => f.elim)) hk
  have hslen := Held.slen H
  refine index_of H hl hs0 (fun h0 k0 => ?_)
  have O0 := O.keeps k0 (fun f => f)
  cases hx : l.findIdx? P with
  | none =>
    refine br_t (by simp) (hq s h0 ?_ rfl (k0.mono (fun _ f => f.elim)))
    have : l.filter (fun q => !P q) = l := by
      rw [List.filter_eq_self]
      rw [List.findIdx?_eq_none_iff] at hx
      intro q hq; simp [hx q hq]
    rw [this]; exact O0
  | some i0 =>
    rw [List.findIdx?_eq_some_iff_getElem] at hx
    obtain ⟨hi0, hpi, hno⟩ := hx
    refine br_f (by simp <;> omega) ?_
    obtain ⟨rest, mk, ho, hr⟩ := O0.obj
    unfold slices_DeleteFunc_disk_Request_disk_Request.j5
    intro I hI
    have key : ∀ (m j i : Nat) (kept : List Req) (mid : List V) (h1 : Heap), l.length = j + m → i = kept.length → kept = (l.take j).filter (fun q => !P q) → kept.length * 4 + mid.length = j * 4 → 4 ≤ mid.length →
        h1.obj b = some (.cells (reqs kept ++ (mid ++ (reqs (l.drop j) ++ rest))) mk) → Keeps (· = b) h h1 → I s f i j h1 := by
      intro m
      induction m with
      | zero =>
        intro j i kept mid h1 hj hi hkept hmid hmid4 ho1 k1
        refine hI _ _ _ _ _ ?_
        unfold slices_DeleteFunc_disk_Request_disk_Request.b5
        have hjl : j = l.length := by omega
        have hkl : kept.length ≤ l.length := by omega
        refine br_f (by simp; omega) ?_
        have hc := O.cap
        refine sb_of (by omega) (by omega) ?_
        rw [Int.toNat_natCast, O.p]
        have hd0 : reqs (l.drop j) = [] := by rw [List.drop_of_length_le (by omega)]; rfl
        rw [hd0, List.nil_append] at ho1
        have hmidl : mid.length = (s.len - i) * 4 := by omega
        have hzz : (flatRep (s.len - i) [V.int .i64 0, .bool false, .int .i64 0, .int .i64 0]).length = mid.length := by rw [flatRep_length, hmidl]; rfl
        have hslp : ∃ o, slp (some (⟨b, 0⟩ : Ptr)) (i * 4) i s.cap = some ⟨b, o⟩ ∧ o = i * 4 := by
          unfold slp
          rw [if_neg (by omega)]
          exact ⟨i * 4, by simp [Ptr.add], rfl⟩
        obtain ⟨o, hso, hoo⟩ := hslp
        refine clearS_of (b := b) (o := o) (L := reqs kept ++ (mid ++ rest)) (mk := mk) hso ho1 ?_ (fun h2 ho2 k2 => ?_)
        · rw [hzz]; simp [reqs_length]; omega
        · refine sb_of (by omega) (by omega) ?_
          rw [Int.toNat_natCast]
          rw [splice_mid (by rw [reqs_length]; omega) (by rw [hzz]; simp)] at ho2
          rw [hzz, List.drop_left] at ho2
          refine hq _ h2 ⟨?_, ?_, ?_, ?_⟩ rfl (k1.trans k2)
          · show slp (some (⟨b, 0⟩ : Ptr)) (0 * 4) 0 s.cap = _
            unfold slp; split <;> rfl
          · show i - 0 ≤ s.cap - 0; omega
          · rw [reqs_length]
            have : l.filter (fun q => !P q) = kept := by rw [hkept, List.take_of_length_le (by omega)]
            rw [this]; show _ = (i - 0) * 4; omega
          · have : l.filter (fun q => !P q) = kept := by rw [hkept, List.take_of_length_le (by omega)]
            rw [this]
            refine ⟨_, mk, ho2, ?_⟩
            show _ = (s.cap - 0 - (i - 0)) * 4
            simp only [List.length_append, hzz, hr, hmidl]; omega
      | succ m ih =>
        intro j i kept mid h1 hj hi hkept hmid hmid4 ho1 k1
        refine hI _ _ _ _ _ ?_
        unfold slices_DeleteFunc_disk_Request_disk_Request.b5
        have hlt : j < l.length := by omega
        have hn : l[j]? = some l[j] := List.getElem?_eq_getElem hlt
        have hdrop : l.drop j = l[j] :: l.drop (j + 1) := List.drop_eq_getElem_cons hlt
        refine br_t (by simp; omega) (ix_of (by omega) (by omega) ?_)
        rw [O.p, der_some, Int.toNat_natCast]
        have hget : ∀ c, c < 4 → h1.get b (0 + j * 4 + c) = (l[j]).cells[c]? := by
          intro c hc
          rw [get_cells ho1, hdrop, reqs_cons, List.getElem?_append_right (by rw [reqs_length]; omega), List.getElem?_append_right (by rw [reqs_length]; omega), List.append_assoc, List.getElem?_append_left (by rw [reqs_length]; simp [Req.cells]; omega)]
          congr 1; rw [reqs_length]; omega
        refine rdI_of (hget 0 (by omega)) (rdB_of (hget 1 (by omega)) (rdI_of (hget 2 (by omega)) (rdI_of (hget 3 (by omega)) ?_)))
        refine al_wrL rfl (fun b7 h2 hb7 ho7 k2 => ?_)
        refine loc_I ho7 rfl (loc_B ho7 rfl (loc_I ho7 rfl (loc_I ho7 rfl ?_)))
        have k12 : Keeps (· = b) h h2 := k1.trans (k2.mono (fun _ f => f.elim))
        refine hf l[j] h2 _ k12 (fun h3 k3 => ?_)
        have ho7 := k3.obj ho7 (fun f => f)
        have ho3 := k3.obj (k2.obj ho1 (fun f => f)) (fun f => f)
        have k13 : Keeps (· = b) h h3 := k12.trans (k3.mono (fun _ f => f.elim))
        show asB (.bool (P l[j])) _
        have htk : (l.take (j + 1)).filter (fun q => !P q) = kept ++ (if P l[j] then [] else [l[j]]) := by
          rw [List.take_succ_eq_append_getElem hlt, List.filter_append, ← hkept]
          cases hpp : P l[j] <;> simp [List.filter_cons, hpp]
        refine br_if (fun hpf => ?_) (fun hpt => ?_)
        · have hpf : P l[j] = false := by simpa using hpf
          rw [hpf] at htk
          simp only [Bool.false_eq_true, if_false] at htk
          refine loc_I ho7 rfl (loc_B ho7 rfl (loc_I ho7 rfl (loc_I ho7 rfl ?_)))
          refine ix_of (by omega) (by omega) ?_
          rw [der_some, Int.toNat_natCast]
          refine wrL_of (b := b) (o := 0 + i * 4) (j := 0) ho3 ?_ (fun h4 ho4 k4 => ?_)
          · simp [reqs_length]; omega
          · unfold slices_DeleteFunc_disk_Request_disk_Request.j6
            rw [splice_mid (by rw [reqs_length]; omega) (by simp; omega), hdrop, reqs_cons] at ho4
            rw [wrap64, wrap64]
            have := ih (j + 1) (i + 1) (kept ++ [l[j]]) ((mid ++ (l[j]).cells).drop 4) h4 (by omega) (by simp [hi]) htk.symm (by simp [Req.cells]; omega) (by simp [Req.cells]; omega) ?_ (k13.trans k4)
            · simpa using this
            · rw [ho4, reqs_append, reqs_cons]
              congr 2
              simp only [reqs, List.flatMap_nil, List.append_nil, List.append_assoc, List.length_cons, List.length_nil]
              show _ = _ ++ ((l[j]).cells ++ _)
              congr 1
              show (l[j]).cells ++ _ = _
              congr 1
              rw [← List.append_assoc mid, ← List.append_assoc ((mid ++ (l[j]).cells).drop 4), ← List.append_assoc (mid ++ (l[j]).cells)]
              rw [List.drop_append_of_le_length (by simp; omega), List.drop_append_of_le_length (by simp; omega)]
        · have hpt : P l[j] = true := by simpa using hpt
          rw [hpt] at htk
          simp only [if_true, List.append_nil] at htk
          unfold slices_DeleteFunc_disk_Request_disk_Request.j6
          rw [wrap64]
          have := ih (j + 1) i kept (mid ++ (l[j]).cells) h3 (by omega) hi htk.symm (by simp [Req.cells]; omega) (by simp [Req.cells] <;> omega) ?_ k13
          · simpa using this
          · rw [ho3, hdrop, reqs_cons]; simp
    dsimp only
    rw [wrap64]
    have hk0 : (l.take i0).filter (fun q => !P q) = l.take i0 := by
      rw [List.filter_eq_self]
      intro q hq
      obtain ⟨i, hi⟩ := List.getElem?_of_mem hq
      have hlt : i < (l.take i0).length := by rcases Nat.lt_or_ge i (l.take i0).length with h | h; exact h; rw [List.getElem?_eq_none h] at hi; cases hi
      simp only [List.length_take] at hlt
      rw [List.getElem?_take_of_lt (by omega), List.getElem?_eq_getElem (by omega)] at hi
      cases hi
      have := hno i (by omega)
      simpa using this
    have htk1 : (l.take (i0 + 1)).filter (fun q => !P q) = l.take i0 := by
      rw [List.take_succ_eq_append_getElem hi0, List.filter_append, hk0]
      simp [List.filter_cons, hpi]
    have := key (l.length - (i0 + 1)) (i0 + 1) i0 (l.take i0) (l[i0]).cells h0 (by omega) (by simp; omega) htk1.symm (by simp [Req.cells]; omega) (by simp [Req.cells]) ?_ (k0.mono (fun _ f => f.elim))
    · simpa using this
    · rw [ho]
      congr 2
      have hsplit : l = l.take i0 ++ (l[i0] :: l.drop (i0 + 1)) := by rw [← List.drop_eq_getElem_cons hi0, List.take_append_drop]
      have : reqs l = reqs (l.take i0) ++ ((l[i0]).cells ++ reqs (l.drop (i0 + 1))) := by rw [← reqs_cons, ← reqs_append, ← hsplit]
      rw [this]; simp

end Go.Disk
