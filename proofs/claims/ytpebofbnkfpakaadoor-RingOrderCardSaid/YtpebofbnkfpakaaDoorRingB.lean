/- Chains, and what Next takes. -/
import Derived.Test.YtpebofbnkfpakaaDoorRingA
set_option linter.unusedSimpArgs false
set_option linter.unusedVariables false
set_option maxRecDepth 100000
namespace Go.Ring
open Go.Lift Go.Fn Go.Mem

structure Part where
  at_ : Int
  len : Int
  write : Bool

def Part.cells (p : Part) : List V := [.int .u64 p.at_, .int .i64 p.len, .bool p.write]
def parts (l : List Part) : List V := l.flatMap Part.cells

theorem parts_length (l : List Part) : (parts l).length = l.length * 3 := by
  induction l with
  | nil => rfl
  | cons r l ih => simp only [parts, List.flatMap_cons, List.length_append, List.length_cons] at ih ⊢; rw [ih]; simp [Part.cells]; omega
theorem parts_append (a b : List Part) : parts (a ++ b) = parts a ++ parts b := by simp [parts]
theorem parts_get : ∀ {l : List Part} {n : Nat} {r : Part} {j : Nat}, l[n]? = some r → j < 3 → (parts l)[n * 3 + j]? = r.cells[j]?
  | [], n, r, j, h, _ => by cases h
  | q :: l, 0, r, j, h, hj => by
    cases h
    show (q.cells ++ parts l)[_]? = _
    rw [Nat.zero_mul, Nat.zero_add, List.getElem?_append_left (by simp [Part.cells]; exact hj)]
  | q :: l, n + 1, r, j, h, hj => by
    show (q.cells ++ parts l)[_]? = _
    rw [List.getElem?_append_right (by simp [Part.cells]; omega)]
    have : (n + 1) * 3 + j - q.cells.length = n * 3 + j := by simp [Part.cells]; omega
    rw [this]
    exact parts_get (by simpa using h) hj

/-- Parts as they may be: what is written stands behind what is read. -/
structure Good (l : List Part) : Prop where
  len : ∀ p ∈ l, 1 ≤ p.len ∧ p.len ≤ 4096
  ord : ∀ (j : Nat) p q, l[j]? = some p → l[j + 1]? = some q → p.write = true → q.write = true

theorem Good.nil : Good [] := ⟨fun _ h => (by cases h), fun j p q h => (by simp at h)⟩
theorem Good.add {l : List Part} {p : Part} (g : Good l) (h : 1 ≤ p.len ∧ p.len ≤ 4096) (hw : ∀ q, l[l.length - 1]? = some q → q.write = true → p.write = true) : Good (l ++ [p]) := by
  refine ⟨fun q hq => ?_, fun j a b ha hb hwr => ?_⟩
  · rcases List.mem_append.1 hq with hq | hq
    · exact g.len q hq
    · simp at hq; subst hq; exact h
  · rcases Nat.lt_or_ge (j + 1) l.length with hj | hj
    · rw [List.getElem?_append_left (by omega)] at ha hb; exact g.ord j a b ha hb hwr
    · have : j + 1 = l.length := by
        rcases Nat.lt_or_ge (j + 1) (l.length + 1) with h | h
        · omega
        · rw [List.getElem?_eq_none (by simp; omega)] at hb; cases hb
      rw [List.getElem?_append_right (by omega), this, Nat.sub_self] at hb
      cases hb
      rw [List.getElem?_append_left (by omega)] at ha
      exact hw a (by rw [← this]; exact ha) hwr

/-- A ring's cells. -/
def rng (a n t g : Int) (broken : Bool) : List V := [.int .u64 a, .int .u64 n, .int .u64 t, .int .u64 g, .bool broken]

section
variable {U U' : Ifc} {h h' : Heap} {x : Nat → Int} {pm bm rb rg : Nat} {bs : List UInt8} {bad : Bool}

theorem Held.plen {s : Sl} {l : List Part} (H : Held h s 3 (parts l)) : s.len = l.length := by have := H.len; rw [parts_length] at this; omega
theorem Held.psome {s : Sl} {l : List Part} {n : Nat} (H : Held h s 3 (parts l)) (hn : n < l.length) : ∃ p, s.p = some p := by
  cases hp : s.p with
  | none => have := H.nil hp; have := Held.plen H; omega
  | some p => exact ⟨p, rfl⟩
theorem prd1 {s : Sl} {l : List Part} {p : Ptr} {n : Nat} {r : Part} (H : Held h s 3 (parts l)) (hp : s.p = some p) (hn : l[n]? = some r) {κ : Int → Prop} (hk : κ r.len) : rdI .i64 ((p.add (n * 3)).add 1) κ h := rdI_of (by have := H.row p hp (n * 3 + 1) _ (by rw [parts_get hn (by omega)]; rfl); rw [← Nat.add_assoc] at this; exact this) hk
theorem prd2 {s : Sl} {l : List Part} {p : Ptr} {n : Nat} {r : Part} (H : Held h s 3 (parts l)) (hp : s.p = some p) (hn : l[n]? = some r) {κ : Bool → Prop} (hk : κ r.write) : rdB ((p.add (n * 3)).add 2) κ h := rdB_of (by have := H.row p hp (n * 3 + 2) _ (by rw [parts_get hn (by omega)]; rfl); rw [← Nat.add_assoc] at this; exact this) hk

theorem chain_of (u : RU U U') (w : Wid U' h x) (M : Mem.Rep pm bm bs h) (ho : h.obj rb = some (.cells (rdr pm bad) false)) {ra rn rt rgv : Int} {rbr : Bool} (hring : h.obj rg = some (.cells (rng ra rn rt rgv rbr) false))
    (hg : U'.glob 1 ≠ rb) (hp : pm ≠ rb) (hbm : bm ≠ rb) (hrg : rg ≠ rb) {n : Nat} (hn : rn = n) (hn64 : n ≤ 64) {head : Int} (hh : 0 ≤ head ∧ head ≤ 18446744073709551615) {Q : Int → Sl → Bool → Heap → Prop}
    (hq0 : ∀ r1 r2 h', Keeps (· = rb) h h' → Q r1 r2 false h')
    (hq1 : ∀ P s h', 1 ≤ P.length → P.length ≤ n → Good P → Held h' s 3 (parts P) → (∀ p, s.p = some p → h.obj p.b = none) → head < n → Keeps (· = rb) h h' → Q head s true h') : ring_Ring_chain U (some ⟨rg, 0⟩) (some ⟨rb, 0⟩) head Q h := by
  unfold ring_Ring_chain
  refine al_of (fun b1 h1 hb1 ho1 k1 => ?_)
  rw [der_some]
  refine loc_I (k1.obj hring (fun f => f)) rfl ?_
  rw [hn]
  unfold ring_Ring_chain.j3
  intro I H
  have hrb1 : rb ≠ b1 := Heap.ne_of ho hb1
  -- a block that was known stays apart
  have over : ∀ (S : Nat → Prop) (g g' : Heap), Keeps (· = rb) h g → Keeps S g g' → (∀ z, S z → z = rb ∨ h.obj z = none) → Keeps (· = rb) h g' := by
    intro S g g' k k' hs
    refine ⟨fun z hz hne => ?_, fun z hz => k'.known z (k.known z hz)⟩
    rw [k'.same z (k.known z hz) (fun hS => (hs z hS).elim hne hz)]
    exact k.same z hz hne
  have key : ∀ (m i : Nat) (at_ : Int) (bad : Bool) (P : List Part) (s : Sl) (g : Heap), i + m = n → P.length = i → Good P → (0 < i → head < n) → (i = 0 → at_ = head) → (0 ≤ at_ ∧ at_ ≤ 18446744073709551615) →
      g.obj rb = some (.cells (rdr pm bad) false) → g.obj b1 = some (.cells [.int .i64 0, .sl s] false) → ((s = ⟨none, 0, 0⟩ ∧ P = []) ∨ ∃ b, Own g s 3 (parts P) b ∧ h.obj b = none ∧ b ≠ b1) → Keeps (· = rb) h g →
      I (some ⟨rg, 0⟩) (some ⟨rb, 0⟩) head ⟨b1, 0⟩ false at_ (n : Int) (i : Int) g := by
    intro m
    induction m with
    | zero =>
      intro i at_ bad P s g hi hP hG hhd hat hr gor go1 hs kg
      refine H _ _ _ _ _ _ _ _ _ ?_
      unfold ring_Ring_chain.b3
      refine br_f (by simp; omega) ?_
      refine loc_wr go1 rfl (fun g1 go1' q1 => loc_I go1' rfl (loc_Sl go1' rfl ?_))
      refine ret2_of rfl go1' (fun g2 q2 => hq0 _ _ g2 ?_)
      exact over (· = b1) g1 g2 (over (· = b1) g g1 kg q1 (fun z e => .inr (e ▸ hb1))) q2 (fun z e => .inr (e ▸ hb1))
    | succ m ih =>
      intro i at_ bad P s g hi hP hG hhd hat hr gor go1 hs kg
      refine H _ _ _ _ _ _ _ _ _ ?_
      unfold ring_Ring_chain.b3
      have zero : ∀ (g' : Heap) (l : List V), l.length = 2 → g'.obj b1 = some (.cells l false) → Keeps (· = rb) h g' → wrL [.int .i64 0, .sl ⟨none, 0, 0⟩] (⟨b1, 0⟩ : Ptr) 0 (fun h => rdI .i64 ((⟨b1, 0⟩ : Ptr).add 0) (fun x3 => rdSl ((⟨b1, 0⟩ : Ptr).add 1) (fun x4 => Q x3 x4 false h) h) h) g' := by
        intro g' l hl go kg'
        exact ret2_of hl go (fun g2 q2 => hq0 _ _ g2 (over (· = b1) g' g2 kg' q2 (fun z e => .inr (e ▸ hb1))))
      refine br_t (by simp; omega) ?_
      rw [der_some]
      have gring := kg.obj hring hrg
      refine loc_I gring rfl (br_if (fun _ => zero g _ rfl go1 kg) (fun hlt => ?_))
      have hlt : at_ < n := by
        have : decide (at_ ≥ rn) = false := hlt
        rw [hn] at this; simpa using this
      rw [der_some]
      refine loc_I gring rfl ?_
      have wg : Wid U' g x := w.keeps kg hg
      have Mg : Mem.Rep pm bm bs g := M.keeps kg hp hbm
      refine part_of u wg Mg gor hg hp hbm (fun r1 r2 r3 r4 r5 bad' g1 hlen gor1 hr4 q1 => ?_)
      have kg1 := kg.trans q1
      have go1 := q1.obj go1 (fun e => hrb1 e.symm)
      refine al_wrL rfl (fun b12 g2 hb12 ho12 q2 => ?_)
      have kg2 := kg1.trans (q2.mono (fun _ f => f.elim))
      have h12 : h.obj b12 = none := Mem.fresh_of kg1 hb12
      have hne12 : b1 ≠ b12 := Heap.ne_of go1 hb12
      have go1 := q2.obj go1 (fun f => f)
      have gor2 := q2.obj gor1 (fun f => f)
      refine loc_Sl go1 rfl ?_
      have hs2 : (s = ⟨none, 0, 0⟩ ∧ P = []) ∨ ∃ b, Own g2 s 3 (parts P) b ∧ h.obj b = none ∧ b ≠ b1 := by
        rcases hs with hs | ⟨b, O, hb, hbb⟩
        · exact .inl hs
        · exact .inr ⟨b, (O.keeps q1 (fun e => by rw [e, ho] at hb; cases hb)).keeps q2 (fun f => f), hb, hbb⟩
      have Hs : Held g2 s 3 (parts P) := by
        rcases hs2 with ⟨rfl, rfl⟩ | ⟨b, O, _⟩
        · exact Held.empty
        · exact O.held
      have hslen := Held.plen Hs
      unfold ring_Ring_chain.j8
      rw [der_some]
      have j9 : ring_Ring_chain.j9 U I ⟨b1, 0⟩ Q g2 := by
        unfold ring_Ring_chain.j9
        exact zero g2 _ rfl go1 kg2
      refine loc_B gor2 rfl (br_if (fun _ => j9) (fun hbad => ?_))
      obtain ⟨hl1, hl2⟩ := hlen hbad
      have fin : (∀ q, P[P.length - 1]? = some q → q.write = true → r3 = true) → ring_Ring_chain.j10 U I (some ⟨rg, 0⟩) (some ⟨rb, 0⟩) head ⟨b1, 0⟩ ⟨b12, 0⟩ r4 r5 (n : Int) (i : Int) Q g2 := by
        intro hw
        unfold ring_Ring_chain.j10
        have hG' : Good (P ++ [⟨r1, r2, r3⟩]) := hG.add ⟨hl1, hl2⟩ hw
        refine loc_Sl go1 rfl (loc_I ho12 rfl (loc_I ho12 rfl (loc_B ho12 rfl ?_)))
        refine al_of (fun b5 g3 hb5 ho5 q3 => ?_)
        have kg3 := kg2.trans (q3.mono (fun _ f => f.elim))
        have go1 := q3.obj go1 (fun f => f)
        have gor3 := q3.obj gor2 (fun f => f)
        refine rdN_held (vs := Part.cells ⟨r1, r2, r3⟩) rfl (fun j v hv => by rw [get_cells ho5, Nat.zero_add]; exact hv) ?_
        have after : ∀ s' g4 b', Own g4 s' 3 (parts (P ++ [⟨r1, r2, r3⟩])) b' → h.obj b' = none → b' ≠ b1 → Keeps (· = rb) h g4 → g4.obj b1 = some (.cells [.int .i64 0, .sl s] false) → g4.obj rb = some (.cells (rdr pm bad') false) →
            wr ((⟨b1, 0⟩ : Ptr).add 1) (.sl s') (fun h => br (!r5) (wr ((⟨b1, 0⟩ : Ptr).add 0) (.int .i64 (IntKind.i64.wrap head)) (fun h => rdI .i64 ((⟨b1, 0⟩ : Ptr).add 0) (fun x8 => rdSl ((⟨b1, 0⟩ : Ptr).add 1) (fun x9 => wrL [.int .i64 x8, .sl x9] (⟨b1, 0⟩ : Ptr) 0 (fun h => rdI .i64 ((⟨b1, 0⟩ : Ptr).add 0) (fun x10 => rdSl ((⟨b1, 0⟩ : Ptr).add 1) (fun x11 => Q x10 x11 (!r5) h) h) h) h) h) h) h) (I (some ⟨rg, 0⟩) (some ⟨rb, 0⟩) head ⟨b1, 0⟩ (!r5) r4 (n : Int) (IntKind.u64.wrap ((i : Int) + 1)) h)) g4 := by
          intro s' g4 b' O hb' hbb kg4 go1 gor4
          refine loc_wr go1 rfl (fun g5 go5 q5 => ?_)
          have kg5 := over (· = b1) g4 g5 kg4 q5 (fun z e => .inr (e ▸ hb1))
          have O5 := O.keeps q5 hbb
          have hhead : head < n := by
            by_cases e : i = 0
            · rw [← hat e]; exact hlt
            · exact hhd (by omega)
          refine br_if (fun hm => ?_) (fun hm => ?_)
          · have hm : r5 = false := by simpa using hm
            subst hm
            refine loc_wr go5 rfl (fun g6 go6 q6 => loc_I go6 rfl (loc_Sl go6 rfl ?_))
            refine ret2_of rfl go6 (fun g7 q7 => ?_)
            have kg6 := over (· = b1) g5 g6 kg5 q6 (fun z e => .inr (e ▸ hb1))
            have kg7 := over (· = b1) g6 g7 kg6 q7 (fun z e => .inr (e ▸ hb1))
            have ew : IntKind.i64.wrap head = head := wrap64
            rw [ew]
            exact hq1 _ s' g7 (by simp) (by simp; omega) hG' ((O5.keeps q6 hbb).keeps q7 hbb).held (fun p hp => by rw [O.p] at hp; cases hp; exact hb') hhead kg7
          · have hm : r5 = true := by simpa using hm
            subst hm
            rw [wrapu64]
            have := ih (i + 1) r4 bad' _ s' g5 (by omega) (by simp [hP]) hG' (fun _ => hhead) (fun e => by omega) hr4 (q5.obj gor4 (fun e => hrb1 e)) go5 (.inr ⟨b', O5, hb', hbb⟩) kg5
            simpa using this
        have hs3 : (s = ⟨none, 0, 0⟩ ∧ P = []) ∨ ∃ b, Own g3 s 3 (parts P) b ∧ h.obj b = none ∧ b ≠ b1 := by
          rcases hs2 with hs | ⟨b, O, hb, hbb⟩
          · exact .inl hs
          · exact .inr ⟨b, O.keeps q3 (fun f => f), hb, hbb⟩
        have hP64 : P.length ≤ 64 := by omega
        rcases hs3 with ⟨rfl, rfl⟩ | ⟨b, O, hb, hbb⟩
        · refine appS_nil (sz := 3) (bytes := 24) (m := 1) rfl (by omega) rfl (by omega) (by omega) (fun s' g4 b' O' hl' hbn q4 => ?_)
          refine after s' g4 b' O' (Mem.fresh_of kg3 hbn) (Heap.ne_of go1 hbn).symm (kg3.trans (q4.mono (fun _ f => f.elim))) (q4.obj go1 (fun f => f)) (q4.obj gor3 (fun f => f))
        · have hrbb : rb ≠ b := fun e => by rw [← e, ho] at hb; cases hb
          refine appS_own (sz := 3) (bytes := 24) (m := 1) O rfl rfl (by omega) (by omega) (fun s' g4 b' O' hl' hbq q4 => ?_)
          have hb'0 : h.obj b' = none := by rcases hbq with rfl | hbq; exact hb; exact Mem.fresh_of kg3 hbq
          have hbb' : b' ≠ b1 := by rcases hbq with rfl | hbq; exact hbb; exact (Heap.ne_of go1 hbq).symm
          refine after s' g4 b' (by rw [parts_append]; exact O') hb'0 hbb' (over (· = b) g3 g4 kg3 q4 (fun z e => .inr (e ▸ hb))) (q4.obj go1 hbb.symm) (q4.obj gor3 hrbb)
      refine br_if (fun hpos => ?_) (fun hz => ?_)
      · have hpos : 0 < P.length := by simp at hpos; omega
        refine loc_Sl go1 rfl ?_
        rw [wrap64]
        refine ix_of (by omega) (by omega) ?_
        obtain ⟨p, hp'⟩ := Held.psome Hs hpos
        rw [hp', der_some]
        have e1 : ((s.len : Int) - 1).toNat = P.length - 1 := by omega
        rw [e1]
        have hlast : P[P.length - 1]? = some P[P.length - 1] := List.getElem?_eq_getElem _
        refine prd2 Hs hp' hlast (br_if (fun hw => ?_) (fun hw => ?_))
        · refine loc_B ho12 rfl (br_if (fun _ => j9) (fun hr3 => fin (fun q _ _ => by simpa using hr3)))
        · refine fin (fun q hq hqw => ?_)
          rw [hlast] at hq; cases hq
          rw [hw] at hqw; cases hqw
      · have hz : P.length = 0 := by simp at hz; omega
        refine fin (fun q hq _ => ?_)
        rw [List.length_eq_zero_iff.1 hz] at hq; cases hq
  have := key n 0 head bad [] ⟨none, 0, 0⟩ h1 (by omega) rfl Good.nil (by omega) (fun _ => rfl) hh (k1.obj ho (fun f => f)) ho1 (.inl ⟨rfl, rfl⟩) (k1.mono (fun _ f => f.elim))
  simpa using this

end
end Go.Ring
