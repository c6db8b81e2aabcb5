/- Rings over a memory of words: exactly what is read, taken and given back. -/
import Derived.Test.YtpebofbnkfpakaaDoorRingB
import Derived.Test.YtpebofbnkfpakaaDoorMemSt
set_option linter.unusedSimpArgs false
set_option linter.unusedVariables false
set_option maxRecDepth 100000
namespace Go.Ring
open Go.Lift Go.Fn Go.Mem

def fl (w m : Bool) : Int := (if m then 1 else 0) + (if w then 2 else 0)

/-- A descriptor stands there. -/
structure Desc (x : Nat → Int) (bs : List UInt8) (K : Nat) (p : Part) (nx : Int) (more : Bool) : Prop where
  a : wd x bs K = p.at_
  l : wd x bs (K + 1) = p.len
  f : wd x bs (K + 2) = fl p.write more
  n : wd x bs (K + 3) = nx
  l1 : 1 ≤ p.len ∧ p.len ≤ 4096
  a1 : 0 ≤ p.at_ ∧ p.at_ ≤ 1099511627776 - p.len
  fits : 8 * (K + 4) ≤ bs.length

/-- The parts of a chain, from a descriptor on. -/
inductive Link (x : Nat → Int) (bs : List UInt8) (ka n : Nat) (R : List Part) : Int → List Part → Prop
  | last {d : Nat} {P : List Part} {p : Part} {nx : Int} : d < n → Desc x bs (ka + 4 * d) p nx false → (∀ q, P[P.length - 1]? = some q → q.write = true → p.write = true) → R = P ++ [p] → Link x bs ka n R (d : Int) P
  | more {d : Nat} {P : List Part} {p : Part} {nx : Int} : d < n → Desc x bs (ka + 4 * d) p nx true → (∀ q, P[P.length - 1]? = some q → q.write = true → p.write = true) → Link x bs ka n R nx (P ++ [p]) → Link x bs ka n R (d : Int) P

theorem Link.long {x : Nat → Int} {bs : List UInt8} {ka n : Nat} {R : List Part} {a : Int} {P : List Part} (L : Link x bs ka n R a P) : P.length < R.length := by
  induction L with
  | last _ _ _ e => rw [e]; simp
  | more _ _ _ _ ih => simp at ih; omega

section
variable {U U' : Ifc} {h h' : Heap} {x : Nat → Int} {pm bm rb rg : Nat} {bs : List UInt8}

theorem wd_range (x : Nat → Int) (bs : List UInt8) (k : Nat) : 0 ≤ wd x bs k ∧ wd x bs k ≤ 18446744073709551615 := ldVal_range _ _ _

theorem numk_of (u : RU U U') (w : Wid U' h x) (M : Mem.Rep pm bm bs h) (ho : h.obj rb = some (.cells (rdr pm false) false)) {k : Nat} (hk : 8 * k + 8 ≤ bs.length) {a : Int} (ea : a = ((8 * k : Nat) : Int)) {Q : Int → Heap → Prop}
    (hq : ∀ h', h'.obj rb = some (.cells (rdr pm false) false) → Keeps (· = rb) h h' → Q (wd x bs k) h') : ring_reader_number U (some ⟨rb, 0⟩) a Q h := by
  subst ea
  have hs := M.size
  refine number_of u w M ho (by omega) (by omega) (fun h' ho' k' => ?_)
  rw [ldErr_right hk] at ho'
  exact hq h' ho' k'

theorem fl_bits (w m : Bool) : (ibits .and .u64 (fl w m) 2 != 0) = w ∧ (ibits .and .u64 (fl w m) 1 != 0) = m ∧ fl w m ≤ 3 ∧ 0 ≤ fl w m := by
  cases w <;> cases m <;> decide

theorem part_ex (u : RU U U') (w : Wid U' h x) (M : Mem.Rep pm bm bs h) (ho : h.obj rb = some (.cells (rdr pm false) false)) (hg : U'.glob 1 ≠ rb) (hp : pm ≠ rb) (hbm : bm ≠ rb) {K : Nat} {p : Part} {nx : Int} {more : Bool} (D : Desc x bs K p nx more) {a : Int} (ea : a = ((8 * K : Nat) : Int))
    {Q : Int → Int → Bool → Int → Bool → Heap → Prop}
    (hq : ∀ h', h'.obj rb = some (.cells (rdr pm false) false) → Keeps (· = rb) h h' → Q p.at_ p.len p.write nx more h') : ring_reader_part U (some ⟨rb, 0⟩) a Q h := by
  unfold ring_reader_part
  have hs := M.size
  have hfit := D.fits
  refine al_of (fun b1 h1 hb1 ho1 k1 => al_of (fun b2 h2 hb2 ho2 k2 => ?_))
  have ho1 := k2.obj ho1 (fun f => f)
  have k02 := k1.trans k2
  have hrb1 : rb ≠ b1 := Heap.ne_of ho hb1
  have hrb2 : rb ≠ b2 := Heap.ne_of (k1.obj ho (fun f => f)) hb2
  have hb12 : b1 ≠ b2 := Heap.ne_of (by assumption) hb2
  unfold ring_reader_part.j3
  intro I H
  have key : ∀ (m i : Nat) (l : List Int) (g : Heap), i + m = 4 → l.length = 4 → (∀ j, j < i → l[j]? = some (wd x bs (K + j))) → g.obj rb = some (.cells (rdr pm false) false) → g.obj b1 = some (.cells [.int .u64 0, .int .i64 0, .bool false] false) → g.obj b2 = some (.cells (l.map (V.int .u64)) false) → Keeps (fun z => z = rb ∨ z = b2) h2 g → I (some ⟨rb, 0⟩) a ⟨b1, 0⟩ ⟨b2, 0⟩ (i : Int) g := by
    intro m
    induction m with
    | zero =>
      intro i l g hi hl hr gor go1 go2 kg
      refine H _ _ _ _ _ _ ?_
      unfold ring_reader_part.b3
      refine br_f (by simp; omega) ?_
      obtain ⟨l0, l1, l2, l3, rfl⟩ : ∃ l0 l1 l2 l3, l = [l0, l1, l2, l3] := by
        match l, hl with
        | [a, b, c, d], _ => exact ⟨a, b, c, d, rfl⟩
      have e0 := hr 0 (by omega)
      have e1 := hr 1 (by omega)
      have e2 := hr 2 (by omega)
      have e3 := hr 3 (by omega)
      simp only [List.getElem?_cons_zero, List.getElem?_cons_succ, Option.some.injEq] at e0 e1 e2 e3
      rw [Nat.add_zero, D.a] at e0
      rw [D.l] at e1
      rw [D.f] at e2
      rw [D.n] at e3
      subst e0 e1 e2 e3
      obtain ⟨hl1, hl2⟩ := D.l1
      obtain ⟨ha1, ha2⟩ := D.a1
      obtain ⟨f1, f2, f3, f4⟩ := fl_bits p.write more
      have k0g : Keeps (fun z => z = rb ∨ z = b2) h g := (k02.mono (fun _ f => f.elim)).trans kg
      have wide : ∀ (g' : Heap), Keeps (fun z => z = rb ∨ z = b1) g g' → Keeps (· = rb) h g' := by
        intro g' kk
        have : Keeps (fun z => z = rb ∨ z = b2 ∨ z = b1) h g' := (k0g.mono (fun z hz => hz.elim .inl (fun e => .inr (.inl e)))).trans (kk.mono (fun z hz => hz.elim .inl (fun e => .inr (.inr e))))
        refine ⟨fun z hz hn => this.same z hz ?_, this.known⟩
        rintro (e | e | e)
        · exact hn e
        · exact hz (e ▸ Mem.fresh_of k1 hb2)
        · exact hz (e ▸ hb1)
      refine ix_of (by omega) (by decide) (loc_I go2 rfl (br_f (by simp; omega) ?_))
      refine ix_of (by omega) (by decide) (loc_I go2 rfl (br_f (by simp; omega) ?_))
      refine ix_of (by omega) (by decide) (loc_I go2 rfl (br_f (by simp; omega) ?_))
      have ew : IntKind.u64.wrap (1099511627776 - p.len) = 1099511627776 - p.len := wrapu64
      refine ix_of (by omega) (by decide) (loc_I go2 rfl (ix_of (by omega) (by decide) (loc_I go2 rfl (br_f (by rw [ew]; simp; omega) ?_))))
      refine ix_of (by omega) (by decide) (loc_I go2 rfl (ix_of (by omega) (by decide) (loc_I go2 rfl (ix_of (by omega) (by decide) (loc_I go2 rfl (ix_of (by omega) (by decide) (loc_I go2 rfl (ix_of (by omega) (by decide) (loc_I go2 rfl ?_)))))))))
      have c2 : ∀ g', Keeps (· = b1) g g' → ck (((⟨b2, 0⟩ : Ptr)).add ((2 : Int).toNat * 1)) [V.int .u64 (fl p.write more)] 0 g' := fun g' kk => ⟨(get_cells (kk.obj go2 (fun e => hb12 e.symm)) _).trans rfl, trivial⟩
      have c3 : ∀ g', Keeps (· = b1) g g' → ck (((⟨b2, 0⟩ : Ptr)).add ((3 : Int).toNat * 1)) [V.int .u64 l3] 0 g' := fun g' kk => ⟨(get_cells (kk.obj go2 (fun e => hb12 e.symm)) _).trans rfl, trivial⟩
      refine ⟨c2 g (Keeps.refl _ _), c3 g (Keeps.refl _ _), ?_⟩
      refine wrL_of (j := 0) go1 (by simp) (fun g2 go2' q2 => ⟨c2 g2 q2, c3 g2 q2, ?_⟩)
      have e : ∀ (A B C : V), splice [V.int .u64 0, .int .i64 0, .bool false] (0 + 0) [A, B, C] = [A, B, C] := fun A B C => by simp [splice]
      rw [e] at go2'
      refine loc_I go2' rfl (loc_I go2' rfl (loc_B go2' rfl ?_))
      have e1 : IntKind.i64.wrap p.len = p.len := wrap64
      rw [f1, f2, e1]
      exact hq g2 (q2.obj gor hrb1) (wide g2 (q2.mono (fun z e => .inr e)))
    | succ m ih =>
      intro i l g hi hl hr gor go1 go2 kg
      refine H _ _ _ _ _ _ ?_
      unfold ring_reader_part.b3
      refine br_t (by simp; omega) ?_
      rw [der_some]
      refine loc_B gor rfl (br_t rfl ?_)
      have k0g : Keeps (fun z => z = rb ∨ z = b2) h g := (k02.mono (fun _ f => f.elim)).trans kg
      have nb2 : ∀ z, h.obj z ≠ none → z ≠ rb → ¬ (z = rb ∨ z = b2) := fun z hz hn hx => hx.elim hn (fun e => hz (e ▸ Mem.fresh_of k1 hb2))
      have wg : Wid U' g x := w.keeps k0g (nb2 _ w.known hg)
      have Mg : Mem.Rep pm bm bs g := M.keeps k0g (nb2 _ M.known1 hp) (nb2 _ M.known2 hbm)
      have eaddr : IntKind.u64.wrap (a + IntKind.u64.wrap (8 * IntKind.u64.wrap (i : Int))) = ((8 * (K + i) : Nat) : Int) := by
        have w1 : IntKind.u64.wrap (i : Int) = i := wrapu64
        have w2 : IntKind.u64.wrap (8 * (i : Int)) = 8 * i := wrapu64
        rw [w1, w2, ea, wrapu64]
        omega
      refine numk_of u wg Mg gor (k := K + i) (by omega) eaddr (fun g1 gor1 q1 => ?_)
      refine ix_of (by omega) (by show (i : Int) < ((4 : Nat) : Int); omega) ?_
      rw [Int.toNat_natCast]
      have go2' := q1.obj go2 (fun e => hrb2 e.symm)
      have go1' := q1.obj go1 (fun e => hrb1 e.symm)
      have hil : i < l.length := by omega
      refine loc_wr go2' (u := .int .u64 l[i]) (by rw [Nat.mul_one, Nat.zero_add]; simp [List.getElem?_eq_getElem hil]) (fun g2 go2'' q2 => ?_)
      rw [Nat.mul_one, Nat.zero_add] at go2''
      have hset : (l.map (V.int .u64)).set i (.int .u64 (wd x bs (K + i))) = (l.set i (wd x bs (K + i))).map (V.int .u64) := by rw [List.map_set]
      rw [hset] at go2''
      unfold ring_reader_part.j7
      rw [wrap64]
      have := ih (i + 1) (l.set i (wd x bs (K + i))) g2 (by omega) (by simp [hl]) (fun j hj => ?_) (q2.obj gor1 hrb2) (q2.obj go1' hb12) go2'' (kg.trans ((q1.mono (fun z e => .inl e)).trans (q2.mono (fun z e => .inr e))))
      · simpa using this
      · by_cases e : j = i
        · subst e; exact List.getElem?_set_self hil
        · rw [List.getElem?_set_ne (by omega)]; exact hr j (by omega)
  have := key 4 0 [0, 0, 0, 0] h2 rfl rfl (fun j hj => by omega) (k02.obj ho (fun f => f)) ho1 ho2 (Keeps.refl _ _)
  simpa using this

theorem chain_ex (u : RU U U') (w : Wid U' h x) (M : Mem.Rep pm bm bs h) (ho : h.obj rb = some (.cells (rdr pm false) false)) {ka : Nat} {ra rn rt rgv : Int} {rbr : Bool} (hra : ra = ((8 * ka : Nat) : Int)) (hring : h.obj rg = some (.cells (rng ra rn rt rgv rbr) false))
    (hg : U'.glob 1 ≠ rb) (hp : pm ≠ rb) (hbm : bm ≠ rb) (hrg : rg ≠ rb) {n : Nat} (hn : rn = n) (hn64 : n ≤ 64) {head : Int} {R : List Part} (L : Link x bs ka n R head []) (hR : R.length ≤ n) {Q : Int → Sl → Bool → Heap → Prop}
    (hq : ∀ s h', Held h' s 3 (parts R) → (∀ p, s.p = some p → h.obj p.b = none) → Keeps (· = rb) h h' → Q head s true h') : ring_Ring_chain U (some ⟨rg, 0⟩) (some ⟨rb, 0⟩) head Q h := by
  unfold ring_Ring_chain
  have hhead : 0 ≤ head ∧ head < n := by
    cases L with
    | last h1 _ _ _ => omega
    | more h1 _ _ _ => omega
  refine al_of (fun b1 h1 hb1 ho1 k1 => ?_)
  rw [der_some]
  refine loc_I (k1.obj hring (fun f => f)) rfl ?_
  rw [hn]
  unfold ring_Ring_chain.j3
  intro I H
  have hrb1 : rb ≠ b1 := Heap.ne_of ho hb1
  have over : ∀ (S : Nat → Prop) (g g' : Heap), Keeps (· = rb) h g → Keeps S g g' → (∀ z, S z → z = rb ∨ h.obj z = none) → Keeps (· = rb) h g' := by
    intro S g g' k k' hs
    refine ⟨fun z hz hne => ?_, fun z hz => k'.known z (k.known z hz)⟩
    rw [k'.same z (k.known z hz) (fun hS => (hs z hS).elim hne hz)]
    exact k.same z hz hne
  have key : ∀ (m i : Nat) (at_ : Int) (b0 : Bool) (P : List Part) (s : Sl) (g : Heap), i + m = n → P.length = i → Link x bs ka n R at_ P →
      g.obj rb = some (.cells (rdr pm false) false) → g.obj b1 = some (.cells [.int .i64 0, .sl s] false) → ((s = ⟨none, 0, 0⟩ ∧ P = []) ∨ ∃ b, Own g s 3 (parts P) b ∧ h.obj b = none ∧ b ≠ b1) → Keeps (· = rb) h g →
      I (some ⟨rg, 0⟩) (some ⟨rb, 0⟩) head ⟨b1, 0⟩ b0 at_ (n : Int) (i : Int) g := by
    intro m
    induction m with
    | zero =>
      intro i at_ b0 P s g hi hP L gor go1 hs kg
      have := L.long
      omega
    | succ m ih =>
      intro i at_ b0 P s g hi hP L gor go1 hs kg
      refine H _ _ _ _ _ _ _ _ _ ?_
      unfold ring_Ring_chain.b3
      refine br_t (by simp; omega) ?_
      rw [der_some]
      have gring := kg.obj hring hrg
      obtain ⟨d, p, nx, mr, hd, D, hord, hat, rest⟩ : ∃ (d : Nat) (p : Part) (nx : Int) (mr : Bool), d < n ∧ Desc x bs (ka + 4 * d) p nx mr ∧ (∀ q, P[P.length - 1]? = some q → q.write = true → p.write = true) ∧ at_ = (d : Int) ∧ ((mr = false ∧ R = P ++ [p]) ∨ (mr = true ∧ Link x bs ka n R nx (P ++ [p]))) := by
        cases L with
        | last a1 a2 a3 a4 => exact ⟨_, _, _, false, a1, a2, a3, rfl, .inl ⟨rfl, a4⟩⟩
        | more a1 a2 a3 a4 => exact ⟨_, _, _, true, a1, a2, a3, rfl, .inr ⟨rfl, a4⟩⟩
      refine loc_I gring rfl (br_f (by rw [hn, hat]; simp; omega) ?_)
      rw [der_some]
      refine loc_I gring rfl ?_
      have wg : Wid U' g x := w.keeps kg hg
      have Mg : Mem.Rep pm bm bs g := M.keeps kg hp hbm
      have hfit := D.fits
      have hs0 := M.size
      have eaddr : IntKind.u64.wrap (ra + IntKind.u64.wrap (32 * at_)) = ((8 * (ka + 4 * d) : Nat) : Int) := by
        have w1 : IntKind.u64.wrap (32 * (d : Int)) = 32 * d := wrapu64
        rw [hat, w1, hra, wrapu64]
        omega
      refine part_ex u wg Mg gor hg hp hbm D eaddr (fun g1 gor1 q1 => ?_)
      have kg1 := kg.trans q1
      have go1 := q1.obj go1 (fun e => hrb1 e.symm)
      refine al_wrL rfl (fun b12 g2 hb12 ho12 q2 => ?_)
      have kg2 := kg1.trans (q2.mono (fun _ f => f.elim))
      have h12 : h.obj b12 = none := Mem.fresh_of kg1 hb12
      have go1 := q2.obj go1 (fun f => f)
      have gor2 := q2.obj gor1 (fun f => f)
      refine loc_Sl go1 rfl ?_
      have hs2 : (s = ⟨none, 0, 0⟩ ∧ P = []) ∨ ∃ b, Own g2 s 3 (parts P) b ∧ h.obj b = none ∧ b ≠ b1 := by
        rcases hs with hs | ⟨b, O, hb, hbb⟩
        · exact .inl hs
        · exact .inr ⟨b, (O.keeps q1 (fun e => by rw [e, ho] at hb; cases hb)).keeps q2 (fun f => f), hb, hbb⟩
      have Hs : Held g2 s 3 (parts P) := by
        rcases hs2 with ⟨rfl, rfl⟩ | ⟨b, O, _⟩
        · exact Held.empty
        · exact O.held
      have hslen := Held.plen Hs
      unfold ring_Ring_chain.j8
      rw [der_some]
      refine loc_B gor2 rfl (br_f rfl ?_)
      have fin : ring_Ring_chain.j10 U I (some ⟨rg, 0⟩) (some ⟨rb, 0⟩) head ⟨b1, 0⟩ ⟨b12, 0⟩ nx mr (n : Int) (i : Int) Q g2 := by
        unfold ring_Ring_chain.j10
        refine loc_Sl go1 rfl (loc_I ho12 rfl (loc_I ho12 rfl (loc_B ho12 rfl ?_)))
        refine al_of (fun b5 g3 hb5 ho5 q3 => ?_)
        have kg3 := kg2.trans (q3.mono (fun _ f => f.elim))
        have go1 := q3.obj go1 (fun f => f)
        have gor3 := q3.obj gor2 (fun f => f)
        refine rdN_held (vs := Part.cells p) rfl (fun j v hv => by rw [get_cells ho5, Nat.zero_add]; exact hv) ?_
        have after : ∀ s' g4 b', Own g4 s' 3 (parts (P ++ [p])) b' → h.obj b' = none → b' ≠ b1 → Keeps (· = rb) h g4 → g4.obj b1 = some (.cells [.int .i64 0, .sl s] false) → g4.obj rb = some (.cells (rdr pm false) false) →
            wr ((⟨b1, 0⟩ : Ptr).add 1) (.sl s') (fun h => br (!mr) (wr ((⟨b1, 0⟩ : Ptr).add 0) (.int .i64 (IntKind.i64.wrap head)) (fun h => rdI .i64 ((⟨b1, 0⟩ : Ptr).add 0) (fun x8 => rdSl ((⟨b1, 0⟩ : Ptr).add 1) (fun x9 => wrL [.int .i64 x8, .sl x9] (⟨b1, 0⟩ : Ptr) 0 (fun h => rdI .i64 ((⟨b1, 0⟩ : Ptr).add 0) (fun x10 => rdSl ((⟨b1, 0⟩ : Ptr).add 1) (fun x11 => Q x10 x11 (!mr) h) h) h) h) h) h) h) (I (some ⟨rg, 0⟩) (some ⟨rb, 0⟩) head ⟨b1, 0⟩ (!mr) nx (n : Int) (IntKind.u64.wrap ((i : Int) + 1)) h)) g4 := by
          intro s' g4 b' O hb' hbb kg4 go1 gor4
          refine loc_wr go1 rfl (fun g5 go5 q5 => ?_)
          have kg5 := over (· = b1) g4 g5 kg4 q5 (fun z e => .inr (e ▸ hb1))
          have O5 := O.keeps q5 hbb
          rcases rest with ⟨rfl, eR⟩ | ⟨rfl, L'⟩
          · refine br_t rfl ?_
            refine loc_wr go5 rfl (fun g6 go6 q6 => loc_I go6 rfl (loc_Sl go6 rfl ?_))
            refine ret2_of rfl go6 (fun g7 q7 => ?_)
            have kg6 := over (· = b1) g5 g6 kg5 q6 (fun z e => .inr (e ▸ hb1))
            have kg7 := over (· = b1) g6 g7 kg6 q7 (fun z e => .inr (e ▸ hb1))
            have ew : IntKind.i64.wrap head = head := wrap64
            rw [ew]
            refine hq s' g7 ?_ (fun p hp => by rw [O.p] at hp; cases hp; exact hb') kg7
            rw [eR]
            exact ((O5.keeps q6 hbb).keeps q7 hbb).held
          · refine br_f rfl ?_
            rw [wrapu64]
            have := ih (i + 1) nx false _ s' g5 (by omega) (by simp [hP]) L' (q5.obj gor4 (fun e => hrb1 e)) go5 (.inr ⟨b', O5, hb', hbb⟩) kg5
            simpa using this
        have hs3 : (s = ⟨none, 0, 0⟩ ∧ P = []) ∨ ∃ b, Own g3 s 3 (parts P) b ∧ h.obj b = none ∧ b ≠ b1 := by
          rcases hs2 with hs | ⟨b, O, hb, hbb⟩
          · exact .inl hs
          · exact .inr ⟨b, O.keeps q3 (fun f => f), hb, hbb⟩
        have hP64 : P.length ≤ 64 := by omega
        rcases hs3 with ⟨rfl, rfl⟩ | ⟨b, O, hb, hbb⟩
        · refine appS_nil (sz := 3) (bytes := 24) (m := 1) rfl (by omega) rfl (by omega) (by omega) (fun s' g4 b' O' hl' hbn q4 => ?_)
          refine after s' g4 b' O' (Mem.fresh_of kg3 hbn) (Heap.ne_of go1 hbn).symm (kg3.trans (q4.mono (fun _ f => f.elim))) (q4.obj go1 (fun f => f)) (q4.obj gor3 (fun f => f))
        · have hrbb : rb ≠ b := fun e => by rw [← e, ho] at hb; cases hb
          refine appS_own (sz := 3) (bytes := 24) (m := 1) O rfl rfl (by omega) (by omega) (fun s' g4 b' O' hl' hbq q4 => ?_)
          have hb'0 : h.obj b' = none := by rcases hbq with rfl | hbq; exact hb; exact Mem.fresh_of kg3 hbq
          have hbb' : b' ≠ b1 := by rcases hbq with rfl | hbq; exact hbb; exact (Heap.ne_of go1 hbq).symm
          refine after s' g4 b' (by rw [parts_append]; exact O') hb'0 hbb' (over (· = b) g3 g4 kg3 q4 (fun z e => .inr (e ▸ hb))) (q4.obj go1 hbb.symm) (q4.obj gor3 hrbb)
      refine br_if (fun hpos => ?_) (fun hz => fin)
      have hpos : 0 < P.length := by simp at hpos; omega
      refine loc_Sl go1 rfl ?_
      rw [wrap64]
      refine ix_of (by omega) (by omega) ?_
      obtain ⟨p0, hp'⟩ := Held.psome Hs hpos
      rw [hp', der_some]
      have e1 : ((s.len : Int) - 1).toNat = P.length - 1 := by omega
      rw [e1]
      have hlast : P[P.length - 1]? = some P[P.length - 1] := List.getElem?_eq_getElem _
      refine prd2 Hs hp' hlast (br_if (fun hw => ?_) (fun hw => fin))
      have := hord _ hlast hw
      exact loc_B ho12 rfl (br_f (by rw [this]; rfl) fin)
  have := key n 0 head false [] ⟨none, 0, 0⟩ h1 (by omega) rfl L (k1.obj ho (fun f => f)) ho1 (.inl ⟨rfl, rfl⟩) (k1.mono (fun _ f => f.elim))
  simpa using this

end
end Go.Ring
