/- A ring's reader, and what a chain is at most. -/
import Derived.Test.YtpebofbnkfpakaaDoorMemNum
set_option linter.unusedSimpArgs false
set_option linter.unusedVariables false
set_option maxRecDepth 100000
namespace Go.Ring
open Go.Lift Go.Fn Go.Mem

/-- What the guest's methods do, where it is a memory. -/
structure RU (U U' : Ifc) : Prop where
  load : ∀ (m : Option Ptr) (a w : Int) κ h, mem_Memory_Load U' m a w (fun r1 r2 h => κ (.tup [.int .u64 r1, .int .i64 r2]) h) h → U.inv (.iface 1 (.ptr m)) "Load" [.int .u64 a, .int .i64 w] κ h
  store : ∀ (m : Option Ptr) (a w v : Int) κ h, mem_Memory_Store U' m a w v (fun r h => κ (.int .i64 r) h) h → U.inv (.iface 1 (.ptr m)) "Store" [.int .u64 a, .int .i64 w, .int .u64 v] κ h

section
variable {U U' : Ifc} {h h' : Heap} {x : Nat → Int} {pm bm rb : Nat} {bs : List UInt8} {bad : Bool}

def rdr (pm : Nat) (bad : Bool) : List V := [.iface 1 (.ptr (some ⟨pm, 0⟩)), .bool bad]

theorem asI_int {k : IntKind} {x : Int} {κ : Int → Prop} : asI k (.int k x) κ = κ x := by simp [asI, chk]

theorem u64_range (a : Int) : 0 ≤ IntKind.u64.wrap a ∧ IntKind.u64.wrap a ≤ 18446744073709551615 := wrapu64_range a

theorem number_of (u : RU U U') (w : Wid U' h x) (M : Mem.Rep pm bm bs h) (ho : h.obj rb = some (.cells (rdr pm bad) false)) {a : Int} (ha : 0 ≤ a) (ha2 : a ≤ 18446744073709551615) {Q : Int → Heap → Prop}
    (hq : ∀ h', h'.obj rb = some (.cells (rdr pm (bad || ldErr bs.length a != 0)) false) → Keeps (· = rb) h h' → Q (ldVal x bs a) h') : ring_reader_number U (some ⟨rb, 0⟩) a Q h := by
  unfold ring_reader_number
  rw [der_some]
  refine rdV_of ((get_cells ho _).trans rfl) ?_
  refine u.load _ _ _ _ _ (Load8_of w M ha ha2 (fun h1 k1 => ?_))
  simp only [asTupV, asCons, asNil, asI_int, der_some]
  have ho1 := k1.obj ho (fun f => f)
  refine loc_B ho1 rfl ?_
  cases hb : bad with
  | true =>
    rw [hb] at hq ho1
    refine br_t rfl ?_
    refine loc_wr ho1 rfl (fun h2 ho2 k2 => hq h2 ho2 ((k1.mono (fun _ f => f.elim)).trans k2))
  | false =>
    rw [hb] at hq ho1
    refine br_f rfl ?_
    refine loc_wr ho1 rfl (fun h2 ho2 k2 => hq h2 ?_ ((k1.mono (fun _ f => f.elim)).trans k2))
    rw [ho2]; rfl

/-- The parts' lengths are as they may be. -/
theorem part_of (u : RU U U') (w : Wid U' h x) (M : Mem.Rep pm bm bs h) (ho : h.obj rb = some (.cells (rdr pm bad) false)) (hg : U'.glob 1 ≠ rb) (hp : pm ≠ rb) (hbm : bm ≠ rb) {a : Int} {Q : Int → Int → Bool → Int → Bool → Heap → Prop}
    (hq : ∀ r1 r2 r3 r4 r5 bad' h', (bad' = false → 1 ≤ r2 ∧ r2 ≤ 4096) → h'.obj rb = some (.cells (rdr pm bad') false) → (0 ≤ r4 ∧ r4 ≤ 18446744073709551615) → Keeps (· = rb) h h' → Q r1 r2 r3 r4 r5 h') : ring_reader_part U (some ⟨rb, 0⟩) a Q h := by
  unfold ring_reader_part
  refine al_of (fun b1 h1 hb1 ho1 k1 => al_of (fun b2 h2 hb2 ho2 k2 => ?_))
  have ho1 := k2.obj ho1 (fun f => f)
  have k02 := k1.trans k2
  have hrb1 : rb ≠ b1 := Heap.ne_of ho hb1
  have hrb2 : rb ≠ b2 := Heap.ne_of (k1.obj ho (fun f => f)) hb2
  have hb12 : b1 ≠ b2 := Heap.ne_of (by assumption) hb2
  unfold ring_reader_part.j3
  intro I H
  have key : ∀ (m i : Nat) (bad : Bool) (l : List Int) (g : Heap), i + m = 4 → l.length = 4 → (∀ v ∈ l, 0 ≤ v ∧ v ≤ 18446744073709551615) → g.obj rb = some (.cells (rdr pm bad) false) → g.obj b1 = some (.cells [.int .u64 0, .int .i64 0, .bool false] false) → g.obj b2 = some (.cells (l.map (V.int .u64)) false) → Keeps (fun z => z = rb ∨ z = b2) h2 g → I (some ⟨rb, 0⟩) a ⟨b1, 0⟩ ⟨b2, 0⟩ (i : Int) g := by
    intro m
    induction m with
    | zero =>
      intro i bad l g hi hl hr gor go1 go2 kg
      refine H _ _ _ _ _ _ ?_
      unfold ring_reader_part.b3
      refine br_f (by simp; omega) ?_
      obtain ⟨l0, l1, l2, l3, rfl⟩ : ∃ l0 l1 l2 l3, l = [l0, l1, l2, l3] := by
        match l, hl with
        | [a, b, c, d], _ => exact ⟨a, b, c, d, rfl⟩
      have k0g : Keeps (fun z => z = rb ∨ z = b2) h g := (k02.mono (fun _ f => f.elim)).trans kg
      have wide : ∀ (g' : Heap), Keeps (fun z => z = rb ∨ z = b1) g g' → Keeps (· = rb) h g' := by
        intro g' kk
        have : Keeps (fun z => z = rb ∨ z = b2 ∨ z = b1) h g' := (k0g.mono (fun z hz => hz.elim .inl (fun e => .inr (.inl e)))).trans (kk.mono (fun z hz => hz.elim .inl (fun e => .inr (.inr e))))
        refine ⟨fun z hz hn => this.same z hz ?_, this.known⟩
        rintro (e | e | e)
        · exact hn e
        · exact hz (e ▸ Mem.fresh_of k1 hb2)
        · exact hz (e ▸ hb1)
      have fail : ring_reader_part.j9 U (some ⟨rb, 0⟩) ⟨b1, 0⟩ Q g := by
        unfold ring_reader_part.j9
        rw [der_some]
        refine loc_wr gor rfl (fun g1 go1' q1 => ?_)
        have go1b := q1.obj go1 (fun e => hrb1 e.symm)
        refine wrL_of (j := 0) go1b (by simp) (fun g2 go2' q2 => ?_)
        have e : splice [V.int .u64 0, .int .i64 0, .bool false] (0 + 0) [V.int .u64 0, .int .i64 0, .bool false] = [V.int .u64 0, .int .i64 0, .bool false] := by simp [splice]
        rw [e] at go2'
        refine loc_I go2' rfl (loc_I go2' rfl (loc_B go2' rfl ?_))
        refine hq _ _ _ _ _ true g2 (fun h => by cases h) (q2.obj go1' hrb1) (by omega) (wide g2 ?_)
        exact (q1.mono (fun z e => .inl e)).trans (q2.mono (fun z e => .inr e))
      refine ix_of (by omega) (by decide) (loc_I go2 rfl (br_if (fun _ => fail) (fun h1 => ?_)))
      refine ix_of (by omega) (by decide) (loc_I go2 rfl (br_if (fun _ => fail) (fun h2 => ?_)))
      refine ix_of (by omega) (by decide) (loc_I go2 rfl (br_if (fun _ => fail) (fun _ => ?_)))
      refine ix_of (by omega) (by decide) (loc_I go2 rfl (ix_of (by omega) (by decide) (loc_I go2 rfl (br_if (fun _ => fail) (fun _ => ?_)))))
      refine ix_of (by omega) (by decide) (loc_I go2 rfl (ix_of (by omega) (by decide) (loc_I go2 rfl (ix_of (by omega) (by decide) (loc_I go2 rfl (ix_of (by omega) (by decide) (loc_I go2 rfl (ix_of (by omega) (by decide) (loc_I go2 rfl ?_)))))))))
      have c2 : ∀ g', Keeps (· = b1) g g' → ck (((⟨b2, 0⟩ : Ptr)).add ((2 : Int).toNat * 1)) [V.int .u64 l2] 0 g' := fun g' kk => ⟨(get_cells (kk.obj go2 (fun e => hb12 e.symm)) _).trans rfl, trivial⟩
      have c3 : ∀ g', Keeps (· = b1) g g' → ck (((⟨b2, 0⟩ : Ptr)).add ((3 : Int).toNat * 1)) [V.int .u64 l3] 0 g' := fun g' kk => ⟨(get_cells (kk.obj go2 (fun e => hb12 e.symm)) _).trans rfl, trivial⟩
      refine ⟨c2 g (Keeps.refl _ _), c3 g (Keeps.refl _ _), ?_⟩
      refine wrL_of (j := 0) go1 (by simp) (fun g2 go2' q2 => ⟨c2 g2 q2, c3 g2 q2, ?_⟩)
      have e : ∀ (A B C : V), splice [V.int .u64 0, .int .i64 0, .bool false] (0 + 0) [A, B, C] = [A, B, C] := fun A B C => by simp [splice]
      rw [e] at go2'
      refine loc_I go2' rfl (loc_I go2' rfl (loc_B go2' rfl ?_))
      have r1 : 1 ≤ l1 := by
        have : decide (l1 < 1) = false := h1
        simpa using this
      have r2 : l1 ≤ 4096 := by
        have : decide (l1 > 4096) = false := h2
        simpa using this
      refine hq _ _ _ _ _ bad g2 (fun _ => ?_) (q2.obj gor hrb1) (hr l3 (by simp)) (wide g2 (q2.mono (fun z e => .inr e)))
      have e1 : IntKind.i64.wrap l1 = l1 := wrap64
      rw [e1]; exact ⟨r1, r2⟩
    | succ m ih =>
      intro i bad l g hi hl hr gor go1 go2 kg
      refine H _ _ _ _ _ _ ?_
      unfold ring_reader_part.b3
      refine br_t (by simp; omega) ?_
      rw [der_some]
      refine loc_B gor rfl ?_
      have next : ∀ (g' : Heap) (bad' : Bool) (l' : List Int), l'.length = 4 → (∀ v ∈ l', 0 ≤ v ∧ v ≤ 18446744073709551615) → g'.obj rb = some (.cells (rdr pm bad') false) → g'.obj b1 = some (.cells [.int .u64 0, .int .i64 0, .bool false] false) → g'.obj b2 = some (.cells (l'.map (V.int .u64)) false) → Keeps (fun z => z = rb ∨ z = b2) h2 g' → ring_reader_part.j7 U I (some ⟨rb, 0⟩) a ⟨b1, 0⟩ ⟨b2, 0⟩ (i : Int) Q g' := by
        intro g' bad' l' a1 a2 a3 a4 a5 a6
        unfold ring_reader_part.j7
        rw [wrap64]
        have := ih (i + 1) bad' l' g' (by omega) a1 a2 a3 a4 a5 a6
        simpa using this
      cases bad with
      | true => exact next g true l hl hr gor go1 go2 kg
      | false =>
        refine br_t rfl ?_
        have k0g : Keeps (fun z => z = rb ∨ z = b2) h g := (k02.mono (fun _ f => f.elim)).trans kg
        have nb2 : ∀ z, h.obj z ≠ none → z ≠ rb → ¬ (z = rb ∨ z = b2) := fun z hz hn hx => hx.elim hn (fun e => hz (e ▸ Mem.fresh_of k1 hb2))
        have wg : Wid U' g x := w.keeps k0g (nb2 _ w.known hg)
        have Mg : Mem.Rep pm bm bs g := M.keeps k0g (nb2 _ M.known1 hp) (nb2 _ M.known2 hbm)
        refine number_of u wg Mg gor (u64_range _).1 (u64_range _).2 (fun g1 gor1 q1 => ?_)
        refine ix_of (by omega) (by show (i : Int) < ((4 : Nat) : Int); omega) ?_
        rw [Int.toNat_natCast]
        have go2' := q1.obj go2 (fun e => hrb2 e.symm)
        have go1' := q1.obj go1 (fun e => hrb1 e.symm)
        have hil : i < l.length := by omega
        refine loc_wr go2' (u := .int .u64 l[i]) (by rw [Nat.mul_one, Nat.zero_add]; simp [List.getElem?_eq_getElem hil]) (fun g2 go2'' q2 => ?_)
        rw [Nat.mul_one, Nat.zero_add] at go2''
        have hset : (l.map (V.int .u64)).set i (.int .u64 (ldVal x bs (IntKind.u64.wrap (a + IntKind.u64.wrap (8 * IntKind.u64.wrap (i : Int)))))) = (l.set i (ldVal x bs (IntKind.u64.wrap (a + IntKind.u64.wrap (8 * IntKind.u64.wrap (i : Int)))))).map (V.int .u64) := by rw [List.map_set]
        rw [hset] at go2''
        refine next g2 _ _ (by simp [hl]) ?_ (q2.obj gor1 hrb2) (q2.obj go1' hb12) go2'' (kg.trans ((q1.mono (fun z e => .inl e)).trans (q2.mono (fun z e => .inr e))))
        intro v hv
        rcases List.mem_or_eq_of_mem_set hv with hv | rfl
        · exact hr v hv
        · exact ldVal_range _ _ _
  have := key 4 0 bad [0, 0, 0, 0] h2 rfl rfl (by intro v hv; simp at hv; omega) (k02.obj ho (fun f => f)) ho1 ho2 (Keeps.refl _ _)
  simpa using this

end
end Go.Ring
