/- RingEnds: whatever stands in the memory, a ring takes at most as many chains as it has descriptors. -/
import Derived.Test.YtlnigofbpnehlaaRingB
set_option linter.unusedSimpArgs false
set_option linter.unusedVariables false
set_option maxRecDepth 100000
namespace Go.Ring
open Go.Lift Go.Fn Go.Mem

section
variable {U U' : Ifc} {h h' : Heap} {x : Nat → Int} {pm bm rg : Nat} {bs : List UInt8}

def gst (pm : Nat) : V := .iface 1 (.ptr (some ⟨pm, 0⟩))

theorem usable_of {ra n rt rgv : Int} {br_ : Bool} (hr : h.obj rg = some (.cells (rng ra n rt rgv br_) false)) (hn : n ≠ 0) {Q : Int → Heap → Prop} (hq : Q (if br_ then 22 else 0) h) : ring_Ring_usable (some ⟨rg, 0⟩) (gst pm) Q h := by
  unfold ring_Ring_usable
  refine br_f rfl ?_
  rw [der_some]
  refine loc_I hr rfl (br_f (by simpa using hn) ?_)
  unfold gst isNil
  dsimp only
  refine br_f rfl ?_
  rw [der_some]
  refine loc_B hr rfl ?_
  cases br_ <;> exact hq

theorem next_broken {ra n rt rgv : Int} (hr : h.obj rg = some (.cells (rng ra n rt rgv true) false)) (hn : n ≠ 0) {Q : Int → Sl → Bool → Int → Heap → Prop} (hq : ∀ h', Keeps none_ h h' → Q 0 ⟨none, 0, 0⟩ false 22 h') : ring_Ring_Next U (some ⟨rg, 0⟩) (gst pm) Q h := by
  unfold ring_Ring_Next
  refine al_of (fun b h1 hb ho k1 => usable_of (k1.obj hr (fun f => f)) hn (br_t rfl ?_))
  refine ret2_of rfl ho (fun h2 k2 => hq h2 ?_)
  exact Keeps.widen' k1 k2 hb

theorem next_of (u : RU U U') (w : Wid U' h x) (M : Mem.Rep pm bm bs h) {ra rt rgv : Int} {n : Nat} (hr : h.obj rg = some (.cells (rng ra n rt rgv false) false)) (h1n : 1 ≤ n) (hn64 : n ≤ 64) (hgp : rg ≠ pm) (hgb : rg ≠ bm) (hgg : rg ≠ U'.glob 1)
    {Q : Int → Sl → Bool → Int → Heap → Prop}
    (hA : ldErr bs.length (IntKind.u64.wrap (ra + IntKind.u64.wrap (32 * (n : Int)))) = 0 → ldVal x bs (IntKind.u64.wrap (ra + IntKind.u64.wrap (32 * (n : Int)))) = rt → ∀ h', Keeps none_ h h' → Q 0 ⟨none, 0, 0⟩ false 0 h')
    (hB : ∀ h', h'.obj rg = some (.cells (rng ra n rt rgv true) false) → Keeps (· = rg) h h' → Q 0 ⟨none, 0, 0⟩ false 22 h')
    (hC : ∀ P s (hd : Int) h', ldVal x bs (IntKind.u64.wrap (ra + IntKind.u64.wrap (32 * (n : Int)))) ≠ rt → IntKind.u64.wrap (ldVal x bs (IntKind.u64.wrap (ra + IntKind.u64.wrap (32 * (n : Int)))) - rt) ≤ n → 0 ≤ hd → hd < n → Good P → 1 ≤ P.length → P.length ≤ n → Held h' s 3 (parts P) → h'.obj rg = some (.cells (rng ra n (IntKind.u64.wrap (rt + 1)) rgv false) false) → Keeps (· = rg) h h' → Q hd s true 0 h') :
    ring_Ring_Next U (some ⟨rg, 0⟩) (gst pm) Q h := by
  unfold ring_Ring_Next
  generalize hoff : IntKind.u64.wrap (ra + IntKind.u64.wrap (32 * (n : Int))) = off at *
  have hoffr : 0 ≤ off ∧ off ≤ 18446744073709551615 := by rw [← hoff]; exact u64_range _
  refine al_of (fun b1 h1 hb1 ho1 k1 => ?_)
  have hr1 := k1.obj hr (fun f => f)
  refine usable_of hr1 (by omega) (br_f rfl ?_)
  show chk true _
  refine chk_of rfl ?_
  refine al_of (fun rb h2 hb2 ho2 k2 => ?_)
  have k02 := k1.trans k2
  have hr2 := k2.obj hr1 (fun f => f)
  have ho1 := k2.obj ho1 (fun f => f)
  have hrb : rg ≠ rb := Heap.ne_of hr1 hb2
  have hb1r : b1 ≠ rb := Heap.ne_of (by assumption) hb2
  have hb1g : rg ≠ b1 := Heap.ne_of hr hb1
  have hrbh : h.obj rb = none := Mem.fresh_of k1 hb2
  have M2 := M.keep0 k02
  have w2 := w.keep0 k02
  have npm : pm ≠ rb := fun e => M.known1 (e ▸ hrbh)
  have nbm : bm ≠ rb := fun e => M.known2 (e ▸ hrbh)
  have ngl : U'.glob 1 ≠ rb := fun e => w.known (e ▸ hrbh)
  rw [der_some]
  refine loc_I hr2 rfl ?_
  rw [der_some]
  refine loc_I hr2 rfl ?_
  show ring_reader_number U (some ⟨rb, 0⟩) (IntKind.u64.wrap (ra + IntKind.u64.wrap (32 * (n : Int)))) _ h2
  rw [hoff]
  refine number_of u w2 M2 (bad := false) ho2 hoffr.1 hoffr.2 (fun h3 ho3 k3 => ?_)
  -- what stays, when only rb, rg and b1 have changed
  have wide : ∀ g, Keeps (fun z => z = rb ∨ z = b1) h2 g → Keeps none_ h g := by
    intro g k
    refine ⟨fun z hz _ => ?_, fun z hz => k.known z (k02.known z hz)⟩
    rw [k.same z (k02.known z hz) (by rintro (e | e); exact hz (e ▸ hrbh); exact hz (e ▸ hb1))]
    exact k02.same z hz (fun f => f)
  have wide2 : ∀ g, Keeps (fun z => z = rb ∨ z = b1 ∨ z = rg) h2 g → Keeps (· = rg) h g := by
    intro g k
    refine ⟨fun z hz hne => ?_, fun z hz => k.known z (k02.known z hz)⟩
    rw [k.same z (k02.known z hz) (by rintro (e | e | e); exact hz (e ▸ hrbh); exact hz (e ▸ hb1); exact hne e)]
    exact k02.same z hz (fun f => f)
  have brk : ∀ g, g.obj rg = some (.cells (rng ra n rt rgv false) false) → g.obj b1 = some (.cells [.int .i64 0, .sl ⟨none, 0, 0⟩] false) → Keeps (fun z => z = rb ∨ z = b1) h2 g →
      der (some (⟨rg, 0⟩ : Ptr)) (fun p14 => wr (p14.add 4) (.bool true) (fun h => wrL [.int .i64 0, .sl ⟨none, 0, 0⟩] (⟨b1, 0⟩ : Ptr) 0 (fun h => rdI .i64 ((⟨b1, 0⟩ : Ptr).add 0) (fun x15 => rdSl ((⟨b1, 0⟩ : Ptr).add 1) (fun x16 => Q x15 x16 false 22 h) h) h) h) g) := by
    intro g hgr hg1 kg
    rw [der_some]
    refine loc_wr hgr rfl (fun g1 hr' q1 => ?_)
    refine ret2_of rfl (q1.obj hg1 (fun e => hb1g e.symm)) (fun g2 q2 => hB g2 (q2.obj hr' hb1g) (wide2 g2 ?_))
    exact ((kg.mono (fun z hz => hz.elim .inl (fun e => .inr (.inl e)))).trans (q1.mono (fun z e => .inr (.inr e)))).trans (q2.mono (fun z e => .inr (.inl e)))
  have k3' : Keeps (fun z => z = rb ∨ z = b1) h2 h3 := k3.mono (fun z e => .inl e)
  have hr3 := k3.obj hr2 hrb
  have ho1 := k3.obj ho1 hb1r
  generalize hcnt : ldVal x bs off = cnt at *
  have hcr : 0 ≤ cnt ∧ cnt ≤ 18446744073709551615 := by rw [← hcnt]; exact ldVal_range _ _ _
  generalize hbad : (false || ldErr bs.length off != 0) = bad at *
  unfold ring_Ring_Next.j7
  have j9 : (bad = false → cnt ≠ rt) → ring_Ring_Next.j9 U (some ⟨rg, 0⟩) ⟨b1, 0⟩ ⟨rb, 0⟩ off cnt Q h3 := by
    intro hne
    unfold ring_Ring_Next.j9
    refine loc_B ho3 rfl (br_if (fun hb => ?_) (fun _ => brk h3 hr3 ho1 k3'))
    have hb : bad = false := by simpa using hb
    rw [der_some]
    refine loc_I hr3 rfl ?_
    rw [der_some]
    refine loc_I hr3 rfl (br_if (fun hle => ?_) (fun _ => brk h3 hr3 ho1 k3'))
    have hle : IntKind.u64.wrap (cnt - rt) ≤ n := by
      have : decide (IntKind.u64.wrap (cnt - rt) ≤ (n : Int)) = true := hle
      simpa using this
    rw [der_some]
    refine loc_I hr3 rfl ?_
    rw [der_some]
    refine loc_I hr3 rfl (nz_of (by show (n : Int) ≠ 0; omega) ?_)
    have w3 : Wid U' h3 x := w2.keeps k3 ngl
    have M3 : Mem.Rep pm bm bs h3 := M2.keeps k3 npm nbm
    refine number_of u w3 M3 ho3 (u64_range _).1 (u64_range _).2 (fun h4 ho4 k4 => ?_)
    generalize hhead : ldVal x bs (IntKind.u64.wrap (off + IntKind.u64.wrap (8 * IntKind.u64.wrap (1 + rt.tmod (n : Int))))) = head
    have hhr : 0 ≤ head ∧ head ≤ 18446744073709551615 := by rw [← hhead]; exact ldVal_range _ _ _
    have hr4 := k4.obj hr3 hrb
    have ho1 := k4.obj ho1 hb1r
    have k4' : Keeps (fun z => z = rb ∨ z = b1) h2 h4 := k3'.trans (k4.mono (fun z e => .inl e))
    unfold ring_Ring_Next.j11
    refine loc_B ho4 rfl (br_if (fun _ => ?_) (fun _ => brk h4 hr4 ho1 k4'))
    have w4 : Wid U' h4 x := w3.keeps k4 ngl
    have M4 : Mem.Rep pm bm bs h4 := M3.keeps k4 npm nbm
    refine chain_of u w4 M4 ho4 hr4 ngl npm nbm hrb rfl hn64 hhr (fun r1 r2 h5 k5 => ?_) (fun P s h5 hP1 hPn hG Hs hfr hlt k5 => ?_)
    · have hr5 := k5.obj hr4 hrb
      have ho1 := k5.obj ho1 hb1r
      have k5' : Keeps (fun z => z = rb ∨ z = b1) h2 h5 := k4'.trans (k5.mono (fun z e => .inl e))
      refine al_wrL rfl (fun b5 h6 hb5 ho5 k6 => br_f rfl ?_)
      exact brk h6 (k6.obj hr5 (fun f => f)) (k6.obj ho1 (fun f => f)) (k5'.trans (k6.mono (fun _ f => f.elim)))
    · have hr5 := k5.obj hr4 hrb
      have ho1 := k5.obj ho1 hb1r
      have k5' : Keeps (fun z => z = rb ∨ z = b1) h2 h5 := k4'.trans (k5.mono (fun z e => .inl e))
      refine al_wrL rfl (fun b5 h6 hb5 ho5 k6 => br_t rfl ?_)
      have hr6 := k6.obj hr5 (fun f => f)
      have ho1 := k6.obj ho1 (fun f => f)
      have H6 := Hs.keeps k6 (fun _ _ f => f)
      have k6' : Keeps (fun z => z = rb ∨ z = b1) h2 h6 := k5'.trans (k6.mono (fun _ f => f.elim))
      have nsg : ∀ p, s.p = some p → ¬ p.b = rg := fun p hp e => by have := hfr p hp; rw [e, hr4] at this; cases this
      have nsb : ∀ p, s.p = some p → ¬ p.b = b1 := fun p hp e => by have := hfr p hp; rw [e] at this; exact absurd this (by have := k4.known b1 (k3.known b1 (by rw [show h2.obj b1 = _ from by assumption]; simp)); exact this)
      rw [der_some]
      refine loc_I hr6 rfl ?_
      rw [der_some]
      refine loc_wr hr6 rfl (fun h7 hr7 k7 => ?_)
      have ho5' := k7.obj ho5 (Heap.ne_of hr5 hb5).symm
      have ho1 := k7.obj ho1 hb1g.symm
      have H7 := H6.keeps k7 nsg
      refine loc_I ho5' rfl (loc_Sl ho5' rfl ?_)
      refine ret2_of rfl ho1 (fun h8 k8 => ?_)
      refine hC P s head h8 (hne hb) hle hhr.1 hlt hG hP1 hPn (H7.keeps k8 nsb) (k8.obj hr7 hb1g) (wide2 h8 ?_)
      exact ((k6'.mono (fun z hz => hz.elim .inl (fun e => .inr (.inl e)))).trans (k7.mono (fun z e => .inr (.inr e)))).trans (k8.mono (fun z e => .inr (.inl e)))
  refine loc_B ho3 rfl (br_if (fun hb => ?_) (fun hb => j9 (fun e => by rw [e] at hb; cases hb)))
  have hb : bad = false := by simpa using hb
  rw [der_some]
  refine loc_I hr3 rfl (br_if (fun he => ?_) (fun he => j9 (fun _ e => by rw [e] at he; simp at he)))
  have he : cnt = rt := by simpa using he
  refine ret2_of rfl ho1 (fun h4 k4 => hA ?_ he h4 (wide h4 (k3'.trans (k4.mono (fun z e => .inr e)))))
  rw [← hbad] at hb
  simpa using hb

theorem told_of {ra n rt rgv : Int} {b_ : Bool} (hr : h.obj rg = some (.cells (rng ra n rt rgv b_) false)) {Q : Int → Int → Bool → Heap → Prop} (hq : Q rt rgv b_ h) : ring_Ring_Told (some ⟨rg, 0⟩) Q h := by
  unfold ring_Ring_Told
  refine br_f rfl ?_
  rw [der_some]
  refine loc_I hr rfl ?_
  rw [der_some]
  refine loc_I hr rfl ?_
  rw [der_some]
  exact loc_B hr rfl hq

end

theorem mask_range (a : Int) : 0 ≤ ibits .and .u64 a 4088 ∧ ibits .and .u64 a 4088 ≤ 4088 ∧ (ibits .and .u64 a 4088).tmod 8 = 0 := by
  have hle : (BitVec.ofInt 64 a &&& BitVec.ofInt 64 4088).toNat ≤ 4088 := by
    rw [BitVec.toNat_and]; exact Nat.and_le_right
  have h8 : (BitVec.ofInt 64 a &&& BitVec.ofInt 64 4088).toNat % 8 = 0 := by
    rw [BitVec.toNat_and]
    have : (BitVec.ofInt 64 4088).toNat = 4088 := by decide
    rw [this]
    have h := Nat.and_mod_two_pow (a := (BitVec.ofInt 64 a).toNat) (b := 4088) (n := 3)
    have h2 : (4088 % 2 ^ 3 : Nat) = 0 := by decide
    rw [h2, Nat.and_zero] at h
    simpa using h
  have e : ibits .and .u64 a 4088 = IntKind.u64.wrap ((BitVec.ofInt 64 a &&& BitVec.ofInt 64 4088).toNat : Int) := rfl
  rw [e, wrapu64]
  refine ⟨by omega, by omega, ?_⟩
  rw [Int.tmod_eq_emod_of_nonneg (by omega)]
  omega

theorem shl_cases (k : Int) : ∃ m : Nat, m < 8 ∧ shlI .i64 1 (IntKind.u64.wrap (ibits .and .i64 k 7)) = ((2 ^ m : Nat) : Int) := by
  obtain ⟨h0, h1⟩ := and64_le k 7 (by omega) (by omega)
  generalize ibits .and .i64 k 7 = j at *
  have : j = 0 ∨ j = 1 ∨ j = 2 ∨ j = 3 ∨ j = 4 ∨ j = 5 ∨ j = 6 ∨ j = 7 := by omega
  rcases this with rfl | rfl | rfl | rfl | rfl | rfl | rfl | rfl
  · exact ⟨0, by omega, by decide⟩
  · exact ⟨1, by omega, by decide⟩
  · exact ⟨2, by omega, by decide⟩
  · exact ⟨3, by omega, by decide⟩
  · exact ⟨4, by omega, by decide⟩
  · exact ⟨5, by omega, by decide⟩
  · exact ⟨6, by omega, by decide⟩
  · exact ⟨7, by omega, by decide⟩

theorem right_of {m : Nat} (hm : m < 7) {Q : Bool → Heap → Prop} {h : Heap} (hq : Q true h) : ring_right ((2 ^ m : Nat) : Int) Q h := by
  unfold ring_right
  have : m = 0 ∨ m = 1 ∨ m = 2 ∨ m = 3 ∨ m = 4 ∨ m = 5 ∨ m = 6 := by omega
  rcases this with rfl | rfl | rfl | rfl | rfl | rfl | rfl <;> exact hq

/-- The law behind the guards. -/
theorem ends9 {U U' : Ifc} (u : RU U U') {h0 h : Heap} {x : Nat → Int} {pm bm : Nat} {bs : List UInt8} (w : Wid U' h x) (M : Mem.Rep pm bm bs h) (hwb : U'.glob 1 ≠ bm) {sl : Sl} {z : List UInt8} (H : Held h sl 1 (strCells z)) (hz : z.length ≤ 4096) (hbs : bs.length = 4096) {at_ : Int} {m : Nat} (hm : m < 7) {Q : Bool → Heap → Prop} (hQ : ∀ h, Q true h) : palisadelaw23_RingEnds.j9 U sl at_ ((2 ^ m : Nat) : Int) (some ⟨pm, 0⟩) Q h := by
  unfold palisadelaw23_RingEnds.j9
  obtain ⟨a0, a1, a8⟩ := mask_range at_
  generalize ibits .and .u64 at_ 4088 = ra at *
  have hn1 : 1 ≤ 2 ^ m := Nat.one_le_two_pow
  have hn64 : 2 ^ m ≤ 64 := by
    have := Nat.pow_le_pow_right (n := 2) (by omega) (show m ≤ 6 by omega)
    simpa using this
  generalize hnn : 2 ^ m = n at *
  refine Mem.Put_of M (by omega) (by omega) H (by omega) (fun hl => ?_) (fun hle h1 M1 k1 => ?_)
  · simp [lies] at hl; omega
  have w1 := w.keeps k1 hwb
  generalize Mem.put bs (0 : Int).toNat z = bs1 at *
  unfold ring_New
  rw [← hnn]
  refine right_of hm (br_f rfl (nz_of (by decide) (br_f (by simp [a8]) (br_f (by simp; omega) ?_))))
  rw [hnn]
  have ew : IntKind.u64.wrap (n : Int) = n := wrapu64
  rw [ew]
  refine al_of (fun rg h2 hb2 ho2 k2 => br_f rfl (br_f rfl ?_))
  have M2 := M1.keep0 k2
  have w2 := w1.keep0 k2
  have hgp : rg ≠ pm := fun e => M1.known1 (e ▸ hb2)
  have hgb : rg ≠ bm := fun e => M1.known2 (e ▸ hb2)
  have hgg : rg ≠ U'.glob 1 := fun e => w1.known (e ▸ hb2)
  unfold palisadelaw23_RingEnds.j15
  intro I HI
  let off := IntKind.u64.wrap (ra + IntKind.u64.wrap (32 * (n : Int)))
  have hcr : 0 ≤ ldVal x bs1 off ∧ ldVal x bs1 off ≤ 18446744073709551615 := ldVal_range _ _ _
  have key : ∀ (j i : Nat) (g : Heap), i + j = n → (i = 0 ∨ ((i : Int) ≤ ldVal x bs1 off ∧ ldVal x bs1 off ≤ n)) → g.obj rg = some (.cells (rng ra n i 0 false) false) → Keeps (· = rg) h2 g → I n (some ⟨pm, 0⟩) (some ⟨rg, 0⟩) (i : Int) g := by
    intro j
    induction j with
    | zero =>
      intro i g hi hcase hr kg
      refine HI _ _ _ _ _ ?_
      unfold palisadelaw23_RingEnds.b15
      have wg := w2.keeps kg (fun e => hgg e.symm)
      have Mg := M2.keeps kg (fun e => hgp e.symm) (fun e => hgb e.symm)
      refine next_of u wg Mg hr hn1 hn64 hgp hgb hgg (fun he hc g1 q1 => ?_) (fun g1 hr1 q1 => ?_) (fun P s hd g1 hne hle hd0 hdn hG hP1 hPn Hs hr1 q1 => ?_)
      · refine al_wrL rfl (fun b5 g2 hb5 ho5 q2 => br_f rfl (br_t rfl (hQ _)))
      · refine al_wrL rfl (fun b5 g2 hb5 ho5 q2 => br_t rfl ?_)
        have hr2 := q2.obj hr1 (fun f => f)
        refine told_of hr2 (next_broken hr2 (by omega) (fun g3 q3 => ?_))
        refine al_wrL rfl (fun b6 g4 hb6 ho6 q4 => ?_)
        have hr4 := q4.obj (q3.obj hr2 (fun f => f)) (fun f => f)
        unfold palisadelaw23_RingEnds.j19
        refine br_t rfl (br_t rfl (br_t rfl (br_t rfl (br_t rfl ?_))))
        unfold ring_Ring_Push
        exact usable_of hr4 (by omega) (br_t rfl (hQ _))
      · exfalso
        have hin : (i : Int) = n := by omega
        rcases hcase with rfl | ⟨h1, h2⟩
        · omega
        · exact hne (by show ldVal x bs1 off = _; omega)
    | succ j ih =>
      intro i g hi hcase hr kg
      refine HI _ _ _ _ _ ?_
      unfold palisadelaw23_RingEnds.b15
      have wg := w2.keeps kg (fun e => hgg e.symm)
      have Mg := M2.keeps kg (fun e => hgp e.symm) (fun e => hgb e.symm)
      refine next_of u wg Mg hr hn1 hn64 hgp hgb hgg (fun he hc g1 q1 => ?_) (fun g1 hr1 q1 => ?_) (fun P s hd g1 hne hle hd0 hdn hG hP1 hPn Hs hr1 q1 => ?_)
      · refine al_wrL rfl (fun b5 g2 hb5 ho5 q2 => br_f rfl (br_t rfl (hQ _)))
      · refine al_wrL rfl (fun b5 g2 hb5 ho5 q2 => br_t rfl ?_)
        have hr2 := q2.obj hr1 (fun f => f)
        refine told_of hr2 (next_broken hr2 (by omega) (fun g3 q3 => ?_))
        refine al_wrL rfl (fun b6 g4 hb6 ho6 q4 => ?_)
        have hr4 := q4.obj (q3.obj hr2 (fun f => f)) (fun f => f)
        unfold palisadelaw23_RingEnds.j19
        refine br_t rfl (br_t rfl (br_t rfl (br_t rfl (br_t rfl ?_))))
        unfold ring_Ring_Push
        exact usable_of hr4 (by omega) (br_t rfl (hQ _))
      · have hne : ldVal x bs1 off ≠ (i : Int) := hne
        have hle : IntKind.u64.wrap (ldVal x bs1 off - (i : Int)) ≤ n := hle
        have hcn : (i : Int) < ldVal x bs1 off ∧ ldVal x bs1 off ≤ n := by
          rcases hcase with rfl | ⟨h1, h2⟩
          · rw [show ldVal x bs1 off - ((0 : Nat) : Int) = ldVal x bs1 off by omega, wrapu64] at hle
            omega
          · omega
        have ew : IntKind.u64.wrap ((i : Int) + 1) = ((i + 1 : Nat) : Int) := by rw [wrapu64]; omega
        rw [ew] at hr1
        refine al_wrL rfl (fun b5 g2 hb5 ho5 q2 => br_f rfl (br_f rfl (br_f (by simp; omega) ?_)))
        have Hs := Hs.keeps q2 (fun _ _ f => f)
        have hr2 := q2.obj hr1 (fun f => f)
        have hsl := Held.plen Hs
        refine loc_Sl ho5 rfl (br_f (by simp; omega) (loc_Sl ho5 rfl (br_f (by simp; omega) (loc_I ho5 rfl (br_f (by simp; omega) (loc_I ho5 rfl (br_f (by simp; omega) ?_)))))))
        unfold palisadelaw23_RingEnds.j24 palisadelaw23_RingEnds.j25
        intro I2 H2
        have k2g : Keeps (· = rg) h2 g2 := (kg.trans q1).trans (q2.mono (fun _ f => f.elim))
        have chk : ∀ (b a : Nat), a + b = P.length → I2 n (some ⟨pm, 0⟩) (some ⟨rg, 0⟩) (i : Int) ⟨b5, 0⟩ (a : Int) g2 := by
          intro b
          induction b with
          | zero =>
            intro a ha
            refine H2 _ _ _ _ _ _ _ ?_
            unfold palisadelaw23_RingEnds.b25
            refine loc_Sl ho5 rfl (br_f (by simp; omega) ?_)
            rw [wrap64]
            have := ih (i + 1) g2 (by omega) (.inr (by omega)) hr2 k2g
            simpa using this
          | succ b ihb =>
            intro a ha
            refine H2 _ _ _ _ _ _ _ ?_
            unfold palisadelaw23_RingEnds.b25
            have hlt : a < P.length := by omega
            obtain ⟨p, hp⟩ := Held.psome Hs hlt
            have hPa : P[a]? = some P[a] := List.getElem?_eq_getElem hlt
            have hlen := hG.len P[a] (List.getElem_mem hlt)
            have next : palisadelaw23_RingEnds.j26 U I I2 n (some ⟨pm, 0⟩) (some ⟨rg, 0⟩) (i : Int) ⟨b5, 0⟩ (a : Int) Q g2 := by
              unfold palisadelaw23_RingEnds.j26
              rw [wrap64]
              have := ihb (a + 1) (by omega)
              simpa using this
            refine loc_Sl ho5 rfl (br_t (by simp; omega) (loc_Sl ho5 rfl (ix_of (by omega) (by omega) ?_)))
            rw [hp, der_some, Int.toNat_natCast]
            refine prd1 Hs hp hPa (br_f (by simp; omega) (loc_Sl ho5 rfl (ix_of (by omega) (by omega) ?_)))
            rw [hp, der_some, Int.toNat_natCast]
            refine prd1 Hs hp hPa (br_f (by simp; omega) (br_if (fun hpos => ?_) (fun _ => next)))
            have hpos : 0 < a := by simp at hpos; omega
            refine loc_Sl ho5 rfl ?_
            rw [wrap64]
            refine ix_of (by omega) (by omega) ?_
            rw [hp, der_some]
            have e1 : ((a : Int) - 1).toNat = a - 1 := by omega
            rw [e1]
            have hPb : P[a - 1]? = some P[a - 1] := List.getElem?_eq_getElem (by omega)
            refine prd2 Hs hp hPb (br_if (fun hw => ?_) (fun _ => next))
            refine loc_Sl ho5 rfl (ix_of (by omega) (by omega) ?_)
            rw [hp, der_some, Int.toNat_natCast]
            have hwr : P[a].write = true := hG.ord (a - 1) _ _ hPb (by rw [show a - 1 + 1 = a by omega]; exact hPa) hw
            exact prd2 Hs hp hPa (br_f (by rw [hwr]; rfl) next)
        have := chk P.length 0 (by omega)
        simpa using this
  have := key n 0 h2 (by omega) (.inl rfl) ho2 (Keeps.refl _ _)
  simpa using this

theorem ends {U U' : Ifc} (u : RU U U') {h0 : Heap} {x : Nat → Int} (w : Wid U' h0 x) (a : Sl) (k at_ : Int) {z : List UInt8} (H : Held h0 a 1 (strCells z)) (hcap : a.len ≤ a.cap) (Q : Bool → Heap → Prop) (hQ : ∀ h, Q true h) : palisadelaw23_RingEnds U a k at_ Q h0 := by
  unfold palisadelaw23_RingEnds
  obtain ⟨m, hm8, hm⟩ := shl_cases k
  rw [hm]
  refine nneg_of (u64_range _).1 ?_
  have hlen : a.len = z.length := by have := H.len; rw [strCells_length] at this; omega
  refine Mem.New_of (by omega) (by omega) (fun pm bm h1 M hp hb k1 => br_f rfl (br_f rfl ?_))
  have H1 := H.keeps k1 (fun _ _ f => f)
  have w1 := w.keep0 k1
  have hwb : U'.glob 1 ≠ bm := fun e => w.known (e ▸ hb)
  have hbs : (List.replicate ((16 : Int) * 256).toNat (0 : UInt8)).length = 4096 := by simp
  refine br_if (fun _ => hQ _) (fun hle => ?_)
  have hm7 : m < 7 := by
    rcases Nat.lt_or_ge m 7 with h | h
    · exact h
    · have : m = 7 := by omega
      subst this
      have : decide ((((2 ^ 7 : Nat)) : Int) > 64) = false := hle
      exact absurd this (by decide)
  refine br_if (fun hgt => ?_) (fun hle => ?_)
  · have hgt : 4096 < z.length := by simp at hgt; omega
    refine sb_of (by omega) (by omega) ?_
    have hslp : ∀ p, slp a.p (0 * 1) 0 a.cap = some p → a.p = some p := by
      intro p hp
      unfold slp at hp
      split at hp
      · exact hp
      · cases ha : a.p with
        | none => rw [ha] at hp; cases hp
        | some q => rw [ha] at hp; cases hp; rfl
    have Hz : Held h1 ⟨slp a.p (0 * 1) 0 a.cap, (4096 : Int).toNat - 0, a.cap - 0⟩ 1 (strCells (z.take 4096)) := by
      refine ⟨by rw [strCells_length]; simp; omega, fun p hp i v hv => H1.row p (hslp p hp) i v ?_, fun hn => ?_⟩
      · rw [strCells_get] at hv ⊢
        rcases Nat.lt_or_ge i 4096 with hi | hi
        · rw [List.getElem?_take_of_lt hi] at hv; exact hv
        · rw [List.getElem?_eq_none (by simp; omega)] at hv; cases hv
      · have hn : slp a.p (0 * 1) 0 a.cap = none := hn
        have : a.p = none := by
          unfold slp at hn
          split at hn
          · exact hn
          · cases ha : a.p with
            | none => rfl
            | some q => rw [ha] at hn; cases hn
        have := H1.nil this; omega
    exact ends9 u (h0 := h0) w1 M hwb Hz (by simp; omega) hbs hm7 hQ
  · exact ends9 u (h0 := h0) w1 M hwb H1 (by simp at hle; omega) hbs hm7 hQ

end Go.Ring
