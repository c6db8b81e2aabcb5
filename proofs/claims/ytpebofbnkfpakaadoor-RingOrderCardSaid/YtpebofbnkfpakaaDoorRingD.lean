/- What a ring takes and is given back, exactly. -/
import Derived.Test.YtpebofbnkfpakaaDoorRingC
set_option linter.unusedSimpArgs false
set_option linter.unusedVariables false
set_option maxRecDepth 100000
namespace Go.Ring
open Go.Lift Go.Fn Go.Mem

def gst (pm : Nat) : V := .iface 1 (.ptr (some ⟨pm, 0⟩))

/-- A memory and a ring in it. -/
structure St (U' : Ifc) (x : Nat → Int) (pm bm rg : Nat) (bs : List UInt8) (ka n t g : Nat) (br_ : Bool) (h : Heap) : Prop where
  w : Wid U' h x
  M : Mem.Rep pm bm bs h
  r : h.obj rg = some (.cells (rng ((8 * ka : Nat) : Int) n t g br_) false)
  gp : rg ≠ pm
  gb : rg ≠ bm
  gg : rg ≠ U'.glob 1
  wb : U'.glob 1 ≠ bm
  n1 : 1 ≤ n
  n64 : n ≤ 64
  t1 : t ≤ 1000
  g1 : g ≤ 1000
  fits : 8 * (ka + 7 * n + 2) ≤ bs.length

/-- One word is changed. -/
def Put1 (x : Nat → Int) (bs bs' : List UInt8) (k : Nat) (v : Int) : Prop := bs'.length = bs.length ∧ ∀ j, 8 * j + 8 ≤ bs.length → wd x bs' j = if j = k then v else wd x bs j

section
variable {U U' : Ifc} {h h' : Heap} {x : Nat → Int} {pm bm rg : Nat} {bs : List UInt8} {ka n t g : Nat} {br_ : Bool}

theorem St.keep0 (S : St U' x pm bm rg bs ka n t g br_ h) (k : Keeps none_ h h') : St U' x pm bm rg bs ka n t g br_ h' :=
  { S with w := S.w.keep0 k, M := S.M.keep0 k, r := k.obj S.r (fun f => f) }

theorem st_usable (S : St U' x pm bm rg bs ka n t g br_ h) {Q : Int → Heap → Prop} (hq : Q (if br_ then 22 else 0) h) : ring_Ring_usable (some ⟨rg, 0⟩) (gst pm) Q h := by
  have := S.n1
  unfold ring_Ring_usable
  refine br_f rfl ?_
  rw [der_some]
  refine loc_I S.r rfl (br_f (by simp; omega) ?_)
  unfold gst isNil
  dsimp only
  refine br_f rfl ?_
  rw [der_some]
  refine loc_B S.r rfl ?_
  cases br_ <;> exact hq

theorem st_store (S : St U' x pm bm rg bs ka n t g br_ h) (hk8 : knownB x 8 = true) {k : Nat} {v a : Int} (ea : a = ((8 * k : Nat) : Int)) (hk : 8 * k + 8 ≤ bs.length) (h0 : 0 ≤ v) (h1 : v ≤ 18446744073709551615) {Q : Int → Heap → Prop}
    (hq : ∀ bs' h', St U' x pm bm rg bs' ka n t g br_ h' → Put1 x bs bs' k v → Keeps (· = bm) h h' → Q 0 h') : mem_Memory_Store U' (some ⟨pm, 0⟩) a 8 v Q h := by
  subst ea
  refine Store8_of S.w hk8 S.M (by omega) (by omega) (by rw [Int.tmod_eq_emod_of_nonneg (by omega)]; omega) h0 (fun h' M' k' => ?_)
  have et : ((8 * k : Nat) : Int).toNat = 8 * k := by omega
  rw [et] at M'
  have hpl : (put bs (8 * k) (le 8 v.toNat)).length = bs.length := put_length (by rw [le_length]; omega)
  refine hq _ h' { S with w := S.w.keeps k' S.wb, M := M', r := k'.obj S.r S.gb, fits := by rw [hpl]; exact S.fits } ⟨hpl, fun j hj => wd_put hk8 h0 h1 hk hj⟩ k'

theorem st_load (S : St U' x pm bm rg bs ka n t g br_ h) {k : Nat} {a : Int} (ea : a = ((8 * k : Nat) : Int)) (hk : 8 * k + 8 ≤ bs.length) {Q : Int → Int → Heap → Prop}
    (hq : ∀ h', St U' x pm bm rg bs ka n t g br_ h' → Keeps none_ h h' → Q (wd x bs k) 0 h') : mem_Memory_Load U' (some ⟨pm, 0⟩) a 8 Q h := by
  subst ea
  have := S.M.size
  refine Load8_of S.w S.M (by omega) (by omega) (fun h' k' => ?_)
  rw [ldErr_right hk]
  exact hq h' (S.keep0 k') k'

theorem next_ex (u : RU U U') (S : St U' x pm bm rg bs ka n t g false h) {R : List Part} {cnt head : Int} (hcnt : wd x bs (ka + 4 * n) = cnt) (hhead : wd x bs (ka + 4 * n + 1 + t % n) = head)
    (hL : cnt ≠ t → IntKind.u64.wrap (cnt - t) ≤ n → Link x bs ka n R head [] ∧ R.length ≤ n)
    {Q : Int → Sl → Bool → Int → Heap → Prop}
    (hA : cnt = t → ∀ h', St U' x pm bm rg bs ka n t g false h' → Keeps none_ h h' → Q 0 ⟨none, 0, 0⟩ false 0 h')
    (hB : cnt ≠ t → ¬ IntKind.u64.wrap (cnt - t) ≤ n → ∀ h', St U' x pm bm rg bs ka n t g true h' → Keeps (· = rg) h h' → Q 0 ⟨none, 0, 0⟩ false 22 h')
    (hC : cnt ≠ t → IntKind.u64.wrap (cnt - t) ≤ n → t + 1 ≤ 1000 → ∀ s h', Held h' s 3 (parts R) → St U' x pm bm rg bs ka n (t + 1) g false h' → Keeps (· = rg) h h' → Q head s true 0 h') (ht : t + 1 ≤ 1000) :
    ring_Ring_Next U (some ⟨rg, 0⟩) (gst pm) Q h := by
  have hr := S.r
  have M := S.M
  have w := S.w
  have h1n := S.n1
  have hn64 := S.n64
  have hfit := S.fits
  have hsz := M.size
  have htn : t % n < n := Nat.mod_lt _ (by omega)
  unfold ring_Ring_Next
  have hoff : IntKind.u64.wrap (((8 * ka : Nat) : Int) + IntKind.u64.wrap (32 * (n : Int))) = ((8 * (ka + 4 * n) : Nat) : Int) := by
    have w1 : IntKind.u64.wrap (32 * (n : Int)) = 32 * n := wrapu64
    rw [w1, wrapu64]; omega
  refine al_of (fun b1 h1 hb1 ho1 k1 => ?_)
  have hr1 := k1.obj hr (fun f => f)
  refine st_usable (S.keep0 k1) (br_f rfl ?_)
  show chk true _
  refine chk_of rfl ?_
  refine al_of (fun rb h2 hb2 ho2 k2 => ?_)
  have k02 := k1.trans k2
  have hr2 := k2.obj hr1 (fun f => f)
  have ho1 := k2.obj ho1 (fun f => f)
  have hrb : rg ≠ rb := Heap.ne_of hr1 hb2
  have hb1r : b1 ≠ rb := Heap.ne_of (by assumption) hb2
  have hb1g : rg ≠ b1 := Heap.ne_of hr hb1
  have hrbh : h.obj rb = none := Mem.fresh_of k1 hb2
  have M2 := M.keep0 k02
  have w2 := w.keep0 k02
  have npm : pm ≠ rb := fun e => M.known1 (e ▸ hrbh)
  have nbm : bm ≠ rb := fun e => M.known2 (e ▸ hrbh)
  have ngl : U'.glob 1 ≠ rb := fun e => w.known (e ▸ hrbh)
  rw [der_some]
  refine loc_I hr2 rfl ?_
  rw [der_some]
  refine loc_I hr2 rfl ?_
  have wide : ∀ g', Keeps (fun z => z = rb ∨ z = b1) h2 g' → Keeps none_ h g' := by
    intro g' k
    refine ⟨fun z hz _ => ?_, fun z hz => k.known z (k02.known z hz)⟩
    rw [k.same z (k02.known z hz) (by rintro (e | e); exact hz (e ▸ hrbh); exact hz (e ▸ hb1))]
    exact k02.same z hz (fun f => f)
  have wide2 : ∀ g', Keeps (fun z => z = rb ∨ z = b1 ∨ z = rg) h2 g' → Keeps (· = rg) h g' := by
    intro g' k
    refine ⟨fun z hz hne => ?_, fun z hz => k.known z (k02.known z hz)⟩
    rw [k.same z (k02.known z hz) (by rintro (e | e | e); exact hz (e ▸ hrbh); exact hz (e ▸ hb1); exact hne e)]
    exact k02.same z hz (fun f => f)
  have stay : ∀ (g' : Heap) (t' : Nat) (b' : Bool), t' ≤ 1000 → Keeps (· = rg) h g' → g'.obj rg = some (.cells (rng ((8 * ka : Nat) : Int) n t' g b') false) → St U' x pm bm rg bs ka n t' g b' g' := by
    intro g' t' b' ht' k ho
    exact { S with w := w.keeps k (fun e => S.gg e.symm), M := M.keeps k (fun e => S.gp e.symm) (fun e => S.gb e.symm), r := ho, t1 := ht' }
  refine numk_of u w2 M2 ho2 (k := ka + 4 * n) (by omega) hoff (fun h3 ho3 k3 => ?_)
  rw [hcnt]
  have k3' : Keeps (fun z => z = rb ∨ z = b1) h2 h3 := k3.mono (fun z e => .inl e)
  have hr3 := k3.obj hr2 hrb
  have ho1 := k3.obj ho1 hb1r
  unfold ring_Ring_Next.j7
  refine loc_B ho3 rfl (br_t rfl ?_)
  rw [der_some]
  refine loc_I hr3 rfl (br_if (fun he => ?_) (fun he => ?_))
  · have he : cnt = t := by simpa using he
    refine ret2_of rfl ho1 (fun h4 k4 => ?_)
    have k := wide h4 (k3'.trans (k4.mono (fun z e => .inr e)))
    exact hA he h4 (S.keep0 k) k
  have he : cnt ≠ t := by simpa using he
  unfold ring_Ring_Next.j9
  refine loc_B ho3 rfl (br_t rfl ?_)
  rw [der_some]
  refine loc_I hr3 rfl ?_
  rw [der_some]
  refine loc_I hr3 rfl (br_if (fun hle => ?_) (fun hle => ?_))
  case refine_2 =>
    have hle : ¬ IntKind.u64.wrap (cnt - t) ≤ n := by simpa using hle
    rw [der_some]
    refine loc_wr hr3 rfl (fun g1 hr' q1 => ?_)
    refine ret2_of rfl (q1.obj ho1 (fun e => hb1g e.symm)) (fun g2 q2 => ?_)
    have k := wide2 g2 (((k3'.mono (fun z hz => hz.elim .inl (fun e => .inr (.inl e)))).trans (q1.mono (fun z e => .inr (.inr e)))).trans (q2.mono (fun z e => .inr (.inl e))))
    exact hB he hle g2 (stay g2 t true S.t1 k (q2.obj hr' hb1g)) k
  have hle : IntKind.u64.wrap (cnt - t) ≤ n := by simpa using hle
  obtain ⟨L, hR⟩ := hL he hle
  rw [der_some]
  refine loc_I hr3 rfl ?_
  rw [der_some]
  refine loc_I hr3 rfl (nz_of (by show (n : Int) ≠ 0; omega) ?_)
  have w3 : Wid U' h3 x := w2.keeps k3 ngl
  have M3 : Mem.Rep pm bm bs h3 := M2.keeps k3 npm nbm
  have haddr : IntKind.u64.wrap (IntKind.u64.wrap (((8 * ka : Nat) : Int) + IntKind.u64.wrap (32 * (n : Int))) + IntKind.u64.wrap (8 * IntKind.u64.wrap (1 + (t : Int).tmod (n : Int)))) = ((8 * (ka + 4 * n + 1 + t % n) : Nat) : Int) := by
    have e : (t : Int).tmod (n : Int) = ((t % n : Nat) : Int) := by rw [Int.tmod_eq_emod_of_nonneg (by omega)]; rfl
    rw [hoff, e, wrapu64 (x := 1 + ((t % n : Nat) : Int)), wrapu64 (x := 8 * (1 + ((t % n : Nat) : Int))), wrapu64]
    omega
  refine numk_of u w3 M3 ho3 (k := ka + 4 * n + 1 + t % n) (by omega) haddr (fun h4 ho4 k4 => ?_)
  rw [hhead]
  have hr4 := k4.obj hr3 hrb
  have ho1 := k4.obj ho1 hb1r
  have k4' : Keeps (fun z => z = rb ∨ z = b1) h2 h4 := k3'.trans (k4.mono (fun z e => .inl e))
  unfold ring_Ring_Next.j11
  refine loc_B ho4 rfl (br_t rfl ?_)
  have w4 : Wid U' h4 x := w3.keeps k4 ngl
  have M4 : Mem.Rep pm bm bs h4 := M3.keeps k4 npm nbm
  refine chain_ex u w4 M4 ho4 rfl hr4 ngl npm nbm hrb rfl hn64 L hR (fun s h5 Hs hfr k5 => ?_)
  have hr5 := k5.obj hr4 hrb
  have ho1 := k5.obj ho1 hb1r
  have k5' : Keeps (fun z => z = rb ∨ z = b1) h2 h5 := k4'.trans (k5.mono (fun z e => .inl e))
  refine al_wrL rfl (fun b5 h6 hb5 ho5 k6 => br_t rfl ?_)
  have hr6 := k6.obj hr5 (fun f => f)
  have ho1 := k6.obj ho1 (fun f => f)
  have H6 := Hs.keeps k6 (fun _ _ f => f)
  have k6' : Keeps (fun z => z = rb ∨ z = b1) h2 h6 := k5'.trans (k6.mono (fun _ f => f.elim))
  have nsg : ∀ p, s.p = some p → ¬ p.b = rg := fun p hp e => by have := hfr p hp; rw [e, hr4] at this; cases this
  have nsb : ∀ p, s.p = some p → ¬ p.b = b1 := fun p hp e => by have := hfr p hp; rw [e] at this; exact absurd this (by have := k4.known b1 (k3.known b1 (by rw [show h2.obj b1 = _ from by assumption]; simp)); exact this)
  rw [der_some]
  refine loc_I hr6 rfl ?_
  rw [der_some]
  refine loc_wr hr6 rfl (fun h7 hr7 k7 => ?_)
  have ho5' := k7.obj ho5 (Heap.ne_of hr5 hb5).symm
  have ho1 := k7.obj ho1 hb1g.symm
  have H7 := H6.keeps k7 nsg
  refine loc_I ho5' rfl (loc_Sl ho5' rfl ?_)
  refine ret2_of rfl ho1 (fun h8 k8 => ?_)
  have k := wide2 h8 (((k6'.mono (fun z hz => hz.elim .inl (fun e => .inr (.inl e)))).trans (k7.mono (fun z e => .inr (.inr e)))).trans (k8.mono (fun z e => .inr (.inl e))))
  refine hC he hle ht s h8 (H7.keeps k8 nsb) (stay h8 (t + 1) false ht k ?_) k
  have e := k8.obj hr7 hb1g
  have et : IntKind.u64.wrap ((t : Int) + 1) = ((t + 1 : Nat) : Int) := by rw [wrapu64]; omega
  rw [et] at e
  exact e

theorem st_told (S : St U' x pm bm rg bs ka n t g br_ h) {Q : Int → Int → Bool → Heap → Prop} (hq : Q t g br_ h) : ring_Ring_Told (some ⟨rg, 0⟩) Q h := by
  unfold ring_Ring_Told
  refine br_f rfl ?_
  rw [der_some]
  refine loc_I S.r rfl ?_
  rw [der_some]
  refine loc_I S.r rfl ?_
  rw [der_some]
  exact loc_B S.r rfl hq

theorem push_step (u : RU U U') (S : St U' x pm bm rg bs ka n t g br_ h) (hk8 : knownB x 8 = true) {b3 : Nat} {L : List V} (ho3 : h.obj b3 = some (.cells L false)) {i : Nat} (hi : i < 3) {K : Nat} {v : Int} (hK : 8 * K + 8 ≤ bs.length) (h0 : 0 ≤ v) (h1 : v ≤ 18446744073709551615)
    (hA : L[2 * i]? = some (.int .u64 ((8 * K : Nat) : Int))) (hV : L[2 * i + 1]? = some (.int .u64 v)) {I : (Option Ptr) → V → Sl → Int → Int → Heap → Prop} {Q : Int → Heap → Prop}
    (hn : ∀ bs' h', St U' x pm bm rg bs' ka n t g br_ h' → Put1 x bs bs' K v → Keeps (· = bm) h h' → I (some ⟨rg, 0⟩) (gst pm) ⟨some ⟨b3, 0⟩, 3, 3⟩ ((3 : Nat) : Int) ((i + 1 : Nat) : Int) h') :
    ring_Ring_Push.b11 U I (some ⟨rg, 0⟩) (gst pm) ⟨some ⟨b3, 0⟩, 3, 3⟩ ((3 : Nat) : Int) (i : Int) Q h := by
  unfold ring_Ring_Push.b11
  refine br_t (by simp; omega) (ix_of (by omega) (by show (i : Int) < ((3 : Nat) : Int); omega) ?_)
  rw [der_some, Int.toNat_natCast]
  refine loc_I ho3 (by rw [← hA]; show L[0 + i * 2 + 0]? = _; congr 1; omega) (loc_I ho3 (by rw [← hV]; show L[0 + i * 2 + 1]? = _; congr 1; omega) ?_)
  refine al_wrL rfl (fun b5 g1 hb5 ho5 q1 => loc_I ho5 rfl (loc_I ho5 rfl ?_))
  refine u.store _ _ _ _ _ _ ?_
  refine st_store (S.keep0 q1) hk8 rfl hK h0 h1 (fun bs' g2 S2 P2 q2 => ?_)
  rw [asI_int]
  refine br_f rfl ?_
  rw [wrap64]
  exact hn bs' g2 S2 P2 ((q1.mono (fun _ f => f.elim)).trans q2)

theorem push_none (S : St U' x pm bm rg bs ka n t g false h) (hgt : g = t) {head len : Int} (hd : 0 ≤ head ∧ head < n) (hl : 0 ≤ len) {Q : Int → Heap → Prop} (hq : Q 21 h) : ring_Ring_Push U (some ⟨rg, 0⟩) (gst pm) head len Q h := by
  have := S.n64
  unfold ring_Ring_Push
  refine st_usable S (br_f rfl (br_f (by simp; omega) ?_))
  rw [der_some]
  have ew : IntKind.u64.wrap head = head := wrapu64
  refine loc_I S.r rfl (br_f (by rw [ew]; simp; omega) (br_f (by simp; omega) ?_))
  rw [der_some]
  refine loc_I S.r rfl ?_
  rw [der_some]
  refine loc_I S.r rfl (br_t (by simp [hgt]) ?_)
  unfold ring_Ring_Push.j7
  exact hq

theorem push_ex (u : RU U U') (S : St U' x pm bm rg bs ka n t g false h) (hk8 : knownB x 8 = true) (hgt : g ≠ t) {head len : Int} (hd : 0 ≤ head ∧ head < n) (hl : 0 ≤ len ∧ len ≤ 9223372036854775807) (hg : g + 1 ≤ 1000) {Q : Int → Heap → Prop}
    (hq : ∀ bs1 bs2 bs3 h', Put1 x bs bs1 (ka + 5 * n + 2 + 2 * (g % n)) head → Put1 x bs1 bs2 (ka + 5 * n + 2 + 2 * (g % n) + 1) len → Put1 x bs2 bs3 (ka + 5 * n + 1) ((g + 1 : Nat) : Int) → St U' x pm bm rg bs3 ka n t (g + 1) false h' → Keeps (fun z => z = rg ∨ z = bm) h h' → Q 0 h') : ring_Ring_Push U (some ⟨rg, 0⟩) (gst pm) head len Q h := by
  have hn64 := S.n64
  have hn1 := S.n1
  have hfit := S.fits
  have hsz := S.M.size
  have hgn : g % n < n := Nat.mod_lt _ (by omega)
  unfold ring_Ring_Push
  refine st_usable S (br_f rfl (br_f (by simp; omega) ?_))
  rw [der_some]
  have ew : IntKind.u64.wrap head = head := wrapu64
  have el : IntKind.u64.wrap len = len := wrapu64
  refine loc_I S.r rfl (br_f (by rw [ew]; simp; omega) (br_f (by simp; omega) ?_))
  rw [der_some]
  refine loc_I S.r rfl ?_
  rw [der_some]
  refine loc_I S.r rfl (br_f (by simp; omega) ?_)
  unfold ring_Ring_Push.j8
  rw [der_some]
  refine loc_I S.r rfl ?_
  rw [der_some]
  refine loc_I S.r rfl ?_
  rw [der_some]
  refine loc_I S.r rfl ?_
  rw [der_some]
  refine loc_I S.r rfl (nz_of (by omega) ?_)
  have e40 : IntKind.u64.wrap (40 * (n : Int)) = 40 * n := wrapu64
  have eb : IntKind.u64.wrap (IntKind.u64.wrap (((8 * ka : Nat) : Int) + IntKind.u64.wrap (40 * (n : Int))) + 8) = ((8 * (ka + 5 * n + 1) : Nat) : Int) := by
    rw [e40, wrapu64 (x := ((8 * ka : Nat) : Int) + 40 * (n : Int)), wrapu64]
    omega
  have em : (g : Int).tmod (n : Int) = ((g % n : Nat) : Int) := by rw [Int.tmod_eq_emod_of_nonneg (by omega)]; rfl
  have e16 : IntKind.u64.wrap (16 * ((g % n : Nat) : Int)) = 16 * ((g % n : Nat) : Int) := wrapu64
  have e8 : IntKind.u64.wrap (((8 * (ka + 5 * n + 1) : Nat) : Int) + 8) = ((8 * (ka + 5 * n + 2) : Nat) : Int) := by rw [wrapu64]; omega
  have ea : IntKind.u64.wrap (((8 * (ka + 5 * n + 2) : Nat) : Int) + 16 * ((g % n : Nat) : Int)) = ((8 * (ka + 5 * n + 2 + 2 * (g % n)) : Nat) : Int) := by rw [wrapu64]; omega
  rw [eb, em, e16, e8, ea]
  unfold ring_Ring_Push.j10
  rw [der_some]
  refine loc_I S.r rfl ?_
  have ea8 : IntKind.u64.wrap (((8 * (ka + 5 * n + 2 + 2 * (g % n)) : Nat) : Int) + 8) = ((8 * (ka + 5 * n + 2 + 2 * (g % n) + 1) : Nat) : Int) := by rw [wrapu64]; omega
  have eg : IntKind.u64.wrap ((g : Int) + 1) = ((g + 1 : Nat) : Int) := by rw [wrapu64]; omega
  rw [ew, el, ea8, eg]
  refine al_of (fun b3 h1 hb3 ho3 k1 => ?_)
  have S1 := S.keep0 k1
  have nb3 : b3 ≠ bm := fun e => S.M.known2 (e ▸ hb3)
  unfold ring_Ring_Push.j11
  intro I H
  refine H _ _ _ _ _ _ (push_step u S1 hk8 ho3 (i := 0) (by omega) (K := ka + 5 * n + 2 + 2 * (g % n)) (by omega) (by omega) (by omega) rfl rfl (fun bs1 h2 S2 P2 k2 => ?_))
  have ho3 := k2.obj ho3 nb3
  have l1 := P2.1
  refine H _ _ _ _ _ _ (push_step u S2 hk8 ho3 (i := 1) (by omega) (K := ka + 5 * n + 2 + 2 * (g % n) + 1) (by omega) (by omega) (by omega) rfl rfl (fun bs2 h3 S3 P3 k3 => ?_))
  have ho3 := k3.obj ho3 nb3
  have l2 := P3.1
  refine H _ _ _ _ _ _ (push_step u S3 hk8 ho3 (i := 2) (by omega) (K := ka + 5 * n + 1) (by omega) (by omega) (by omega) rfl rfl (fun bs3 h4 S4 P4 k4 => ?_))
  refine H _ _ _ _ _ _ ?_
  unfold ring_Ring_Push.b11
  refine br_f rfl ?_
  rw [der_some]
  refine loc_I S4.r rfl ?_
  rw [der_some]
  refine loc_wr S4.r rfl (fun h5 ho5 k5 => ?_)
  have k : Keeps (fun z => z = rg ∨ z = bm) h h5 := ((((k1.mono (fun _ f => f.elim)).trans (k2.mono (fun z e => .inr e))).trans (k3.mono (fun z e => .inr e))).trans (k4.mono (fun z e => .inr e))).trans (k5.mono (fun z e => .inl e))
  rw [eg] at ho5
  refine hq bs1 bs2 bs3 h5 P2 P3 P4 { S4 with w := S4.w.keeps k5 (fun e => S.gg e.symm), M := S4.M.keeps k5 (fun e => S.gp e.symm) (fun e => S.gb e.symm), r := ho5, g1 := hg } k

end
end Go.Ring
