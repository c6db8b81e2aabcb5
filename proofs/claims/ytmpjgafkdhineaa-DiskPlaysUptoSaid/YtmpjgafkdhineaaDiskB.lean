/- The disk's methods, each by what it answers and leaves. -/
import Derived.Test.YtmpjgafkdhineaaDiskA
set_option linter.unusedSimpArgs false
set_option linter.unusedVariables false
set_option maxRecDepth 100000
namespace Go.Disk
open Go.Lift Go.Fn

/-- A disk, by what the document says of it. -/
structure Dsk where
  n : Int
  blk : Int → List UInt8
  pend : List Req

def zeros : List UInt8 := List.replicate 256 0

structure Dsk.Ok (d : Dsk) : Prop where
  lo : 1 ≤ d.n
  hi : d.n ≤ 65536
  few : d.pend.length ≤ 8
  len : ∀ i, (d.blk i).length = 256
  nd : d.pend.Pairwise (fun a b => a.id ≠ b.id)
  has : ∀ r ∈ d.pend, 0 ≤ r.block ∧ r.block < d.n

/-- Where its parts lie. -/
structure Lay where
  pb : Nat
  m : Nat
  s : Sl
  l : List (Int × V)
  G : Nat → Prop

def Lay.Foot (y : Lay) (x : Nat) : Prop := x = y.pb ∨ x = y.m ∨ y.s.at x ∨ y.G x

def Blk (h : Heap) (G : Nat → Prop) (o : Option V) (x : List UInt8) : Prop :=
  match o with
  | none => x = zeros
  | some v => ∃ s b, v = .sl s ∧ Own h s 1 (strCells x) b ∧ s.len = 256 ∧ G b

structure Rep (y : Lay) (d : Dsk) (h : Heap) : Prop where
  cell : h.obj y.pb = some (.cells [.int .i64 d.n, .map (some y.m), .sl y.s] false)
  map : MapAt h y.m .i64 y.l
  keys : IKeys y.l
  blks : ∀ i, Blk h y.G (ifind i y.l) (d.blk i)
  pend : (y.s = ⟨none, 0, 0⟩ ∧ d.pend = []) ∨ ∃ b, Own h y.s 4 (reqs d.pend) b
  g1 : ∀ x, y.G x → x ≠ y.pb ∧ x ≠ y.m ∧ ¬ y.s.at x ∧ h.obj x ≠ none
  s1 : ∀ x, y.s.at x → x ≠ y.pb ∧ x ≠ y.m
  m1 : y.m ≠ y.pb

/-- What is new in a footprint was free. -/
def Grow (h : Heap) (F F' : Nat → Prop) : Prop := ∀ x, F' x → F x ∨ h.obj x = none

theorem Grow.refl (h : Heap) (F : Nat → Prop) : Grow h F F := fun _ hx => .inl hx
theorem Grow.trans {h h' : Heap} {S : Nat → Prop} {F F' F'' : Nat → Prop} (g : Grow h F F') (k : Keeps S h h') (g' : Grow h' F' F'') : Grow h F F'' := by
  intro x hx
  rcases g' x hx with hx | hx
  · exact g x hx
  · exact .inr (Mem.fresh_of k hx)

theorem Keeps.widen {S S' : Nat → Prop} {a b : Heap} (k : Keeps S a b) (hs : ∀ x, S x → S' x ∨ a.obj x = none) : Keeps S' a b :=
  ⟨fun x hx hn => k.same x hx (fun s => (hs x s).elim hn hx), k.known⟩

section
variable {y : Lay} {d : Dsk} {h h' : Heap}

theorem Blk.keeps {S G : Nat → Prop} {o : Option V} {x : List UInt8} (B : Blk h G o x) (k : Keeps S h h') (hs : ∀ b, G b → ¬ S b) : Blk h' G o x := by
  unfold Blk at B ⊢
  cases o with
  | none => exact B
  | some v => obtain ⟨s, b, h1, h2, h3, h4⟩ := B; exact ⟨s, b, h1, h2.keeps k (hs b h4), h3, h4⟩

theorem Blk.mono {G G' : Nat → Prop} {o : Option V} {x : List UInt8} (B : Blk h G o x) (hg : ∀ b, G b → G' b) : Blk h G' o x := by
  unfold Blk at B ⊢
  cases o with
  | none => exact B
  | some v => obtain ⟨s, b, h1, h2, h3, h4⟩ := B; exact ⟨s, b, h1, h2, h3, hg b h4⟩

theorem Rep.sat {b : Nat} (hs : y.s.p = some ⟨b, 0⟩) : y.s.at b := ⟨_, hs, rfl⟩

theorem Rep.keeps {S : Nat → Prop} (R : Rep y d h) (k : Keeps S h h') (hs : ∀ x, y.Foot x → ¬ S x) : Rep y d h' := by
  refine ⟨k.obj R.cell (hs _ (.inl rfl)), R.map.keeps k (hs _ (.inr (.inl rfl))), R.keys, fun i => (R.blks i).keeps k (fun b hb => hs b (.inr (.inr (.inr hb)))), ?_, fun x hx => ?_, R.s1, R.m1⟩
  · rcases R.pend with hp | ⟨b, O⟩
    · exact .inl hp
    · exact .inr ⟨b, O.keeps k (hs b (.inr (.inr (.inl ⟨_, O.p, rfl⟩))))⟩
  · obtain ⟨h1, h2, h3, h4⟩ := R.g1 x hx
    exact ⟨h1, h2, h3, k.known x h4⟩

theorem Rep.keep0 (R : Rep y d h) (k : Keeps none_ h h') : Rep y d h' := R.keeps k (fun _ _ f => f)

theorem Rep.known (R : Rep y d h) : ∀ x, y.Foot x → h.obj x ≠ none := by
  intro x hx
  rcases hx with rfl | rfl | hx | hx
  · rw [R.cell]; simp
  · exact R.map.known
  · rcases R.pend with ⟨hp, _⟩ | ⟨b, O⟩
    · obtain ⟨p, h1, _⟩ := hx; rw [hp] at h1; cases h1
    · obtain ⟨p, h1, rfl⟩ := hx; rw [O.p] at h1; cases h1; exact O.known
  · exact (R.g1 x hx).2.2.2

theorem Rep.held (R : Rep y d h) : Held h y.s 4 (reqs d.pend) := by
  rcases R.pend with ⟨hp, hd⟩ | ⟨b, O⟩
  · rw [hp, hd]; exact Held.empty
  · exact O.held

theorem none_of (R : Rep y d h) {Q : Bool → Heap → Prop} (hq : Q false h) : disk_Disk_none (some ⟨y.pb, 0⟩) Q h := by
  unfold disk_Disk_none
  simp only [br_true, br_false, der_some, if_true, if_false, beq_self_eq_true, bne_self_eq_false, Bool.false_eq_true, Bool.and_true, Bool.true_and, Bool.and_false, Bool.false_and, Bool.not_true, Bool.not_false, Option.isNone_some, Option.isNone_none]
  exact loc_M R.cell rfl hq

def Dsk.has (d : Dsk) (i : Int) : Bool := decide (0 ≤ i) && decide (i < d.n)

theorem wrong_of (R : Rep y d h) {i : Int} {Q : Int → Heap → Prop} (hq : Q (if d.has i then 0 else 12) h) : disk_Disk_wrong (some ⟨y.pb, 0⟩) i Q h := by
  unfold disk_Disk_wrong
  refine none_of R ?_
  simp only [br_true, br_false, der_some, if_true, if_false, beq_self_eq_true, bne_self_eq_false, Bool.false_eq_true, Bool.and_true, Bool.true_and, Bool.and_false, Bool.false_and, Bool.not_true, Bool.not_false, Option.isNone_some, Option.isNone_none]
  refine br_if (fun hlt => ?_) (fun hge => loc_I R.cell rfl (br_if (fun h2 => ?_) (fun h2 => ?_)))
  · have : d.has i = false := by simp at hlt; simp [Dsk.has]; omega
    rw [this] at hq; exact hq
  · have : d.has i = false := by simp at h2; simp [Dsk.has]; omega
    rw [this] at hq; exact hq
  · have : d.has i = true := by simp at hge h2; simp [Dsk.has]; omega
    rw [this] at hq; exact hq

theorem Blocks_of (R : Rep y d h) {Q : Int → Heap → Prop} (hq : Q d.n h) : disk_Disk_Blocks (some ⟨y.pb, 0⟩) Q h := by
  unfold disk_Disk_Blocks
  refine none_of R ?_
  simp only [br_true, br_false, der_some, if_true, if_false, beq_self_eq_true, bne_self_eq_false, Bool.false_eq_true, Bool.and_true, Bool.true_and, Bool.and_false, Bool.false_and, Bool.not_true, Bool.not_false, Option.isNone_some, Option.isNone_none]
  exact loc_I R.cell rfl hq

/-- What the closures of the disk answer. -/
structure DU (U : Ifc) : Prop where
  c3 : ∀ (p : Ptr) (q : Req) κ h, disk_Disk_Submit_c1 q.id q.write q.block q.frame p (fun r h => κ (.bool r) h) h → U.callV (.fn 3 [.ptr (some p)]) [.agg q.cells] κ h
  c56 : ∀ (p : Ptr) (q : Req) κ h, disk_Disk_Complete_c1 q.id q.write q.block q.frame p (fun r h => κ (.bool r) h) h → U.callV (.fn 56 [.ptr (some p)]) [.agg q.cells] κ h
  c57 : ∀ (x : Int) κ h, disk_Disk_Put_c1 x (fun r h => κ (.bool r) h) h → U.callV (.fn 57 []) [.int .u8 x] κ h

def Dsk.subErr (d : Dsk) (r : Req) : Int := if d.has r.block = false then 12 else if d.pend.any (fun o => o.id == r.id) then 13 else if d.pend.length ≥ 8 then 18 else 0
def Dsk.sub (d : Dsk) (r : Req) : Dsk := if d.subErr r = 0 then { d with pend := d.pend ++ [r] } else d

theorem clone_of {s : Sl} {l : List Req} (H : Held h s 4 (reqs l)) (hl : l.length ≤ 1000000) {Q : Sl → Heap → Prop} (hq : ∀ s' h', Held h' s' 4 (reqs l) → (∀ b, s'.at b → h.obj b = none) → (l ≠ [] → ∃ b, Own h' s' 4 (reqs l) b) → Keeps none_ h h' → Q s' h') : slices_Clone_disk_Request_disk_Request s Q h := by
  unfold slices_Clone_disk_Request_disk_Request
  have hlen := Held.slen H
  cases hp : s.p with
  | none =>
    refine br_t rfl ?_
    have h0 := H.nil hp
    have hl0 : l = [] := List.length_eq_zero_iff.1 (by omega)
    subst hl0
    exact hq _ _ Held.empty (fun b hb => by obtain ⟨p, h1, _⟩ := hb; cases h1) (fun h => absurd rfl h) (Keeps.refl _ _)
  | some p =>
    refine br_f rfl ?_
    intro b hb
    refine cellsS_of (H.keeps (Keeps.new (S := none_) hb _) (fun _ _ f => f)) ?_
    rw [hlen]
    refine copy_of (sz := 4) (bytes := 32) (n := l.length) (reqs_length l) rfl (by omega) (by omega) (fun s' h' b' O hl' hb' k => ?_) hb
    exact hq s' h' O.held (fun x hx => by obtain ⟨p, h1, rfl⟩ := hx; rw [O.p] at h1; cases h1; exact hb') (fun _ => ⟨b', O⟩) k

theorem Pending_of (R : Rep y d h) (k : d.Ok) {Q : Sl → Heap → Prop} (hq : ∀ s' h', Held h' s' 4 (reqs d.pend) → (∀ b, s'.at b → h.obj b = none) → (d.pend ≠ [] → ∃ b, Own h' s' 4 (reqs d.pend) b) → Keeps none_ h h' → Q s' h') : disk_Disk_Pending (some ⟨y.pb, 0⟩) Q h := by
  unfold disk_Disk_Pending
  refine none_of R ?_
  simp only [br_true, br_false, der_some, if_true, if_false, beq_self_eq_true, bne_self_eq_false, Bool.false_eq_true, Bool.and_true, Bool.true_and, Bool.and_false, Bool.false_and, Bool.not_true, Bool.not_false, Option.isNone_some, Option.isNone_none]
  have := k.few
  exact loc_Sl R.cell rfl (clone_of R.held (by omega) hq)

theorem Submit_of {U : Ifc} (u : DU U) (R : Rep y d h) (k : d.Ok) {r : Req} {Q : Int → Heap → Prop}
    (hq : ∀ y' h', Rep y' (d.sub r) h' → y'.pb = y.pb → Grow h y.Foot y'.Foot → Keeps y.Foot h h' → Q (d.subErr r) h') : disk_Disk_Submit U (some ⟨y.pb, 0⟩) r.id r.write r.block r.frame Q h := by
  unfold disk_Disk_Submit
  refine al_of (fun b1 h1 hb1 ho1 k1 => ?_)
  have R1 := R.keep0 k1
  refine loc_I ho1 rfl (wrong_of R1 ?_)
  have stay : ∀ h2, Rep y d h2 → Keeps none_ h1 h2 → d.subErr r ≠ 0 → Q (d.subErr r) h2 := by
    intro h2 R2 k2 he
    have := hq y h2 (by unfold Dsk.sub; rw [if_neg he]; exact R2) rfl (Grow.refl _ _) ((k1.trans k2).mono (fun _ f => f.elim))
    exact this
  cases hb : d.has r.block with
  | false =>
    have e : d.subErr r = 12 := by simp [Dsk.subErr, hb]
    have := stay h1 R1 (Keeps.refl _ _) (by rw [e]; decide)
    rw [e] at this
    exact br_t rfl this
  | true =>
    refine br_f rfl ?_
    rw [der_some]
    have hfew := k.few
    refine loc_Sl R1.cell rfl (contains_of (P := fun o => o.id == r.id) R1.held (by omega) ?_ (fun h2 k2 => ?_))
    · intro q g κ kg hk
      refine u.c3 _ _ _ _ ?_
      unfold disk_Disk_Submit_c1
      refine al_of (fun b2 g2 hb2 ho2 kg2 => ?_)
      refine loc_I ho2 rfl (loc_I ((kg.trans kg2).obj ho1 (fun f => f)) rfl ?_)
      exact hk g2 kg2
    · have R2 := R1.keep0 k2
      refine br_if (fun hany => ?_) (fun hany => ?_)
      · have e : d.subErr r = 13 := by simp [Dsk.subErr, hb, hany]
        have := stay h2 R2 k2 (by rw [e]; decide)
        rw [e] at this
        exact this
      · rw [der_some]
        refine loc_Sl R2.cell rfl ?_
        have hslen := Held.slen R2.held
        refine br_if (fun h8 => ?_) (fun h8 => ?_)
        · have e : d.subErr r = 18 := by
            have : d.pend.length ≥ 8 := by simp at h8; omega
            simp only [Dsk.subErr, hb, hany, if_pos this]; rfl
          have := stay h2 R2 k2 (by rw [e]; decide)
          rw [e] at this
          exact this
        · have h8 : d.pend.length < 8 := by simp at h8; omega
          have e : d.subErr r = 0 := by
            have : ¬ d.pend.length ≥ 8 := by omega
            simp only [Dsk.subErr, hb, hany, if_neg this]; rfl
          have ho1 := k2.obj ho1 (fun f => f)
          rw [der_some]
          refine loc_Sl R2.cell rfl (loc_I ho1 rfl (loc_B ho1 rfl (loc_I ho1 rfl (loc_I ho1 rfl ?_))))
          refine al_of (fun b3 h3 hb3 ho3 k3 => ?_)
          have R3 := R2.keep0 k3
          refine ⟨⟨(get_cells R3.cell _).trans rfl, trivial⟩, ?_⟩
          refine rdN_held (vs := r.cells) rfl (fun i v hv => by rw [get_cells ho3, Nat.zero_add]; exact hv) ?_
          have k03 := (k1.trans k2).trans k3
          -- the append
          have fin : ∀ s' h4 b', Own h4 s' 4 (reqs (d.pend ++ [r])) b' → s'.len = d.pend.length + 1 → (y.s.at b' ∨ h3.obj b' = none) → Keeps y.s.at h3 h4 →
              der (some (⟨y.pb, 0⟩ : Ptr)) (fun p18 => wr (p18.add 2) (.sl s') (fun h => disk_Disk_Submit.j9 U Q h) h4) := by
            intro s' h4 b' O hl' hbb k4
            rw [der_some]
            have hnpb : ¬ y.s.at y.pb := fun hx => (R.s1 _ hx).1 rfl
            have hnm : ¬ y.s.at y.m := fun hx => (R.s1 _ hx).2 rfl
            have hc4 := k4.obj R3.cell hnpb
            have hbk : h3.obj y.pb ≠ none := by rw [R3.cell]; simp
            have hmk : h3.obj y.m ≠ none := R3.map.known
            have hbpb : b' ≠ y.pb := by rcases hbb with hx | hx; exact (R.s1 _ hx).1; exact fun e => hbk (e ▸ hx)
            have hbm : b' ≠ y.m := by rcases hbb with hx | hx; exact (R.s1 _ hx).2; exact fun e => hmk (e ▸ hx)
            refine loc_wr hc4 rfl (fun h5 ho5 k5 => ?_)
            unfold disk_Disk_Submit.j9
            have hat : ∀ x, s'.at x → x = b' := by intro x hx; obtain ⟨p, h1, rfl⟩ := hx; rw [O.p] at h1; cases h1; rfl
            have := hq { y with s := s' } h5 ?_ rfl ?_ ?_
            · rw [e] at this; exact this
            · have hsub : d.sub r = { d with pend := d.pend ++ [r] } := by unfold Dsk.sub; rw [if_pos e]
              rw [hsub]
              refine ⟨ho5, (R3.map.keeps k4 hnm).keeps k5 R.m1, R.keys, fun i => ?_, .inr ⟨b', O.keeps k5 hbpb⟩, fun x hx => ?_, fun x hx => ?_, R.m1⟩
              · exact ((R3.blks i).keeps k4 (fun x hx => (R.g1 x hx).2.2.1)).keeps k5 (fun x hx => (R.g1 x hx).1)
              · obtain ⟨g1, g2, g3, g4⟩ := R3.g1 x hx
                refine ⟨g1, g2, fun hs => ?_, k5.known x (k4.known x g4)⟩
                have := hat x hs; subst this
                rcases hbb with hx' | hx'
                · exact g3 hx'
                · exact g4 hx'
              · have := hat x hx; subst this; exact ⟨hbpb, hbm⟩
            · intro x hx
              rcases hx with hx | hx | hx | hx
              · exact .inl (.inl hx)
              · exact .inl (.inr (.inl hx))
              · have := hat x hx; subst this
                rcases hbb with hx' | hx'
                · exact .inl (.inr (.inr (.inl hx')))
                · exact .inr (Mem.fresh_of k03 hx')
              · exact .inl (.inr (.inr (.inr hx)))
            · refine ((k03.mono (fun _ f => f.elim)).trans (k4.mono (fun x hx => .inr (.inr (.inl hx))))).trans (k5.mono (fun x hx => .inl hx))
          rcases R3.pend with ⟨hs0, hd0⟩ | ⟨b, O⟩
          · rw [hs0]
            refine appS_nil (sz := 4) (bytes := 32) (m := 1) rfl (by omega) rfl (by omega) (by omega) (fun s' h4 b' O hl' hbn k4 => ?_)
            exact fin s' h4 b' (by rw [hd0]; exact O) (by rw [hd0]; exact hl') (.inr hbn) (k4.mono (fun _ f => f.elim))
          · have hat : y.s.at b := ⟨_, O.p, rfl⟩
            refine appS_own (sz := 4) (bytes := 32) (m := 1) O rfl rfl (by omega) (by omega) (fun s' h4 b' O' hl' hbb k4 => ?_)
            refine fin s' h4 b' (by rw [reqs_append]; exact O') (by omega) ?_ (k4.mono (fun x hx => hx ▸ hat))
            rcases hbb with rfl | hbb
            · exact .inl hat
            · exact .inr hbb

end
end Go.Disk
