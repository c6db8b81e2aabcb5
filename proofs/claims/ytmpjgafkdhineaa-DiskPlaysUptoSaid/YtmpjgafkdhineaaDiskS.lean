/- A disk and a memory beside each other, and what calls make of them. -/
import Derived.Test.YtmpjgafkdhineaaDiskD
set_option linter.unusedSimpArgs false
set_option linter.unusedVariables false
set_option maxRecDepth 100000
namespace Go.Disk
open Go.Lift Go.Fn

theorem Keeps.over {S : Nat → Prop} {h0 h h' : Heap} (k0 : Keeps none_ h0 h) (k : Keeps S h h') (hs : ∀ x, S x → h0.obj x = none) : Keeps none_ h0 h' :=
  ⟨fun x hx _ => (k.same x (k0.known x hx) (fun s => hx (hs x s))).trans (k0.same x hx (fun f => f)), fun x hx => k.known x (k0.known x hx)⟩

structure St (h0 : Heap) (pb pm bm : Nat) (y : Lay) (d : Dsk) (bs : List UInt8) (h : Heap) : Prop where
  R : Rep y d h
  ok : d.Ok
  M : Mem.Rep pm bm bs h
  big : 256 ≤ bs.length
  pbe : y.pb = pb
  np : ¬ y.Foot pm
  nb : ¬ y.Foot bm
  fy : ∀ x, y.Foot x → h0.obj x = none
  fp : h0.obj pm = none
  fb : h0.obj bm = none
  k : Keeps none_ h0 h

/-- A block apart from disk and memory. -/
structure Off (pm bm : Nat) (y : Lay) (b : Nat) : Prop where
  f : ¬ y.Foot b
  p : b ≠ pm
  m : b ≠ bm

theorem Off.grow {pm bm : Nat} {y y' : Lay} {b : Nat} {h : Heap} (o : Off pm bm y b) (g : Grow h y.Foot y'.Foot) (hb : h.obj b ≠ none) : Off pm bm y' b :=
  ⟨fun hx => (g b hx).elim o.f hb, o.p, o.m⟩

section
variable {h0 h h' : Heap} {pb pm bm : Nat} {y : Lay} {d : Dsk} {bs : List UInt8}

theorem St.keeps {S : Nat → Prop} (s : St h0 pb pm bm y d bs h) (k : Keeps S h h') (h1 : ∀ x, S x → h0.obj x = none) (h2 : ∀ x, S x → Off pm bm y x) : St h0 pb pm bm y d bs h' :=
  ⟨s.R.keeps k (fun x hx hs => (h2 x hs).f hx), s.ok, s.M.keeps k (fun hs => (h2 _ hs).p rfl) (fun hs => (h2 _ hs).m rfl), s.big, s.pbe, s.np, s.nb, s.fy, s.fp, s.fb, Keeps.over s.k k h1⟩

theorem St.keep0 (s : St h0 pb pm bm y d bs h) (k : Keeps none_ h h') : St h0 pb pm bm y d bs h' := s.keeps k (fun _ f => f.elim) (fun _ f => f.elim)

theorem St.off (s : St h0 pb pm bm y d bs h) {b : Nat} (hb : h.obj b = none) : Off pm bm y b :=
  ⟨fun hx => s.R.known b hx hb, fun e => s.M.known1 (e ▸ hb), fun e => s.M.known2 (e ▸ hb)⟩

theorem St.fresh (s : St h0 pb pm bm y d bs h) {b : Nat} (hb : h.obj b = none) : h0.obj b = none := Mem.fresh_of s.k hb

theorem Ok.sub (ok : d.Ok) (r : Req) : (d.sub r).Ok := by
  unfold Dsk.sub
  split
  · rename_i he
    unfold Dsk.subErr at he
    split at he
    · cases he
    · rename_i hh
      split at he
      · cases he
      · rename_i ha
        split at he
        · cases he
        · rename_i hl
          have ha : d.pend.any (fun o => o.id == r.id) = false := by simpa using ha
          rw [List.any_eq_false] at ha
          refine ⟨ok.lo, ok.hi, by show (d.pend ++ [r]).length ≤ 8; simp; omega, ok.len, ?_, ?_⟩
          · show List.Pairwise _ (d.pend ++ [r])
            rw [List.pairwise_append]
            refine ⟨ok.nd, by simp, fun a ha' b hb => ?_⟩
            simp at hb; subst hb
            have := ha a ha'
            simpa using this
          · intro q hq
            have hq : q ∈ d.pend ++ [r] := hq
            rcases List.mem_append.1 hq with hq | hq
            · exact ok.has q hq
            · simp at hq; subst hq
              have : d.has q.block = true := by simpa using hh
              simpa [Dsk.has] using this
  · exact ok

theorem St.submit {U : Ifc} (u : DU U) (s : St h0 pb pm bm y d bs h) {r : Req} {Q : Int → Heap → Prop}
    (hq : ∀ y' h', St h0 pb pm bm y' (d.sub r) bs h' → Grow h y.Foot y'.Foot → Keeps y.Foot h h' → Q (d.subErr r) h') : disk_Disk_Submit U (some ⟨pb, 0⟩) r.id r.write r.block r.frame Q h := by
  obtain ⟨R, ok, M, big, rfl, np, nb, fy, fp, fb, k⟩ := s
  refine Submit_of u R ok (fun y' h' R' hp g k' => ?_)
  refine hq y' h' ⟨R', Ok.sub ok r, M.keeps k' np nb, big, hp, fun hx => (g _ hx).elim np M.known1, fun hx => (g _ hx).elim nb M.known2, fun x hx => (g x hx).elim (fy x) (Mem.fresh_of k), fp, fb, Keeps.over k k' fy⟩ g k'

theorem Ok.blk (ok : d.Ok) {i : Int} {x : List UInt8} (hx : x.length = 256) : Dsk.Ok { d with blk := fun j => if j = i then x else d.blk j } :=
  ⟨ok.lo, ok.hi, ok.few, fun j => by show (if j = i then x else d.blk j).length = 256; split; exact hx; exact ok.len j, ok.nd, ok.has⟩

theorem St.memput {a : Int} (s : St h0 pb pm bm y d bs h) (ha : 0 ≤ a) (ha2 : a ≤ 18446744073709551615) {sl : Sl} {x : List UInt8} (H : Held h sl 1 (strCells x)) (hx : x.length ≤ 9223372036854775807) {Q : Int → Heap → Prop}
    (h12 : Mem.lies bs.length a x.length = false → ∀ h', St h0 pb pm bm y d bs h' → Keeps none_ h h' → Q 12 h')
    (h00 : a + x.length ≤ bs.length → ∀ h', St h0 pb pm bm y d (Mem.put bs a.toNat x) h' → Keeps (· = bm) h h' → Q 0 h') : mem_Memory_Put (some ⟨pm, 0⟩) a sl Q h := by
  refine Mem.Put_of s.M ha ha2 H hx (fun hl h' k => h12 hl h' (s.keep0 k) k) (fun hle h' M' k => h00 hle h' ?_ k)
  have hl : (Mem.put bs a.toNat x).length = bs.length := Mem.put_length (by omega)
  exact ⟨s.R.keeps k (fun x hx e => s.nb (e ▸ hx)), s.ok, M', by rw [hl]; exact s.big, s.pbe, s.np, s.nb, s.fy, s.fp, s.fb, Keeps.over s.k k (fun x e => e ▸ s.fb)⟩

theorem frameOf_length {f : Int} (h0 : 0 ≤ f) (h1 : f < (bs.length / 256 : Nat)) : (frameOf bs f).length = 256 := by simp [frameOf]; omega

theorem St.complete {U : Ifc} (u : DU U) (s : St h0 pb pm bm y d bs h) {k : Int} {Q : Int → Bool → Int → Int → Int → Heap → Prop}
    (h14 : (k < 0 ∨ (d.pend.length : Int) ≤ k) → ∀ h', St h0 pb pm bm y d bs h' → Keeps none_ h h' → Q 0 false 0 0 14 h')
    (h12 : ∀ (n : Nat) r, k = n → d.pend[n]? = some r → ¬ (0 ≤ r.frame ∧ r.frame < (bs.length / 256 : Nat)) → ∀ y' h', St h0 pb pm bm y' { d with pend := d.pend.eraseIdx n } bs h' → Grow h y.Foot y'.Foot → Keeps y.Foot h h' → Q r.id r.write r.block r.frame 12 h')
    (hw : ∀ (n : Nat) r, k = n → d.pend[n]? = some r → (0 ≤ r.frame ∧ r.frame < (bs.length / 256 : Nat)) → r.write = true → ∀ y' h', St h0 pb pm bm y' { d with pend := d.pend.eraseIdx n, blk := fun j => if j = r.block then frameOf bs r.frame else d.blk j } bs h' → Grow h y.Foot y'.Foot → Keeps y.Foot h h' → Q r.id r.write r.block r.frame 0 h')
    (hr : ∀ (n : Nat) r, k = n → d.pend[n]? = some r → (0 ≤ r.frame ∧ r.frame < (bs.length / 256 : Nat)) → r.write = false → ∀ y' h', St h0 pb pm bm y' { d with pend := d.pend.eraseIdx n } (Mem.put bs (r.frame * 256).toNat (d.blk r.block)) h' → Grow h y.Foot y'.Foot → Keeps (fun x => y.Foot x ∨ x = bm) h h' → Q r.id r.write r.block r.frame 0 h') :
    disk_Disk_Complete U (some ⟨pb, 0⟩) (some ⟨pm, 0⟩) k Q h := by
  have s0 := s
  obtain ⟨R, ok, M, big, rfl, np, nb, fy, fp, fb, kk⟩ := s
  have mk : ∀ (y' : Lay) (d' : Dsk) (bs' : List UInt8) (h' : Heap) (S : Nat → Prop), Rep y' d' h' → d'.Ok → Mem.Rep pm bm bs' h' → 256 ≤ bs'.length → y'.pb = y.pb → Grow h y.Foot y'.Foot → Keeps S h h' → (∀ x, S x → h0.obj x = none) → St h0 y.pb pm bm y' d' bs' h' :=
    fun y' d' bs' h' S a1 a2 a3 a4 a5 g k' hs => ⟨a1, a2, a3, a4, a5, fun hx => (g _ hx).elim np M.known1, fun hx => (g _ hx).elim nb M.known2, fun x hx => (g x hx).elim (fy x) (Mem.fresh_of kk), fp, fb, Keeps.over kk k' hs⟩
  refine Complete_of u R ok M big np nb (fun hk h' k' => h14 hk h' (s0.keep0 k') k') (fun n r e hn hf y' h' R' hp g k' => ?_) (fun n r e hn hf hwr y' h' R' hp g k' => ?_) (fun n r e hn hf hwr y' h' R' M' hp g k' => ?_)
  · exact h12 n r e hn hf y' h' (mk y' _ bs h' _ R' (ok.erase n) (M.keeps k' np nb) big hp g k' fy) g k'
  · exact hw n r e hn hf hwr y' h' (mk y' _ bs h' _ R' (Ok.blk (ok.erase n) (frameOf_length hf.1 hf.2)) (M.keeps k' np nb) big hp g k' fy) g k'
  · have hl : (Mem.put bs (r.frame * 256).toNat (d.blk r.block)).length = bs.length := Mem.put_length (by rw [ok.len]; omega)
    exact hr n r e hn hf hwr y' h' (mk y' _ _ h' _ R' (ok.erase n) M' (by rw [hl]; exact big) hp g k' (fun x hx => hx.elim (fy x) (fun e => e ▸ fb))) g k'

theorem St.block (s : St h0 pb pm bm y d bs h) {i : Int} {Q : Sl → Int → Heap → Prop}
    (h12 : d.has i = false → Q ⟨none, 0, 0⟩ 12 h)
    (h00 : d.has i = true → ∀ s' h' b, Own h' s' 1 (strCells (d.blk i)) b → s'.len = 256 → h.obj b = none → St h0 pb pm bm y d bs h' → Keeps none_ h h' → Q s' 0 h') : disk_Disk_Block (some ⟨pb, 0⟩) i Q h := by
  have s0 := s
  obtain ⟨R, ok, M, big, rfl, np, nb, fy, fp, fb, kk⟩ := s
  exact Block_of R ok h12 (fun hh s' h' b O hl hb k => h00 hh s' h' b O hl hb (s0.keep0 k) k)

theorem St.pending (s : St h0 pb pm bm y d bs h) {Q : Sl → Heap → Prop} (hq : ∀ s' h', Held h' s' 4 (reqs d.pend) → (∀ b, s'.at b → h.obj b = none) → (d.pend ≠ [] → ∃ b, Own h' s' 4 (reqs d.pend) b) → St h0 pb pm bm y d bs h' → Keeps none_ h h' → Q s' h') : disk_Disk_Pending (some ⟨pb, 0⟩) Q h := by
  have s0 := s
  obtain ⟨R, ok, M, big, rfl, np, nb, fy, fp, fb, kk⟩ := s
  exact Pending_of R ok (fun s' h' H hb ho k => hq s' h' H hb ho (s0.keep0 k) k)

end

/-- Both are made. -/
theorem St.made {h0 : Heap} {n f : Int} (n0 : 1 ≤ n) (n1 : n ≤ 65536) (f0 : 1 ≤ f) (f1 : f ≤ 65536) {Q : Option Ptr → Int → Option Ptr → Int → Heap → Prop}
    (hq : ∀ pb pm bm y h, St h0 pb pm bm y ⟨n, fun _ => zeros, []⟩ (List.replicate (f * 256).toNat 0) h → Q (some ⟨pb, 0⟩) 0 (some ⟨pm, 0⟩) 0 h) : disk_New n (fun r1 r2 h => mem_New f (fun r3 r4 h => Q r1 r2 r3 r4 h) h) h0 := by
  refine New_of n0 n1 (fun y h1 R hfr k1 => ?_)
  refine Mem.New_of f0 f1 (fun pm bm h2 M hp hb k2 => ?_)
  refine hq y.pb pm bm y h2 ⟨R.keep0 k2, ⟨n0, n1, by simp, fun _ => by simp [zeros], List.Pairwise.nil, by intro r hr; cases hr⟩, M, by simp; omega, rfl, fun hx => R.known _ hx hp, fun hx => R.known _ hx hb, hfr, Mem.fresh_of k1 hp, Mem.fresh_of k1 hb, k1.trans k2⟩

end Go.Disk
