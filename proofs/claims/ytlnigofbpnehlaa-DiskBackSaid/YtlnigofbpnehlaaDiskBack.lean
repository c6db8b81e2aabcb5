/- DiskBack: what is written is read; no other block or frame changes. -/
import Derived.Test.YtlnigofbpnehlaaDiskS
set_option linter.unusedSimpArgs false
set_option linter.unusedVariables false
set_option maxRecDepth 100000
namespace Go.Disk
open Go.Lift Go.Fn

theorem appZ_own {κ : Sl → Heap → Prop} {h : Heap} {s : Sl} {x : List UInt8} {b : Nat} {n : Int} (O : Own h s 1 (strCells x) b) (h0 : 0 ≤ n) (hb : x.length + n.toNat ≤ 1000000)
    (hk : ∀ s' h' b', Own h' s' 1 (strCells (x ++ List.replicate n.toNat 0)) b' → s'.len = x.length + n.toNat → (b' = b ∨ h.obj b' = none) → Keeps (· = b) h h' → κ s' h') : appZ 1 1 [.int .u8 0] s n κ h := by
  have hl : s.len = x.length := by have := O.len; rw [strCells_length] at this; omega
  refine ⟨h0, by omega, by omega, ?_⟩
  refine appS_own (m := n.toNat) O (by rw [flatRep_length]; rfl) rfl (by omega) (by omega) (fun s' h' b' O' hl' hbb k => ?_)
  rw [flatRep_bytes, ← strCells_append] at O'
  exact hk s' h' b' O' (by omega) hbb k

theorem and7 (a : Int) : 0 ≤ ibits .and .i64 a 7 ∧ ibits .and .i64 a 7 ≤ 7 := and64_le a 7 (by omega) (by omega)
theorem and1 (a : Int) : 0 ≤ ibits .and .i64 a 1 ∧ ibits .and .i64 a 1 ≤ 1 := and64_le a 1 (by omega) (by omega)

theorem has_of {d : Dsk} {i : Int} (h0 : 0 ≤ i) (h1 : i < d.n) : d.has i = true := by simp [Dsk.has, h0, h1]
theorem fr0 : (0 : Int) ≤ 0 ∧ (0 : Int) < ((768 / 256 : Nat) : Int) := by decide
theorem fr1 : (0 : Int) ≤ 1 ∧ (1 : Int) < ((768 / 256 : Nat) : Int) := by decide
theorem fr2 : (0 : Int) ≤ 2 ∧ (2 : Int) < ((768 / 256 : Nat) : Int) := by decide

/-- The bytes, filled up to a page. -/
def one (x : List UInt8) : List UInt8 := x ++ List.replicate (256 - x.length) 0

theorem one_length {x : List UInt8} (hx : x.length ≤ 256) : (one x).length = 256 := by simp [one]; omega

def bs1 (x : List UInt8) : List UInt8 := one x ++ (zeros ++ zeros)

theorem bs1_eq {x : List UInt8} (hx : x.length ≤ 256) : Mem.put (List.replicate 768 0) 0 x = bs1 x := by
  unfold Mem.put bs1 one zeros
  simp only [List.take_zero, List.nil_append, Nat.zero_add, List.drop_replicate, List.append_assoc, List.replicate_append_replicate]
  congr 2
  omega

theorem put_right {A B C x : List UInt8} {o : Nat} (ho : o = A.length) (hx : x.length = B.length) : Mem.put (A ++ (B ++ C)) o x = A ++ (x ++ C) := by
  subst ho
  unfold Mem.put
  rw [List.take_left, List.append_assoc]
  congr 1
  rw [hx, List.drop_append, Nat.add_sub_cancel_left]
  rw [List.drop_of_length_le (by omega), List.nil_append, List.drop_left]

/-- What stands when both requests are done. -/
def after (B : Int) (x : List UInt8) : Dsk := ⟨8, fun j => if j = B then one x else zeros, []⟩

section
variable {h0 h : Heap} {pb pm bm : Nat} {y : Lay} {d : Dsk} {bs : List UInt8}

theorem tail_of {U : Ifc} (u : DU U) {sl : Sl} {x : List UInt8} {B : Int} (hB0 : 0 ≤ B) (hB1 : B ≤ 7) (hx : x.length ≤ 256) (H : Held h sl 1 (strCells x)) (hsl : strCells x ≠ [] → ∀ p, sl.p = some p → h0.obj p.b ≠ none) (s : St h0 pb pm bm y (after B x) (bs1 x) h) {Q : Bool → Heap → Prop} (hQ : ∀ h, Q true h) : palisadelaw12_DiskBack.j16 U sl B (some ⟨pb, 0⟩) (some ⟨pm, 0⟩) Q h := by
  unfold palisadelaw12_DiskBack.j16
  have ol := one_length hx
  have zl : zeros.length = 256 := by simp [zeros]
  refine s.submit u (r := ⟨1, false, B, 1⟩) (fun y1 h1 s1 g1 k1 => ?_)
  have he : (after B x).subErr ⟨1, false, B, 1⟩ = 0 := by
    have h1 : (after B x).has B = true := has_of hB0 (by show B < 8; omega)
    simp only [Dsk.subErr, h1]; rfl
  rw [he]
  refine br_f rfl ?_
  have hsub : (after B x).sub ⟨1, false, B, 1⟩ = { after B x with pend := [⟨1, false, B, 1⟩] } := by unfold Dsk.sub; rw [if_pos he]; rfl
  rw [hsub] at s1
  have hbl : (bs1 x).length = 768 := by simp [bs1, ol, zl]
  have H1 := Held.keepsE H k1 (fun hne p hp hx => hsl hne p hp (s.fy _ hx))
  refine s1.complete u (fun hk => ?_) (fun n r e hn hf => ?_) (fun n r e hn hf hwr => ?_) (fun n r e hn hf hwr y2 h2 s2 g2 k2 => ?_)
  · simp at hk
  · obtain rfl : n = 0 := by omega
    cases hn
    rw [hbl] at hf; exact absurd fr1 hf
  · obtain rfl : n = 0 := by omega
    cases hn; cases hwr
  · obtain rfl : n = 0 := by omega
    cases hn
    have hb2 : Mem.put (bs1 x) (((1 : Int)) * 256).toNat (Dsk.blk { after B x with pend := [⟨1, false, B, 1⟩] } B) = one x ++ (one x ++ zeros) := by
      show Mem.put (bs1 x) 256 (if B = B then one x else zeros) = _
      rw [if_pos rfl]
      exact put_right ol.symm (by rw [ol, zl])
    have s2 : St h0 pb pm bm y2 (after B x) (one x ++ (one x ++ zeros)) h2 := by rw [← hb2]; exact s2
    have H2 := Held.keepsE H1 k2 (fun hne p hp hx => hsl hne p hp (hx.elim (s1.fy _) (fun e => e ▸ s.fb)))
    refine al_wrL rfl (fun b7 h3 hb7 ho7 k3 => br_f rfl ?_)
    have s3 := s2.keep0 k3
    have H3 := H2.keeps k3 (fun _ _ f => f)
    refine Mem.Bytes_of s3.M (by omega) (by omega) (by omega) (by omega) (fun h => by omega) (fun _ hl => ?_) (fun _ _ _ s8 h4 b8 O8 hl8 hb8 k4 => ?_)
    · simp [Mem.lies, ol, zl] at hl
    · have s4 := s3.keep0 k4
      have H4 := H3.keeps k4 (fun _ _ f => f)
      have e8 : ((one x ++ (one x ++ zeros)).drop (0 : Int).toNat).take (768 : Int).toNat = one x ++ (one x ++ zeros) := by
        show ((one x ++ (one x ++ zeros)).drop 0).take 768 = _
        rw [List.drop_zero, List.take_of_length_le (by simp [ol, zl])]
      rw [e8] at O8
      have hslen : sl.len = x.length := by have := H.len; rw [strCells_length] at this; omega
      intro b10 hb10
      refine cellsS_of (H4.keeps (Keeps.new (S := none_) hb10 _) (fun _ _ f => f)) ?_
      rw [hslen]
      refine copy_of (sz := 1) (bytes := 1) (n := x.length) (by simp [strCells_length]) rfl (by omega) (by omega) (fun s11 h5 b11 O11 hl11 hb11 k5 => ?_) hb10
      rw [wrap64]
      refine appZ_own O11 (by omega) (by omega) (fun s13 h6 b13 O13 hl13 hbb k6 => ?_)
      have e13 : x ++ List.replicate (256 - (x.length : Int)).toNat 0 = one x := by
        unfold one; congr 2; omega
      rw [e13] at O13
      refine cellsS_of O13.held ?_
      rw [bytesOf_str]
      have k56 : Keeps none_ h4 h6 := Keeps.widen ((k5.mono (S' := (· = b11)) (fun _ f => f.elim)).trans k6) (fun z hz => .inr (hz ▸ hb11))
      have s6 := s4.keep0 k56
      have O8 := O8.keeps k56 (fun f => f)
      unfold palisadelaw12_DiskBack.j23 palisadelaw12_DiskBack.j24
      intro I HI
      have loop : ∀ (m i : Nat) (h : Heap), i + m = 8 → St h0 pb pm bm y2 (after B x) (one x ++ (one x ++ zeros)) h → Own h s8 1 (strCells (one x ++ (one x ++ zeros))) b8 → I B (some ⟨pb, 0⟩) s8 (one x) (i : Int) h := by
        intro m
        induction m with
        | zero =>
          intro i h hi s O
          refine HI _ _ _ _ _ _ ?_
          unfold palisadelaw12_DiskBack.b24
          refine br_f (by simp; omega) ?_
          have cat1 : ∀ κ, κ (one x ++ one x) → catS (one x) (one x) κ := fun κ hk => ⟨by rw [ol]; decide, hk⟩
          have cat2 : ∀ κ, κ ((one x ++ one x) ++ zeros) → catS (one x ++ one x) zeros κ := fun κ hk => ⟨by rw [List.length_append, ol, zl]; decide, hk⟩
          have fin : ∀ g, Q (one x ++ (one x ++ zeros) == one x ++ one x ++ zeros) g := fun g => by rw [List.append_assoc, beq_self_eq_true]; exact hQ g
          refine cat1 _ ⟨?_, ?_⟩
          · refine cellsS_of O.held ?_
            rw [bytesOf_str]
            refine mkSl_of (sz := 1) (n := 256) rfl (by omega) (by omega) (fun h' b' O' hb' k' => cellsS_of O'.held ?_)
            rw [← strCells_zeros, bytesOf_str]
            exact cat2 _ (fin _)
          · refine mkSl_of (sz := 1) (n := 256) rfl (by omega) (by omega) (fun h' b' O' hb' k' => ⟨?_, ?_⟩)
            · have O := O.keeps k' (fun f => f)
              refine cellsS_of O.held ?_
              rw [bytesOf_str]
              refine cellsS_of O'.held ?_
              rw [← strCells_zeros, bytesOf_str]
              exact cat2 _ (fin _)
            · have O := O.keeps k' (fun f => f)
              refine cellsS_of O'.held ?_
              rw [← strCells_zeros, bytesOf_str]
              refine cat2 _ (cellsS_of O.held ?_)
              rw [bytesOf_str]
              exact fin _
        | succ m ih =>
          intro i h hi s O
          refine HI _ _ _ _ _ _ ?_
          unfold palisadelaw12_DiskBack.b24
          have next : ∀ h', Keeps none_ h h' → palisadelaw12_DiskBack.j25 U I B (some ⟨pb, 0⟩) s8 (one x) (i : Int) Q h' := by
            intro h' k'
            unfold palisadelaw12_DiskBack.j25
            rw [wrap64]
            have := ih (i + 1) h' (by omega) (s.keep0 k') (O.keeps k' (fun f => f))
            simpa using this
          refine br_t (by simp; omega) (s.block (fun hno => ?_) (fun _ s' h' b' O' hl' hb' s'' k' => ?_))
          · have : (after B x).has (i : Int) = true := has_of (by omega) (by show (i : Int) < 8; omega)
            rw [this] at hno; cases hno
          · refine cellsS_of O'.held ?_
            rw [bytesOf_str]
            have hblk : (after B x).blk (i : Int) = if (i : Int) = B then one x else zeros := rfl
            rw [hblk]
            by_cases e : (i : Int) = B
            · rw [if_pos e]
              refine br_f (by rw [e]; simp) (next h' k')
            · rw [if_neg e]
              refine br_if (fun hc => ?_) (fun hc => next h' k')
              refine mkSl_of (sz := 1) (n := 256) rfl (by omega) (by omega) (fun h2 b2 O2 hb2 k2 => cellsS_of O2.held ?_)
              rw [← strCells_zeros, bytesOf_str]
              refine br_f ?_ (next h2 (k'.trans k2))
              have : ((i : Int) == B) = false := by simpa using e
              rw [this] at hc
              simp at hc
              simp [hc]
      have := loop 8 0 h6 rfl s6 O8
      simpa using this

theorem back7 {U : Ifc} (u : DU U) {sl : Sl} {x : List UInt8} {a2 a3 : Int} (hx : x.length ≤ 256) (H : Held h sl 1 (strCells x)) (hsl : strCells x ≠ [] → ∀ p, sl.p = some p → h0.obj p.b ≠ none) (s : St h0 pb pm bm y ⟨8, fun _ => zeros, []⟩ (List.replicate 768 0) h) {Q : Bool → Heap → Prop} (hQ : ∀ h, Q true h) : palisadelaw12_DiskBack.j7 U sl a2 a3 (some ⟨pb, 0⟩) (some ⟨pm, 0⟩) Q h := by
  unfold palisadelaw12_DiskBack.j7
  have ol := one_length hx
  have zl : zeros.length = 256 := by simp [zeros]
  obtain ⟨hB0, hB1⟩ := and7 a2
  generalize ibits .and .i64 a2 7 = B at *
  obtain ⟨hk0, hk1⟩ := and1 a3
  generalize ibits .and .i64 a3 1 = k at *
  refine s.memput (x := x) (by omega) (by omega) H (by omega) (fun hl => ?_) (fun hle h1 s1 k1 => ?_)
  · simp [Mem.lies] at hl; omega
  have e1 : Mem.put (List.replicate 768 0) (0 : Int).toNat x = bs1 x := bs1_eq hx
  rw [e1] at s1
  have H1 := Held.keepsE H k1 (fun hne p hp e => hsl hne p hp (e ▸ s.fb))
  have hbl : (bs1 x).length = 768 := by simp [bs1, ol, zl]
  refine s1.submit u (r := ⟨1, true, B, 0⟩) (fun y2 h2 s2 g2 k2 => ?_)
  have he1 : Dsk.subErr ⟨8, fun _ => zeros, []⟩ ⟨1, true, B, 0⟩ = 0 := by
    have h1 : Dsk.has ⟨8, fun _ => zeros, []⟩ B = true := has_of hB0 (by show B < 8; omega)
    simp only [Dsk.subErr, h1]; rfl
  have hs1 : Dsk.sub ⟨8, fun _ => zeros, []⟩ ⟨1, true, B, 0⟩ = ⟨8, fun _ => zeros, [⟨1, true, B, 0⟩]⟩ := by unfold Dsk.sub; rw [if_pos he1]; rfl
  rw [he1]; rw [hs1] at s2
  have H2 := Held.keepsE H1 k2 (fun hne p hp hx => hsl hne p hp (s1.fy _ hx))
  refine br_f rfl ?_
  rw [wrap64]
  refine s2.submit u (r := ⟨2, false, 7 - B, 2⟩) (fun y3 h3 s3 g3 k3 => ?_)
  have he2 : Dsk.subErr ⟨8, fun _ => zeros, [⟨1, true, B, 0⟩]⟩ ⟨2, false, 7 - B, 2⟩ = 0 := by
    have h1 : Dsk.has ⟨8, fun _ => zeros, [⟨1, true, B, 0⟩]⟩ (7 - B) = true := has_of (by omega) (by show 7 - B < 8; omega)
    simp only [Dsk.subErr, h1]; rfl
  have hs2 : Dsk.sub ⟨8, fun _ => zeros, [⟨1, true, B, 0⟩]⟩ ⟨2, false, 7 - B, 2⟩ = ⟨8, fun _ => zeros, [⟨1, true, B, 0⟩, ⟨2, false, 7 - B, 2⟩]⟩ := by unfold Dsk.sub; rw [if_pos he2]; rfl
  rw [he2]; rw [hs2] at s3
  have H3 := Held.keepsE H2 k3 (fun hne p hp hx => hsl hne p hp (s2.fy _ hx))
  refine br_f rfl ?_
  have hput : Mem.put (bs1 x) ((2 : Int) * 256).toNat zeros = bs1 x := by
    show Mem.put (bs1 x) 512 zeros = bs1 x
    have := put_right (A := one x ++ zeros) (B := zeros) (C := []) (x := zeros) (o := 512) (by simp [ol, zl]) rfl
    simpa [bs1] using this
  have hfr : frameOf (bs1 x) 0 = one x := by
    unfold frameOf
    show ((bs1 x).drop 0).take 256 = _
    rw [List.drop_zero, bs1, ← ol, List.take_left]
  have hne : ¬ (7 - B = B) := by omega
  -- the end of both ways
  have fin : ∀ (y : Lay) (h : Heap) (r : Req), Held h sl 1 (strCells x) → St h0 pb pm bm y (after B x) (bs1 x) h → r.id = 2 - k → ∀ b9, h.obj b9 = some (.cells (Req.cells ⟨1 + k, true, 0, 0⟩) false) ∨ True → True := fun _ _ _ _ _ _ _ _ => trivial
  have hcase : k = 0 ∨ k = 1 := by omega
  have j13 : ∀ (r1 r2 : Req) (d1 : Dsk) (bsA : List UInt8) (y4 : Lay) (h4 : Heap), St h0 pb pm bm y4 d1 bsA h4 → Held h4 sl 1 (strCells x) → d1.pend = [r2] → r1.id = 1 + k → r2.id = 2 - k → 0 ≤ r2.frame ∧ r2.frame < 3 → bsA.length = 768 →
      (r2.write = true → d1.n = 8 ∧ bsA = bs1 x ∧ (fun j => if j = r2.block then frameOf bsA r2.frame else d1.blk j) = (after B x).blk) → (r2.write = false → d1.n = 8 ∧ Mem.put bsA (r2.frame * 256).toNat (d1.blk r2.block) = bs1 x ∧ d1.blk = (after B x).blk) →
      al [.int .i64 0, .bool false, .int .i64 0, .int .i64 0] (fun b9 h => wrL r1.cells (⟨b9, 0⟩ : Ptr) 0 (fun h => palisadelaw12_DiskBack.j13 U sl B k (some ⟨pb, 0⟩) 0 (some ⟨pm, 0⟩) (⟨b9, 0⟩ : Ptr) Q h) h) h4 := by
    intro r1 r2 d1 bsA y4 h4 s4 H4 hp hi1 hi2 hf hbA hw hr
    refine al_wrL rfl (fun b9 h5 hb9 ho9 k5 => ?_)
    have s5 := s4.keep0 k5
    have H5 := H4.keeps k5 (fun _ _ f => f)
    unfold palisadelaw12_DiskBack.j13
    have hA3 : (bsA.length / 256 : Nat) = 3 := by rw [hbA]
    have nf9 : ¬ y4.Foot b9 := fun hx => s4.R.known b9 hx hb9
    have nm9 : b9 ≠ bm := fun e => s4.M.known2 (e ▸ hb9)
    have go : ∀ (y6 : Lay) (h6 : Heap) , St h0 pb pm bm y6 (after B x) (bs1 x) h6 → Held h6 sl 1 (strCells x) → h6.obj b9 = some (.cells r1.cells false) →
        al [.int .i64 0, .bool false, .int .i64 0, .int .i64 0] (fun b6 h => wrL r2.cells (⟨b6, 0⟩ : Ptr) 0 (fun h => br ((0 : Int) != 0) (palisadelaw12_DiskBack.j15 U Q h) (br ((0 : Int) != 0) (palisadelaw12_DiskBack.j15 U Q h) (rdI .i64 ((⟨b9, 0⟩ : Ptr).add 0) (fun x7 => br (x7 != (IntKind.i64.wrap (1 + k))) (palisadelaw12_DiskBack.j15 U Q h) (rdI .i64 ((⟨b6, 0⟩ : Ptr).add 0) (fun x8 => br (x8 != (IntKind.i64.wrap (2 - k))) (palisadelaw12_DiskBack.j15 U Q h) (disk_Disk_Pending (some ⟨pb, 0⟩) (fun r9 h => br (((r9.len : Nat) : Int) != 0) (palisadelaw12_DiskBack.j15 U Q h) (palisadelaw12_DiskBack.j16 U sl B (some ⟨pb, 0⟩) (some ⟨pm, 0⟩) Q h)) h)) h)) h))) h) h6 := by
      intro y6 h6 s6 H6 ho9
      refine al_wrL rfl (fun b6 h7 hb6 ho6 k7 => br_f rfl (br_f rfl ?_))
      have s7 := s6.keep0 k7
      refine loc_I (k7.obj ho9 (fun f => f)) rfl (br_f (by rw [hi1, wrap64]; simp) (loc_I ho6 rfl (br_f (by rw [hi2, wrap64]; simp) ?_)))
      refine s7.pending (fun s' h8 H8 _ _ s8 k8 => ?_)
      have : s'.len = 0 := by rw [Held.slen H8]; rfl
      rw [this]
      refine br_f rfl ?_
      exact tail_of u hB0 hB1 hx ((H6.keeps k7 (fun _ _ f => f)).keeps k8 (fun _ _ f => f)) hsl s8 hQ
    refine s5.complete u (fun hk => ?_) (fun n r e hn hf' => ?_) (fun n r e hn hf' hwr y6 h6 s6 g6 k6 => ?_) (fun n r e hn hf' hwr y6 h6 s6 g6 k6 => ?_)
    · rw [hp] at hk; simp at hk
    · obtain rfl : n = 0 := by omega
      rw [hp] at hn; cases hn
      rw [hA3] at hf'; exact absurd hf hf'
    · obtain rfl : n = 0 := by omega
      rw [hp] at hn; cases hn
      obtain ⟨w1, w2, w3⟩ := hw hwr
      refine go y6 h6 ?_ (Held.keepsE H5 k6 (fun hne p hp hx => hsl hne p hp (s5.fy _ hx))) (k6.obj ho9 nf9)
      have e : ({ d1 with pend := d1.pend.eraseIdx 0, blk := fun j => if j = r2.block then frameOf bsA r2.frame else d1.blk j } : Dsk) = after B x := by
        rw [w3, hp, w1]; rfl
      rw [e, w2] at s6
      exact s6
    · obtain rfl : n = 0 := by omega
      rw [hp] at hn; cases hn
      obtain ⟨w1, w2, w3⟩ := hr hwr
      refine go y6 h6 ?_ (Held.keepsE H5 k6 (fun hne p hp hx => hsl hne p hp (hx.elim (s5.fy _) (fun e => e ▸ s.fb)))) (k6.obj ho9 (fun hx => hx.elim nf9 nm9))
      have e : ({ d1 with pend := d1.pend.eraseIdx 0 } : Dsk) = after B x := by
        obtain ⟨n1, b1, p1⟩ := d1
        simp only at w1 w3 hp ⊢
        rw [w1, w3, hp]; rfl
      rw [w2] at s6
      rw [← e]; exact s6
  refine s3.complete u (fun hk => ?_) (fun n r e hn hf => ?_) (fun n r e hn hf hwr y4 h4 s4 g4 k4 => ?_) (fun n r e hn hf hwr y4 h4 s4 g4 k4 => ?_)
  · simp at hk; omega
  · rw [hbl] at hf
    have : n = 0 ∨ n = 1 := by omega
    rcases this with rfl | rfl
    · cases hn; exact absurd fr0 hf
    · cases hn; exact absurd fr2 hf
  · have : n = 0 ∨ n = 1 := by omega
    rcases this with rfl | rfl
    · cases hn
      refine j13 ⟨1, true, B, 0⟩ ⟨2, false, 7 - B, 2⟩ _ _ y4 h4 s4 (Held.keepsE H3 k4 (fun hne p hp hx => hsl hne p hp (s3.fy _ hx))) rfl (by show (1 : Int) = _; omega) (by show (2 : Int) = _; omega) ⟨fr2.1, by show (2 : Int) < 3; omega⟩ hbl (fun hw => by cases hw) (fun _ => ⟨rfl, ?_, ?_⟩)
      · show Mem.put (bs1 x) ((2 : Int) * 256).toNat (if 7 - B = B then frameOf (bs1 x) 0 else zeros) = _
        rw [if_neg hne]; exact hput
      · show (fun j => if j = B then frameOf (bs1 x) 0 else zeros) = _
        rw [hfr]; rfl
    · cases hn; cases hwr
  · have : n = 0 ∨ n = 1 := by omega
    rcases this with rfl | rfl
    · cases hn; cases hwr
    · cases hn
      refine j13 ⟨2, false, 7 - B, 2⟩ ⟨1, true, B, 0⟩ _ _ y4 h4 s4 (Held.keepsE H3 k4 (fun hne p hp hx => hsl hne p hp (hx.elim (s3.fy _) (fun e => e ▸ s.fb)))) rfl (by show (2 : Int) = _; omega) (by show (1 : Int) = _; omega) ⟨fr0.1, by show (0 : Int) < 3; omega⟩ ?_ (fun _ => ⟨rfl, hput, ?_⟩) (fun hw => by cases hw)
      · show (Mem.put (bs1 x) ((2 : Int) * 256).toNat zeros).length = _
        rw [hput]; exact hbl
      · show (fun j => if j = B then frameOf (Mem.put (bs1 x) ((2 : Int) * 256).toNat zeros) 0 else zeros) = _
        rw [hput, hfr]; rfl

end

theorem back {U : Ifc} (u : DU U) (a : Sl) (a2 a3 : Int) (h0 : Heap) {x : List UInt8} (H : Held h0 a 1 (strCells x)) (hcap : a.len ≤ a.cap) (hx : x.length ≤ 9223372036854775807) (Q : Bool → Heap → Prop) (hQ : ∀ h, Q true h) : palisadelaw12_DiskBack U a a2 a3 Q h0 := by
  unfold palisadelaw12_DiskBack
  have hlen : a.len = x.length := by have := H.len; rw [strCells_length] at this; omega
  refine St.made (by omega) (by omega) (by omega) (by omega) (fun pb pm bm y h s => ?_)
  refine br_f rfl (br_f rfl (br_f rfl (br_f rfl ?_)))
  have H1 := H.keeps s.k (fun _ _ f => f)
  unfold palisadelaw12_DiskBack.j5
  refine br_if (fun hgt => ?_) (fun hle => ?_)
  · have hgt : 256 < x.length := by simp at hgt; omega
    refine sb_of (by omega) (by omega) ?_
    have hne : strCells x ≠ [] := by intro e; have := congrArg List.length e; rw [strCells_length] at this; simp at this; subst this; simp at hgt
    have hslp : ∀ p, slp a.p (0 * 1) 0 a.cap = some p → a.p = some p := by
      intro p hp
      unfold slp at hp
      split at hp
      · exact hp
      · cases ha : a.p with
        | none => rw [ha] at hp; cases hp
        | some q => rw [ha] at hp; cases hp; rfl
    have Hz : Held h ⟨slp a.p (0 * 1) 0 a.cap, (256 : Int).toNat - 0, a.cap - 0⟩ 1 (strCells (x.take 256)) := by
      refine ⟨by rw [strCells_length]; simp; omega, fun p hp i v hv => H1.row p (hslp p hp) i v ?_, fun hn => ?_⟩
      · rw [strCells_get] at hv ⊢
        rcases Nat.lt_or_ge i 256 with hi | hi
        · rw [List.getElem?_take_of_lt hi] at hv; exact hv
        · rw [List.getElem?_eq_none (by simp; omega)] at hv; cases hv
      · have hn : slp a.p (0 * 1) 0 a.cap = none := hn
        have : a.p = none := by
          unfold slp at hn
          split at hn
          · exact hn
          · cases ha : a.p with
            | none => rfl
            | some q => rw [ha] at hn; cases hn
        have := H.nil this; omega
    exact back7 u (by simp; omega) Hz (h0 := h0) (fun _ p hp => Held.known H hne p (hslp p hp)) s hQ
  · exact back7 u (by simp at hle; omega) H1 (h0 := h0) (fun hne p hp => Held.known H hne p hp) s hQ

end Go.Disk
