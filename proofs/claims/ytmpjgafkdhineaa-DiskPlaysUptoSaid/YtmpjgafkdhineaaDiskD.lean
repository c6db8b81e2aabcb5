/- A disk's request is done. -/
import Derived.Test.YtmpjgafkdhineaaDiskC
set_option linter.unusedSimpArgs false
set_option linter.unusedVariables false
set_option maxRecDepth 100000
namespace Go.Disk
open Go.Lift Go.Fn

theorem ret_of {h : Heap} {b : Nat} {l : List V} (hl : l.length = 4) (ho : h.obj b = some (.cells l false)) {r : Req} {K : Int → Bool → Int → Int → Heap → Prop} (hk : ∀ h', Keeps (· = b) h h' → K r.id r.write r.block r.frame h') :
    wrL r.cells ⟨b, 0⟩ 0 (fun h => rdI .i64 ((⟨b, 0⟩ : Ptr).add 0) (fun x1 => rdB ((⟨b, 0⟩ : Ptr).add 1) (fun x2 => rdI .i64 ((⟨b, 0⟩ : Ptr).add 2) (fun x3 => rdI .i64 ((⟨b, 0⟩ : Ptr).add 3) (fun x4 => K x1 x2 x3 x4 h) h) h) h) h) h := by
  refine wrL_of (j := 0) ho (by rw [hl]; simp [Req.cells]) (fun h' ho' k => ?_)
  have e : splice l (0 + 0) r.cells = r.cells := by
    unfold splice
    rw [List.drop_of_length_le (by rw [hl]; simp [Req.cells])]
    simp
  rw [e] at ho'
  exact loc_I ho' rfl (loc_B ho' rfl (loc_I ho' rfl (loc_I ho' rfl (hk h' k))))

def isReq (r q : Req) : Bool := eqL [q.id == r.id, q.write == r.write, q.block == r.block, q.frame == r.frame]

theorem isReq_id {r q : Req} (h : isReq r q = true) : q.id = r.id := by
  simp [isReq, eqL] at h; exact h.1
theorem isReq_self (r : Req) : isReq r r = true := by simp [isReq, eqL]

theorem filter_erase {r : Req} : ∀ {l : List Req} {n : Nat}, l.Pairwise (fun a b => a.id ≠ b.id) → l[n]? = some r → l.filter (fun q => !isReq r q) = l.eraseIdx n
  | [], n, _, h => by cases h
  | q :: l, 0, hp, h => by
    cases h
    rw [List.filter_cons]
    simp only [isReq_self, Bool.not_true, Bool.false_eq_true, if_false, List.eraseIdx_cons_zero]
    rw [List.filter_eq_self]
    intro a ha
    rw [List.pairwise_cons] at hp
    have := hp.1 a ha
    cases hi : isReq r a with
    | false => rfl
    | true => exact absurd (isReq_id hi).symm this
  | q :: l, n + 1, hp, h => by
    rw [List.pairwise_cons] at hp
    have hl : l[n]? = some r := by simpa using h
    rw [List.filter_cons, filter_erase hp.2 hl, List.eraseIdx_cons_succ]
    have hne := hp.1 r (List.mem_of_getElem? hl)
    cases hi : isReq r q with
    | false => rfl
    | true => exact absurd (isReq_id hi) hne

theorem Dsk.Ok.erase {d : Dsk} (k : d.Ok) (n : Nat) : Dsk.Ok { d with pend := d.pend.eraseIdx n } := by
  have hs : (d.pend.eraseIdx n).Sublist d.pend := List.eraseIdx_sublist _ _
  exact ⟨k.lo, k.hi, by have := hs.length_le; have := k.few; show (d.pend.eraseIdx n).length ≤ 8; omega, k.len, k.nd.sublist hs, fun r hr => k.has r (hs.subset hr)⟩

def frameOf (bs : List UInt8) (f : Int) : List UInt8 := (bs.drop (f * 256).toNat).take 256

section
variable {y : Lay} {d : Dsk} {h h' : Heap}

theorem Complete_of {U : Ifc} (u : DU U) (R : Rep y d h) (ok : d.Ok) {pm bm : Nat} {bs : List UInt8} (M : Mem.Rep pm bm bs h) (hbs : 256 ≤ bs.length) (np : ¬ y.Foot pm) (nb : ¬ y.Foot bm) {k : Int} {Q : Int → Bool → Int → Int → Int → Heap → Prop}
    (h14 : (k < 0 ∨ (d.pend.length : Int) ≤ k) → ∀ h', Keeps none_ h h' → Q 0 false 0 0 14 h')
    (h12 : ∀ (n : Nat) r, k = n → d.pend[n]? = some r → ¬ (0 ≤ r.frame ∧ r.frame < (bs.length / 256 : Nat)) → ∀ y' h', Rep y' { d with pend := d.pend.eraseIdx n } h' → y'.pb = y.pb → Grow h y.Foot y'.Foot → Keeps y.Foot h h' → Q r.id r.write r.block r.frame 12 h')
    (hw : ∀ (n : Nat) r, k = n → d.pend[n]? = some r → (0 ≤ r.frame ∧ r.frame < (bs.length / 256 : Nat)) → r.write = true → ∀ y' h', Rep y' { d with pend := d.pend.eraseIdx n, blk := fun j => if j = r.block then frameOf bs r.frame else d.blk j } h' → y'.pb = y.pb → Grow h y.Foot y'.Foot → Keeps y.Foot h h' → Q r.id r.write r.block r.frame 0 h')
    (hr : ∀ (n : Nat) r, k = n → d.pend[n]? = some r → (0 ≤ r.frame ∧ r.frame < (bs.length / 256 : Nat)) → r.write = false → ∀ y' h', Rep y' { d with pend := d.pend.eraseIdx n } h' → Mem.Rep pm bm (Mem.put bs (r.frame * 256).toNat (d.blk r.block)) h' → y'.pb = y.pb → Grow h y.Foot y'.Foot → Keeps (fun x => y.Foot x ∨ x = bm) h h' → Q r.id r.write r.block r.frame 0 h') :
    disk_Disk_Complete U (some ⟨y.pb, 0⟩) (some ⟨pm, 0⟩) k Q h := by
  unfold disk_Disk_Complete
  have hsz := M.size
  have hfew := ok.few
  refine al_of (fun b1 h1 hb1 ho1 k1 => ?_)
  have R1 := R.keep0 k1
  have M1 := M.keep0 k1
  refine none_of R1 ?_
  refine br_f rfl ?_
  refine Mem.Frames_of M1 ?_
  refine br_f (by simp; omega) ?_
  have bad : (k < 0 ∨ (d.pend.length : Int) ≤ k) → disk_Disk_Complete.j4 U ⟨b1, 0⟩ Q h1 := by
    intro hk
    unfold disk_Disk_Complete.j4
    refine ret_of (r := ⟨0, false, 0, 0⟩) rfl ho1 (fun h2 k2 => h14 hk h2 ?_)
    exact Keeps.widen (k1.mono (S' := (· = b1)) (fun _ f => f.elim) |>.trans k2) (fun x hx => .inr (hx ▸ hb1))
  have hslen := Held.slen R1.held
  refine br_if (fun hlt => bad (.inl (by simpa using hlt))) (fun hge => ?_)
  rw [der_some]
  refine loc_Sl R1.cell rfl (br_if (fun hgt => bad (.inr (by simp at hgt; omega))) (fun hlt => ?_))
  have hk0 : 0 ≤ k := by simpa using hge
  have hk1 : k.toNat < d.pend.length := by simp at hlt; omega
  obtain ⟨n, rfl⟩ : ∃ n : Nat, k = n := ⟨k.toNat, by omega⟩
  rw [Int.toNat_natCast] at hk1
  have hn : d.pend[n]? = some d.pend[n] := List.getElem?_eq_getElem hk1
  generalize hrr : d.pend[n] = r at hn
  rw [der_some]
  obtain ⟨p, hp⟩ := Held.some R1.held hk1
  refine loc_Sl R1.cell rfl (ix_of (by omega) (by omega) ?_)
  rw [hp, der_some, Int.toNat_natCast]
  refine rd0 R1.held hp hn (rd1 R1.held hp hn (rd2 R1.held hp hn (rd3 R1.held hp hn ?_)))
  refine al_wrL rfl (fun b2 h2 hb2 ho2 k2 => ?_)
  have ho1 := k2.obj ho1 (fun f => f)
  have R2 := R1.keep0 k2
  have M2 := M1.keep0 k2
  have k02 := k1.trans k2
  have nf1 : ¬ y.Foot b1 := fun hx => R.known b1 hx hb1
  have nf2 : ¬ y.Foot b2 := fun hx => R1.known b2 hx hb2
  have hb2h : h.obj b2 = none := Mem.fresh_of k1 hb2
  unfold disk_Disk_Complete.j6
  rw [der_some]
  refine loc_Sl R2.cell rfl ?_
  rcases R2.pend with ⟨_, hd0⟩ | ⟨b, O⟩
  · rw [hd0] at hk1; simp at hk1
  have hat : y.s.at b := ⟨_, O.p, rfl⟩
  have hbF : y.Foot b := .inr (.inr (.inl hat))
  have hat' : ∀ x, y.s.at x → x = b := by intro x hx; obtain ⟨p, h1, rfl⟩ := hx; rw [O.p] at h1; cases h1; rfl
  have hbb2 : b2 ≠ b := fun e => nf2 (e ▸ hbF)
  have hbb1 : b1 ≠ b := fun e => nf1 (e ▸ hbF)
  refine delete_of (P := isReq r) O (by omega) ?_ (fun s' h3 O3 hcap k3 => ?_)
  · intro q g κ kg hk
    refine u.c56 _ _ _ _ ?_
    unfold disk_Disk_Complete_c1
    refine al_of (fun b3 g2 hb3 ho3 kg2 => ?_)
    have hob := kg2.obj (kg.obj ho2 hbb2) (fun f => f)
    refine loc_I ho3 rfl (loc_B ho3 rfl (loc_I ho3 rfl (loc_I ho3 rfl (loc_I hob rfl (loc_B hob rfl (loc_I hob rfl (loc_I hob rfl ?_)))))))
    exact hk g2 kg2
  · rw [filter_erase ok.nd hn] at O3
    rw [der_some]
    have hpb : y.pb ≠ b := fun e => (R.s1 b hat).1 e.symm
    have hmb : y.m ≠ b := fun e => (R.s1 b hat).2 e.symm
    refine loc_wr (k3.obj R2.cell hpb) rfl (fun h4 ho4 k4 => ?_)
    -- the disk without the request
    have R4 : Rep { y with s := s' } { d with pend := d.pend.eraseIdx n } h4 := by
      have hs' : ∀ x, s'.at x → x = b := by intro x hx; obtain ⟨p, h1, rfl⟩ := hx; rw [O3.p] at h1; cases h1; rfl
      refine ⟨ho4, (R2.map.keeps k3 hmb).keeps k4 R.m1, R.keys, fun i => ?_, .inr ⟨b, O3.keeps k4 hpb.symm⟩, fun x hx => ?_, fun x hx => ?_, R.m1⟩
      · exact ((R2.blks i).keeps k3 (fun x hx e => (R.g1 x hx).2.2.1 (e ▸ hat))).keeps k4 (fun x hx => (R.g1 x hx).1)
      · obtain ⟨g1, g2, g3, g4⟩ := R2.g1 x hx
        exact ⟨g1, g2, fun hx' => g3 (by have := hs' x hx'; subst this; exact hat), k4.known x (k3.known x g4)⟩
      · have := hs' x hx; subst this; exact R.s1 _ hat
    have hF4 : ∀ x, Lay.Foot { y with s := s' } x → y.Foot x := by
      intro x hx
      rcases hx with hx | hx | hx | hx
      · exact .inl hx
      · exact .inr (.inl hx)
      · obtain ⟨p, h1, rfl⟩ := hx; rw [O3.p] at h1; cases h1; exact hbF
      · exact .inr (.inr (.inr hx))
    have k34 : Keeps y.Foot h2 h4 := (k3.mono (fun x hx => hx ▸ hbF)).trans (k4.mono (fun x hx => hx ▸ .inl rfl))
    have k04 : Keeps y.Foot h h4 := (k02.mono (fun _ f => f.elim)).trans k34
    have M4 := M2.keeps k34 np nb
    have ho2 := k34.obj ho2 nf2
    have ho1 := k34.obj ho1 nf1
    have bad12 : ¬ (0 ≤ r.frame ∧ r.frame < (bs.length / 256 : Nat)) → disk_Disk_Complete.j8 U ⟨b1, 0⟩ ⟨b2, 0⟩ Q h4 := by
      intro hf
      unfold disk_Disk_Complete.j8
      refine loc_I ho2 rfl (loc_B ho2 rfl (loc_I ho2 rfl (loc_I ho2 rfl ?_)))
      refine ret_of (r := r) rfl ho1 (fun h5 k5 => ?_)
      refine h12 n r rfl hn hf _ h5 (R4.keeps k5 (fun x hx e => nf1 (e ▸ hF4 x hx))) rfl (fun x hx => .inl (hF4 x hx)) ?_
      exact Keeps.widen ((k04.mono (S' := fun x => y.Foot x ∨ x = b1) (fun _ hx => .inl hx)).trans (k5.mono (fun x hx => .inr hx))) (fun x hx => hx.elim .inl (fun e => .inr (e ▸ hb1)))
    refine loc_I ho2 rfl (br_if (fun hneg => bad12 (by simp at hneg; omega)) (fun hneg => ?_))
    refine loc_I ho2 rfl (Mem.Frames_of M4 ⟨⟨(get_cells ho2 _).trans rfl, trivial⟩, ?_⟩)
    refine br_if (fun hbig => bad12 (by simp at hbig; omega)) (fun hbig => ?_)
    have hf0 : 0 ≤ r.frame := by simp at hneg; omega
    have hf1 : r.frame < (bs.length / 256 : Nat) := by simp at hbig; omega
    have hbl := ok.has r (List.mem_of_getElem? hn)
    refine loc_I ho2 rfl ?_
    have e256 : IntKind.u64.wrap (IntKind.u64.wrap r.frame * 256) = r.frame * 256 := by rw [wrapu64 (x := r.frame), wrapu64]
    unfold disk_Disk_Complete.j10
    rw [e256]
    refine loc_B ho2 rfl (br_if (fun hwr => ?_) (fun hrd => ?_))
    · refine Mem.Bytes_of M4 (by omega) (by omega) (by omega) (by omega) (fun h => by omega) (fun _ hl => ?_) (fun _ _ _ s5 h5 b5 O5 hl5 hb5 k5 => ?_)
      · simp [Mem.lies] at hl; omega
      · have ho2 := k5.obj ho2 (fun f => f)
        have ho1 := k5.obj ho1 (fun f => f)
        have R5 := R4.keep0 k5
        have hk15 : h5.obj b1 ≠ none := by rw [ho1]; simp
        refine loc_I ho2 rfl (loc_B ho2 rfl (loc_I ho2 rfl (loc_I ho2 rfl (loc_I ho2 rfl ?_))))
        have e1 : (bs.drop (r.frame * 256).toNat).take ((256 : Int)).toNat = frameOf bs r.frame := rfl
        rw [e1] at O5
        have hfl : (frameOf bs r.frame).length = 256 := by simp [frameOf]; omega
        refine Put_of u R5 (ok.erase n) O5.held (fun y' h6 R6 hp6 g6 k6 => ?_)
        have e2 : Dsk.putErr { d with pend := d.pend.eraseIdx n } r.block (frameOf bs r.frame) = 0 := by
          have : Dsk.has { d with pend := d.pend.eraseIdx n } r.block = true := by simp [Dsk.has, hbl]
          simp [Dsk.putErr, this, hfl]
        have e3 : Dsk.put { d with pend := d.pend.eraseIdx n } r.block (frameOf bs r.frame) = { d with pend := d.pend.eraseIdx n, blk := fun j => if j = r.block then frameOf bs r.frame else d.blk j } := by
          unfold Dsk.put; rw [if_pos e2]
        rw [e3] at R6
        rw [e2]
        have hm2 : b2 ≠ y.m := fun e => nf2 (e ▸ .inr (.inl rfl))
        have hm1 : b1 ≠ y.m := fun e => nf1 (e ▸ .inr (.inl rfl))
        have ho2 := k6.obj ho2 hm2
        have ho1 := k6.obj ho1 hm1
        refine ⟨⟨(get_cells ho2 _).trans rfl, (get_cells ho2 _).trans rfl, (get_cells ho2 _).trans rfl, (get_cells ho2 _).trans rfl, trivial⟩, ?_⟩
        refine ret_of (r := r) rfl ho1 (fun h7 k7 => ?_)
        have k05 : Keeps y.Foot h h5 := k04.trans (k5.mono (fun _ f => f.elim))
        have g06 : Grow h y.Foot y'.Foot := by
          intro x hx
          rcases g6 x hx with hx | hx
          · exact .inl (hF4 x hx)
          · exact .inr (Mem.fresh_of k05 hx)
        have n16 : ¬ y'.Foot b1 := by
          intro hx
          rcases g6 b1 hx with hx | hx
          · exact nf1 (hF4 b1 hx)
          · exact hk15 hx
        refine hw n r rfl hn ⟨hf0, hf1⟩ hwr y' h7 (R6.keeps k7 (fun x hx e => n16 (e ▸ hx))) hp6 g06 ?_
        have k06 : Keeps y.Foot h h6 := k05.trans (k6.mono (fun x hx => hx ▸ .inr (.inl rfl)))
        exact Keeps.widen ((k06.mono (S' := fun x => y.Foot x ∨ x = b1) (fun _ hx => .inl hx)).trans (k7.mono (fun x hx => .inr hx))) (fun x hx => hx.elim .inl (fun e => .inr (e ▸ hb1)))
    · refine loc_I ho2 rfl ?_
      have hhas : Dsk.has { d with pend := d.pend.eraseIdx n } r.block = true := by simp [Dsk.has, hbl]
      refine Block_of R4 (ok.erase n) (fun hno => by rw [hhas] at hno; cases hno) (fun _ s5 h5 b5 O5 hl5 hb5 k5 => ?_)
      have ho2 := k5.obj ho2 (fun f => f)
      have ho1 := k5.obj ho1 (fun f => f)
      have R5 := R4.keep0 k5
      have M5 := M4.keep0 k5
      refine loc_I ho2 rfl (loc_B ho2 rfl (loc_I ho2 rfl (loc_I ho2 rfl ?_)))
      have hblen : (d.blk r.block).length = 256 := ok.len _
      refine Mem.Put_of M5 (by omega) (by omega) O5.held (by show (d.blk r.block).length ≤ _; omega) (fun hl => ?_) (fun hle h6 M6 k6 => ?_)
      · have hl : Mem.lies bs.length (r.frame * 256) ((d.blk r.block).length : Nat) = false := hl
        simp [Mem.lies, hblen] at hl; omega
      · have n2m : b2 ≠ bm := fun e => M1.known2 (e ▸ hb2)
        have n1m : b1 ≠ bm := fun e => M.known2 (e ▸ hb1)
        have ho2 := k6.obj ho2 n2m
        have ho1 := k6.obj ho1 n1m
        refine ⟨⟨(get_cells ho2 _).trans rfl, (get_cells ho2 _).trans rfl, (get_cells ho2 _).trans rfl, (get_cells ho2 _).trans rfl, trivial⟩, ?_⟩
        refine ret_of (r := r) rfl ho1 (fun h7 k7 => ?_)
        have n1p : b1 ≠ pm := fun e => M.known1 (e ▸ hb1)
        have R7 := (R5.keeps k6 (fun x hx e => nb (e ▸ hF4 x hx))).keeps k7 (fun x hx e => nf1 (e ▸ hF4 x hx))
        refine hr n r rfl hn ⟨hf0, hf1⟩ hrd _ h7 R7 (M6.keeps k7 n1p.symm n1m.symm) rfl (fun x hx => .inl (hF4 x hx)) ?_
        have k05 : Keeps y.Foot h h5 := k04.trans (k5.mono (fun _ f => f.elim))
        have k06 : Keeps (fun x => y.Foot x ∨ x = bm) h h6 := (k05.mono (fun _ hx => .inl hx)).trans (k6.mono (fun x hx => .inr hx))
        exact Keeps.widen ((k06.mono (S' := fun x => (y.Foot x ∨ x = bm) ∨ x = b1) (fun _ hx => .inl hx)).trans (k7.mono (fun x hx => .inr hx))) (fun x hx => hx.elim .inl (fun e => .inr (e ▸ hb1)))

end
end Go.Disk
