/- DiskOrder: requests are done in whatever order they are picked, each once; what is asked last wins. -/
import Derived.Test.YtlnigofbpnehlaaDiskS
set_option linter.unusedSimpArgs false
set_option linter.unusedVariables false
set_option maxRecDepth 100000
namespace Go.Disk
open Go.Lift Go.Fn

theorem and3 {i : Int} (h0 : 0 ≤ i) (h1 : i < 8) : ibits .and .i64 i 3 = i % 4 := by
  have : i = 0 ∨ i = 1 ∨ i = 2 ∨ i = 3 ∨ i = 4 ∨ i = 5 ∨ i = 6 ∨ i = 7 := by omega
  rcases this with rfl | rfl | rfl | rfl | rfl | rfl | rfl | rfl <;> decide

def ord (i : Nat) : Req := ⟨i, true, (i : Int) % 4, i⟩

/-- The n-th frame begins with n + 1. -/
def Marked (bs : List UInt8) (n : Nat) : Prop := bs.length = 2048 ∧ ∀ i, i < n → bs[i * 256]? = some (UInt8.ofNat (i + 1))

def bools (l : List Bool) : List V := l.map V.bool

/-- What holds while requests are done. -/
structure Goes (i : Nat) (d : Dsk) (bs L : List UInt8) (D : List Bool) : Prop where
  i8 : i ≤ 8
  few : d.pend.length = 8 - i
  n : d.n = 4
  reqs : ∀ r ∈ d.pend, ∃ j : Nat, j < 8 ∧ r = ord j ∧ D[j]? = some false
  mark : Marked bs 8
  ll : L.length = 4
  dl : D.length = 8
  last : ∀ j : Nat, j < 4 → (d.blk j)[0]? = L[j]?

theorem order {U : Ifc} (u : DU U) (a : Sl) (h0 : Heap) (ha : ∀ i, i < a.len → ∃ p v, a.p = some p ∧ h0.get p.b (p.o + i) = some (.int .i64 v)) (hlen : a.len ≤ 9223372036854775807) (Q : Bool → Heap → Prop) (hQ : ∀ h, Q true h) : palisadelaw12_DiskOrder U a Q h0 := by
  unfold palisadelaw12_DiskOrder
  refine St.made (by omega) (by omega) (by omega) (by omega) (fun pb pm bm y h s => ?_)
  refine br_f rfl (br_f rfl (br_f rfl (br_f rfl ?_)))
  unfold palisadelaw12_DiskOrder.j5 palisadelaw12_DiskOrder.j6
  intro I H
  -- the requests are asked
  have ask : ∀ (m i : Nat) (y : Lay) (d : Dsk) (bs : List UInt8) (h : Heap), i + m = 8 → St h0 pb pm bm y d bs h → d.n = 4 → d.blk = (fun _ => zeros) → d.pend = (List.range i).map ord → Marked bs i → I a (some ⟨pb, 0⟩) (some ⟨pm, 0⟩) (i : Int) h := by
    intro m
    induction m with
    | zero =>
      intro i y d bs h hi s hn hblk hp hm
      have hi8 : i = 8 := by omega
      subst hi8
      refine H _ _ _ _ _ ?_
      unfold palisadelaw12_DiskOrder.b6
      refine br_f rfl ?_
      have he : d.subErr ⟨9, false, 0, 0⟩ = 18 := by
        have h1 : d.has (Req.block ⟨9, false, 0, 0⟩) = true := by simp [Dsk.has, hn]
        have h2 : d.pend.any (fun o => o.id == (9 : Int)) = false := by rw [hp]; decide
        simp only [Dsk.subErr, h1, h2]; rw [hp]; decide
      refine s.submit u (r := ⟨9, false, 0, 0⟩) (fun y' h' s' g k' => ?_)
      rw [he]
      have hsub : d.sub ⟨9, false, 0, 0⟩ = d := by unfold Dsk.sub; rw [if_neg (by rw [he]; decide)]
      rw [hsub] at s'
      refine br_f rfl ?_
      refine al_of (fun b5 h5 hb5 ho5 k5 => al_of (fun b6 h6 hb6 ho6 k6 => ?_))
      have s5 := s'.keep0 k5
      have s6 := s5.keep0 k6
      have hb56 : b5 ≠ b6 := Heap.ne_of ho5 hb6
      have ho5 := k6.obj ho5 (fun f => f)
      unfold palisadelaw12_DiskOrder.j16
      intro I2 H2
      have hb5' : h0.obj b5 = none := s'.fresh hb5
      have hb6' : h0.obj b6 = none := s5.fresh hb6
      have go : ∀ (m i : Nat) (y : Lay) (d : Dsk) (bs L : List UInt8) (D : List Bool) (h : Heap), i + m = 8 → St h0 pb pm bm y d bs h → Off pm bm y b5 → Off pm bm y b6 → h.obj b5 = some (.cells (strCells L) false) → h.obj b6 = some (.cells (bools D) false) → Goes i d bs L D → I2 a (some ⟨pb, 0⟩) (some ⟨pm, 0⟩) ⟨b5, 0⟩ ⟨b6, 0⟩ (i : Int) h := by
        intro m
        induction m with
        | zero =>
          intro i y d bs L D h hi s o5 o6 ho5 ho6 G
          have hi8 : i = 8 := by omega
          subst hi8
          refine H2 _ _ _ _ _ _ _ ?_
          unfold palisadelaw12_DiskOrder.b16
          refine br_f rfl ?_
          unfold palisadelaw12_DiskOrder.j27
          intro I3 H3
          have chk : ∀ (m i : Nat) (h : Heap), i + m = 4 → St h0 pb pm bm y d bs h → h.obj b5 = some (.cells (strCells L) false) → I3 (some ⟨pb, 0⟩) ⟨b5, 0⟩ (i : Int) h := by
            intro m
            induction m with
            | zero =>
              intro i h hi s ho5
              have hi4 : i = 4 := by omega
              subst hi4
              refine H3 _ _ _ _ ?_
              unfold palisadelaw12_DiskOrder.b27
              refine br_f rfl (s.pending (fun s' h' Hh _ _ _ _ => ?_))
              have : s'.len = 0 := by rw [Held.slen Hh, G.few]
              rw [this]
              exact hQ _
            | succ m ih =>
              intro i h hi s ho5
              refine H3 _ _ _ _ ?_
              unfold palisadelaw12_DiskOrder.b27
              refine br_t (by simp; omega) (s.block (fun hno => ?_) (fun _ s' h' b O hl hb s'' k => ?_))
              · have : d.has (i : Int) = true := by simp [Dsk.has, G.n]; omega
                rw [this] at hno; cases hno
              · refine br_f rfl (ix_of (by omega) (by rw [hl]; omega) ?_)
                rw [O.p, der_some]
                have hlast := G.last i (by omega)
                have hLi : L[i]? = some (L[i]'(by rw [G.ll]; omega)) := List.getElem?_eq_getElem _
                generalize L[i]'(by rw [G.ll]; omega) = x at hLi
                have hr := O.held.row ⟨b, 0⟩ O.p 0 (.int .u8 x.toNat) (by rw [strCells_get, hlast, hLi]; rfl)
                refine rdI_of (x := (x.toNat : Int)) hr ?_
                refine ix_of (by omega) (by show (i : Int) < ((4 : Nat) : Int); omega) ?_
                have ho5 := k.obj ho5 (fun f => f)
                refine loc_I ho5 (x := (x.toNat : Int)) (by rw [Int.toNat_natCast, Nat.mul_one, Nat.zero_add, strCells_get, hLi]; rfl) ?_
                refine br_f (by simp) ?_
                rw [wrap64]
                have := ih (i + 1) h' (by omega) s'' ho5
                simpa using this
          exact chk 4 0 h rfl s ho5
        | succ m ih =>
          intro i y d bs L D h hi s o5 o6 ho5 ho6 G
          refine H2 _ _ _ _ _ _ _ ?_
          unfold palisadelaw12_DiskOrder.b16
          refine br_t (by simp; omega) ?_
          have done : ∀ k : Int, 0 ≤ k → k < 8 - (i : Int) → palisadelaw12_DiskOrder.j21 U I2 a (some ⟨pb, 0⟩) (some ⟨pm, 0⟩) ⟨b5, 0⟩ ⟨b6, 0⟩ (i : Int) k Q h := by
            intro k k0 k1
            unfold palisadelaw12_DiskOrder.j21
            have hfew := G.few
            have hfr : (bs.length / 256 : Nat) = 8 := by rw [G.mark.1]
            have wrong : ∀ (n : Nat) (r : Req), d.pend[n]? = some r → ∃ j : Nat, j < 8 ∧ r = ord j ∧ D[j]? = some false := fun n r hn => G.reqs r (List.mem_of_getElem? hn)
            refine s.complete u (fun hk => by omega) (fun n r e hn hf => ?_) (fun n r e hn hf hwr y' h' s' g k' => ?_) (fun n r e hn hf hwr => ?_)
            · obtain ⟨j, hj, rfl, _⟩ := wrong n r hn
              rw [hfr] at hf
              exact absurd ⟨by simp [ord], by simp [ord]; omega⟩ hf
            · obtain ⟨j, hj, rfl, hDj⟩ := wrong n r hn
              have o5' := o5.grow g (by rw [ho5]; simp)
              have o6' := o6.grow g (by rw [ho6]; simp)
              have ho5 := k'.obj ho5 o5.f
              have ho6 := k'.obj ho6 o6.f
              refine al_wrL rfl (fun b7 h7 hb7 ho7 k7 => ?_)
              have s7 := s'.keep0 k7
              have hb75 : b5 ≠ b7 := Heap.ne_of ho5 hb7
              have hb76 : b6 ≠ b7 := Heap.ne_of ho6 hb7
              have ho5 := k7.obj ho5 (fun f => f)
              have ho6 := k7.obj ho6 (fun f => f)
              refine br_f rfl (loc_I ho7 rfl (br_f (decide_eq_false (by show ¬ ((j : Int) < 0); omega)) (loc_I ho7 rfl (br_f (decide_eq_false (by show ¬ ((j : Int) > 7); omega)) (loc_I ho7 rfl ?_)))))
              have hjl : j < D.length := by rw [G.dl]; omega
              refine ix_of (by simp [ord]) (by show ((ord j).id) < ((8 : Nat) : Int); simp [ord]; omega) ?_
              have hij : ((ord j).id).toNat = j := by simp [ord]
              rw [hij]
              refine loc_B ho6 (x := false) (by rw [Nat.mul_one, Nat.zero_add]; simp [bools, hDj]) (br_f rfl ?_)
              unfold palisadelaw12_DiskOrder.j24
              refine loc_I ho7 rfl (ix_of (by simp [ord]) (by show ((ord j).id) < ((8 : Nat) : Int); simp [ord]; omega) ?_)
              rw [hij]
              refine loc_wr ho6 (u := .bool false) (by rw [Nat.mul_one, Nat.zero_add]; simp [bools, hDj]) (fun h8 ho8 k8 => ?_)
              rw [Nat.mul_one, Nat.zero_add] at ho8
              have s8 := s7.keeps k8 (fun x e => e ▸ hb6') (fun x e => e ▸ o6')
              have ho7 := k8.obj ho7 (fun e => hb76 e.symm)
              have ho5 := k8.obj ho5 hb56
              refine loc_I ho7 rfl (loc_I ho7 rfl ?_)
              have hblk : (ord j).block = ((j % 4 : Nat) : Int) := by simp [ord]
              have hjm : j % 4 < L.length := by rw [G.ll]; omega
              refine ix_of (by rw [hblk]; omega) (by rw [hblk]; show _ < ((4 : Nat) : Int); omega) ?_
              rw [hblk, Int.toNat_natCast]
              have hLj : L[j % 4]? = some L[j % 4] := List.getElem?_eq_getElem _
              refine loc_wr ho5 (u := .int .u8 L[j % 4].toNat) (by rw [Nat.mul_one, Nat.zero_add, strCells_get, hLj]; rfl) (fun h9 ho9 k9 => ?_)
              rw [Nat.mul_one, Nat.zero_add] at ho9
              have s9 := s8.keeps k9 (fun x e => e ▸ hb5') (fun x e => e ▸ o5')
              have ho6 := k9.obj ho8 (fun e => hb56 e.symm)
              unfold palisadelaw12_DiskOrder.j17
              rw [wrap64 (x := (i : Int) + 1)]
              have hnum : IntKind.u8.wrap (IntKind.i64.wrap (1 + (ord j).frame)) = ((UInt8.ofNat (j + 1)).toNat : Int) := by
                have : j = 0 ∨ j = 1 ∨ j = 2 ∨ j = 3 ∨ j = 4 ∨ j = 5 ∨ j = 6 ∨ j = 7 := by omega
                rcases this with rfl | rfl | rfl | rfl | rfl | rfl | rfl | rfl <;> decide
              have hcell : (strCells L).set (j % 4) (.int .u8 (IntKind.u8.wrap (IntKind.i64.wrap (1 + (ord j).frame)))) = strCells (L.set (j % 4) (UInt8.ofNat (j + 1))) := by
                rw [hnum]; simp [strCells, List.map_set]
              rw [hcell] at ho9
              have hcell2 : (bools D).set j (.bool true) = bools (D.set j true) := by simp [bools, List.map_set]
              rw [hcell2] at ho6
              have := ih (i + 1) y' _ bs _ _ h9 (by omega) s9 o5' o6' ho9 ho6 ?_
              · simpa using this
              · have hnl : n < d.pend.length := by rcases Nat.lt_or_ge n d.pend.length with h | h; exact h; rw [List.getElem?_eq_none h] at hn; cases hn
                refine ⟨by omega, by show (d.pend.eraseIdx n).length = _; rw [List.length_eraseIdx_of_lt hnl]; omega, G.n, fun r hr => ?_, G.mark, by simp [G.ll], by simp [G.dl], fun j' hj' => ?_⟩
                · have hmem : r ∈ d.pend := List.mem_of_mem_eraseIdx hr
                  obtain ⟨j', hj', rfl, hD'⟩ := G.reqs r hmem
                  refine ⟨j', hj', rfl, ?_⟩
                  have hne : j' ≠ j := by
                    intro e; subst e
                    have hp := s.ok.nd
                    have hnot : ∀ q ∈ d.pend.eraseIdx n, q.id ≠ (ord j').id := by
                      intro q hq
                      rw [← filter_erase hp hn] at hq
                      have hq2 := (List.mem_filter.1 hq)
                      intro hid
                      have hqm := G.reqs q hq2.1
                      obtain ⟨j2, _, rfl, _⟩ := hqm
                      have hjj : j2 = j' := by simp [ord] at hid; omega
                      subst hjj
                      have := hq2.2
                      rw [isReq_self] at this
                      cases this
                    exact hnot _ hr rfl
                  rw [List.getElem?_set_ne (fun e => hne e.symm)]; exact hD'
                · show (if (j' : Int) = (ord j).block then frameOf bs (ord j).frame else d.blk j')[0]? = _
                  rw [hblk]
                  by_cases e : j' = j % 4
                  · subst e
                    rw [if_pos rfl, List.getElem?_set_self hjm]
                    have hmk := G.mark.2 j hj
                    have hfo : frameOf bs (ord j).frame = (bs.drop (j * 256)).take 256 := by
                      unfold frameOf
                      have : ((ord j).frame * 256).toNat = j * 256 := by simp [ord]; omega
                      rw [this]
                    rw [hfo, List.getElem?_take_of_lt (by omega), List.getElem?_drop, Nat.add_zero]
                    exact hmk
                  · rw [if_neg (by omega), List.getElem?_set_ne (fun e' => e e'.symm)]
                    exact G.last j' hj'
            · obtain ⟨j, hj, rfl, _⟩ := wrong n r hn
              cases hwr
          refine br_if (fun hlt => ?_) (fun _ => done 0 (by omega) (by omega))
          have hlt : i < a.len := by simpa using hlt
          refine ix_of (by omega) (by omega) ?_
          obtain ⟨p, v, hp, hv⟩ := ha i hlt
          rw [hp, der_some, Int.toNat_natCast, Nat.mul_one]
          have hg : h.get p.b (p.o + i) = some (.int .i64 v) := by
            have hk : h0.obj p.b ≠ none := by intro hn; unfold Heap.get at hv; rw [hn] at hv; cases hv
            rw [Heap.get_obj (s.k.same p.b hk (fun f => f))]; exact hv
          refine rdI_of hg ?_
          have e8 : IntKind.i64.wrap (8 - (i : Int)) = 8 - (i : Int) := wrap64
          rw [e8]
          have hm0 : (0 : Int) < 8 - (i : Int) := by omega
          refine nz_of (by omega) (nz_of (by omega) ?_)
          have ht1 : v.tmod (8 - (i : Int)) < 8 - (i : Int) := Int.tmod_lt_of_pos v hm0
          have ht2 : -(8 - (i : Int)) < v.tmod (8 - (i : Int)) := by
            have := Int.lt_tmod_of_pos v hm0
            omega
          rw [wrap64 (x := v.tmod (8 - (i : Int)) + 8), wrap64]
          exact done _ (Int.tmod_nonneg _ (by omega)) (Int.tmod_lt_of_pos _ hm0)
      have := go 8 0 y' d bs [0, 0, 0, 0] [false, false, false, false, false, false, false, false] h6 rfl s6 ((s'.off hb5).grow (Grow.refl _ _) (by rw [ho5]; simp)) (s5.off hb6) ho5 ho6 ?_
      · simpa using this
      · refine ⟨by omega, by rw [hp]; simp, hn, fun r hr => ?_, hm, rfl, rfl, fun j hj => ?_⟩
        · rw [hp] at hr
          obtain ⟨j, hj, rfl⟩ := List.mem_map.1 hr
          have hj := List.mem_range.1 hj
          refine ⟨j, hj, rfl, ?_⟩
          have : j = 0 ∨ j = 1 ∨ j = 2 ∨ j = 3 ∨ j = 4 ∨ j = 5 ∨ j = 6 ∨ j = 7 := by omega
          rcases this with rfl | rfl | rfl | rfl | rfl | rfl | rfl | rfl <;> rfl
        · rw [hblk]
          have : j = 0 ∨ j = 1 ∨ j = 2 ∨ j = 3 := by omega
          rcases this with rfl | rfl | rfl | rfl <;> rfl
    | succ m ih =>
      intro i y d bs h hi s hn hblk hp hm
      refine H _ _ _ _ _ ?_
      unfold palisadelaw12_DiskOrder.b6
      refine br_t (by simp; omega) ?_
      have hnum : IntKind.u8.wrap (IntKind.i64.wrap (1 + (i : Int))) = ((UInt8.ofNat (i + 1)).toNat : Int) := by
        have : i = 0 ∨ i = 1 ∨ i = 2 ∨ i = 3 ∨ i = 4 ∨ i = 5 ∨ i = 6 ∨ i = 7 := by omega
        rcases this with rfl | rfl | rfl | rfl | rfl | rfl | rfl | rfl <;> decide
      rw [hnum]
      refine al_of (fun b1 h1 hb1 ho1 k1 => ?_)
      have s1 := s.keep0 k1
      have e256 : IntKind.u64.wrap (IntKind.i64.wrap (256 * (i : Int))) = 256 * (i : Int) := by rw [wrap64, wrapu64]
      rw [e256]
      refine s1.memput (x := [UInt8.ofNat (i + 1)]) (by omega) (by omega) ⟨rfl, fun p hp j v hv => ?_, fun hn => by cases hn⟩ (by simp) (fun hl => ?_) (fun hle h2 s2 k2 => ?_)
      · cases hp
        rw [get_cells ho1, Nat.zero_add]; exact hv
      · simp [Mem.lies, hm.1] at hl; omega
      · rw [and3 (by omega) (by omega)]
        refine s2.submit u (r := ord i) (fun y' h3 s3 g k3 => ?_)
        have he : d.subErr (ord i) = 0 := by
          have h1 : d.has (ord i).block = true := by
            have h1 : (0 : Int) ≤ (i : Int) % 4 := by omega
            have h2 : (i : Int) % 4 < 4 := by omega
            simp only [Dsk.has, hn, ord, decide_eq_true h1, decide_eq_true h2]; rfl
          have h2 : d.pend.any (fun o => o.id == (ord i).id) = false := by
            rw [hp, List.any_eq_false]
            intro q hq
            obtain ⟨j, hj, rfl⟩ := List.mem_map.1 hq
            have := List.mem_range.1 hj
            simp [ord]; omega
          have h3 : ¬ d.pend.length ≥ 8 := by rw [hp]; simp; omega
          simp only [Dsk.subErr, h1, h2, if_neg h3]; rfl
        rw [he]
        refine br_f rfl ?_
        rw [wrap64]
        have hsub : d.sub (ord i) = { d with pend := d.pend ++ [ord i] } := by unfold Dsk.sub; rw [if_pos he]
        rw [hsub] at s3
        have := ih (i + 1) y' _ _ h3 (by omega) s3 hn hblk (by show d.pend ++ [ord i] = _; rw [hp, List.range_succ, List.map_append]; rfl) ⟨by rw [Mem.put_length (by simp [hm.1]; omega)]; exact hm.1, fun j hj => ?_⟩
        · simpa using this
        · rw [Mem.put_get (by simp [hm.1]; omega)]
          have e1 : (256 * (i : Int)).toNat = i * 256 := by omega
          rw [e1]
          by_cases e : j = i
          · subst e; rw [if_pos (by simp)]; simp
          · rw [if_neg (by simp; omega)]; exact hm.2 j (by omega)
  have := ask 8 0 y _ _ h rfl s rfl rfl rfl ⟨by simp, fun i hi => by omega⟩
  simpa using this

end Go.Disk
