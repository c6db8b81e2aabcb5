/- The disk's other methods: New, Block, Put, Complete. -/
import Derived.Test.YtmpjgafkdhineaaDiskB
set_option linter.unusedSimpArgs false
set_option linter.unusedVariables false
set_option maxRecDepth 100000
namespace Go.Disk
open Go.Lift Go.Fn

section
variable {y : Lay} {d : Dsk} {h h' : Heap}

theorem New_of {n : Int} (h0 : 1 ≤ n) (h1 : n ≤ 65536) {Q : Option Ptr → Int → Heap → Prop}
    (hq : ∀ y h', Rep y ⟨n, fun _ => zeros, []⟩ h' → (∀ x, y.Foot x → h.obj x = none) → Keeps none_ h h' → Q (some ⟨y.pb, 0⟩) 0 h') : disk_New n Q h := by
  unfold disk_New
  refine br_f (by simp; omega) (br_f (by simp; omega) ?_)
  refine alM_of (fun m h1 hm ho1 k1 => ?_)
  refine al_of (fun b h2 hb ho2 k2 => ?_)
  have hne : m ≠ b := fun e => ho1.known (e ▸ hb)
  refine hq ⟨b, m, ⟨none, 0, 0⟩, [], fun _ => False⟩ h2 ⟨ho2, ho1.keeps k2 (fun f => f), by simp [IKeys], fun i => rfl, .inl ⟨rfl, rfl⟩, fun x hx => hx.elim, fun x hx => ?_, hne⟩ (fun x hx => ?_) (k1.trans k2)
  · obtain ⟨p, h1, _⟩ := hx; cases h1
  · rcases hx with rfl | rfl | hx | hx
    · exact Mem.fresh_of k1 hb
    · exact hm
    · obtain ⟨p, h1, _⟩ := hx; cases h1
    · exact hx.elim

theorem asSl_sl {s : Sl} {κ : Sl → Prop} : asSl (.sl s) κ = κ s := rfl
theorem strCells_zeros : strCells zeros = flatRep 256 [.int .u8 0] := (flatRep_bytes 256).symm

theorem Block_of (R : Rep y d h) (k : d.Ok) {i : Int} {Q : Sl → Int → Heap → Prop}
    (h12 : d.has i = false → Q ⟨none, 0, 0⟩ 12 h)
    (h00 : d.has i = true → ∀ s' h' b, Own h' s' 1 (strCells (d.blk i)) b → s'.len = 256 → h.obj b = none → Keeps none_ h h' → Q s' 0 h') : disk_Disk_Block (some ⟨y.pb, 0⟩) i Q h := by
  unfold disk_Disk_Block
  refine wrong_of R ?_
  cases hh : d.has i with
  | false => exact br_t rfl (h12 hh)
  | true =>
    refine br_f rfl ?_
    refine mkSl_of (sz := 1) (n := 256) rfl (by omega) (by omega) (fun h1 b O hb k1 => ?_)
    have R1 := R.keep0 k1
    rw [der_some]
    refine loc_M R1.cell rfl (mapGet_of R1.map ?_)
    have hB := R1.blks i
    have hlen := k.len i
    cases hf : ifind i y.l with
    | none =>
      rw [hf] at hB
      show asSl (.sl ⟨none, 0, 0⟩) _
      rw [asSl_sl]
      refine cellsS_of (vs := []) Held.empty ?_
      obtain ⟨rest, mk, ho, hr⟩ := O.obj
      refine copyS_of (o := 0) rfl ho (by simp) (fun h2 ho2 k2 => ?_)
      have hB : d.blk i = zeros := hB
      refine h00 hh _ h2 b ⟨rfl, Nat.le_refl _, by rw [hB, strCells_zeros, flatRep_length]; rfl, rest, mk, ?_, hr⟩ rfl hb ?_
      · rw [ho2, hB, strCells_zeros]; simp [splice]
      · refine Keeps.widen (k1.mono (S' := (· = b)) (fun _ f => f.elim) |>.trans k2) (fun x hx => ?_)
        exact .inr (hx ▸ hb)
    | some v =>
      rw [hf] at hB
      obtain ⟨s, b2, rfl, O2, hl2, hg⟩ := hB
      show asSl (.sl s) _
      rw [asSl_sl]
      refine cellsS_of O2.held ?_
      obtain ⟨rest, mk, ho, hr⟩ := O.obj
      have hr0 : rest = [] := List.length_eq_zero_iff.1 (by rw [hr]; rfl)
      subst hr0
      have htk : (strCells (d.blk i)).take (min s.len 256 * 1) = strCells (d.blk i) := List.take_of_length_le (by rw [strCells_length, hlen, hl2]; decide)
      refine copyS_of (o := 0) rfl ho (by rw [htk, strCells_length, hlen, List.append_nil, flatRep_length]; decide) (fun h2 ho2 k2 => ?_)
      rw [htk] at ho2
      refine h00 hh _ h2 b ⟨rfl, Nat.le_refl _, (by rw [strCells_length, hlen]; rfl), [], mk, ?_, rfl⟩ rfl hb ?_
      · rw [ho2]
        have : splice (flatRep 256 [V.int .u8 0] ++ []) 0 (strCells (d.blk i)) = strCells (d.blk i) ++ [] := by
          unfold splice
          rw [List.drop_of_length_le (by rw [strCells_length, hlen, List.append_nil, flatRep_length]; decide)]
          simp
        rw [this]
      · refine Keeps.widen (k1.mono (S' := (· = b)) (fun _ f => f.elim) |>.trans k2) (fun x hx => ?_)
        exact .inr (hx ▸ hb)

/-- Where a call of a value answers P of a byte. -/
theorem indexB_of {U : Ifc} (u : DU U) {s : Sl} {x : List UInt8} (H : Held h s 1 (strCells x)) (hl : x.length ≤ 1000000000)
    {Q : Int → Heap → Prop} (hq : ∀ h', Keeps none_ h h' → Q (match x.findIdx? (fun b => b != 0) with | some i => (i : Int) | none => -1) h') : slices_IndexFunc_byte_byte U s (.fn 57 []) Q h := by
  unfold slices_IndexFunc_byte_byte slices_IndexFunc_byte_byte.j2
  intro I hI
  have hslen : s.len = x.length := by have := H.len; rw [strCells_length] at this; omega
  have key : ∀ (m j : Nat), x.length = j + m → (∀ i b, i < j → x[i]? = some b → (b != 0) = false) → I s (.fn 57 []) s.len j h := by
    intro m
    induction m with
    | zero =>
      intro j hj hno
      refine hI _ _ _ _ _ ?_
      unfold slices_IndexFunc_byte_byte.b2
      refine br_f (by simp [hslen]; omega) ?_
      have hnone : x.findIdx? (fun b => b != 0) = none := by
        rw [List.findIdx?_eq_none_iff]
        intro q hq
        obtain ⟨i, hi⟩ := List.getElem?_of_mem hq
        have hlt : i < x.length := by rcases Nat.lt_or_ge i x.length with h | h; exact h; rw [List.getElem?_eq_none h] at hi; cases hi
        exact hno i q (by omega) hi
      have := hq h (Keeps.refl _ _)
      simp only [hnone] at this
      exact this
    | succ m ih =>
      intro j hj hno
      refine hI _ _ _ _ _ ?_
      unfold slices_IndexFunc_byte_byte.b2
      have hlt : j < x.length := by omega
      have hn : x[j]? = some x[j] := List.getElem?_eq_getElem hlt
      obtain ⟨p, hp⟩ : ∃ p, s.p = some p := by
        cases hp : s.p with
        | none => have := H.nil hp; omega
        | some p => exact ⟨p, rfl⟩
      refine br_t (by simp [hslen]; omega) (ix_of (by omega) (by omega) ?_)
      rw [hp, der_some, Int.toNat_natCast]
      refine rdI_of (H.row p hp (j * 1) (.int .u8 x[j].toNat) (by rw [strCells_get, Nat.mul_one, hn]; rfl)) ?_
      refine u.c57 _ _ _ ?_
      unfold disk_Disk_Put_c1
      show asB (.bool ((x[j].toNat : Int) != 0)) _
      have hbb : ((x[j].toNat : Int) != 0) = (x[j] != 0) := by
        by_cases e : x[j] = 0
        · rw [e]; rfl
        · have h1 : (x[j] != 0) = true := by simpa using e
          have h2 : ((x[j].toNat : Int) != 0) = true := by
            simp only [bne_iff_ne, ne_eq]
            intro h0
            apply e
            apply UInt8.toNat_inj.1
            simpa using h0
          rw [h1, h2]
      rw [hbb]
      refine br_if (fun ht => ?_) (fun hf' => ?_)
      · have hsome : x.findIdx? (fun b => b != 0) = some j := by
          rw [List.findIdx?_eq_some_iff_getElem]
          exact ⟨hlt, ht, fun i hi => by have := hno i x[i] hi (List.getElem?_eq_getElem (by omega)); simp [this]⟩
        have := hq h (Keeps.refl _ _)
        simp only [hsome] at this
        exact this
      · rw [wrap64]
        have := ih (j + 1) (by omega) (fun i q hi hq' => by
          by_cases e : i = j
          · subst e; rw [hn] at hq'; cases hq'; exact hf'
          · exact hno i q (by omega) hq')
        simpa using this
  have := key x.length 0 (by omega) (by intro i q hi; omega)
  simpa using this

theorem containsB_of {U : Ifc} (u : DU U) {s : Sl} {x : List UInt8} (H : Held h s 1 (strCells x)) (hl : x.length ≤ 1000000000)
    {Q : Bool → Heap → Prop} (hq : ∀ h', Keeps none_ h h' → Q (x.any (fun b => b != 0)) h') : slices_ContainsFunc_byte_byte U s (.fn 57 []) Q h := by
  unfold slices_ContainsFunc_byte_byte
  refine indexB_of u H hl (fun h' k => ?_)
  have e : decide ((match x.findIdx? (fun b => b != 0) with | some i => (i : Int) | none => -1) ≥ 0) = x.any (fun b => b != 0) := by
    cases hx : x.findIdx? (fun b => b != 0) with
    | none =>
      rw [List.findIdx?_eq_none_iff] at hx
      have : x.any (fun b => b != 0) = false := by rw [List.any_eq_false]; intro q hq; simpa using hx q hq
      rw [this]; rfl
    | some i =>
      rw [List.findIdx?_eq_some_iff_getElem] at hx
      obtain ⟨hi, ht, _⟩ := hx
      have : x.any (fun b => b != 0) = true := List.any_eq_true.2 ⟨x[i], List.getElem_mem hi, ht⟩
      rw [this]; simp
  rw [e]
  exact hq h' k

def Dsk.putErr (d : Dsk) (i : Int) (x : List UInt8) : Int := if d.has i = false then 12 else if x.length ≠ 256 then 2 else 0
def Dsk.put (d : Dsk) (i : Int) (x : List UInt8) : Dsk := if d.putErr i x = 0 then { d with blk := fun j => if j = i then x else d.blk j } else d

theorem Put_of {U : Ifc} (u : DU U) (R : Rep y d h) (k : d.Ok) {i : Int} {s : Sl} {x : List UInt8} (H : Held h s 1 (strCells x)) {Q : Int → Heap → Prop}
    (hq : ∀ y' h', Rep y' (d.put i x) h' → y'.pb = y.pb → Grow h y.Foot y'.Foot → Keeps (· = y.m) h h' → Q (d.putErr i x) h') : disk_Disk_Put U (some ⟨y.pb, 0⟩) i s Q h := by
  unfold disk_Disk_Put
  have hslen : s.len = x.length := by have := H.len; rw [strCells_length] at this; omega
  have stay : d.putErr i x ≠ 0 → Q (d.putErr i x) h := fun he => hq y h (by unfold Dsk.put; rw [if_neg he]; exact R) rfl (Grow.refl _ _) (Keeps.refl _ _)
  refine wrong_of R ?_
  cases hh : d.has i with
  | false =>
    have e : d.putErr i x = 12 := by simp [Dsk.putErr, hh]
    have := stay (by rw [e]; decide)
    rw [e] at this
    exact br_t rfl this
  | true =>
    refine br_f rfl (br_if (fun h2 => ?_) (fun h2 => ?_))
    · have e : d.putErr i x = 2 := by
        have : x.length ≠ 256 := by simp [hslen] at h2; omega
        simp [Dsk.putErr, hh, this]
      have := stay (by rw [e]; decide)
      rw [e] at this
      exact this
    · have hx : x.length = 256 := by simp [hslen] at h2; omega
      have e : d.putErr i x = 0 := by simp [Dsk.putErr, hh, hx]
      have hput : d.put i x = { d with blk := fun j => if j = i then x else d.blk j } := by unfold Dsk.put; rw [if_pos e]
      rw [e, hput] at hq
      refine containsB_of u H (by omega) (fun h1 k1 => ?_)
      have R1 := R.keep0 k1
      rw [der_some]
      have gm : ∀ x, y.G x → ¬ x = y.m := fun x hx => (R.g1 x hx).2.1
      have sm : ¬ y.s.at y.m := fun hx => (R.s1 _ hx).2 rfl
      refine br_if (fun hz => ?_) (fun hz => ?_)
      · refine loc_M R1.cell rfl (mapDel_of R1.map (fun h2 ho2 k2 => ?_))
        have hzero : x = zeros := by
          have : x.any (fun b => b != 0) = false := by simpa using hz
          rw [List.any_eq_false] at this
          exact List.eq_replicate_iff.2 ⟨hx, fun b hb => by simpa using this b hb⟩
        refine hq { y with l := idel i y.l } h2 ⟨k2.obj R1.cell (fun e => R.m1 e.symm), ho2, R.keys.del, fun j => ?_, ?_, fun z hz => ?_, R.s1, R.m1⟩ rfl (fun z hz => .inl hz) ((k1.mono (fun _ f => f.elim)).trans k2)
        · show Blk h2 y.G (ifind j (idel i y.l)) (if j = i then x else d.blk j)
          rw [ifind_idel R.keys]
          by_cases ej : j = i
          · rw [if_pos ej, if_pos ej]; exact hzero
          · rw [if_neg ej, if_neg ej]; exact (R1.blks j).keeps k2 gm
        · rcases R1.pend with hp | ⟨b, O⟩
          · exact .inl hp
          · exact .inr ⟨b, O.keeps k2 (fun e => sm (e ▸ ⟨_, O.p, rfl⟩))⟩
        · obtain ⟨g1, g2, g3, g4⟩ := R1.g1 z hz
          exact ⟨g1, g2, g3, k2.known z g4⟩
      · refine loc_M R1.cell rfl ?_
        have H1 := H.keeps k1 (fun _ _ f => f)
        have hsp : s.p ≠ none := fun hn => by have := H.nil hn; omega
        refine Mem.sclone_of H1 hsp (by omega) (fun s' h2 b O hl hb k2 => ?_)
        have R2 := R1.keep0 k2
        refine ⟨⟨(get_cells R2.cell _).trans rfl, trivial⟩, ?_⟩
        refine mapPut_of R2.map (fun h3 ho3 k3 => ?_)
        have hbm : b ≠ y.m := R1.map.ne hb
        have hbpb : b ≠ y.pb := fun e => (by rw [e, R1.cell] at hb; cases hb)
        have hbs : ¬ y.s.at b := fun hx => R1.known b (.inr (.inr (.inl hx))) hb
        refine hq { y with l := iput i (.sl s') y.l, G := fun z => y.G z ∨ z = b } h3 ⟨k3.obj R2.cell (fun e => R.m1 e.symm), ho3, R.keys.put, fun j => ?_, ?_, fun z hz => ?_, R.s1, R.m1⟩ rfl (fun z hz => ?_) (((k1.trans k2).mono (fun _ f => f.elim)).trans k3)
        · show Blk h3 _ (ifind j (iput i (.sl s') y.l)) (if j = i then x else d.blk j)
          rw [ifind_iput]
          by_cases ej : j = i
          · rw [if_pos ej, if_pos ej]; exact ⟨s', b, rfl, O.keeps k3 hbm, by omega, .inr rfl⟩
          · rw [if_neg ej, if_neg ej]; exact ((R2.blks j).keeps k3 gm).mono (fun _ hb => .inl hb)
        · rcases R2.pend with hp | ⟨b, O⟩
          · exact .inl hp
          · exact .inr ⟨b, O.keeps k3 (fun e => sm (e ▸ ⟨_, O.p, rfl⟩))⟩
        · rcases hz with hz | rfl
          · obtain ⟨g1, g2, g3, g4⟩ := R2.g1 z hz
            exact ⟨g1, g2, g3, k3.known z g4⟩
          · exact ⟨hbpb, hbm, hbs, k3.known z O.known⟩
        · rcases hz with hz | hz | hz | hz | hz
          · exact .inl (.inl hz)
          · exact .inl (.inr (.inl hz))
          · exact .inl (.inr (.inr (.inl hz)))
          · exact .inl (.inr (.inr (.inr hz)))
          · exact .inr (hz ▸ Mem.fresh_of k1 hb)

end
end Go.Disk
