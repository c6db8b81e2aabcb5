/- The document's disk and memory, each method by what it answers and leaves. -/
import Derived.Test.YtmpjgafkdhineaaDiskS
set_option linter.unusedSimpArgs false
set_option linter.unusedVariables false
set_option maxRecDepth 100000
namespace Go.Disk
open Go.Lift Go.Fn

/-- Where the parts of the document's disk and memory lie. -/
structure RL where
  pr : Nat
  bB : Nat
  po : Nat
  bO : Nat
  s : Sl

def RL.Foot (z : RL) (x : Nat) : Prop := x = z.pr ∨ x = z.bB ∨ x = z.po ∨ x = z.bO ∨ z.s.at x

structure RR (z : RL) (RB : List UInt8) (pd : List Req) (ro : List UInt8) (h : Heap) : Prop where
  cell : h.obj z.pr = some (.cells [.sl ⟨some ⟨z.bB, 0⟩, RB.length, RB.length⟩, .sl z.s] false)
  arr : ∃ mk, h.obj z.bB = some (.cells (strCells RB) mk)
  mcell : h.obj z.po = some (.cells [.sl ⟨some ⟨z.bO, 0⟩, ro.length, ro.length⟩] false)
  marr : ∃ mk, h.obj z.bO = some (.cells (strCells ro) mk)
  pend : (z.s = ⟨none, 0, 0⟩ ∧ pd = []) ∨ ∃ b, Own h z.s 4 (reqs pd) b
  sat : ∀ x, z.s.at x → x ≠ z.pr ∧ x ≠ z.bB ∧ x ≠ z.po ∧ x ≠ z.bO
  n1 : z.pr ≠ z.bB
  n2 : z.pr ≠ z.po
  n3 : z.pr ≠ z.bO
  n4 : z.bB ≠ z.po
  n5 : z.bB ≠ z.bO
  n6 : z.po ≠ z.bO
  size : RB.length ≤ 16777216
  msize : ro.length ≤ 16777216
  few : pd.length ≤ 1000

theorem wr_cells {l : List V} {mk : Bool} {b o : Nat} {u v : V} {κ : Heap → Prop} {h : Heap} (ho : h.obj b = some (.cells l mk)) (hx : l[o]? = some u) (hk : ∀ h', h'.obj b = some (.cells (l.set o v) mk) → Keeps (· = b) h h' → κ h') : wr ⟨b, o⟩ v κ h := by
  have hg : h.getW b o = some u := (getW_cells ho _).trans hx
  exact wr_of (p := ⟨b, o⟩) hg (hk _ (by simp [Heap.set, ho, HO.set]) (Keeps.set hg))

/-- One more byte of x stands in its place. -/
theorem put_step {B x : List UInt8} {o k : Nat} {c : UInt8} (hk : x[k]? = some c) (hl : o + x.length ≤ B.length) : (strCells (Mem.put B o (x.take k))).set (o + k) (.int .u8 c.toNat) = strCells (Mem.put B o (x.take (k + 1))) := by
  have hkl : k < x.length := by
    rcases Nat.lt_or_ge k x.length with h | h
    · exact h
    · rw [List.getElem?_eq_none h] at hk; cases hk
  have h1 : (x.take k).length = k := by simp; omega
  have h2 : (x.take (k + 1)).length = k + 1 := by simp; omega
  refine List.ext_getElem? (fun i => ?_)
  have e1 := Mem.put_get (bs := B) (x := x.take k) (o := o) (by omega) i
  have e2 := Mem.put_get (bs := B) (x := x.take (k + 1)) (o := o) (by omega) i
  have hlen : (strCells (Mem.put B o (x.take k))).length = B.length := by rw [strCells_length, Mem.put_length (by omega)]
  rw [strCells_get, e2, h2]
  by_cases hi : i = o + k
  · subst hi
    rw [List.getElem?_set_self (by omega), if_pos (by omega), Nat.add_sub_cancel_left, List.getElem?_take_of_lt (by omega), hk]
    rfl
  · rw [List.getElem?_set_ne (fun h => hi h.symm), strCells_get, e1, h1]
    by_cases h3 : o ≤ i ∧ i < o + k
    · rw [if_pos h3, if_pos (by omega), List.getElem?_take_of_lt (by omega), List.getElem?_take_of_lt (by omega)]
    · rw [if_neg h3, if_neg (by omega)]

theorem put_none {B x : List UInt8} {o : Nat} : Mem.put B o (x.take 0) = B := by simp [Mem.put]
theorem put_all {B x : List UInt8} {o : Nat} : Mem.put B o (x.take x.length) = Mem.put B o x := by rw [List.take_length]

section
variable {z : RL} {RB ro : List UInt8} {pd : List Req} {h h' : Heap}

theorem RR.known (R : RR z RB pd ro h) : ∀ x, z.Foot x → h.obj x ≠ none := by
  obtain ⟨m1, a1⟩ := R.arr
  obtain ⟨m2, a2⟩ := R.marr
  intro x hx
  rcases hx with rfl | rfl | rfl | rfl | hx
  · rw [R.cell]; simp
  · rw [a1]; simp
  · rw [R.mcell]; simp
  · rw [a2]; simp
  · rcases R.pend with ⟨hp, _⟩ | ⟨b, O⟩
    · obtain ⟨p, h1, _⟩ := hx; rw [hp] at h1; cases h1
    · obtain ⟨p, h1, rfl⟩ := hx; rw [O.p] at h1; cases h1; exact O.known

theorem RR.at_ {b : Nat} (O : Own h z.s 4 (reqs pd) b) : ∀ x, z.s.at x → x = b := by
  intro x hx
  obtain ⟨p, h1, rfl⟩ := hx; rw [O.p] at h1; cases h1; rfl

theorem RR.keeps {S : Nat → Prop} (R : RR z RB pd ro h) (k : Keeps S h h') (hs : ∀ x, z.Foot x → ¬ S x) : RR z RB pd ro h' := by
  obtain ⟨m1, a1⟩ := R.arr
  obtain ⟨m2, a2⟩ := R.marr
  refine ⟨k.obj R.cell (hs _ (.inl rfl)), ⟨m1, k.obj a1 (hs _ (.inr (.inl rfl)))⟩, k.obj R.mcell (hs _ (.inr (.inr (.inl rfl)))), ⟨m2, k.obj a2 (hs _ (.inr (.inr (.inr (.inl rfl)))))⟩, ?_, R.sat, R.n1, R.n2, R.n3, R.n4, R.n5, R.n6, R.size, R.msize, R.few⟩
  rcases R.pend with hp | ⟨b, O⟩
  · exact .inl hp
  · exact .inr ⟨b, O.keeps k (hs b (.inr (.inr (.inr (.inr ⟨_, O.p, rfl⟩)))))⟩

theorem RR.keep0 (R : RR z RB pd ro h) (k : Keeps none_ h h') : RR z RB pd ro h' := R.keeps k (fun _ _ f => f)

theorem RR.held (R : RR z RB pd ro h) : Held h z.s 4 (reqs pd) := by
  rcases R.pend with ⟨hp, hd⟩ | ⟨b, O⟩
  · rw [hp, hd]; exact Held.empty
  · exact O.held

theorem RR.offs {b : Nat} (R : RR z RB pd ro h) (hb : h.obj b = none) : ¬ z.Foot b := fun hx => R.known b hx hb

def rhas (RB : List UInt8) (i : Int) : Bool := decide (0 ≤ i) && decide (i < (RB.length / 256 : Nat))

theorem tdiv256 (n : Nat) (hn : n ≤ 16777216) : IntKind.i64.wrap (((n : Nat) : Int).tdiv 256) = ((n / 256 : Nat) : Int) := by
  have e : ((n : Nat) : Int).tdiv 256 = ((n / 256 : Nat) : Int) := by
    rw [Int.tdiv_eq_ediv_of_nonneg (by omega)]; omega
  rw [e, wrap64]

theorem rhas_of (R : RR z RB pd ro h) {i : Int} {Q : Bool → Heap → Prop} (hq : Q (rhas RB i) h) : palisaderef12_Disk_has (some ⟨z.pr, 0⟩) i Q h := by
  unfold palisaderef12_Disk_has
  unfold rhas at hq
  refine br_if (fun h0 => ?_) (fun h0 => ?_)
  · have h0 : 0 ≤ i := by simpa using h0
    rw [der_some]
    refine loc_Sl R.cell rfl (nz_of (by decide) ?_)
    show Q (decide (i < IntKind.i64.wrap (((RB.length : Nat) : Int).tdiv 256))) h
    rw [tdiv256 _ R.size]
    rw [decide_eq_true h0, Bool.true_and] at hq
    exact hq
  · have h0 : ¬ 0 ≤ i := by simpa using h0
    rw [decide_eq_false h0, Bool.false_and] at hq
    exact hq

theorem rhas_t {i : Int} (hh : rhas RB i = true) : 0 ≤ i ∧ i < (RB.length / 256 : Nat) := by
  simpa [rhas] using hh

theorem held_arr {b : Nat} {mk : Bool} {B : List UInt8} (ho : h.obj b = some (.cells (strCells B) mk)) {o n m : Nat} (hl : o + n ≤ B.length) : Held h ⟨some ⟨b, o⟩, n, m⟩ 1 (strCells ((B.drop o).take n)) := by
  refine ⟨by rw [strCells_length]; simp; omega, fun p hp i v hv => ?_, fun hp => by cases hp⟩
  cases hp
  rw [get_cells ho, strCells_get]
  rw [strCells_get] at hv
  have hi : i < n := by
    rcases Nat.lt_or_ge i n with h | h
    · exact h
    · rw [List.getElem?_eq_none (by simp; omega)] at hv; cases hv
  rw [List.getElem?_take_of_lt hi, List.getElem?_drop] at hv
  exact hv

theorem rBlock_of (R : RR z RB pd ro h) {i : Int} {Q : Sl → Int → Heap → Prop}
    (h12 : rhas RB i = false → Q ⟨none, 0, 0⟩ 12 h)
    (h00 : rhas RB i = true → ∀ s' h' b, Own h' s' 1 (strCells ((RB.drop (i * 256).toNat).take 256)) b → s'.len = 256 → h.obj b = none → Keeps none_ h h' → Q s' 0 h') : palisaderef12_Disk_Block (some ⟨z.pr, 0⟩) i Q h := by
  unfold palisaderef12_Disk_Block
  refine rhas_of R ?_
  cases hh : rhas RB i with
  | false => exact br_t rfl (h12 hh)
  | true =>
    refine br_f rfl ?_
    obtain ⟨i0, i1⟩ := rhas_t hh
    have hsz := R.size
    intro b2 hb2
    have k1 : Keeps none_ h (h.new b2 (.cells [] false)) := Keeps.new hb2 _
    have R1 := R.keep0 k1
    rw [der_some]
    refine loc_Sl R1.cell rfl ?_
    have e1 : IntKind.i64.wrap (i * 256) = i * 256 := wrap64
    have e2 : IntKind.i64.wrap (i * 256 + 256) = i * 256 + 256 := wrap64
    rw [e1, e2]
    refine sb_of (by omega) (by show i * 256 + 256 ≤ ((RB.length : Nat) : Int); omega) (sb_of (by omega) (by omega) ?_)
    have hslp : slp (some ⟨z.bB, 0⟩) ((i * 256).toNat * 1) (i * 256).toNat RB.length = some ⟨z.bB, (i * 256).toNat⟩ := by
      unfold slp
      rw [if_neg (by omega)]
      simp [Ptr.add]
    show cellsS 1 ⟨slp (some ⟨z.bB, 0⟩) ((i * 256).toNat * 1) (i * 256).toNat RB.length, (i * 256 + 256).toNat - (i * 256).toNat, RB.length - (i * 256).toNat⟩ _ _
    rw [hslp]
    have e3 : (i * 256 + 256).toNat - (i * 256).toNat = 256 := by omega
    rw [e3]
    obtain ⟨mk, ha⟩ := R1.arr
    refine cellsS_of (held_arr ha (by omega)) ?_
    exact copy_of (sz := 1) (bytes := 1) (n := 256) (by rw [strCells_length]; simp; omega) rfl (by omega) (by omega) (h00 hh) hb2

theorem rPut_of (R : RR z RB pd ro h) {i : Int} {s : Sl} {x : List UInt8} (H : Held h s 1 (strCells x)) (hs : strCells x ≠ [] → ∀ p, s.p = some p → p.b ≠ z.bB) {Q : Int → Heap → Prop}
    (h12 : rhas RB i = false → Q 12 h) (h2 : rhas RB i = true → x.length ≠ 256 → Q 2 h)
    (h00 : rhas RB i = true → x.length = 256 → ∀ h', RR z (Mem.put RB (i * 256).toNat x) pd ro h' → Keeps (· = z.bB) h h' → Q 0 h') : palisaderef12_Disk_Put (some ⟨z.pr, 0⟩) i s Q h := by
  unfold palisaderef12_Disk_Put
  have hslen : s.len = x.length := by have := H.len; rw [strCells_length] at this; omega
  refine rhas_of R ?_
  cases hh : rhas RB i with
  | false => exact br_t rfl (h12 hh)
  | true =>
    refine br_f rfl (br_if (fun hne => h2 hh (by simp at hne; omega)) (fun heq => ?_))
    have hx : x.length = 256 := by simp at heq; omega
    obtain ⟨i0, i1⟩ := rhas_t hh
    have hsz := R.size
    unfold palisaderef12_Disk_Put.j6
    intro I HI
    have key : ∀ (j k : Nat) (g : Heap), k + j = 256 → RR z (Mem.put RB (i * 256).toNat (x.take k)) pd ro g → Keeps (· = z.bB) h g → I (some ⟨z.pr, 0⟩) i s (k : Int) g := by
      intro j
      induction j with
      | zero =>
        intro k g hk Rg kg
        refine HI _ _ _ _ _ ?_
        unfold palisaderef12_Disk_Put.b6
        obtain rfl : k = 256 := by omega
        rw [← hx, put_all] at Rg
        exact br_f rfl (h00 hh hx g Rg kg)
      | succ j ih =>
        intro k g hk Rg kg
        refine HI _ _ _ _ _ ?_
        unfold palisaderef12_Disk_Put.b6
        have hkx : x[k]? = some (x[k]'(by omega)) := List.getElem?_eq_getElem _
        have hlen : (Mem.put RB (i * 256).toNat (x.take k)).length = RB.length := Mem.put_length (by simp; omega)
        have Hg := H.keepsE kg (fun hne p hp e => hs hne p hp e)
        obtain ⟨p, hp⟩ : ∃ p, s.p = some p := by
          cases hp : s.p with
          | none => have := H.nil hp; omega
          | some p => exact ⟨p, rfl⟩
        refine br_t (by simp; omega) ?_
        rw [der_some]
        refine loc_Sl Rg.cell rfl (ix_of (by omega) (by omega) ?_)
        rw [hp, der_some, Int.toNat_natCast]
        refine rdI_of (x := ((x[k]'(by omega)).toNat : Int)) (Hg.row p hp (k * 1) _ (by rw [strCells_get, Nat.mul_one, hkx]; rfl)) ?_
        have e1 : IntKind.i64.wrap (i * 256) = i * 256 := wrap64
        have e2 : IntKind.i64.wrap (i * 256 + (k : Int)) = i * 256 + k := wrap64
        rw [e1, e2]
        refine ix_of (by omega) (by show i * 256 + (k : Int) < (((Mem.put RB (i * 256).toNat (x.take k)).length : Nat) : Int); omega) ?_
        have e3 : (i * 256 + (k : Int)).toNat = (i * 256).toNat + k := by omega
        rw [e3, der_some, Nat.mul_one]
        obtain ⟨mk, ha⟩ := Rg.arr
        show wr ⟨z.bB, 0 + ((i * 256).toNat + k)⟩ _ _ g
        rw [Nat.zero_add]
        have hin : (strCells (Mem.put RB (i * 256).toNat (x.take k)))[(i * 256).toNat + k]? = some ((strCells (Mem.put RB (i * 256).toNat (x.take k)))[(i * 256).toNat + k]'(by rw [strCells_length, hlen]; omega)) := List.getElem?_eq_getElem _
        refine wr_cells ha hin (fun g' ha' kg' => ?_)
        rw [put_step hkx (by omega)] at ha'
        rw [wrap64]
        have hlen' : (Mem.put RB (i * 256).toNat (x.take (k + 1))).length = RB.length := Mem.put_length (by simp; omega)
        have kk := kg.trans kg'
        have := ih (k + 1) g' (by omega) ?_ kk
        · simpa using this
        · refine ⟨?_, ⟨mk, ha'⟩, kg'.obj Rg.mcell Rg.n4.symm, ?_, ?_, Rg.sat, Rg.n1, Rg.n2, Rg.n3, Rg.n4, Rg.n5, Rg.n6, by omega, Rg.msize, Rg.few⟩
          · rw [hlen', ← hlen]; exact kg'.obj Rg.cell Rg.n1
          · obtain ⟨m2, a2⟩ := Rg.marr; exact ⟨m2, kg'.obj a2 Rg.n5.symm⟩
          · rcases Rg.pend with hp' | ⟨b, O⟩
            · exact .inl hp'
            · exact .inr ⟨b, O.keeps kg' (fun e => (Rg.sat b ⟨_, O.p, rfl⟩).2.1 e)⟩
    have := key 256 0 h (by omega) (by rw [put_none]; exact R) (Keeps.refl _ _)
    simpa using this

theorem rMemPut_of (R : RR z RB pd ro h) {a : Int} (ha : 0 ≤ a) (ha2 : a ≤ 1000000) {s : Sl} {x : List UInt8} (H : Held h s 1 (strCells x)) (hx : x.length ≤ 9223372036854775807) (hs : strCells x ≠ [] → ∀ p, s.p = some p → p.b ≠ z.bO) {Q : Int → Heap → Prop}
    (h12 : Mem.lies ro.length a x.length = false → Q 12 h)
    (h00 : a + x.length ≤ ro.length → ∀ h', RR z RB pd (Mem.put ro a.toNat x) h' → Keeps (· = z.bO) h h' → Q 0 h') : palisaderef04_Memory_Put (some ⟨z.po, 0⟩) a s Q h := by
  unfold palisaderef04_Memory_Put palisaderef04_Memory_lies
  have hslen : s.len = x.length := by have := H.len; rw [strCells_length] at this; omega
  have hsz := R.msize
  rw [der_some]
  refine loc_Sl R.mcell rfl (br_if (fun hle => ?_) (fun hgt => ?_))
  · have hle : x.length ≤ ro.length := by
      have : ((s.len : Nat) : Int) ≤ ((ro.length : Nat) : Int) := by simpa using hle
      omega
    rw [der_some]
    refine loc_Sl R.mcell rfl ?_
    show br (!(decide (a ≤ IntKind.u64.wrap (IntKind.i64.wrap (((ro.length : Nat) : Int) - ((s.len : Nat) : Int)))))) _ _
    have e1 : IntKind.i64.wrap (((ro.length : Nat) : Int) - ((s.len : Nat) : Int)) = ((ro.length : Nat) : Int) - ((s.len : Nat) : Int) := wrap64
    have e2 : IntKind.u64.wrap (((ro.length : Nat) : Int) - ((s.len : Nat) : Int)) = ((ro.length : Nat) : Int) - ((s.len : Nat) : Int) := wrapu64
    rw [e1, e2]
    refine br_if (fun hb => h12 ?_) (fun hb => ?_)
    · simp at hb; simp [Mem.lies]; omega
    have hfit : a + x.length ≤ ro.length := by simp at hb; omega
    unfold palisaderef04_Memory_Put.j4
    intro I HI
    have key : ∀ (j k : Nat) (g : Heap), k + j = x.length → RR z RB pd (Mem.put ro a.toNat (x.take k)) g → Keeps (· = z.bO) h g → I (some ⟨z.po, 0⟩) a s (k : Int) g := by
      intro j
      induction j with
      | zero =>
        intro k g hk Rg kg
        refine HI _ _ _ _ _ ?_
        unfold palisaderef04_Memory_Put.b4
        obtain rfl : k = x.length := by omega
        rw [put_all] at Rg
        exact br_f (by simp; omega) (h00 hfit g Rg kg)
      | succ j ih =>
        intro k g hk Rg kg
        refine HI _ _ _ _ _ ?_
        unfold palisaderef04_Memory_Put.b4
        have hkx : x[k]? = some (x[k]'(by omega)) := List.getElem?_eq_getElem _
        have hlen : (Mem.put ro a.toNat (x.take k)).length = ro.length := Mem.put_length (by simp; omega)
        have Hg := H.keepsE kg (fun hne p hp e => hs hne p hp e)
        obtain ⟨p, hp⟩ : ∃ p, s.p = some p := by
          cases hp : s.p with
          | none => have := H.nil hp; omega
          | some p => exact ⟨p, rfl⟩
        refine br_t (by simp; omega) ?_
        rw [der_some]
        refine loc_Sl Rg.mcell rfl (ix_of (by omega) (by omega) ?_)
        rw [hp, der_some, Int.toNat_natCast]
        refine rdI_of (x := ((x[k]'(by omega)).toNat : Int)) (Hg.row p hp (k * 1) _ (by rw [strCells_get, Nat.mul_one, hkx]; rfl)) ?_
        have e1 : IntKind.i64.wrap a = a := wrap64
        have e2 : IntKind.i64.wrap (a + (k : Int)) = a + k := wrap64
        rw [e1, e2]
        refine ix_of (by omega) (by show a + (k : Int) < (((Mem.put ro a.toNat (x.take k)).length : Nat) : Int); omega) ?_
        have e3 : (a + (k : Int)).toNat = a.toNat + k := by omega
        rw [e3, der_some, Nat.mul_one]
        obtain ⟨mk, ha⟩ := Rg.marr
        show wr ⟨z.bO, 0 + (a.toNat + k)⟩ _ _ g
        rw [Nat.zero_add]
        have hin : (strCells (Mem.put ro a.toNat (x.take k)))[a.toNat + k]? = some ((strCells (Mem.put ro a.toNat (x.take k)))[a.toNat + k]'(by rw [strCells_length, hlen]; omega)) := List.getElem?_eq_getElem _
        refine wr_cells ha hin (fun g' ha' kg' => ?_)
        rw [put_step hkx (by omega)] at ha'
        rw [wrap64]
        have hlen' : (Mem.put ro a.toNat (x.take (k + 1))).length = ro.length := Mem.put_length (by simp; omega)
        have kk := kg.trans kg'
        have := ih (k + 1) g' (by omega) ?_ kk
        · simpa using this
        · refine ⟨kg'.obj Rg.cell Rg.n3, ?_, ?_, ⟨mk, ha'⟩, ?_, Rg.sat, Rg.n1, Rg.n2, Rg.n3, Rg.n4, Rg.n5, Rg.n6, Rg.size, by omega, Rg.few⟩
          · obtain ⟨m2, a2⟩ := Rg.arr; exact ⟨m2, kg'.obj a2 Rg.n5⟩
          · rw [hlen', ← hlen]; exact kg'.obj Rg.mcell Rg.n6
          · rcases Rg.pend with hp' | ⟨b, O⟩
            · exact .inl hp'
            · exact .inr ⟨b, O.keeps kg' (fun e => (Rg.sat b ⟨_, O.p, rfl⟩).2.2.2 e)⟩
    have := key x.length 0 h (by omega) (by rw [put_none]; exact R) (Keeps.refl _ _)
    simpa using this
  · refine br_t rfl (h12 ?_)
    have : ¬ ((s.len : Nat) : Int) ≤ ((ro.length : Nat) : Int) := by simpa using hgt
    simp [Mem.lies]; omega

/-- What stands when the row of requests is another one. -/
theorem RR.row {pd' : List Req} {s' : Sl} {b : Nat} {h1 h2 : Heap} (R : RR z RB pd ro h) (few : pd'.length ≤ 1000) (O : Own h1 s' 4 (reqs pd') b) (k1 : Keeps (fun x => z.s.at x) h h1) (hb : z.s.at b ∨ h.obj b = none)
    (hc : h2.obj z.pr = some (.cells [.sl ⟨some ⟨z.bB, 0⟩, RB.length, RB.length⟩, .sl s'] false)) (k2 : Keeps (· = z.pr) h1 h2) : RR { z with s := s' } RB pd' ro h2 ∧ Keeps z.Foot h h2 ∧ Grow h z.Foot (RL.Foot { z with s := s' }) := by
  have hnb : b ≠ z.pr ∧ b ≠ z.bB ∧ b ≠ z.po ∧ b ≠ z.bO := by
    rcases hb with hb | hb
    · exact R.sat b hb
    · refine ⟨fun e => R.known z.pr (.inl rfl) (e ▸ hb), fun e => R.known z.bB (.inr (.inl rfl)) (e ▸ hb), fun e => R.known z.po (.inr (.inr (.inl rfl))) (e ▸ hb), fun e => R.known z.bO (.inr (.inr (.inr (.inl rfl)))) (e ▸ hb)⟩
  have hat : ∀ x, s'.at x → x = b := by intro x hx; obtain ⟨p, h1, rfl⟩ := hx; rw [O.p] at h1; cases h1; rfl
  obtain ⟨m1, a1⟩ := R.arr
  obtain ⟨m2, a2⟩ := R.marr
  refine ⟨⟨hc, ⟨m1, k2.obj (k1.obj a1 (fun hx => (R.sat _ hx).2.1 rfl)) R.n1.symm⟩, k2.obj (k1.obj R.mcell (fun hx => (R.sat _ hx).2.2.1 rfl)) R.n2.symm, ⟨m2, k2.obj (k1.obj a2 (fun hx => (R.sat _ hx).2.2.2 rfl)) R.n3.symm⟩, .inr ⟨b, O.keeps k2 hnb.1⟩, fun x hx => by rw [hat x hx]; exact hnb, R.n1, R.n2, R.n3, R.n4, R.n5, R.n6, R.size, R.msize, few⟩, ?_, ?_⟩
  · exact (k1.mono (fun x hx => .inr (.inr (.inr (.inr hx))))).trans (k2.mono (fun x hx => .inl hx))
  · intro x hx
    rcases hx with hx | hx | hx | hx | hx
    · exact .inl (.inl hx)
    · exact .inl (.inr (.inl hx))
    · exact .inl (.inr (.inr (.inl hx)))
    · exact .inl (.inr (.inr (.inr (.inl hx))))
    · rw [hat x hx]
      rcases hb with hb | hb
      · exact .inl (.inr (.inr (.inr (.inr hb))))
      · exact .inr hb

end
end Go.Disk
