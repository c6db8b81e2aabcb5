/- The document's disk: what is asked, and done; what stands. -/
import Derived.Test.YtmpjgafkdhineaaDiskP
set_option linter.unusedSimpArgs false
set_option linter.unusedVariables false
set_option maxRecDepth 100000
namespace Go.Disk
open Go.Lift Go.Fn

theorem reqs_set {v : Int} : ∀ {L : List Req} {k : Nat} {r : Req}, L[k]? = some r → (reqs L).set (k * 4) (.int .i64 v) = reqs (L.set k { r with id := v })
  | [], k, r, h => by cases h
  | q :: L, 0, r, h => by
    cases h
    rw [reqs_cons, List.set_cons_zero, reqs_cons]
    rfl
  | q :: L, k + 1, r, h => by
    rw [reqs_cons, List.set_cons_succ, reqs_cons, List.set_append, if_neg (by simp [Req.cells]; omega)]
    have : (k + 1) * 4 - q.cells.length = k * 4 := by simp [Req.cells]; omega
    rw [this, reqs_set (by simpa using h)]

theorem reqs_take (L : List Req) (k : Nat) : (reqs L).take (k * 4) = reqs (L.take k) := by
  induction L generalizing k with
  | nil => simp [reqs]
  | cons q L ih =>
    cases k with
    | zero => simp [reqs]
    | succ k =>
      rw [reqs_cons, List.take_succ_cons, reqs_cons, List.take_append, ← ih k]
      have h1 : q.cells.length = 4 := rfl
      rw [List.take_of_length_le (by rw [h1]; omega), h1]
      congr 2
      omega

theorem reqs_drop (L : List Req) (k : Nat) : (reqs L).drop (k * 4) = reqs (L.drop k) := by
  induction L generalizing k with
  | nil => simp [reqs]
  | cons q L ih =>
    cases k with
    | zero => simp
    | succ k =>
      rw [reqs_cons, List.drop_succ_cons, List.drop_append, ← ih k]
      have h1 : q.cells.length = 4 := rfl
      rw [List.drop_of_length_le (by rw [h1]; omega), h1, List.nil_append]
      congr 1
      omega

def rsubErr (RB : List UInt8) (pd : List Req) (r : Req) : Int := if rhas RB r.block = false then 12 else if pd.any (fun o => o.id == r.id) then 13 else if pd.length ≥ 8 then 18 else 0

section
variable {z : RL} {RB ro : List UInt8} {pd : List Req} {h h' : Heap}

theorem rSubmit_of (R : RR z RB pd ro h) {r : Req} {Q : Int → Heap → Prop}
    (hbad : rsubErr RB pd r ≠ 0 → ∀ h', Keeps none_ h h' → Q (rsubErr RB pd r) h')
    (hok : rsubErr RB pd r = 0 → ∀ s' h', RR { z with s := s' } RB (pd ++ [r]) ro h' → Keeps z.Foot h h' → Grow h z.Foot (RL.Foot { z with s := s' }) → Q 0 h') : palisaderef12_Disk_Submit (some ⟨z.pr, 0⟩) r.id r.write r.block r.frame Q h := by
  unfold palisaderef12_Disk_Submit
  have hfew := R.few
  refine al_of (fun b1 h1 hb1 ho1 k1 => ?_)
  have R1 := R.keep0 k1
  refine loc_I ho1 rfl (rhas_of R1 ?_)
  unfold rsubErr at hbad hok
  cases hh : rhas RB r.block with
  | false =>
    rw [hh, if_pos rfl] at hbad
    exact br_t rfl (hbad (by decide) h1 k1)
  | true =>
    rw [hh] at hbad hok
    simp only [Bool.true_eq_false, if_false] at hbad hok
    refine br_f rfl ?_
    unfold palisaderef12_Disk_Submit.j4
    intro I HI
    have hslen := Held.slen R1.held
    have key : ∀ (m j : Nat), pd.length = j + m → (∀ (i : Nat) q, i < j → pd[i]? = some q → (q.id == r.id) = false) → I (some ⟨z.pr, 0⟩) ⟨b1, 0⟩ (j : Int) h1 := by
      intro m
      induction m with
      | zero =>
        intro j hj hno
        refine HI _ _ _ _ ?_
        unfold palisaderef12_Disk_Submit.b4
        have hany : pd.any (fun o => o.id == r.id) = false := by
          rw [List.any_eq_false]
          intro q hq
          obtain ⟨i, hi⟩ := List.getElem?_of_mem hq
          have hlt : i < pd.length := by rcases Nat.lt_or_ge i pd.length with h | h; exact h; rw [List.getElem?_eq_none h] at hi; cases hi
          rw [hno i q (by omega) hi]; simp
        rw [hany] at hbad hok
        simp only [Bool.false_eq_true, if_false] at hbad hok
        rw [der_some]
        refine loc_Sl R1.cell rfl (br_f (by rw [hslen]; simp; omega) ?_)
        rw [der_some]
        refine loc_Sl R1.cell rfl (br_if (fun h8 => ?_) (fun h8 => ?_))
        · rw [hslen] at h8
          have h8 : pd.length ≥ 8 := by have : ((pd.length : Nat) : Int) ≥ 8 := of_decide_eq_true h8; omega
          rw [if_pos h8] at hbad
          exact hbad (by decide) h1 k1
        · rw [hslen] at h8
          have h8 : ¬ pd.length ≥ 8 := by have : ¬ ((pd.length : Nat) : Int) ≥ 8 := of_decide_eq_false h8; omega
          rw [if_neg h8] at hok
          rw [der_some]
          refine loc_Sl R1.cell rfl (loc_I ho1 rfl (loc_B ho1 rfl (loc_I ho1 rfl (loc_I ho1 rfl ?_))))
          refine al_of (fun b17 h2 hb17 ho17 k2 => ?_)
          have R2 := R1.keep0 k2
          refine ⟨⟨(get_cells R2.cell _).trans rfl, trivial⟩, ?_⟩
          refine rdN_held (vs := r.cells) rfl (fun i v hv => by rw [get_cells ho17, Nat.zero_add]; exact hv) ?_
          have hlen1 : ∀ l : List Req, reqs l ++ r.cells = reqs (l ++ [r]) := fun l => by rw [reqs_append, reqs_cons]; simp [reqs]
          have fin : ∀ s' g b, Own g s' 4 (reqs (pd ++ [r])) b → (z.s.at b ∨ h2.obj b = none) → Keeps (fun x => z.s.at x) h2 g → wr ((⟨z.pr, 0⟩ : Ptr).add 1) (.sl s') (fun h => Q 0 h) g := by
            intro s' g b O hb kg
            refine loc_wr (kg.obj R2.cell (fun hx => (R.sat _ hx).1 rfl)) rfl (fun g' ho' kg' => ?_)
            obtain ⟨q1, q2, q3⟩ := R2.row (pd' := pd ++ [r]) (by simp; omega) O kg hb ho' kg'
            exact hok rfl s' g' q1 (((k1.trans k2).mono (fun _ f => f.elim)).trans q2) (fun x hx => (q3 x hx).imp_right (fun e => Mem.fresh_of (k1.trans k2) e))
          rcases R2.pend with ⟨hp, hd⟩ | ⟨b, O⟩
          · rw [hp]
            subst hd
            refine appS_nil (sz := 4) (m := 1) rfl (by omega) rfl (by omega) (by omega) (fun s' g b O hl hb kg => ?_)
            rw [der_some]
            exact fin s' g b (by rw [← hlen1]; exact O) (.inr hb) (kg.mono (fun _ f => f.elim))
          · refine appS_own (m := 1) O rfl rfl (by omega) (by omega) (fun s' g b' O' hl hbb kg => ?_)
            rw [der_some]
            have hb : z.s.at b := ⟨_, O.p, rfl⟩
            refine fin s' g b' (by rw [← hlen1]; exact O') ?_ (kg.mono (fun x hx => hx ▸ hb))
            rcases hbb with rfl | hbb
            · exact .inl hb
            · exact .inr hbb
      | succ m ih =>
        intro j hj hno
        refine HI _ _ _ _ ?_
        unfold palisaderef12_Disk_Submit.b4
        have hlt : j < pd.length := by omega
        obtain ⟨p, hp⟩ := Held.some R1.held hlt
        have hn : pd[j]? = some pd[j] := List.getElem?_eq_getElem hlt
        rw [der_some]
        refine loc_Sl R1.cell rfl (br_t (by rw [hslen]; simp; omega) ?_)
        rw [der_some]
        refine loc_Sl R1.cell rfl (ix_of (by omega) (by omega) ?_)
        rw [hp, der_some, Int.toNat_natCast]
        refine rd0 R1.held hp hn (loc_I ho1 rfl (br_if (fun he => ?_) (fun he => ?_)))
        · have hany : pd.any (fun o => o.id == r.id) = true := List.any_eq_true.2 ⟨pd[j], List.getElem_mem hlt, he⟩
          rw [hany] at hbad
          simp only [if_true] at hbad
          exact hbad (by decide) h1 k1
        · rw [wrap64]
          have := ih (j + 1) (by omega) (fun i q hi hq => by
            by_cases e : i = j
            · subst e; rw [hn] at hq; cases hq; exact he
            · exact hno i q (by omega) hq)
          simpa using this
    have := key pd.length 0 (by omega) (by intro i q hi; omega)
    simpa using this

/-- A row of requests is looked at from k on. -/
theorem held_from {s : Sl} {b mb : Nat} (O : Own h s 4 (reqs pd) b) {k : Nat} (hk : k ≤ pd.length) : Held h ⟨slp s.p (k * 4) k s.cap, s.len - k, s.cap - k⟩ 4 (reqs (pd.drop k)) := by
  have hslen := Held.slen O.held
  refine ⟨by rw [reqs_length, List.length_drop]; show _ = (s.len - k) * 4; omega, fun p hp i v hv => ?_, fun hp => ?_⟩
  · have hi : i < (reqs (pd.drop k)).length := by
      rcases Nat.lt_or_ge i (reqs (pd.drop k)).length with h | h
      · exact h
      · rw [List.getElem?_eq_none h] at hv; cases hv
    rw [reqs_length, List.length_drop] at hi
    have hcap := O.cap
    have hp : slp s.p (k * 4) k s.cap = some p := hp
    rw [O.p] at hp
    unfold slp at hp
    rw [if_neg (by omega)] at hp
    cases hp
    have := O.held.row _ O.p (k * 4 + i) v (by rw [← reqs_drop, List.getElem?_drop] at hv; exact hv)
    show h.get b (0 + k * 4 + i) = _
    rw [Nat.add_assoc]; exact this
  · have hp : slp s.p (k * 4) k s.cap = none := hp
    rw [O.p] at hp
    unfold slp at hp
    split at hp <;> cases hp

theorem held_upto {s : Sl} {b : Nat} (O : Own h s 4 (reqs pd) b) {k : Nat} (hk : k ≤ pd.length) : Held h ⟨slp s.p (0 * 4) 0 s.cap, k - 0, s.cap - 0⟩ 4 (reqs (pd.take k)) := by
  have hslp : ∀ p, slp s.p (0 * 4) 0 s.cap = some p → p = ⟨b, 0⟩ := by
    intro p hp
    rw [O.p] at hp
    unfold slp at hp
    split at hp <;> cases hp <;> rfl
  refine ⟨by rw [reqs_length, List.length_take]; show _ = (k - 0) * 4; omega, fun p hp i v hv => ?_, fun hp => ?_⟩
  · have hp := hslp p hp
    subst hp
    have hi : i < k * 4 := by
      rcases Nat.lt_or_ge i (k * 4) with h | h
      · exact h
      · rw [List.getElem?_eq_none (by rw [reqs_length, List.length_take]; omega)] at hv; cases hv
    rw [← reqs_take, List.getElem?_take_of_lt hi] at hv
    exact O.held.row _ O.p i v hv
  · have hp : slp s.p (0 * 4) 0 s.cap = none := hp
    rw [O.p] at hp
    unfold slp at hp
    split at hp <;> cases hp

theorem eraseIdx_eq (l : List Req) (n : Nat) : l.take n ++ l.drop (n + 1) = l.eraseIdx n := (List.eraseIdx_eq_take_drop_succ l n).symm

/-- What the document's request does, once it is out of the row. -/
theorem rdo_of (R : RR z RB pd ro h) {a3 a4 : Nat} {r : Req} (ho3 : h.obj a3 = some (.cells (Req.cells ⟨0, false, 0, 0⟩) false)) (ho4 : h.obj a4 = some (.cells r.cells false)) (h3 : ¬ z.Foot a3) (h4 : ¬ z.Foot a4) (h34 : a3 ≠ a4) (hblk : rhas RB r.block = true) {Q : Int → Bool → Int → Int → Int → Heap → Prop}
    (h12 : rhas ro r.frame = false → ∀ h', Keeps (· = a3) h h' → Q r.id r.write r.block r.frame 12 h')
    (hw : rhas ro r.frame = true → r.write = true → ∀ h', RR z (Mem.put RB (r.block * 256).toNat ((ro.drop (r.frame * 256).toNat).take 256)) pd ro h' → Keeps (fun x => x = z.bB ∨ x = a3) h h' → Q r.id r.write r.block r.frame 0 h')
    (hr : rhas ro r.frame = true → r.write = false → ∀ h', RR z RB pd (Mem.put ro (r.frame * 256).toNat ((RB.drop (r.block * 256).toNat).take 256)) h' → Keeps (fun x => x = z.bO ∨ x = a3) h h' → Q r.id r.write r.block r.frame 0 h') :
    palisaderef12_Disk_Complete.j5 (some ⟨z.pr, 0⟩) (some ⟨z.po, 0⟩) ⟨a3, 0⟩ ⟨a4, 0⟩ Q h := by
  unfold palisaderef12_Disk_Complete.j5
  have hms := R.msize
  have hrs := R.size
  obtain ⟨b0, b1⟩ := rhas_t hblk
  have bad : rhas ro r.frame = false → palisaderef12_Disk_Complete.j6 ⟨a3, 0⟩ ⟨a4, 0⟩ Q h := by
    intro hf
    unfold palisaderef12_Disk_Complete.j6
    refine loc_I ho4 rfl (loc_B ho4 rfl (loc_I ho4 rfl (loc_I ho4 rfl ?_)))
    exact ret_of (r := r) rfl ho3 (fun h5 k5 => h12 hf h5 k5)
  refine loc_I ho4 rfl (br_if (fun hneg => bad ?_) (fun hpos => ?_))
  · have : r.frame < 0 := by simpa using hneg
    simp [rhas]; omega
  have hpos : ¬ r.frame < 0 := by simpa using hpos
  refine loc_I ho4 rfl ?_
  rw [der_some]
  refine loc_Sl R.mcell rfl (nz_of (by decide) ?_)
  show br (decide (r.frame ≥ IntKind.i64.wrap (((ro.length : Nat) : Int).tdiv 256))) _ _
  rw [tdiv256 _ hms]
  refine br_if (fun hbig => bad ?_) (fun hsm => ?_)
  · have : r.frame ≥ ((ro.length / 256 : Nat) : Int) := by simpa using hbig
    simp [rhas]; omega
  have hsm : ¬ r.frame ≥ ((ro.length / 256 : Nat) : Int) := by simpa using hsm
  have hfr : rhas ro r.frame = true := by simp [rhas]; omega
  unfold palisaderef12_Disk_Complete.j8
  intro I HI
  have e1 : IntKind.i64.wrap (r.frame * 256) = r.frame * 256 := wrap64
  have e2 : IntKind.i64.wrap (r.block * 256) = r.block * 256 := wrap64
  cases hwr : r.write with
  | true =>
    let x := (ro.drop (r.frame * 256).toNat).take 256
    have hx : x.length = 256 := by simp [x]; omega
    have key : ∀ (j k : Nat) (g : Heap), k + j = 256 → RR z (Mem.put RB (r.block * 256).toNat (x.take k)) pd ro g → Keeps (· = z.bB) h g → I (some ⟨z.pr, 0⟩) (some ⟨z.po, 0⟩) ⟨a3, 0⟩ ⟨a4, 0⟩ (k : Int) g := by
      intro j
      induction j with
      | zero =>
        intro k g hk Rg kg
        refine HI _ _ _ _ _ _ ?_
        unfold palisaderef12_Disk_Complete.b8
        obtain rfl : k = 256 := by omega
        rw [← hx, put_all] at Rg
        have ho3 := kg.obj ho3 (fun e => h3 (.inr (.inl e)))
        have ho4 := kg.obj ho4 (fun e => h4 (.inr (.inl e)))
        refine br_f rfl (loc_I ho4 rfl (loc_B ho4 rfl (loc_I ho4 rfl (loc_I ho4 rfl ?_))))
        refine ret_of (r := r) rfl ho3 (fun h5 k5 => ?_)
        rw [hwr] at hw
        have := hw hfr rfl h5 (Rg.keeps k5 (fun y hy e => h3 (e ▸ hy))) ((kg.mono (fun _ e => .inl e)).trans (k5.mono (fun _ e => .inr e)))
        rw [hwr]
        exact this
      | succ j ih =>
        intro k g hk Rg kg
        refine HI _ _ _ _ _ _ ?_
        unfold palisaderef12_Disk_Complete.b8
        have ho4 := kg.obj ho4 (fun e => h4 (.inr (.inl e)))
        have hkx : x[k]? = some (x[k]'(by omega)) := List.getElem?_eq_getElem _
        have hlen : (Mem.put RB (r.block * 256).toNat (x.take k)).length = RB.length := Mem.put_length (by simp; omega)
        refine br_t (by simp; omega) (loc_B ho4 rfl (br_t hwr ?_))
        rw [der_some]
        refine loc_Sl Rg.cell rfl (loc_I ho4 rfl ?_)
        rw [der_some]
        refine loc_Sl Rg.mcell rfl (loc_I ho4 rfl ?_)
        have e3 : IntKind.i64.wrap (r.frame * 256 + (k : Int)) = r.frame * 256 + k := wrap64
        have e4 : IntKind.i64.wrap (r.block * 256 + (k : Int)) = r.block * 256 + k := wrap64
        rw [e1, e2, e3, e4]
        refine ix_of (by omega) (by show r.frame * 256 + (k : Int) < ((ro.length : Nat) : Int); omega) ?_
        have t3 : (r.frame * 256 + (k : Int)).toNat = (r.frame * 256).toNat + k := by omega
        have t4 : (r.block * 256 + (k : Int)).toNat = (r.block * 256).toNat + k := by omega
        rw [t3, der_some, Nat.mul_one]
        obtain ⟨m2, a2⟩ := Rg.marr
        have hxro : ro[(r.frame * 256).toNat + k]? = some (x[k]'(by omega)) := by
          rw [← hkx]
          show _ = (List.take 256 (List.drop _ ro))[k]?
          rw [List.getElem?_take_of_lt (by omega), List.getElem?_drop]
        refine rdI_of (x := ((x[k]'(by omega)).toNat : Int)) ?_ ?_
        · show g.get z.bO (0 + ((r.frame * 256).toNat + k)) = _
          rw [Nat.zero_add, get_cells a2, strCells_get, hxro]; rfl
        refine ix_of (by omega) (by show r.block * 256 + (k : Int) < (((Mem.put RB (r.block * 256).toNat (x.take k)).length : Nat) : Int); omega) ?_
        rw [t4, der_some, Nat.mul_one]
        obtain ⟨mk, ha⟩ := Rg.arr
        show wr ⟨z.bB, 0 + ((r.block * 256).toNat + k)⟩ _ _ g
        rw [Nat.zero_add]
        have hin : (strCells (Mem.put RB (r.block * 256).toNat (x.take k)))[(r.block * 256).toNat + k]? = some ((strCells (Mem.put RB (r.block * 256).toNat (x.take k)))[(r.block * 256).toNat + k]'(by rw [strCells_length, hlen]; omega)) := List.getElem?_eq_getElem _
        refine wr_cells ha hin (fun g' ha' kg' => ?_)
        rw [put_step hkx (by omega)] at ha'
        have hlen' : (Mem.put RB (r.block * 256).toNat (x.take (k + 1))).length = RB.length := Mem.put_length (by simp; omega)
        unfold palisaderef12_Disk_Complete.j9
        rw [wrap64]
        have kk := kg.trans kg'
        have := ih (k + 1) g' (by omega) ?_ kk
        · simpa using this
        · refine ⟨?_, ⟨mk, ha'⟩, kg'.obj Rg.mcell Rg.n4.symm, ⟨m2, kg'.obj a2 Rg.n5.symm⟩, ?_, Rg.sat, Rg.n1, Rg.n2, Rg.n3, Rg.n4, Rg.n5, Rg.n6, by omega, Rg.msize, Rg.few⟩
          · rw [hlen', ← hlen]; exact kg'.obj Rg.cell Rg.n1
          · rcases Rg.pend with hp' | ⟨b, O⟩
            · exact .inl hp'
            · exact .inr ⟨b, O.keeps kg' (fun e => (Rg.sat b ⟨_, O.p, rfl⟩).2.1 e)⟩
    have := key 256 0 h (by omega) (by rw [put_none]; exact R) (Keeps.refl _ _)
    simpa using this
  | false =>
    let x := (RB.drop (r.block * 256).toNat).take 256
    have hx : x.length = 256 := by simp [x]; omega
    have key : ∀ (j k : Nat) (g : Heap), k + j = 256 → RR z RB pd (Mem.put ro (r.frame * 256).toNat (x.take k)) g → Keeps (· = z.bO) h g → I (some ⟨z.pr, 0⟩) (some ⟨z.po, 0⟩) ⟨a3, 0⟩ ⟨a4, 0⟩ (k : Int) g := by
      intro j
      induction j with
      | zero =>
        intro k g hk Rg kg
        refine HI _ _ _ _ _ _ ?_
        unfold palisaderef12_Disk_Complete.b8
        obtain rfl : k = 256 := by omega
        rw [← hx, put_all] at Rg
        have ho3 := kg.obj ho3 (fun e => h3 (.inr (.inr (.inr (.inl e)))))
        have ho4 := kg.obj ho4 (fun e => h4 (.inr (.inr (.inr (.inl e)))))
        refine br_f rfl (loc_I ho4 rfl (loc_B ho4 rfl (loc_I ho4 rfl (loc_I ho4 rfl ?_))))
        refine ret_of (r := r) rfl ho3 (fun h5 k5 => ?_)
        rw [hwr] at hr
        have := hr hfr rfl h5 (Rg.keeps k5 (fun y hy e => h3 (e ▸ hy))) ((kg.mono (fun _ e => .inl e)).trans (k5.mono (fun _ e => .inr e)))
        rw [hwr]
        exact this
      | succ j ih =>
        intro k g hk Rg kg
        refine HI _ _ _ _ _ _ ?_
        unfold palisaderef12_Disk_Complete.b8
        have ho4 := kg.obj ho4 (fun e => h4 (.inr (.inr (.inr (.inl e)))))
        have hkx : x[k]? = some (x[k]'(by omega)) := List.getElem?_eq_getElem _
        have hlen : (Mem.put ro (r.frame * 256).toNat (x.take k)).length = ro.length := Mem.put_length (by simp; omega)
        refine br_t (by simp; omega) (loc_B ho4 rfl (br_f hwr ?_))
        rw [der_some]
        refine loc_Sl Rg.mcell rfl (loc_I ho4 rfl ?_)
        rw [der_some]
        refine loc_Sl Rg.cell rfl (loc_I ho4 rfl ?_)
        have e3 : IntKind.i64.wrap (r.frame * 256 + (k : Int)) = r.frame * 256 + k := wrap64
        have e4 : IntKind.i64.wrap (r.block * 256 + (k : Int)) = r.block * 256 + k := wrap64
        rw [e1, e2, e3, e4]
        refine ix_of (by omega) (by show r.block * 256 + (k : Int) < ((RB.length : Nat) : Int); omega) ?_
        have t3 : (r.frame * 256 + (k : Int)).toNat = (r.frame * 256).toNat + k := by omega
        have t4 : (r.block * 256 + (k : Int)).toNat = (r.block * 256).toNat + k := by omega
        rw [t4, der_some, Nat.mul_one]
        obtain ⟨m2, a2⟩ := Rg.arr
        have hxro : RB[(r.block * 256).toNat + k]? = some (x[k]'(by omega)) := by
          rw [← hkx]
          show _ = (List.take 256 (List.drop _ RB))[k]?
          rw [List.getElem?_take_of_lt (by omega), List.getElem?_drop]
        refine rdI_of (x := ((x[k]'(by omega)).toNat : Int)) ?_ ?_
        · show g.get z.bB (0 + ((r.block * 256).toNat + k)) = _
          rw [Nat.zero_add, get_cells a2, strCells_get, hxro]; rfl
        refine ix_of (by omega) (by show r.frame * 256 + (k : Int) < (((Mem.put ro (r.frame * 256).toNat (x.take k)).length : Nat) : Int); omega) ?_
        rw [t3, der_some, Nat.mul_one]
        obtain ⟨mk, ha⟩ := Rg.marr
        show wr ⟨z.bO, 0 + ((r.frame * 256).toNat + k)⟩ _ _ g
        rw [Nat.zero_add]
        have hin : (strCells (Mem.put ro (r.frame * 256).toNat (x.take k)))[(r.frame * 256).toNat + k]? = some ((strCells (Mem.put ro (r.frame * 256).toNat (x.take k)))[(r.frame * 256).toNat + k]'(by rw [strCells_length, hlen]; omega)) := List.getElem?_eq_getElem _
        refine wr_cells ha hin (fun g' ha' kg' => ?_)
        rw [put_step hkx (by omega)] at ha'
        have hlen' : (Mem.put ro (r.frame * 256).toNat (x.take (k + 1))).length = ro.length := Mem.put_length (by simp; omega)
        unfold palisaderef12_Disk_Complete.j9
        rw [wrap64]
        have kk := kg.trans kg'
        have := ih (k + 1) g' (by omega) ?_ kk
        · simpa using this
        · refine ⟨kg'.obj Rg.cell Rg.n3, ⟨m2, kg'.obj a2 Rg.n5⟩, ?_, ⟨mk, ha'⟩, ?_, Rg.sat, Rg.n1, Rg.n2, Rg.n3, Rg.n4, Rg.n5, Rg.n6, Rg.size, by omega, Rg.few⟩
          · rw [hlen', ← hlen]; exact kg'.obj Rg.mcell Rg.n6
          · rcases Rg.pend with hp' | ⟨b, O⟩
            · exact .inl hp'
            · exact .inr ⟨b, O.keeps kg' (fun e => (Rg.sat b ⟨_, O.p, rfl⟩).2.2.2 e)⟩
    have := key 256 0 h (by omega) (by rw [put_none]; exact R) (Keeps.refl _ _)
    simpa using this

theorem rComplete_of (R : RR z RB pd ro h) (hall : ∀ r ∈ pd, rhas RB r.block = true) {k : Int} {Q : Int → Bool → Int → Int → Int → Heap → Prop}
    (h14 : (k < 0 ∨ (pd.length : Int) ≤ k) → ∀ h', Keeps none_ h h' → Q 0 false 0 0 14 h')
    (h12 : ∀ (n : Nat) r, k = n → pd[n]? = some r → rhas ro r.frame = false → ∀ s' h', RR { z with s := s' } RB (pd.eraseIdx n) ro h' → Keeps z.Foot h h' → Grow h z.Foot (RL.Foot { z with s := s' }) → Q r.id r.write r.block r.frame 12 h')
    (hw : ∀ (n : Nat) r, k = n → pd[n]? = some r → rhas ro r.frame = true → r.write = true → ∀ s' h', RR { z with s := s' } (Mem.put RB (r.block * 256).toNat ((ro.drop (r.frame * 256).toNat).take 256)) (pd.eraseIdx n) ro h' → Keeps z.Foot h h' → Grow h z.Foot (RL.Foot { z with s := s' }) → Q r.id r.write r.block r.frame 0 h')
    (hr : ∀ (n : Nat) r, k = n → pd[n]? = some r → rhas ro r.frame = true → r.write = false → ∀ s' h', RR { z with s := s' } RB (pd.eraseIdx n) (Mem.put ro (r.frame * 256).toNat ((RB.drop (r.block * 256).toNat).take 256)) h' → Keeps z.Foot h h' → Grow h z.Foot (RL.Foot { z with s := s' }) → Q r.id r.write r.block r.frame 0 h') :
    palisaderef12_Disk_Complete (some ⟨z.pr, 0⟩) (some ⟨z.po, 0⟩) k Q h := by
  unfold palisaderef12_Disk_Complete
  have hfew := R.few
  refine al_of (fun b1 h1 hb1 ho1 k1 => ?_)
  have R1 := R.keep0 k1
  have hslen := Held.slen R1.held
  have bad : (k < 0 ∨ (pd.length : Int) ≤ k) → palisaderef12_Disk_Complete.j2 ⟨b1, 0⟩ Q h1 := by
    intro hk
    unfold palisaderef12_Disk_Complete.j2
    refine ret_of (r := ⟨0, false, 0, 0⟩) rfl ho1 (fun h2 k2 => h14 hk h2 ?_)
    exact Keeps.widen (k1.mono (S' := (· = b1)) (fun _ f => f.elim) |>.trans k2) (fun x hx => .inr (hx ▸ hb1))
  refine br_if (fun hlt => bad (.inl (by simpa using hlt))) (fun hge => ?_)
  rw [der_some]
  refine loc_Sl R1.cell rfl (br_if (fun hgt => bad (.inr (by rw [hslen] at hgt; simpa using hgt))) (fun hlt => ?_))
  rw [hslen] at hlt
  have hk0 : 0 ≤ k := by simpa using hge
  have hk1 : k < pd.length := by simpa using hlt
  obtain ⟨n, rfl⟩ : ∃ n : Nat, k = n := ⟨k.toNat, by omega⟩
  have hn1 : n < pd.length := by omega
  have hn : pd[n]? = some pd[n] := List.getElem?_eq_getElem hn1
  generalize hrr : pd[n] = r at hn
  obtain ⟨p, hp⟩ := Held.some R1.held hn1
  rw [der_some]
  refine loc_Sl R1.cell rfl (ix_of (by omega) (by omega) ?_)
  rw [hp, der_some, Int.toNat_natCast]
  refine rd0 R1.held hp hn (rd1 R1.held hp hn (rd2 R1.held hp hn (rd3 R1.held hp hn ?_)))
  refine al_wrL rfl (fun b2 h2 hb2 ho2 k2 => ?_)
  have k02 := k1.trans k2
  have ho1 := k2.obj ho1 (fun f => f)
  have R2 := R1.keep0 k2
  rcases R2.pend with ⟨_, hd0⟩ | ⟨b, O⟩
  · rw [hd0] at hn1; simp at hn1
  have hcap := O.cap
  rw [der_some]
  refine loc_Sl R2.cell rfl (sb_of (by omega) (by omega) ?_)
  rw [der_some]
  refine loc_Sl R2.cell rfl ?_
  have e1 : IntKind.i64.wrap ((n : Int) + 1) = (n : Int) + 1 := wrap64
  rw [e1]
  refine sb_of (by omega) (by omega) ?_
  have t1 : ((n : Int) + 1).toNat = n + 1 := by omega
  rw [t1, Int.toNat_natCast]
  intro b19 hb19
  have k3 : Keeps none_ h2 (h2.new b19 (.cells [] false)) := Keeps.new hb19 _
  have R3 := R2.keep0 k3
  have O3 := O.keeps k3 (fun f => f)
  refine ⟨⟨(get_cells R3.cell _).trans rfl, trivial⟩, ⟨(get_cells R3.cell _).trans rfl, trivial⟩, ?_⟩
  refine cellsS_of (held_upto O3 (by omega)) ?_
  refine copy_of (sz := 4) (bytes := 32) (n := n - 0) (by rw [reqs_length, List.length_take]; omega) rfl (by omega) (by omega) (fun s20 h4 b20 O20 hl20 hb20 k4 => ?_) hb19
  have R4 := R2.keep0 k4
  have O4 := O.keeps k4 (fun f => f)
  refine ⟨⟨(get_cells R4.cell _).trans rfl, trivial⟩, ?_⟩
  refine cellsS_of (held_from (mb := 0) O4 (k := n + 1) (by omega)) ?_
  have hsl4 := Held.slen O4.held
  refine appS_own (m := z.s.len - (n + 1)) O20 (by rw [reqs_length, List.length_drop]; omega) rfl (by omega) (by omega) (fun s22 h5 b22 O22 hl22 hbb k5 => ?_)
  rw [← reqs_append, eraseIdx_eq] at O22
  have hb20n : ¬ z.Foot b20 := fun hx => R2.known _ hx hb20
  have k5' : Keeps none_ h2 h5 := by
    refine ⟨fun x hx _ => ?_, fun x hx => k5.known x (k4.known x hx)⟩
    rw [k5.same x (k4.known x hx) (fun e => hx (e ▸ hb20))]
    exact k4.same x hx (fun f => f)
  have hb22 : h2.obj b22 = none := by
    rcases hbb with rfl | hbb
    · exact hb20
    · exact Mem.fresh_of k4 hbb
  rw [der_some]
  refine loc_wr (k5'.obj R2.cell (fun f => f)) rfl (fun h6 ho6 k6 => ?_)
  obtain ⟨R6, q2, q3⟩ := R2.row (pd' := pd.eraseIdx n) (by have := List.length_eraseIdx_le (l := pd) (i := n); omega) O22 (k5'.mono (fun _ f => f.elim)) (.inr hb22) ho6 k6
  have n1 : ¬ z.Foot b1 := R.offs hb1
  have n2 : ¬ z.Foot b2 := R1.offs hb2
  have b1p : b1 ≠ z.pr := fun e => n1 (.inl e)
  have b2p : b2 ≠ z.pr := fun e => n2 (.inl e)
  have ho1 := k6.obj (k5'.obj ho1 (fun f => f)) b1p
  have ho2 := k6.obj (k5'.obj ho2 (fun f => f)) b2p
  have kk1 : h2.obj b1 ≠ none := k2.known b1 (by rename_i x; intro e; have := ‹h1.obj b1 = some _›; rw [this] at e; cases e)
  have kk2 : h2.obj b2 ≠ none := by
    intro e
    have := ‹h2.obj b2 = some _›
    rw [this] at e; cases e
  have g3 : Grow h z.Foot (RL.Foot { z with s := s22 }) := fun x hx => (q3 x hx).imp_right (fun e => Mem.fresh_of k02 e)
  have m1 : ¬ RL.Foot { z with s := s22 } b1 := fun hx => (q3 b1 hx).elim n1 kk1
  have m2 : ¬ RL.Foot { z with s := s22 } b2 := fun hx => (q3 b2 hx).elim n2 kk2
  have k06 : Keeps z.Foot h h6 := (k02.mono (fun _ f => f.elim)).trans q2
  have b12 : b1 ≠ b2 := fun e => by
    have := ‹h1.obj b1 = some _›
    rw [e, hb2] at this; cases this
  refine rdo_of (z := { z with s := s22 }) R6 ho1 ho2 m1 m2 b12 (hall r (List.mem_of_getElem? hn)) (fun hf h7 k7 => ?_) (fun hf hwr h7 R7 k7 => ?_) (fun hf hwr h7 R7 k7 => ?_)
  · refine h12 n r rfl hn hf s22 h7 (R6.keeps k7 (fun x hx e => m1 (e ▸ hx))) ?_ g3
    exact Keeps.widen ((k06.mono (S' := fun x => z.Foot x ∨ x = b1) (fun _ hx => .inl hx)).trans (k7.mono (fun _ hx => .inr hx))) (fun x hx => hx.elim .inl (fun e => .inr (e ▸ hb1)))
  · refine hw n r rfl hn hf hwr s22 h7 R7 ?_ g3
    refine Keeps.widen ((k06.mono (S' := fun x => z.Foot x ∨ x = b1) (fun _ hx => .inl hx)).trans (k7.mono (fun x hx => ?_))) (fun x hx => hx.elim .inl (fun e => .inr (e ▸ hb1)))
    rcases hx with e | e
    · exact .inl (.inr (.inl e))
    · exact .inr e
  · refine hr n r rfl hn hf hwr s22 h7 R7 ?_ g3
    refine Keeps.widen ((k06.mono (S' := fun x => z.Foot x ∨ x = b1) (fun _ hx => .inl hx)).trans (k7.mono (fun x hx => ?_))) (fun x hx => hx.elim .inl (fun e => .inr (e ▸ hb1)))
    rcases hx with e | e
    · exact .inl (.inr (.inr (.inr (.inl e))))
    · exact .inr e

end
end Go.Disk
