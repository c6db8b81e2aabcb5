/- The operations of the interpreter are the machine's: equality, conversions, and the operation as a whole. -/
import Derived.Test.YtgigbjieppllgaaDoorLiftE
import Derived.Laws.StructEq
import Derived.ChangeKeysEq
namespace Go.Lift
open Go.RowKit

section
variable {σ : Seat} {W0 : World} {h : Heap} {w : World} {E : Env} {ρ : Fr} {a : Act}

theorem eqD_run {x y : V} {t : Nat} {i : TI} (k : TIok σ.P t i) (n : Nat) {κ : Bool → Prop} (hx : eqD i.d x y κ) : ∃ b, (Op.equalIn (n + 1) t (x.val σ) (y.val σ)).run σ.P w = .ok b w ∧ κ b ∧ i.d.one = true := by
  have hd := k.d
  unfold eqD at hx
  split at hx
  · rename_i hi
    rw [hi] at hd
    split at hx
    · rename_i hk; subst hk
      exact ⟨_, run_equalIn_int w n t _ _ _ _ hd, hx, by rw [hi]; rfl⟩
    · exact hx.elim
  · rename_i hi; rw [hi] at hd
    exact ⟨_, run_equalIn_bool' w n t _ _ hd, hx, by rw [hi]; rfl⟩
  · rename_i p q hi; rw [hi] at hd
    refine ⟨_, run_equalIn_string w n t _ _ hd, ?_, by rw [hi]; rfl⟩
    rw [ba_toList, ba_toList]; exact hx
  · exact hx.elim

theorem eqFs_run (ok : EnvOK σ W0 E) (n : Nat) {xs ys : List V} : ∀ {fields : List Field} {fs : List (Nat × Nat)} {κ : List Bool → Prop}, fields.map (fun f => (f.offset, f.type)) = fs → (∀ f ∈ fields, f.name ≠ "_") → eqFs E fs xs ys κ →
    ∃ bs, (Op.eqFields (n + 1) (V.vals σ xs).toArray (V.vals σ ys).toArray fields).run σ.P w = .ok (eqL bs) w ∧ κ bs := by
  intro fields
  induction fields with
  | nil => intro fs κ hf _ hx; simp at hf; subst hf; exact ⟨[], rfl, hx⟩
  | cons f fields ih =>
    intro fs κ hf hn hx
    simp at hf; subst hf
    obtain ⟨i, k, hx⟩ := withTI_ok ok hx
    split at hx
    · rename_i x y hxo hyo
      obtain ⟨b, hr, hx, h1⟩ := eqD_run (w := w) k n hx
      obtain ⟨bs, hr', hk⟩ := ih rfl (fun g hg => hn g (by simp [hg])) hx
      refine ⟨b :: bs, ?_, hk⟩
      have px := run_part_one (w := w) k h1 (cs := (V.vals σ xs).toArray) (off := f.offset) (v := x.val σ) (by simp [vals_map, hxo])
      have py := run_part_one (w := w) k h1 (cs := (V.vals σ ys).toArray) (off := f.offset) (v := y.val σ) (by simp [vals_map, hyo])
      have hname := hn f (by simp)
      simp only [Op.eqFields, if_pos hname, Sem.run_bind, px, py, hr, Result.andThen_ok]
      cases b
      · simp [eqL]
      · simp [eqL, hr']
    · exact hx.elim

theorem eqFs1_run (ok : EnvOK σ W0 E) (n : Nat) {xs ys : List V} : ∀ {fields : List Field} {fs : List (Nat × Nat)} {κ : List Bool → Prop}, fields.map (fun f => (f.offset, f.type)) = fs → (∀ f ∈ fields, f.name ≠ "_") → eqFs1 E fs xs ys κ →
    ∃ bs, (Op.eqFields (n + 2) (V.vals σ xs).toArray (V.vals σ ys).toArray fields).run σ.P w = .ok (eqL bs) w ∧ κ bs := by
  intro fields
  induction fields with
  | nil => intro fs κ hf _ hx; simp at hf; subst hf; exact ⟨[], rfl, hx⟩
  | cons f fields ih =>
    intro fs κ hf hn hx
    simp at hf; subst hf
    obtain ⟨i, k, hx⟩ := withTI_ok ok hx
    have hname := hn f (by simp)
    have nested : ∀ gs, i.d = .struct gs → (bif i.eq then eqFs E gs ((xs.drop f.offset).take i.size) ((ys.drop f.offset).take i.size) (fun bs => eqFs1 E (fields.map (fun f => (f.offset, f.type))) xs ys (fun c => κ (eqL bs :: c))) else False) →
        ∃ bs, (Op.eqFields (n + 2) (V.vals σ xs).toArray (V.vals σ ys).toArray (f :: fields)).run σ.P w = .ok (eqL bs) w ∧ κ bs := by
      intro gs hd hx
      cases he : i.eq with
      | false => rw [he] at hx; exact hx.elim
      | true =>
        rw [he] at hx
        have hdd := k.d
        rw [hd] at hdd
        obtain ⟨gfields, hu, hf⟩ := hdd
        obtain ⟨h1, _, h3⟩ := k.eq he
        have hfo : σ.P.fieldsOf f.type = gfields := by simp [Program.fieldsOf, hu]
        obtain ⟨b0, hr0, hx⟩ := eqFs_run (w := w) ok n hf (h3 gfields hu) hx
        obtain ⟨bs, hr', hk⟩ := ih rfl (fun g hg => hn g (by simp [hg])) hx
        refine ⟨eqL b0 :: bs, ?_, hk⟩
        have hone : i.d.one = false := by rw [hd]; rfl
        have px : (part f.type (V.vals σ xs).toArray f.offset).run σ.P w = .ok (.agg (V.vals σ ((xs.drop f.offset).take i.size)).toArray) w := by rw [run_part_agg k hone, vals_extract]
        have py : (part f.type (V.vals σ ys).toArray f.offset).run σ.P w = .ok (.agg (V.vals σ ((ys.drop f.offset).take i.size)).toArray) w := by rw [run_part_agg k hone, vals_extract]
        have hr : (Op.equalIn (n + 2) f.type (.agg (V.vals σ ((xs.drop f.offset).take i.size)).toArray) (.agg (V.vals σ ((ys.drop f.offset).take i.size)).toArray)).run σ.P w = .ok (eqL b0) w := by
          rw [run_equalIn_struct w (n + 1) f.type _ _ (by rw [hfo]; exact hu) h1, hfo]
          exact hr0
        simp only [Op.eqFields, if_pos hname, Sem.run_bind, px, py, hr, Result.andThen_ok]
        cases hb : eqL b0
        · simp [eqL]
        · simp [eqL, hr']
    have flat : (match xs[f.offset]?, ys[f.offset]? with
        | some x, some y => eqD i.d x y (fun b => eqFs1 E (fields.map (fun f => (f.offset, f.type))) xs ys (fun c => κ (b :: c)))
        | _, _ => False) → ∃ bs, (Op.eqFields (n + 2) (V.vals σ xs).toArray (V.vals σ ys).toArray (f :: fields)).run σ.P w = .ok (eqL bs) w ∧ κ bs := by
      intro hx
      split at hx
      · rename_i x y hxo hyo
        obtain ⟨b, hr, hx, h1⟩ := eqD_run (w := w) k (n + 1) hx
        obtain ⟨bs, hr', hk⟩ := ih rfl (fun g hg => hn g (by simp [hg])) hx
        refine ⟨b :: bs, ?_, hk⟩
        have px := run_part_one (w := w) k h1 (cs := (V.vals σ xs).toArray) (off := f.offset) (v := x.val σ) (by simp [vals_map, hxo])
        have py := run_part_one (w := w) k h1 (cs := (V.vals σ ys).toArray) (off := f.offset) (v := y.val σ) (by simp [vals_map, hyo])
        simp only [Op.eqFields, if_pos hname, Sem.run_bind, px, py, hr, Result.andThen_ok]
        cases b
        · simp [eqL]
        · simp [eqL, hr']
      · exact hx.elim
    cases hd : i.d with
    | struct gs => rw [hd] at hx; exact nested gs hd hx
    | _ => rw [hd] at hx flat; exact flat hx

theorem run_equal_agg {t : Nat} {i : TI} {fs : List (Nat × Nat)} (ok : EnvOK σ W0 E) (k : TIok σ.P t i) (hd : i.d = .struct fs) (he : i.eq = true) {xs ys : List V} {κ : List Bool → Prop} (hx : eqFs1 E fs xs ys κ) :
    ∃ bs, (Op.equal t (.agg (V.vals σ xs).toArray) (.agg (V.vals σ ys).toArray)).run σ.P w = .ok (eqL bs) w ∧ κ bs := by
  have hdd := k.d
  rw [hd] at hdd
  obtain ⟨fields, hu, hf⟩ := hdd
  obtain ⟨h1, _, h3⟩ := k.eq he
  have hfo : σ.P.fieldsOf t = fields := by simp [Program.fieldsOf, hu]
  obtain ⟨bs, hr, hk⟩ := eqFs1_run (w := w) ok 9997 hf (h3 fields hu) hx
  refine ⟨bs, ?_, hk⟩
  unfold Op.equal Op.maxDepth
  rw [run_equalIn_struct w 9999 t _ _ (by rw [hfo]; exact hu) h1, hfo]
  exact hr

/-! structs and arrays whose cells are a list -/

def EQ.mk (σ : Seat) : EQ → List V → Value
  | .leaf _, xs => (xs.headD .nilfn).val σ
  | _, xs => .agg (V.vals σ xs).toArray

theorem fitsL_len : ∀ {ss : List Sh} {xs : List V}, fitsL ss xs → xs.length = ss.length
  | [], [], _ => rfl
  | [], _ :: _, h => h.elim
  | _ :: _, [], h => h.elim
  | _ :: ss, _ :: xs, h => by simp [fitsL_len h.2]

theorem fitsL_app : ∀ {a b : List Sh} {xs : List V}, fitsL (a ++ b) xs → fitsL a (xs.take a.length) ∧ fitsL b (xs.drop a.length)
  | [], b, xs, h => by simpa [fitsL] using h
  | s :: a, b, [], h => h.elim
  | s :: a, b, x :: xs, h => by
    obtain ⟨h1, h2⟩ := h
    obtain ⟨p, q⟩ := fitsL_app (a := a) (b := b) h2
    exact ⟨⟨h1, p⟩, by simpa using q⟩

theorem keqL_split : ∀ (n : Nat) {xs ys : List V}, xs.length = ys.length → keqL xs ys = (keqL (xs.take n) (ys.take n) && keqL (xs.drop n) (ys.drop n))
  | 0, xs, ys, _ => by simp [keqL]
  | n + 1, [], [], _ => by simp [keqL]
  | n + 1, [], _ :: _, h => by simp at h
  | n + 1, _ :: _, [], h => by simp at h
  | n + 1, x :: xs, y :: ys, h => by
    simp only [List.take_succ_cons, List.drop_succ_cons, keqL]
    rw [keqL_split n (by simpa using h), Bool.and_assoc]

theorem keyIs_leafOK {P : Program} {s : Sh} {t : Nat} (hk : eqOK P (.leaf s) t = true) : P.plainKey t = true := by
  unfold eqOK at hk
  unfold Program.plainKey
  cases s <;> simp only at hk <;> first | (cases hk; done) | skip
  all_goals (split at hk <;> first | (cases hk; done) | (rename_i hu; simp [hu]))

theorem isAgg_of {P : Program} {w : World} {d : EQ} {t : Nat} (hk : eqOK P d t = true) (hl : ∀ s, d ≠ .leaf s) : (isAgg t).run P w = .ok true w := by
  unfold eqOK at hk
  cases d with
  | leaf s => exact absurd rfl (hl s)
  | arr n sz e =>
    simp only at hk
    split at hk
    · rename_i hu; simp [isAgg, run_under hu]
    · cases hk
  | struct fs =>
    simp only at hk
    split at hk
    · rename_i hu; simp [isAgg, run_under hu]
    · cases hk

theorem part_of_eq {d : EQ} {t : Nat} (hk : eqOK σ.P d t = true) (hi : (σ.P.info? t).isSome = true) {xs : List V} {off : Nat} (hc : σ.P.cellsOf t = d.leaves.length) (hf : fitsL d.leaves ((xs.drop off).take d.leaves.length)) :
    (part t (V.vals σ xs).toArray off).run σ.P w = .ok (d.mk σ ((xs.drop off).take d.leaves.length)) w := by
  have agg : (∀ s, d ≠ .leaf s) → (part t (V.vals σ xs).toArray off).run σ.P w = .ok (d.mk σ ((xs.drop off).take d.leaves.length)) w := by
    intro hl
    obtain ⟨info, hinfo⟩ := Option.isSome_iff_exists.1 hi
    have hsz : info.size = d.leaves.length := by simpa [Program.cellsOf, hinfo] using hc
    have hm : d.mk σ ((xs.drop off).take d.leaves.length) = .agg (V.vals σ ((xs.drop off).take d.leaves.length)).toArray := by
      cases d with
      | leaf s => exact absurd rfl (hl s)
      | arr n sz e => rfl
      | struct fs => rfl
    rw [hm]
    simp [part, isAgg_of (w := w) hk hl, run_sizeOf w hinfo, hc, vals_map, List.map_take, List.map_drop]
  cases d with
  | leaf s =>
    have hlen := fitsL_len hf
    have : ∃ v, (xs.drop off).take 1 = [v] := by
      simp only [EQ.leaves, List.length_singleton] at hlen
      match h : (xs.drop off).take 1, hlen with
      | [v], _ => exact ⟨v, rfl⟩
    obtain ⟨v, hv⟩ := this
    have hx : xs[off]? = some v := by
      have := congrArg (fun l => l[0]?) hv
      rw [List.getElem?_take_of_lt (by omega), List.getElem?_drop] at this
      simpa using this
    have hm : EQ.mk σ (.leaf s) ((xs.drop off).take (EQ.leaf s).leaves.length) = v.val σ := by
      show ((((xs.drop off).take 1)).headD .nilfn).val σ = _
      rw [hv]; rfl
    rw [hm]
    exact run_part_plain w (keyIs_leafOK hk) (by simp [vals_map, hx])
  | arr n sz e => exact agg (fun s => by simp)
  | struct fs => exact agg (fun s => by simp)

theorem flatSh_length : ∀ (n : Nat) (l : List Sh), (flatSh n l).length = n * l.length
  | 0, l => by simp [flatSh]
  | n + 1, l => by simp [flatSh, flatSh_length n l, Nat.succ_mul, Nat.add_comm]

mutual
theorem eqE_run : ∀ (d : EQ) {t n : Nat} {xs ys : List V}, eqOK σ.P d t = true → d.depth < n → fitsL d.leaves xs → fitsL d.leaves ys →
    (Op.equalIn n t (d.mk σ xs) (d.mk σ ys)).run σ.P w = .ok (keqL xs ys) w
  | .leaf s, t, n, xs, ys, hk, hn, hx, hy => by
    obtain ⟨m, rfl⟩ : ∃ m, n = m + 1 := ⟨n - 1, by omega⟩
    match xs, hx with
    | [], h => exact h.elim
    | x :: x2 :: xs, h => exact h.2.elim
    | [x], hx =>
    match ys, hy with
    | [], h => exact h.elim
    | y :: y2 :: ys, h => exact h.2.elim
    | [y], hy =>
    obtain ⟨hx, _⟩ := hx
    obtain ⟨hy, _⟩ := hy
    unfold eqOK at hk
    show (Op.equalIn (m + 1) t (x.val σ) (y.val σ)).run σ.P w = _
    cases s <;> simp only at hk <;> first | (cases hk; done) | skip
    · split at hk
      · rename_i hu
        cases x <;> simp [keyIs] at hx
        cases y <;> simp [keyIs] at hy
        subst hx; subst hy
        simp only [keqL, keq, Bool.and_true]
        exact run_equalIn_int w m t _ _ _ _ hu
      · cases hk
    · split at hk
      · rename_i hu
        cases x <;> simp [keyIs] at hx
        cases y <;> simp [keyIs] at hy
        simp only [keqL, keq, Bool.and_true]
        exact run_equalIn_bool' w m t _ _ hu
      · cases hk
    · split at hk
      · rename_i hu
        cases x <;> simp [keyIs] at hx
        cases y <;> simp [keyIs] at hy
        simp only [keqL, keq, Bool.and_true]
        have := run_equalIn_string (P := σ.P) w m t ⟨(‹List UInt8›).toArray⟩ ⟨(‹List UInt8›).toArray⟩ hu
        rename_i s1 s2
        have := run_equalIn_string (P := σ.P) w m t ⟨s1.toArray⟩ ⟨s2.toArray⟩ hu
        rw [ba_toList, ba_toList] at this
        exact this
      · cases hk
  | .arr k sz e, t, n, xs, ys, hk, hn, hx, hy => by
    obtain ⟨m, rfl⟩ : ∃ m, n = m + 1 := ⟨n - 1, by omega⟩
    unfold eqOK at hk
    split at hk
    · rename_i k' u hu
      simp only [Bool.and_eq_true] at hk
      obtain ⟨⟨⟨⟨h1, h2⟩, h3⟩, h4⟩, h5⟩ := hk
      have h1 := Nat.eq_of_beq_eq_true h1
      have h2 := Nat.eq_of_beq_eq_true h2
      have h3 := Nat.eq_of_beq_eq_true h3
      subst h1
      obtain ⟨info, hinfo⟩ := Option.isSome_iff_exists.1 h4
      have hde : e.depth < m := by simp only [EQ.depth] at hn; omega
      show (Op.equalIn (m + 1) t (.agg (V.vals σ xs).toArray) (.agg (V.vals σ ys).toArray)).run σ.P w = _
      rw [run_equalIn_array w m _ _ hu hinfo, h2]
      have hlx := fitsL_len hx
      have hly := fitsL_len hy
      simp only [EQ.leaves] at hx hy hlx hly
      rw [flatSh_length, h3] at hlx hly
      have key : ∀ (j i : Nat), i + j = k' → fitsL (flatSh j e.leaves) (xs.drop (i * sz)) → fitsL (flatSh j e.leaves) (ys.drop (i * sz)) →
          (Op.eqItems m u sz (V.vals σ xs).toArray (V.vals σ ys).toArray (List.range' i j)).run σ.P w = .ok (keqL (xs.drop (i * sz)) (ys.drop (i * sz))) w := by
        intro j
        induction j with
        | zero =>
          intro i hi fx fy
          have ex : xs.drop (i * sz) = [] := List.length_eq_zero_iff.1 (by have := fitsL_len fx; simpa [flatSh] using this)
          have ey : ys.drop (i * sz) = [] := List.length_eq_zero_iff.1 (by have := fitsL_len fy; simpa [flatSh] using this)
          rw [ex, ey]
          simp [Op.eqItems, keqL]
        | succ j ih =>
          intro i hi fx fy
          simp only [flatSh] at fx fy
          obtain ⟨fx1, fx2⟩ := fitsL_app fx
          obtain ⟨fy1, fy2⟩ := fitsL_app fy
          have px := part_of_eq (w := w) h5 h4 (xs := xs) (off := i * sz) (by omega) fx1
          have py := part_of_eq (w := w) h5 h4 (xs := ys) (off := i * sz) (by omega) fy1
          have he := eqE_run e h5 hde fx1 fy1
          rw [List.drop_drop, h3] at fx2 fy2
          have es : i * sz + sz = (i + 1) * sz := by rw [Nat.succ_mul]
          rw [es] at fx2 fy2
          have hr := ih (i + 1) (by omega) fx2 fy2
          have hlen : (xs.drop (i * sz)).length = (ys.drop (i * sz)).length := by simp; omega
          rw [keqL_split sz hlen, List.drop_drop, List.drop_drop, es]
          rw [h3] at px py he
          simp only [List.range'_succ, Op.eqItems, Sem.run_bind, px, py, he, Result.andThen_ok]
          cases keqL ((xs.drop (i * sz)).take sz) ((ys.drop (i * sz)).take sz)
          · simp
          · simpa using hr
      have := key k' 0 (by omega) (by simpa using hx) (by simpa using hy)
      simpa [List.range_eq_range'] using this
    · cases hk
  | .struct fs, t, n, xs, ys, hk, hn, hx, hy => by
    obtain ⟨m, rfl⟩ : ∃ m, n = m + 1 := ⟨n - 1, by omega⟩
    unfold eqOK at hk
    split at hk
    · rename_i fields hu
      simp only [Bool.and_eq_true, Bool.not_eq_true'] at hk
      have hfo : σ.P.fieldsOf t = fields := by simp [Program.fieldsOf, hu]
      show (Op.equalIn (m + 1) t (.agg (V.vals σ xs).toArray) (.agg (V.vals σ ys).toArray)).run σ.P w = _
      rw [run_equalIn_struct w m t _ _ (by rw [hfo]; exact hu) hk.1, hfo]
      have := eqL_run fs (fields := fields.toList) (i := 0) (n := m) (xs := xs) (ys := ys) hk.2 (by simp only [EQ.depth] at hn; omega) (by simpa [EQ.leaves] using hx) (by simpa [EQ.leaves] using hy)
      simpa using this
    · cases hk
theorem eqL_run : ∀ (fs : EQL) {fields : List Field} {i n : Nat} {xs ys : List V}, eqlOK σ.P fs fields i = true → fs.depth < n → fitsL fs.leaves (xs.drop i) → fitsL fs.leaves (ys.drop i) →
    (Op.eqFields n (V.vals σ xs).toArray (V.vals σ ys).toArray fields).run σ.P w = .ok (keqL (xs.drop i) (ys.drop i)) w
  | .nil, fields, i, n, xs, ys, hk, hn, hx, hy => by
    cases fields with
    | cons f l => simp [eqlOK] at hk
    | nil =>
      have ex : xs.drop i = [] := List.length_eq_zero_iff.1 (by have := fitsL_len hx; simpa [EQL.leaves] using this)
      have ey : ys.drop i = [] := List.length_eq_zero_iff.1 (by have := fitsL_len hy; simpa [EQL.leaves] using this)
      rw [ex, ey]
      simp [Op.eqFields, keqL]
  | .cons o sz d fs, fields, i, n, xs, ys, hk, hn, hx, hy => by
    cases fields with
    | nil => simp [eqlOK] at hk
    | cons f l =>
      simp only [eqlOK, Bool.and_eq_true] at hk
      obtain ⟨⟨⟨⟨⟨⟨⟨h0, h1⟩, h2⟩, h3⟩, h4⟩, h5⟩, h6⟩, h7⟩ := hk
      have h0 := Nat.eq_of_beq_eq_true h0
      have h1 := Nat.eq_of_beq_eq_true h1
      have h3 := Nat.eq_of_beq_eq_true h3
      have h4 := Nat.eq_of_beq_eq_true h4
      have h2 : f.name ≠ "_" := by simpa using h2
      subst h0
      simp only [EQL.leaves] at hx hy
      simp only [EQL.depth] at hn
      obtain ⟨fx1, fx2⟩ := fitsL_app hx
      obtain ⟨fy1, fy2⟩ := fitsL_app hy
      have px := part_of_eq (w := w) h6 h5 (xs := xs) (off := o) (by omega) fx1
      have py := part_of_eq (w := w) h6 h5 (xs := ys) (off := o) (by omega) fy1
      have he := eqE_run d h6 (n := n) (by omega) fx1 fy1
      rw [List.drop_drop, h4] at fx2 fy2
      have hr := eqL_run fs h7 (n := n) (by omega) fx2 fy2
      have hlen : (xs.drop o).length = (ys.drop o).length := by rw [fitsL_len hx, fitsL_len hy]
      rw [keqL_split sz hlen, List.drop_drop, List.drop_drop]
      rw [h4] at px py he
      rw [← h1] at px py he hr ⊢
      simp only [Op.eqFields, if_pos h2, Sem.run_bind, px, py, he, Result.andThen_ok]
      cases keqL ((xs.drop f.offset).take sz) ((ys.drop f.offset).take sz)
      · simp
      · simpa using hr
end

theorem run_equal_ago {t : Nat} {i : TI} (k : TIok σ.P t i) {d : EQ} (hd : i.eqd = some d) {fs : List (Nat × Nat)} (hs : i.d = .struct fs) {xs ys : List V} {κ : Bool → Prop} (hx : eqAgo d.leaves xs ys κ) :
    ∃ b, (Op.equal t (.agg (V.vals σ xs).toArray) (.agg (V.vals σ ys).toArray)).run σ.P w = .ok b w ∧ κ b := by
  obtain ⟨_, h1, h2⟩ := k.eqd d hd
  obtain ⟨fx, fy, hk⟩ := hx
  refine ⟨_, ?_, hk⟩
  have hm : ∀ l, d.mk σ l = .agg (V.vals σ l).toArray := by
    intro l
    cases d with
    | leaf s =>
      exfalso
      have hdd := k.d
      rw [hs] at hdd
      obtain ⟨fields, hu, _⟩ := hdd
      have hp := keyIs_leafOK h1
      unfold Program.plainKey at hp
      rw [hu] at hp
      cases hp
    | arr n sz e => rfl
    | struct fs => rfl
  have := eqE_run (w := w) d h1 h2 fx fy
  rw [hm, hm] at this
  exact this

theorem eqGuard_plain {w : World} {op : BinOp} {t : Nat} {xo yo : Operand} {u v : Value} (hu : (match u with | .nilIface | .agg _ => true | _ => false) = false) : (eqGuard op t xo yo u v).run σ.P w = .ok () w := by
  unfold eqGuard
  cases op <;> first | rfl | skip
  all_goals cases u <;> first | rfl | cases hu

theorem eqGuard_nil {op : BinOp} {t : Nat} {xo yo : Operand} (hc : isConstO yo = true) : (eqGuard op t xo yo .nilIface .nilIface).run σ.P w = .ok () w := by
  unfold eqGuard
  cases op <;> first | rfl | skip
  all_goals (cases yo <;> first | cases hc | skip)
  all_goals simp

theorem eqGuard_agg {op : BinOp} {t : Nat} {xo yo : Operand} {u v : Array Value} (hc : σ.P.eqGuardType σ.P.depth t = false) : (eqGuard op t xo yo (.agg u) (.agg v)).run σ.P w = .ok () w := by
  unfold eqGuard
  cases op <;> first | rfl | skip
  all_goals simp [hc]

theorem eqIn_ptr_nn {t e : Nat} (n : Nat) (hu : σ.P.underlying t = some (.pointer e)) (b : Option Addr) : (Op.equalIn (n + 1) t (.pointer none) (.pointer b)).run σ.P w = .ok b.isNone w := by
  simp only [Op.equalIn, Sem.run_bind, run_under hu, Result.andThen_ok, Sem.run_pure]

theorem eqIn_ptr_sn {t e : Nat} (n : Nat) (hu : σ.P.underlying t = some (.pointer e)) (b : Addr) : (Op.equalIn (n + 1) t (.pointer (some b)) (.pointer none)).run σ.P w = .ok false w := by
  simp only [Op.equalIn, Sem.run_bind, run_under hu, Result.andThen_ok, Sem.run_pure]

theorem eqIn_ptr_ss {t e : Nat} (n : Nat) (hu : σ.P.underlying t = some (.pointer e)) {m : Nat} (hm : (sizeOf e).run σ.P w = .ok m w) (h0 : m ≠ 0) (a b : Addr) : (Op.equalIn (n + 1) t (.pointer (some a)) (.pointer (some b))).run σ.P w = (sameAddr a b).run σ.P w := by
  simp only [Op.equalIn, Sem.run_bind, run_under hu, Result.andThen_ok, hm]
  rw [if_pos h0]

theorem eqIn_slice {t e : Nat} (n : Nat) (hu : σ.P.underlying t = some (.slice e)) (a : Option Addr) (l c l' c' : Nat) : (Op.equalIn (n + 1) t (.slice a l c) (.slice none l' c')).run σ.P w = .ok a.isNone w := by
  cases a <;> simp only [Op.equalIn, Sem.run_bind, run_under hu, Result.andThen_ok, Sem.run_pure] <;> rfl

theorem eqIn_map {t e e' : Nat} (n : Nat) (hu : σ.P.underlying t = some (.map e e')) (a : Option Nat) : (Op.equalIn (n + 1) t (.map a) (.map none)).run σ.P w = .ok a.isNone w := by
  cases a <;> simp only [Op.equalIn, Sem.run_bind, run_under hu, Result.andThen_ok, Sem.run_pure] <;> rfl

theorem eqIn_nilif {t : Nat} {ms} (n : Nat) (hu : σ.P.underlying t = some (.interface ms)) : (Op.equalIn (n + 1) t .nilIface .nilIface).run σ.P w = .ok true w := by
  simp only [Op.equalIn, Sem.run_bind, run_under hu, Result.andThen_ok, Sem.run_pure]

theorem eqIn_iface {t : Nat} {ms} (n : Nat) (hu : σ.P.underlying t = some (.interface ms)) (t' : Nat) (u : Value) : (Op.equalIn (n + 1) t (.iface t' u) .nilIface).run σ.P w = .ok false w := by
  simp only [Op.equalIn, Sem.run_bind, run_under hu, Result.andThen_ok, Sem.run_pure]

theorem eqIn_nilfn {t : Nat} {x y z} (n : Nat) (hu : σ.P.underlying t = some (.func x y z)) : (Op.equalIn (n + 1) t .nilFunc .nilFunc).run σ.P w = .ok true w := by
  simp only [Op.equalIn, Sem.run_bind, run_under hu, Result.andThen_ok, Sem.run_pure]

theorem eqIn_fn {t : Nat} {x y z} (n : Nat) (hu : σ.P.underlying t = some (.func x y z)) (f : Fn) (u v : Array Value) : (Op.equalIn (n + 1) t (.func f u v) .nilFunc).run σ.P w = .ok false w := by
  simp only [Op.equalIn, Sem.run_bind, run_under hu, Result.andThen_ok, Sem.run_pure]

theorem run_equal_ptr {t e : Nat} {i j : TI} (k : TIok σ.P t i) (hd : i.d = .ptr e) (kj : TIok σ.P e j) (hz : Nat.beq j.size 0 = false) (s : Sim σ W0 h w) {q q' : Option Ptr} {κ : Bool → Prop} (hx : eqP q q' κ h) :
    ∃ b, (Op.equal t (.pointer (q.map Ptr.addr)) (.pointer (q'.map Ptr.addr))).run σ.P w = .ok b w ∧ κ b := by
  have hu := k.d
  rw [hd] at hu
  have hu : σ.P.underlying t = some (.pointer e) := hu
  have hz' : j.size ≠ 0 := by intro h0; rw [h0] at hz; cases hz
  unfold eqP at hx
  unfold Op.equal Op.maxDepth
  cases q' with
  | none =>
    cases q with
    | none => exact ⟨true, eqIn_ptr_nn 9999 hu _, hx⟩
    | some p => exact ⟨false, eqIn_ptr_sn 9999 hu _, hx⟩
  | some p' =>
    obtain ⟨hp, hp', hx⟩ := hx
    cases q with
    | none => exact ⟨false, eqIn_ptr_nn 9999 hu _, hx⟩
    | some p => exact ⟨p == p', (eqIn_ptr_ss 9999 hu (kj.size w) hz' _ _).trans (run_sameAddr s hp hp'), by simpa using hx⟩

/-- '==' between values that are no numbers and no strings. -/
theorem eqPT_sound (ok : EnvOK σ W0 E) (s : Sim σ W0 h w) {t : Nat} {x y : V} {xo yo : Operand} {κ : Bool → Prop} (op : BinOp) (hx : eqPT E t x y (isConstO yo) κ h) :
    ∃ b, (eqGuard op t xo yo (x.val σ) (y.val σ)).run σ.P w = .ok () w ∧ (Op.equal t (x.val σ) (y.val σ)).run σ.P w = .ok b w ∧ κ b ∧
      binOp .eql t (x.val σ) (y.val σ) = (do pure (.bool (← Op.equal t (x.val σ) (y.val σ)))) ∧ binOp .neq t (x.val σ) (y.val σ) = (do pure (.bool (!(← Op.equal t (x.val σ) (y.val σ))))) := by
  obtain ⟨i, k, hx⟩ := withTI_ok ok hx
  have hd := k.d
  split at hx
  · rename_i e hi
    obtain ⟨j, kj, hx⟩ := withTI_ok ok hx
    split at hx
    · rename_i q q'
      cases hz : Nat.beq j.size 0 with
      | true => rw [hz] at hx; exact hx.elim
      | false =>
        rw [hz] at hx
        obtain ⟨b, hr, hk⟩ := run_equal_ptr k hi kj hz s hx
        exact ⟨b, eqGuard_plain rfl, hr, hk, rfl, rfl⟩
    · exact hx.elim
  · rename_i hi
    rw [hi] at hd
    obtain ⟨ms, hu⟩ := hd
    split at hx
    · cases hc : isConstO yo with
      | false => rw [hc] at hx; exact hx.elim
      | true =>
        rw [hc] at hx
        rcases isNil_sound hx with ⟨rfl, hk⟩ | ⟨⟨t', u, rfl⟩, hk⟩
        · exact ⟨true, eqGuard_nil hc, eqIn_nilif 9999 hu, hk, rfl, rfl⟩
        · exact ⟨false, eqGuard_plain rfl, eqIn_iface 9999 hu _ _, hk, rfl, rfl⟩
    · exact hx.elim
  · rename_i hi
    rw [hi] at hd
    obtain ⟨a1, a2, a3, hu⟩ := hd
    split at hx
    · rcases isNilF_sound hx with ⟨rfl, hk⟩ | ⟨⟨f, c, rfl⟩, hk⟩
      · exact ⟨true, eqGuard_plain rfl, eqIn_nilfn 9999 hu, hk, rfl, rfl⟩
      · exact ⟨false, eqGuard_plain rfl, eqIn_fn 9999 hu _ _ _, hk, rfl, rfl⟩
    · exact hx.elim
  · rename_i e hi
    rw [hi] at hd
    have hu : σ.P.underlying t = some (.slice e) := hd
    split at hx
    · exact ⟨_, eqGuard_plain rfl, eqIn_slice 9999 hu _ _ _ _ _, by simpa using hx, rfl, rfl⟩
    · exact hx.elim
  · rename_i k1 e1 hi
    rw [hi] at hd
    have hu : σ.P.underlying t = some (.map k1 e1) := hd
    split at hx
    · exact ⟨_, eqGuard_plain rfl, eqIn_map 9999 hu _, by rw [mref_isNone]; exact hx, rfl, rfl⟩
    · exact hx.elim
  · rename_i hi
    have hx' := hx
    obtain ⟨b, hr, hk, _⟩ := eqD_run (w := w) k 9999 hx
    rw [hi] at hx'
    have sh : ∃ p q, x = .bool p ∧ y = .bool q := by
      cases x <;> first | exact hx'.elim | skip
      cases y <;> first | exact hx'.elim | exact ⟨_, _, rfl, rfl⟩
    obtain ⟨p, q, rfl, rfl⟩ := sh
    exact ⟨b, eqGuard_plain rfl, hr, hk, rfl, rfl⟩
  · rename_i fs hi
    split at hx
    · rename_i xs ys
      cases he : i.eq with
      | false => rw [he] at hx; exact hx.elim
      | true =>
        rw [he] at hx
        obtain ⟨bs, hr, hk⟩ := run_equal_agg (w := w) ok k hi he hx
        exact ⟨_, eqGuard_agg (k.eq he).2.1, hr, hk, rfl, rfl⟩
    · rename_i xs ys
      split at hx
      · rename_i d hd
        obtain ⟨b, hr, hk⟩ := run_equal_ago (w := w) k hd hi hx
        exact ⟨_, eqGuard_agg (k.eqd d hd).1, hr, hk, rfl, rfl⟩
      · exact hx.elim
    · exact hx.elim
  · exact hx.elim

theorem binP0_sound (ok : EnvOK σ W0 E) (s : Sim σ W0 h w) {op : BinOp} {t : Nat} {x y : V} {xo yo : Operand} {κ : V → Prop} (hx : binP0 E op t x y (isConstO yo) κ h) :
    ∃ v, (do eqGuard op t xo yo (x.val σ) (y.val σ); binOp op t (x.val σ) (y.val σ) : Sem Value).run σ.P w = .ok (V.val σ v) w ∧ v.wf ∧ κ v := by
  unfold binP0 at hx
  split at hx
  · rename_i k m k' n
    obtain ⟨h0, hk⟩ := hx
    refine ⟨_, ?_, wf_int _ _, hk⟩
    have : ¬ n < 0 := by omega
    simp [eqGuard, V.val, binOp, Op.shift, this, shlI]
  · rename_i k m k' n
    obtain ⟨h0, hk⟩ := hx
    refine ⟨_, ?_, wf_int _ _, hk⟩
    have : ¬ n < 0 := by omega
    simp [eqGuard, V.val, binOp, Op.shift, this, shrI]
  · split at hx
    · rename_i hk; subst hk
      obtain ⟨v, hr, hw, hk⟩ := binI_sound (σ := σ) (t := t) hx
      exact ⟨v, by simp [V.val, eqGuard_plain, hr], hw, hk⟩
    · exact hx.elim
  · obtain ⟨v, hr, hw, hk⟩ := binS_sound (σ := σ) (t := t) hx
    refine ⟨v, ?_, hw, hk⟩
    simp only [V.val] at hr ⊢
    simp [eqGuard_plain, hr]
  · obtain ⟨b, hg, hr, hk, e1, _⟩ := eqPT_sound (xo := xo) ok s .eql hx
    refine ⟨.bool b, ?_, wf_bool _, hk⟩
    rw [e1]
    simp [hg, hr, V.val]
  · obtain ⟨b, hg, hr, hk, _, e2⟩ := eqPT_sound (xo := xo) ok s .neq hx
    refine ⟨.bool !b, ?_, wf_bool _, hk⟩
    rw [e2]
    simp [hg, hr, V.val]
  · exact hx.elim

theorem binPT_sound (ok : EnvOK σ W0 E) (s : Sim σ W0 h w) {op : BinOp} {t : Nat} {x y : V} {xo yo : Operand} {κ : V → Prop} (hx : binPT E op t x y (isConstO yo) κ h) :
    ∃ v, (do eqGuard op t xo yo (x.val σ) (y.val σ); binOp op t (x.val σ) (y.val σ) : Sem Value).run σ.P w = .ok (V.val σ v) w ∧ v.wf ∧ κ v := by
  unfold binPT at hx
  cases hn : isNilV y with
  | false => rw [hn] at hx; exact binP0_sound ok s hx
  | true =>
    rw [hn] at hx
    simp only [cond_true] at hx
    split at hx
    · obtain ⟨b, hg, hr, hk, e1, _⟩ := eqPT_sound (xo := xo) ok s .eql hx
      refine ⟨.bool b, ?_, wf_bool _, hk⟩
      rw [e1]
      simp [hg, hr, V.val]
    · obtain ⟨b, hg, hr, hk, _, e2⟩ := eqPT_sound (xo := xo) ok s .neq hx
      refine ⟨.bool !b, ?_, wf_bool _, hk⟩
      rw [e2]
      simp [hg, hr, V.val]
    · exact hx.elim

end
end Go.Lift
