/- The operations of the interpreter are the machine's: equality, conversions, and the operation as a whole. -/
import Derived.Test.YtpebofbnkfpakaaDoorLiftE
import Derived.Laws.StructEq
namespace Go.Lift
open Go.RowKit

section
variable {σ : Seat} {W0 : World} {h : Heap} {w : World} {E : Env} {ρ : Fr} {a : Act}

theorem eqD_run {x y : V} {t : Nat} {i : TI} (k : TIok σ.P t i) (n : Nat) {κ : Bool → Prop} (hx : eqD i.d x y κ) : ∃ b, (Op.equalIn (n + 1) t (x.val σ) (y.val σ)).run σ.P w = .ok b w ∧ κ b ∧ i.d.one = true := by
  have hd := k.d
  unfold eqD at hx
  split at hx
  · rename_i hi
    rw [hi] at hd
    split at hx
    · rename_i hk; subst hk
      exact ⟨_, run_equalIn_int w n t _ _ _ _ hd, hx, by rw [hi]; rfl⟩
    · exact hx.elim
  · rename_i hi; rw [hi] at hd
    exact ⟨_, run_equalIn_bool' w n t _ _ hd, hx, by rw [hi]; rfl⟩
  · rename_i p q hi; rw [hi] at hd
    refine ⟨_, run_equalIn_string w n t _ _ hd, ?_, by rw [hi]; rfl⟩
    rw [ba_toList, ba_toList]; exact hx
  · exact hx.elim

theorem eqFs_run (ok : EnvOK σ W0 E) (n : Nat) {xs ys : List V} : ∀ {fields : List Field} {fs : List (Nat × Nat)} {κ : List Bool → Prop}, fields.map (fun f => (f.offset, f.type)) = fs → (∀ f ∈ fields, f.name ≠ "_") → eqFs E fs xs ys κ →
    ∃ bs, (Op.eqFields (n + 1) (V.vals σ xs).toArray (V.vals σ ys).toArray fields).run σ.P w = .ok (eqL bs) w ∧ κ bs := by
  intro fields
  induction fields with
  | nil => intro fs κ hf _ hx; simp at hf; subst hf; exact ⟨[], rfl, hx⟩
  | cons f fields ih =>
    intro fs κ hf hn hx
    simp at hf; subst hf
    obtain ⟨i, k, hx⟩ := withTI_ok ok hx
    split at hx
    · rename_i x y hxo hyo
      obtain ⟨b, hr, hx, h1⟩ := eqD_run (w := w) k n hx
      obtain ⟨bs, hr', hk⟩ := ih rfl (fun g hg => hn g (by simp [hg])) hx
      refine ⟨b :: bs, ?_, hk⟩
      have px := run_part_one (w := w) k h1 (cs := (V.vals σ xs).toArray) (off := f.offset) (v := x.val σ) (by simp [vals_map, hxo])
      have py := run_part_one (w := w) k h1 (cs := (V.vals σ ys).toArray) (off := f.offset) (v := y.val σ) (by simp [vals_map, hyo])
      have hname := hn f (by simp)
      simp only [Op.eqFields, if_pos hname, Sem.run_bind, px, py, hr, Result.andThen_ok]
      cases b
      · simp [eqL]
      · simp [eqL, hr']
    · exact hx.elim

theorem eqFs1_run (ok : EnvOK σ W0 E) (n : Nat) {xs ys : List V} : ∀ {fields : List Field} {fs : List (Nat × Nat)} {κ : List Bool → Prop}, fields.map (fun f => (f.offset, f.type)) = fs → (∀ f ∈ fields, f.name ≠ "_") → eqFs1 E fs xs ys κ →
    ∃ bs, (Op.eqFields (n + 2) (V.vals σ xs).toArray (V.vals σ ys).toArray fields).run σ.P w = .ok (eqL bs) w ∧ κ bs := by
  intro fields
  induction fields with
  | nil => intro fs κ hf _ hx; simp at hf; subst hf; exact ⟨[], rfl, hx⟩
  | cons f fields ih =>
    intro fs κ hf hn hx
    simp at hf; subst hf
    obtain ⟨i, k, hx⟩ := withTI_ok ok hx
    have hname := hn f (by simp)
    have nested : ∀ gs, i.d = .struct gs → (bif i.eq then eqFs E gs ((xs.drop f.offset).take i.size) ((ys.drop f.offset).take i.size) (fun bs => eqFs1 E (fields.map (fun f => (f.offset, f.type))) xs ys (fun c => κ (eqL bs :: c))) else False) →
        ∃ bs, (Op.eqFields (n + 2) (V.vals σ xs).toArray (V.vals σ ys).toArray (f :: fields)).run σ.P w = .ok (eqL bs) w ∧ κ bs := by
      intro gs hd hx
      cases he : i.eq with
      | false => rw [he] at hx; exact hx.elim
      | true =>
        rw [he] at hx
        have hdd := k.d
        rw [hd] at hdd
        obtain ⟨gfields, hu, hf⟩ := hdd
        obtain ⟨h1, _, h3⟩ := k.eq he
        have hfo : σ.P.fieldsOf f.type = gfields := by simp [Program.fieldsOf, hu]
        obtain ⟨b0, hr0, hx⟩ := eqFs_run (w := w) ok n hf (h3 gfields hu) hx
        obtain ⟨bs, hr', hk⟩ := ih rfl (fun g hg => hn g (by simp [hg])) hx
        refine ⟨eqL b0 :: bs, ?_, hk⟩
        have hone : i.d.one = false := by rw [hd]; rfl
        have px : (part f.type (V.vals σ xs).toArray f.offset).run σ.P w = .ok (.agg (V.vals σ ((xs.drop f.offset).take i.size)).toArray) w := by rw [run_part_agg k hone, vals_extract]
        have py : (part f.type (V.vals σ ys).toArray f.offset).run σ.P w = .ok (.agg (V.vals σ ((ys.drop f.offset).take i.size)).toArray) w := by rw [run_part_agg k hone, vals_extract]
        have hr : (Op.equalIn (n + 2) f.type (.agg (V.vals σ ((xs.drop f.offset).take i.size)).toArray) (.agg (V.vals σ ((ys.drop f.offset).take i.size)).toArray)).run σ.P w = .ok (eqL b0) w := by
          rw [run_equalIn_struct w (n + 1) f.type _ _ (by rw [hfo]; exact hu) h1, hfo]
          exact hr0
        simp only [Op.eqFields, if_pos hname, Sem.run_bind, px, py, hr, Result.andThen_ok]
        cases hb : eqL b0
        · simp [eqL]
        · simp [eqL, hr']
    have flat : (match xs[f.offset]?, ys[f.offset]? with
        | some x, some y => eqD i.d x y (fun b => eqFs1 E (fields.map (fun f => (f.offset, f.type))) xs ys (fun c => κ (b :: c)))
        | _, _ => False) → ∃ bs, (Op.eqFields (n + 2) (V.vals σ xs).toArray (V.vals σ ys).toArray (f :: fields)).run σ.P w = .ok (eqL bs) w ∧ κ bs := by
      intro hx
      split at hx
      · rename_i x y hxo hyo
        obtain ⟨b, hr, hx, h1⟩ := eqD_run (w := w) k (n + 1) hx
        obtain ⟨bs, hr', hk⟩ := ih rfl (fun g hg => hn g (by simp [hg])) hx
        refine ⟨b :: bs, ?_, hk⟩
        have px := run_part_one (w := w) k h1 (cs := (V.vals σ xs).toArray) (off := f.offset) (v := x.val σ) (by simp [vals_map, hxo])
        have py := run_part_one (w := w) k h1 (cs := (V.vals σ ys).toArray) (off := f.offset) (v := y.val σ) (by simp [vals_map, hyo])
        simp only [Op.eqFields, if_pos hname, Sem.run_bind, px, py, hr, Result.andThen_ok]
        cases b
        · simp [eqL]
        · simp [eqL, hr']
      · exact hx.elim
    cases hd : i.d with
    | struct gs => rw [hd] at hx; exact nested gs hd hx
    | _ => rw [hd] at hx flat; exact flat hx

theorem run_equal_agg {t : Nat} {i : TI} {fs : List (Nat × Nat)} (ok : EnvOK σ W0 E) (k : TIok σ.P t i) (hd : i.d = .struct fs) (he : i.eq = true) {xs ys : List V} {κ : List Bool → Prop} (hx : eqFs1 E fs xs ys κ) :
    ∃ bs, (Op.equal t (.agg (V.vals σ xs).toArray) (.agg (V.vals σ ys).toArray)).run σ.P w = .ok (eqL bs) w ∧ κ bs := by
  have hdd := k.d
  rw [hd] at hdd
  obtain ⟨fields, hu, hf⟩ := hdd
  obtain ⟨h1, _, h3⟩ := k.eq he
  have hfo : σ.P.fieldsOf t = fields := by simp [Program.fieldsOf, hu]
  obtain ⟨bs, hr, hk⟩ := eqFs1_run (w := w) ok 9997 hf (h3 fields hu) hx
  refine ⟨bs, ?_, hk⟩
  unfold Op.equal Op.maxDepth
  rw [run_equalIn_struct w 9999 t _ _ (by rw [hfo]; exact hu) h1, hfo]
  exact hr

theorem eqGuard_plain {w : World} {op : BinOp} {t : Nat} {xo yo : Operand} {u v : Value} (hu : (match u with | .nilIface | .agg _ => true | _ => false) = false) : (eqGuard op t xo yo u v).run σ.P w = .ok () w := by
  unfold eqGuard
  cases op <;> first | rfl | skip
  all_goals cases u <;> first | rfl | cases hu

theorem eqGuard_nil {op : BinOp} {t : Nat} {xo yo : Operand} (hc : isConstO yo = true) : (eqGuard op t xo yo .nilIface .nilIface).run σ.P w = .ok () w := by
  unfold eqGuard
  cases op <;> first | rfl | skip
  all_goals (cases yo <;> first | cases hc | skip)
  all_goals simp

theorem eqGuard_agg {op : BinOp} {t : Nat} {xo yo : Operand} {u v : Array Value} (hc : σ.P.eqGuardType σ.P.depth t = false) : (eqGuard op t xo yo (.agg u) (.agg v)).run σ.P w = .ok () w := by
  unfold eqGuard
  cases op <;> first | rfl | skip
  all_goals simp [hc]

theorem eqIn_ptr_nn {t e : Nat} (n : Nat) (hu : σ.P.underlying t = some (.pointer e)) (b : Option Addr) : (Op.equalIn (n + 1) t (.pointer none) (.pointer b)).run σ.P w = .ok b.isNone w := by
  simp only [Op.equalIn, Sem.run_bind, run_under hu, Result.andThen_ok, Sem.run_pure]

theorem eqIn_ptr_sn {t e : Nat} (n : Nat) (hu : σ.P.underlying t = some (.pointer e)) (b : Addr) : (Op.equalIn (n + 1) t (.pointer (some b)) (.pointer none)).run σ.P w = .ok false w := by
  simp only [Op.equalIn, Sem.run_bind, run_under hu, Result.andThen_ok, Sem.run_pure]

theorem eqIn_ptr_ss {t e : Nat} (n : Nat) (hu : σ.P.underlying t = some (.pointer e)) {m : Nat} (hm : (sizeOf e).run σ.P w = .ok m w) (h0 : m ≠ 0) (a b : Addr) : (Op.equalIn (n + 1) t (.pointer (some a)) (.pointer (some b))).run σ.P w = (sameAddr a b).run σ.P w := by
  simp only [Op.equalIn, Sem.run_bind, run_under hu, Result.andThen_ok, hm]
  rw [if_pos h0]

theorem eqIn_slice {t e : Nat} (n : Nat) (hu : σ.P.underlying t = some (.slice e)) (a : Option Addr) (l c l' c' : Nat) : (Op.equalIn (n + 1) t (.slice a l c) (.slice none l' c')).run σ.P w = .ok a.isNone w := by
  cases a <;> simp only [Op.equalIn, Sem.run_bind, run_under hu, Result.andThen_ok, Sem.run_pure] <;> rfl

theorem eqIn_map {t e e' : Nat} (n : Nat) (hu : σ.P.underlying t = some (.map e e')) (a : Option Nat) : (Op.equalIn (n + 1) t (.map a) (.map none)).run σ.P w = .ok a.isNone w := by
  cases a <;> simp only [Op.equalIn, Sem.run_bind, run_under hu, Result.andThen_ok, Sem.run_pure] <;> rfl

theorem eqIn_nilif {t : Nat} {ms} (n : Nat) (hu : σ.P.underlying t = some (.interface ms)) : (Op.equalIn (n + 1) t .nilIface .nilIface).run σ.P w = .ok true w := by
  simp only [Op.equalIn, Sem.run_bind, run_under hu, Result.andThen_ok, Sem.run_pure]

theorem eqIn_iface {t : Nat} {ms} (n : Nat) (hu : σ.P.underlying t = some (.interface ms)) (t' : Nat) (u : Value) : (Op.equalIn (n + 1) t (.iface t' u) .nilIface).run σ.P w = .ok false w := by
  simp only [Op.equalIn, Sem.run_bind, run_under hu, Result.andThen_ok, Sem.run_pure]

theorem eqIn_nilfn {t : Nat} {x y z} (n : Nat) (hu : σ.P.underlying t = some (.func x y z)) : (Op.equalIn (n + 1) t .nilFunc .nilFunc).run σ.P w = .ok true w := by
  simp only [Op.equalIn, Sem.run_bind, run_under hu, Result.andThen_ok, Sem.run_pure]

theorem eqIn_fn {t : Nat} {x y z} (n : Nat) (hu : σ.P.underlying t = some (.func x y z)) (f : Fn) (u v : Array Value) : (Op.equalIn (n + 1) t (.func f u v) .nilFunc).run σ.P w = .ok false w := by
  simp only [Op.equalIn, Sem.run_bind, run_under hu, Result.andThen_ok, Sem.run_pure]

theorem run_equal_ptr {t e : Nat} {i j : TI} (k : TIok σ.P t i) (hd : i.d = .ptr e) (kj : TIok σ.P e j) (hz : Nat.beq j.size 0 = false) (s : Sim σ W0 h w) {q q' : Option Ptr} {κ : Bool → Prop} (hx : eqP q q' κ h) :
    ∃ b, (Op.equal t (.pointer (q.map Ptr.addr)) (.pointer (q'.map Ptr.addr))).run σ.P w = .ok b w ∧ κ b := by
  have hu := k.d
  rw [hd] at hu
  have hu : σ.P.underlying t = some (.pointer e) := hu
  have hz' : j.size ≠ 0 := by intro h0; rw [h0] at hz; cases hz
  unfold eqP at hx
  unfold Op.equal Op.maxDepth
  cases q' with
  | none =>
    cases q with
    | none => exact ⟨true, eqIn_ptr_nn 9999 hu _, hx⟩
    | some p => exact ⟨false, eqIn_ptr_sn 9999 hu _, hx⟩
  | some p' =>
    obtain ⟨hp, hp', hx⟩ := hx
    cases q with
    | none => exact ⟨false, eqIn_ptr_nn 9999 hu _, hx⟩
    | some p => exact ⟨p == p', (eqIn_ptr_ss 9999 hu (kj.size w) hz' _ _).trans (run_sameAddr s hp hp'), by simpa using hx⟩

/-- '==' between values that are no numbers and no strings. -/
theorem eqPT_sound (ok : EnvOK σ W0 E) (s : Sim σ W0 h w) {t : Nat} {x y : V} {xo yo : Operand} {κ : Bool → Prop} (op : BinOp) (hx : eqPT E t x y (isConstO yo) κ h) :
    ∃ b, (eqGuard op t xo yo (x.val σ) (y.val σ)).run σ.P w = .ok () w ∧ (Op.equal t (x.val σ) (y.val σ)).run σ.P w = .ok b w ∧ κ b ∧
      binOp .eql t (x.val σ) (y.val σ) = (do pure (.bool (← Op.equal t (x.val σ) (y.val σ)))) ∧ binOp .neq t (x.val σ) (y.val σ) = (do pure (.bool (!(← Op.equal t (x.val σ) (y.val σ))))) := by
  obtain ⟨i, k, hx⟩ := withTI_ok ok hx
  have hd := k.d
  split at hx
  · rename_i e hi
    obtain ⟨j, kj, hx⟩ := withTI_ok ok hx
    split at hx
    · rename_i q q'
      cases hz : Nat.beq j.size 0 with
      | true => rw [hz] at hx; exact hx.elim
      | false =>
        rw [hz] at hx
        obtain ⟨b, hr, hk⟩ := run_equal_ptr k hi kj hz s hx
        exact ⟨b, eqGuard_plain rfl, hr, hk, rfl, rfl⟩
    · exact hx.elim
  · rename_i hi
    rw [hi] at hd
    obtain ⟨ms, hu⟩ := hd
    split at hx
    · cases hc : isConstO yo with
      | false => rw [hc] at hx; exact hx.elim
      | true =>
        rw [hc] at hx
        rcases isNil_sound hx with ⟨rfl, hk⟩ | ⟨⟨t', u, rfl⟩, hk⟩
        · exact ⟨true, eqGuard_nil hc, eqIn_nilif 9999 hu, hk, rfl, rfl⟩
        · exact ⟨false, eqGuard_plain rfl, eqIn_iface 9999 hu _ _, hk, rfl, rfl⟩
    · exact hx.elim
  · rename_i hi
    rw [hi] at hd
    obtain ⟨a1, a2, a3, hu⟩ := hd
    split at hx
    · rcases isNilF_sound hx with ⟨rfl, hk⟩ | ⟨⟨f, c, rfl⟩, hk⟩
      · exact ⟨true, eqGuard_plain rfl, eqIn_nilfn 9999 hu, hk, rfl, rfl⟩
      · exact ⟨false, eqGuard_plain rfl, eqIn_fn 9999 hu _ _ _, hk, rfl, rfl⟩
    · exact hx.elim
  · rename_i e hi
    rw [hi] at hd
    have hu : σ.P.underlying t = some (.slice e) := hd
    split at hx
    · exact ⟨_, eqGuard_plain rfl, eqIn_slice 9999 hu _ _ _ _ _, by simpa using hx, rfl, rfl⟩
    · exact hx.elim
  · rename_i k1 e1 hi
    rw [hi] at hd
    have hu : σ.P.underlying t = some (.map k1 e1) := hd
    split at hx
    · exact ⟨_, eqGuard_plain rfl, eqIn_map 9999 hu _, hx, rfl, rfl⟩
    · exact hx.elim
  · rename_i hi
    have hx' := hx
    obtain ⟨b, hr, hk, _⟩ := eqD_run (w := w) k 9999 hx
    rw [hi] at hx'
    have sh : ∃ p q, x = .bool p ∧ y = .bool q := by
      cases x <;> first | exact hx'.elim | skip
      cases y <;> first | exact hx'.elim | exact ⟨_, _, rfl, rfl⟩
    obtain ⟨p, q, rfl, rfl⟩ := sh
    exact ⟨b, eqGuard_plain rfl, hr, hk, rfl, rfl⟩
  · rename_i fs hi
    split at hx
    · rename_i xs ys
      cases he : i.eq with
      | false => rw [he] at hx; exact hx.elim
      | true =>
        rw [he] at hx
        obtain ⟨bs, hr, hk⟩ := run_equal_agg (w := w) ok k hi he hx
        exact ⟨_, eqGuard_agg (k.eq he).2.1, hr, hk, rfl, rfl⟩
    · exact hx.elim
  · exact hx.elim

theorem binP0_sound (ok : EnvOK σ W0 E) (s : Sim σ W0 h w) {op : BinOp} {t : Nat} {x y : V} {xo yo : Operand} {κ : V → Prop} (hx : binP0 E op t x y (isConstO yo) κ h) :
    ∃ v, (do eqGuard op t xo yo (x.val σ) (y.val σ); binOp op t (x.val σ) (y.val σ) : Sem Value).run σ.P w = .ok (V.val σ v) w ∧ v.wf ∧ κ v := by
  unfold binP0 at hx
  split at hx
  · rename_i k m k' n
    obtain ⟨h0, hk⟩ := hx
    refine ⟨_, ?_, wf_int _ _, hk⟩
    have : ¬ n < 0 := by omega
    simp [eqGuard, V.val, binOp, Op.shift, this, shlI]
  · rename_i k m k' n
    obtain ⟨h0, hk⟩ := hx
    refine ⟨_, ?_, wf_int _ _, hk⟩
    have : ¬ n < 0 := by omega
    simp [eqGuard, V.val, binOp, Op.shift, this, shrI]
  · split at hx
    · rename_i hk; subst hk
      obtain ⟨v, hr, hw, hk⟩ := binI_sound (σ := σ) (t := t) hx
      exact ⟨v, by simp [V.val, eqGuard_plain, hr], hw, hk⟩
    · exact hx.elim
  · obtain ⟨v, hr, hw, hk⟩ := binS_sound (σ := σ) (t := t) hx
    refine ⟨v, ?_, hw, hk⟩
    simp only [V.val] at hr ⊢
    simp [eqGuard_plain, hr]
  · obtain ⟨b, hg, hr, hk, e1, _⟩ := eqPT_sound (xo := xo) ok s .eql hx
    refine ⟨.bool b, ?_, wf_bool _, hk⟩
    rw [e1]
    simp [hg, hr, V.val]
  · obtain ⟨b, hg, hr, hk, _, e2⟩ := eqPT_sound (xo := xo) ok s .neq hx
    refine ⟨.bool !b, ?_, wf_bool _, hk⟩
    rw [e2]
    simp [hg, hr, V.val]
  · exact hx.elim

theorem binPT_sound (ok : EnvOK σ W0 E) (s : Sim σ W0 h w) {op : BinOp} {t : Nat} {x y : V} {xo yo : Operand} {κ : V → Prop} (hx : binPT E op t x y (isConstO yo) κ h) :
    ∃ v, (do eqGuard op t xo yo (x.val σ) (y.val σ); binOp op t (x.val σ) (y.val σ) : Sem Value).run σ.P w = .ok (V.val σ v) w ∧ v.wf ∧ κ v := by
  unfold binPT at hx
  cases hn : isNilV y with
  | false => rw [hn] at hx; exact binP0_sound ok s hx
  | true =>
    rw [hn] at hx
    simp only [cond_true] at hx
    split at hx
    · obtain ⟨b, hg, hr, hk, e1, _⟩ := eqPT_sound (xo := xo) ok s .eql hx
      refine ⟨.bool b, ?_, wf_bool _, hk⟩
      rw [e1]
      simp [hg, hr, V.val]
    · obtain ⟨b, hg, hr, hk, _, e2⟩ := eqPT_sound (xo := xo) ok s .neq hx
      refine ⟨.bool !b, ?_, wf_bool _, hk⟩
      rw [e2]
      simp [hg, hr, V.val]
    · exact hx.elim

end
end Go.Lift
