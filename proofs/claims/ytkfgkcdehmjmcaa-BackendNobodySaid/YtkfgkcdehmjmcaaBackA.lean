/- How the laws of the backend begin: two guests, a disk, rings and blocks. -/
import Derived.Test.YtkfgkcdehmjmcaaFramesA
set_option linter.unusedSimpArgs false
set_option linter.unusedVariables false
set_option maxRecDepth 100000
namespace Go.Back
open Go.Lift Go.Fn Go.Mem Go.Frames

def A3 (fb tm wm : Nat) (F : FS) (bt : List Nat) (ct : Nat) (bw : List Nat) (cw : Nat) : List (Nat × HO) :=
  [(fb, .cells (F.cells tm wm) false), (tm, .map (.int .i64) (ikeys .i64 F.t) bt ct), (wm, .map (.int .i64) (ikeys .i64 F.w) bw cw)]

structure A3ok (F : FS) (bt : List Nat) (ct : Nat) (bw : List Nat) (cw : Nat) : Prop where
  t : bt.Nodup ∧ (∀ b, b ∈ bt → b < ct) ∧ bt.length = F.t.length
  w : bw.Nodup ∧ (∀ b, b ∈ bw → b < cw) ∧ bw.length = F.w.length
  own : F.own.length = 17
  quo : F.quo.length = 17

theorem rep_at {h0 h : Heap} {W : Nat → Prop} {L : List (Nat × HO)} {fb tm wm : Nat} {F : FS} {bt : List Nat} {ct : Nat} {bw : List Nat} {cw : Nat} {i j k : Nat} (S : St h0 W L h) (ok : A3ok F bt ct bw cw)
    (hi : L[i]? = some (fb, .cells (F.cells tm wm) false)) (hj : L[j]? = some (tm, .map (.int .i64) (ikeys .i64 F.t) bt ct)) (hk : L[k]? = some (wm, .map (.int .i64) (ikeys .i64 F.w) bw cw)) (hjk : j ≠ k) : Rep fb tm wm F h :=
  ⟨S.obj hi, ⟨bt, ct, S.obj hj, ok.t⟩, ⟨bw, cw, S.obj hk, ok.w⟩, S.ne hj hk hjk, ok.own, ok.quo⟩

theorem three_st {h0 h h' : Heap} {W : Nat → Prop} {fb tm wm : Nat} {F F' : FS} {bt : List Nat} {ct : Nat} {bw : List Nat} {cw : Nat} {B : List (Nat × HO)}
    (S : St h0 W (A3 fb tm wm F bt ct bw cw ++ B) h) (R : Rep fb tm wm F' h') (k : Keeps (three fb tm wm) h h') : ∃ bt' ct' bw' cw', St h0 W (A3 fb tm wm F' bt' ct' bw' cw' ++ B) h' ∧ A3ok F' bt' ct' bw' cw' := by
  obtain ⟨bt', ct', h1, o1⟩ := R.t
  obtain ⟨bw', cw', h2, o2⟩ := R.w
  refine ⟨bt', ct', bw', cw', ?_, o1, o2, R.own, R.quo⟩
  refine St.frame (A := A3 fb tm wm F bt ct bw cw) ⟨?_, ?_, ?_, ?_⟩ S
  · simp only [A3, List.map_cons, List.map_nil, List.nodup_cons, List.mem_cons, List.not_mem_nil, or_false, not_or, List.nodup_nil, and_true, not_false_eq_true]
    exact ⟨⟨fun e => R.ft e.symm, fun e => R.fw e.symm⟩, R.ne⟩
  · intro b x hb
    simp only [A3, List.mem_cons, List.not_mem_nil, or_false, Prod.mk.injEq] at hb
    rcases hb with ⟨rfl, rfl⟩ | ⟨rfl, rfl⟩ | ⟨rfl, rfl⟩
    · exact R.cell
    · exact h1
    · exact h2
  · intro b x hb
    refine .inr ?_
    simp only [A3, List.mem_cons, List.not_mem_nil, or_false, Prod.mk.injEq] at hb
    rcases hb with ⟨rfl, rfl⟩ | ⟨rfl, rfl⟩ | ⟨rfl, rfl⟩
    · exact ⟨_, List.Mem.head _⟩
    · exact ⟨_, .tail _ (List.Mem.head _)⟩
    · exact ⟨_, .tail _ (.tail _ (List.Mem.head _))⟩
  · refine k.mono (fun x hx => ?_)
    rcases hx with rfl | rfl | rfl
    · exact ⟨_, List.Mem.head _⟩
    · exact ⟨_, .tail _ (List.Mem.head _)⟩
    · exact ⟨_, .tail _ (.tail _ (List.Mem.head _))⟩

/-- New blocks of frames beside the others. -/
theorem new_three {h0 h h' : Heap} {W : Nat → Prop} {fb tm wm : Nat} {F : FS} {B : List (Nat × HO)}
    (S : St h0 W B h) (R : Rep fb tm wm F h') (k : Keeps none_ h h') (h1 : h.obj fb = none) (h2 : h.obj tm = none) (h3 : h.obj wm = none) : ∃ bt ct bw cw, St h0 W (A3 fb tm wm F bt ct bw cw ++ B) h' ∧ A3ok F bt ct bw cw := by
  obtain ⟨bt', ct', g1, o1⟩ := R.t
  obtain ⟨bw', cw', g2, o2⟩ := R.w
  have S1 := S.keep k
  have f1 := S.fresh (x := .cells [] false) h1
  have f2 := S.fresh (x := .cells [] false) h2
  have f3 := S.fresh (x := .cells [] false) h3
  have n1 : h0.obj fb = none := fresh_of S.keeps h1
  have n2 : h0.obj tm = none := fresh_of S.keeps h2
  have n3 : h0.obj wm = none := fresh_of S.keeps h3
  have S2 := S1.add g2 (.inl n3) f3
  have S3 := S2.add g1 (.inl n2) (by simp only [List.map_cons, List.mem_cons, not_or]; exact ⟨R.ne, f2⟩)
  have S4 := S3.add R.cell (.inl n1) (by simp only [List.map_cons, List.mem_cons, not_or]; exact ⟨fun e => R.ft e.symm, fun e => R.fw e.symm, f1⟩)
  exact ⟨bt', ct', bw', cw', S4, o1, o2, R.own, R.quo⟩

def wfill : Nat → List (Int × V)
  | 0 => []
  | c + 1 => iput ((4 + c : Nat) : Int) (.int .i64 ((1 + c / 16 : Nat) : Int)) (wfill c)

theorem ifind_wfill {x : Int} : ∀ c : Nat, ifind x (wfill c) = if 4 ≤ x ∧ x < 4 + c then some (.int .i64 ((1 + (x.toNat - 4) / 16 : Nat) : Int)) else none
  | 0 => by rw [if_neg (by omega)]; rfl
  | c + 1 => by
    unfold wfill
    rw [ifind_iput, ifind_wfill c]
    by_cases e : x = ((4 + c : Nat) : Int)
    · subst e
      rw [if_pos rfl, if_pos (by omega), show (((4 + c : Nat) : Int)).toNat - 4 = c by omega]
    · rw [if_neg e]
      by_cases e2 : 4 ≤ x ∧ x < 4 + (c : Int)
      · rw [if_pos e2, if_pos (by omega)]
      · rw [if_neg e2, if_neg (by omega)]

def Fc (c : Nat) : FS := ⟨40, 4, if c = 0 then 4 else ((3 + c : Nat) : Int), 4 :: ((min c 16 : Nat) : Int) :: ((c - 16 : Nat) : Int) :: List.replicate 14 0, List.replicate 17 40, tfill (4 + c), wfill c⟩

theorem fc_step {c o : Nat} (hc : c < 32) (ho : o = 1 + c / 16) : ({ Fc c with low := ((4 + c : Nat) : Int), own := (Fc c).own.set o ((Fc c).own.getD o 0 + 1), t := iput ((4 + c : Nat) : Int) (.int .i64 1) (Fc c).t, w := iput ((4 + c : Nat) : Int) (.int .i64 (o : Int)) (Fc c).w } : FS) = Fc (c + 1) := by
  subst ho
  have e1 : (Fc c).own.set (1 + c / 16) ((Fc c).own.getD (1 + c / 16) 0 + 1) = (Fc (c + 1)).own := by
    by_cases h : c < 16
    · have : c / 16 = 0 := by omega
      rw [this]
      simp only [Fc, List.set, List.getD, List.getElem?_cons_succ, List.getElem?_cons_zero, Option.getD_some]
      rw [show min c 16 = c by omega, show min (c + 1) 16 = c + 1 by omega, show c - 16 = 0 by omega, show c + 1 - 16 = 0 by omega]
      rfl
    · have : c / 16 = 1 := by omega
      rw [this]
      simp only [Fc, List.set, List.getD, List.getElem?_cons_succ, List.getElem?_cons_zero, Option.getD_some]
      rw [show min c 16 = 16 by omega, show min (c + 1) 16 = 16 by omega, show c + 1 - 16 = c - 16 + 1 by omega]
      rfl
  have e2 : ((4 + c : Nat) : Int) = if c + 1 = 0 then 4 else ((3 + (c + 1) : Nat) : Int) := by rw [if_neg (by omega)]; omega
  rw [e1]
  simp only [Fc]
  rw [← e2]
  rfl

theorem fc_get {c o : Nat} (hc : c < 32) (ho : o = 1 + c / 16) : 0 ≤ (Fc c).own.getD o 0 ∧ (Fc c).own.getD o 0 < 16 := by
  subst ho
  by_cases h : c < 16
  · have : c / 16 = 0 := by omega
    rw [this]
    simp only [Fc, List.getD, List.getElem?_cons_succ, List.getElem?_cons_zero, Option.getD_some]
    omega
  · have : c / 16 = 1 := by omega
    rw [this]
    simp only [Fc, List.getD, List.getElem?_cons_succ, List.getElem?_cons_zero, Option.getD_some]
    omega

section
variable {h : Heap}

theorem inner {i : Nat} (hi : i < 2) {fb tm wm : Nat} {bt : List Nat} {ct : Nat} {bw : List Nat} {cw : Nat} {B : List (Nat × HO)} {g : Heap} {I8 : Option Ptr → Option Ptr → Option Ptr → Ptr → Int → Heap → Prop} {a1 a3 : Option Ptr} {a4 : Ptr} {a5 : Int}
    (S : St h none_ (A3 fb tm wm (Fc (16 * i)) bt ct bw cw ++ B) g) (ok : A3ok (Fc (16 * i)) bt ct bw cw) {Q : Option Ptr → Heap → Prop}
    (hq : ∀ I12 bt ct bw cw g', St h none_ (A3 fb tm wm (Fc (16 * i + 16)) bt ct bw cw ++ B) g' → A3ok (Fc (16 * i + 16)) bt ct bw cw → palisadelaw24_begin.b12 I8 I12 a1 (some ⟨fb, 0⟩) a3 a4 a5 16 Q g') (ea : a5 = (i : Int)) :
    palisadelaw24_begin.j12 I8 a1 (some ⟨fb, 0⟩) a3 a4 a5 0 Q g := by
  subst ea
  unfold palisadelaw24_begin.j12
  intro I HI
  have key : ∀ (j k : Nat) (bt : List Nat) (ct : Nat) (bw : List Nat) (cw : Nat) (g : Heap), k + j = 16 → St h none_ (A3 fb tm wm (Fc (16 * i + k)) bt ct bw cw ++ B) g → A3ok (Fc (16 * i + k)) bt ct bw cw → I a1 (some ⟨fb, 0⟩) a3 a4 (i : Int) (k : Int) g := by
    intro j
    induction j with
    | zero =>
      intro k bt ct bw cw g hk S ok
      obtain rfl : k = 16 := by omega
      exact HI _ _ _ _ _ _ _ (hq _ _ _ _ _ g S ok)
    | succ j ih =>
      intro k bt ct bw cw g hk S ok
      have R : Rep fb tm wm (Fc (16 * i + k)) g := rep_at (i := 0) (j := 1) (k := 2) S ok rfl rfl rfl (by decide)
      refine HI _ _ _ _ _ _ _ ?_
      unfold palisadelaw24_begin.b12
      have ho : 1 + i = 1 + (16 * i + k) / 16 := by omega
      obtain ⟨h1, h2⟩ := fc_get (c := 16 * i + k) (by omega) ho
      have eq40 : (Fc (16 * i + k)).quo.getD (1 + i) 0 = 40 := by
        have : 1 + i = 1 ∨ 1 + i = 2 := by omega
        rcases this with e | e <;> rw [e] <;> rfl
      have elow : (Fc (16 * i + k)).low = if 16 * i + k = 0 then 4 else ((3 + (16 * i + k) : Nat) : Int) := rfl
      refine br_t (decide_eq_true (by omega)) (Alloc_of R (o := 1 + i) (by omega) (d := ((4 + (16 * i + k) : Nat) : Int)) ?_ ?_ (by show (40 : Int) ≤ 65536; decide) h1 (by rw [eq40]; omega) (by rw [eq40]; omega) ?_ ?_ ?_ (fun g1 R1 k1 => ?_) (by rw [wrap64]; omega))
      · rw [elow]; split <;> omega
      · rw [elow]; show _ ∧ _ < (40 : Int); split <;> omega
      · intro x hx1 hx2
        refine ⟨1, ?_, by decide⟩
        show ifind x (tfill (4 + (16 * i + k))) = _
        rw [elow] at hx1
        rw [ifind_tfill, if_pos (by split at hx1 <;> omega)]
      · show ifind _ (tfill (4 + (16 * i + k))) = _
        rw [ifind_tfill, if_neg (by omega)]
      · show ifind _ (wfill (16 * i + k)) = _
        rw [ifind_wfill, if_neg (by omega)]
      · rw [fc_step (c := 16 * i + k) (o := 1 + i) (by omega) ho] at R1
        obtain ⟨bt', ct', bw', cw', S1, ok1⟩ := three_st S R1 k1
        have e0 : IntKind.i64.wrap (IntKind.i64.wrap (4 + IntKind.i64.wrap (16 * (i : Int))) + (k : Int)) = ((4 + (16 * i + k) : Nat) : Int) := by
          rw [wrap64 (x := 16 * (i : Int)), wrap64 (x := 4 + 16 * (i : Int)), wrap64] <;> omega
        rw [e0]
        refine br_f (by simp) (br_f rfl ?_)
        rw [wrap64]
        have := ih (k + 1) bt' ct' bw' cw' g1 (by omega) S1 ok1
        simpa using this
  exact key 16 0 bt ct bw cw g rfl S ok

end
end Go.Back
