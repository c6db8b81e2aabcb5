import Derived.Test.YtlnigofbpnehlaaHeapKit
set_option linter.unusedSimpArgs false
set_option linter.unusedVariables false
set_option maxRecDepth 100000
namespace Go.Vintc
open Go.Lift
structure Intc where
  n : Int
  sources_pending : Nat → Bool
  sources_taken : Nat → Int
  sources_priority : Nat → Int
  sources_enabled : Nat → Nat → Bool
  bars : Nat → Int
  soft : Nat → Bool

structure Intc.Rep (p : Ptr) (s : Intc) (h : Heap) : Prop where
  n : h.getW p.b (p.o + 0) = some (.int .i64 (s.n))
  sources_pending : ∀ i, i < 17 → h.getW p.b (p.o + 1 + i * 7 + 0) = some (.bool (s.sources_pending i))
  sources_taken : ∀ i, i < 17 → h.getW p.b (p.o + 1 + i * 7 + 1) = some (.int .i64 (s.sources_taken i))
  sources_priority : ∀ i, i < 17 → h.getW p.b (p.o + 1 + i * 7 + 2) = some (.int .i64 (s.sources_priority i))
  sources_enabled : ∀ i, i < 17 → ∀ j, j < 4 → h.getW p.b (p.o + 1 + i * 7 + 3 + j * 1) = some (.bool (s.sources_enabled i j))
  bars : ∀ i, i < 4 → h.getW p.b (p.o + 120 + i * 1) = some (.int .i64 (s.bars i))
  soft : ∀ i, i < 4 → h.getW p.b (p.o + 124 + i * 1) = some (.bool (s.soft i))
  all : ∀ o, o < 128 → ∃ v, h.getW p.b (p.o + o) = some v

section
variable {p : Ptr} {s : Intc} {h h' : Heap}

theorem Intc.Rep.stay (R : Intc.Rep p s h) (e : h'.obj p.b = h.obj p.b) : Intc.Rep p s h' where
  n := (Heap.getW_obj e _).trans (R.n )
  sources_pending := fun i hi => (Heap.getW_obj e _).trans (R.sources_pending i hi)
  sources_taken := fun i hi => (Heap.getW_obj e _).trans (R.sources_taken i hi)
  sources_priority := fun i hi => (Heap.getW_obj e _).trans (R.sources_priority i hi)
  sources_enabled := fun i hi j hj => (Heap.getW_obj e _).trans (R.sources_enabled i hi j hj)
  bars := fun i hi => (Heap.getW_obj e _).trans (R.bars i hi)
  soft := fun i hi => (Heap.getW_obj e _).trans (R.soft i hi)
  all := fun o ho => by rw [Heap.getW_obj e]; exact R.all o ho

theorem Intc.Rep.known (R : Intc.Rep p s h) : h.obj p.b ≠ none := by
  obtain ⟨v, hv⟩ := R.all 0 (by omega)
  exact Heap.obj_of_W hv

theorem Intc.Rep.keeps {S : Nat → Prop} (R : Intc.Rep p s h) (k : Keeps S h h') (hs : ¬ S p.b) : Intc.Rep p s h' := R.stay (k.same _ R.known hs)

theorem Intc.Rep.rd_n (R : Intc.Rep p s h)  {κ : Int → Prop} (hk : κ (s.n)) : rdI .i64 (p.add 0) κ h := rdI_of (Heap.get_of_W (R.n )) hk
theorem Intc.Rep.wr_n (R : Intc.Rep p s h)  {v : Int} {κ : Heap → Prop} (hk : ∀ h', Intc.Rep p { s with n := v } h' → Keeps (· = p.b) h h' → κ h') : wr (p.add 0) (.int .i64 v) κ h := by
  have hg := R.n 
  refine wr_of hg (hk _ ?_ (Keeps.set hg))
  constructor
  · skip
    exact (Heap.getW_set hg _ _).trans (if_pos ⟨rfl, rfl⟩)
  · intro i' hi'
    exact (Heap.getW_set hg _ _).trans ((if_neg (by rintro ⟨_, e2⟩; omega)).trans (R.sources_pending i' hi'))
  · intro i' hi'
    exact (Heap.getW_set hg _ _).trans ((if_neg (by rintro ⟨_, e2⟩; omega)).trans (R.sources_taken i' hi'))
  · intro i' hi'
    exact (Heap.getW_set hg _ _).trans ((if_neg (by rintro ⟨_, e2⟩; omega)).trans (R.sources_priority i' hi'))
  · intro i' hi' j' hj'
    exact (Heap.getW_set hg _ _).trans ((if_neg (by rintro ⟨_, e2⟩; omega)).trans (R.sources_enabled i' hi' j' hj'))
  · intro i' hi'
    exact (Heap.getW_set hg _ _).trans ((if_neg (by rintro ⟨_, e2⟩; omega)).trans (R.bars i' hi'))
  · intro i' hi'
    exact (Heap.getW_set hg _ _).trans ((if_neg (by rintro ⟨_, e2⟩; omega)).trans (R.soft i' hi'))
  · intro o ho
    by_cases e : p.o + o = (p.add 0).o
    · exact ⟨_, (Heap.getW_set hg _ _).trans (if_pos ⟨rfl, e⟩)⟩
    · obtain ⟨u, hu⟩ := R.all o ho
      exact ⟨u, ((Heap.getW_set hg _ _).trans (if_neg (fun x => e x.2))).trans hu⟩

theorem Intc.Rep.rd_sources_pending (R : Intc.Rep p s h) {i : Nat} (hi : i < 17) {κ : Bool → Prop} (hk : κ (s.sources_pending i)) : rdB (((p.add 1).add (i * 7)).add 0) κ h := rdB_of (Heap.get_of_W (R.sources_pending i hi)) hk
theorem Intc.Rep.wr_sources_pending (R : Intc.Rep p s h) {i : Nat} (hi : i < 17) {v : Bool} {κ : Heap → Prop} (hk : ∀ h', Intc.Rep p { s with sources_pending := fun i' => if i' = i then v else s.sources_pending i' } h' → Keeps (· = p.b) h h' → κ h') : wr (((p.add 1).add (i * 7)).add 0) (.bool v) κ h := by
  have hg := R.sources_pending i hi
  refine wr_of hg (hk _ ?_ (Keeps.set hg))
  constructor
  · skip
    exact (Heap.getW_set hg _ _).trans ((if_neg (by rintro ⟨_, e2⟩; omega)).trans (R.n ))
  · intro i' hi'
    refine (Heap.getW_set hg _ _).trans ?_
    by_cases e : i' = i
    · obtain rfl := e
      rw [if_pos ⟨rfl, rfl⟩]; simp
    · rw [if_neg (by rintro ⟨_, e2⟩; omega)]
      simp only [if_neg e]; exact R.sources_pending i' hi'
  · intro i' hi'
    exact (Heap.getW_set hg _ _).trans ((if_neg (by rintro ⟨_, e2⟩; omega)).trans (R.sources_taken i' hi'))
  · intro i' hi'
    exact (Heap.getW_set hg _ _).trans ((if_neg (by rintro ⟨_, e2⟩; omega)).trans (R.sources_priority i' hi'))
  · intro i' hi' j' hj'
    exact (Heap.getW_set hg _ _).trans ((if_neg (by rintro ⟨_, e2⟩; omega)).trans (R.sources_enabled i' hi' j' hj'))
  · intro i' hi'
    exact (Heap.getW_set hg _ _).trans ((if_neg (by rintro ⟨_, e2⟩; omega)).trans (R.bars i' hi'))
  · intro i' hi'
    exact (Heap.getW_set hg _ _).trans ((if_neg (by rintro ⟨_, e2⟩; omega)).trans (R.soft i' hi'))
  · intro o ho
    by_cases e : p.o + o = (((p.add 1).add (i * 7)).add 0).o
    · exact ⟨_, (Heap.getW_set hg _ _).trans (if_pos ⟨rfl, e⟩)⟩
    · obtain ⟨u, hu⟩ := R.all o ho
      exact ⟨u, ((Heap.getW_set hg _ _).trans (if_neg (fun x => e x.2))).trans hu⟩

theorem Intc.Rep.rd_sources_taken (R : Intc.Rep p s h) {i : Nat} (hi : i < 17) {κ : Int → Prop} (hk : κ (s.sources_taken i)) : rdI .i64 (((p.add 1).add (i * 7)).add 1) κ h := rdI_of (Heap.get_of_W (R.sources_taken i hi)) hk
theorem Intc.Rep.wr_sources_taken (R : Intc.Rep p s h) {i : Nat} (hi : i < 17) {v : Int} {κ : Heap → Prop} (hk : ∀ h', Intc.Rep p { s with sources_taken := fun i' => if i' = i then v else s.sources_taken i' } h' → Keeps (· = p.b) h h' → κ h') : wr (((p.add 1).add (i * 7)).add 1) (.int .i64 v) κ h := by
  have hg := R.sources_taken i hi
  refine wr_of hg (hk _ ?_ (Keeps.set hg))
  constructor
  · skip
    exact (Heap.getW_set hg _ _).trans ((if_neg (by rintro ⟨_, e2⟩; omega)).trans (R.n ))
  · intro i' hi'
    exact (Heap.getW_set hg _ _).trans ((if_neg (by rintro ⟨_, e2⟩; omega)).trans (R.sources_pending i' hi'))
  · intro i' hi'
    refine (Heap.getW_set hg _ _).trans ?_
    by_cases e : i' = i
    · obtain rfl := e
      rw [if_pos ⟨rfl, rfl⟩]; simp
    · rw [if_neg (by rintro ⟨_, e2⟩; omega)]
      simp only [if_neg e]; exact R.sources_taken i' hi'
  · intro i' hi'
    exact (Heap.getW_set hg _ _).trans ((if_neg (by rintro ⟨_, e2⟩; omega)).trans (R.sources_priority i' hi'))
  · intro i' hi' j' hj'
    exact (Heap.getW_set hg _ _).trans ((if_neg (by rintro ⟨_, e2⟩; omega)).trans (R.sources_enabled i' hi' j' hj'))
  · intro i' hi'
    exact (Heap.getW_set hg _ _).trans ((if_neg (by rintro ⟨_, e2⟩; omega)).trans (R.bars i' hi'))
  · intro i' hi'
    exact (Heap.getW_set hg _ _).trans ((if_neg (by rintro ⟨_, e2⟩; omega)).trans (R.soft i' hi'))
  · intro o ho
    by_cases e : p.o + o = (((p.add 1).add (i * 7)).add 1).o
    · exact ⟨_, (Heap.getW_set hg _ _).trans (if_pos ⟨rfl, e⟩)⟩
    · obtain ⟨u, hu⟩ := R.all o ho
      exact ⟨u, ((Heap.getW_set hg _ _).trans (if_neg (fun x => e x.2))).trans hu⟩

theorem Intc.Rep.rd_sources_priority (R : Intc.Rep p s h) {i : Nat} (hi : i < 17) {κ : Int → Prop} (hk : κ (s.sources_priority i)) : rdI .i64 (((p.add 1).add (i * 7)).add 2) κ h := rdI_of (Heap.get_of_W (R.sources_priority i hi)) hk
theorem Intc.Rep.wr_sources_priority (R : Intc.Rep p s h) {i : Nat} (hi : i < 17) {v : Int} {κ : Heap → Prop} (hk : ∀ h', Intc.Rep p { s with sources_priority := fun i' => if i' = i then v else s.sources_priority i' } h' → Keeps (· = p.b) h h' → κ h') : wr (((p.add 1).add (i * 7)).add 2) (.int .i64 v) κ h := by
  have hg := R.sources_priority i hi
  refine wr_of hg (hk _ ?_ (Keeps.set hg))
  constructor
  · skip
    exact (Heap.getW_set hg _ _).trans ((if_neg (by rintro ⟨_, e2⟩; omega)).trans (R.n ))
  · intro i' hi'
    exact (Heap.getW_set hg _ _).trans ((if_neg (by rintro ⟨_, e2⟩; omega)).trans (R.sources_pending i' hi'))
  · intro i' hi'
    exact (Heap.getW_set hg _ _).trans ((if_neg (by rintro ⟨_, e2⟩; omega)).trans (R.sources_taken i' hi'))
  · intro i' hi'
    refine (Heap.getW_set hg _ _).trans ?_
    by_cases e : i' = i
    · obtain rfl := e
      rw [if_pos ⟨rfl, rfl⟩]; simp
    · rw [if_neg (by rintro ⟨_, e2⟩; omega)]
      simp only [if_neg e]; exact R.sources_priority i' hi'
  · intro i' hi' j' hj'
    exact (Heap.getW_set hg _ _).trans ((if_neg (by rintro ⟨_, e2⟩; omega)).trans (R.sources_enabled i' hi' j' hj'))
  · intro i' hi'
    exact (Heap.getW_set hg _ _).trans ((if_neg (by rintro ⟨_, e2⟩; omega)).trans (R.bars i' hi'))
  · intro i' hi'
    exact (Heap.getW_set hg _ _).trans ((if_neg (by rintro ⟨_, e2⟩; omega)).trans (R.soft i' hi'))
  · intro o ho
    by_cases e : p.o + o = (((p.add 1).add (i * 7)).add 2).o
    · exact ⟨_, (Heap.getW_set hg _ _).trans (if_pos ⟨rfl, e⟩)⟩
    · obtain ⟨u, hu⟩ := R.all o ho
      exact ⟨u, ((Heap.getW_set hg _ _).trans (if_neg (fun x => e x.2))).trans hu⟩

theorem Intc.Rep.rd_sources_enabled (R : Intc.Rep p s h) {i : Nat} (hi : i < 17) {j : Nat} (hj : j < 4) {κ : Bool → Prop} (hk : κ (s.sources_enabled i j)) : rdB ((((p.add 1).add (i * 7)).add 3).add (j * 1)) κ h := rdB_of (Heap.get_of_W (R.sources_enabled i hi j hj)) hk
theorem Intc.Rep.wr_sources_enabled (R : Intc.Rep p s h) {i : Nat} (hi : i < 17) {j : Nat} (hj : j < 4) {v : Bool} {κ : Heap → Prop} (hk : ∀ h', Intc.Rep p { s with sources_enabled := fun i' j' => if i' = i ∧ j' = j then v else s.sources_enabled i' j' } h' → Keeps (· = p.b) h h' → κ h') : wr ((((p.add 1).add (i * 7)).add 3).add (j * 1)) (.bool v) κ h := by
  have hg := R.sources_enabled i hi j hj
  refine wr_of hg (hk _ ?_ (Keeps.set hg))
  constructor
  · skip
    exact (Heap.getW_set hg _ _).trans ((if_neg (by rintro ⟨_, e2⟩; omega)).trans (R.n ))
  · intro i' hi'
    exact (Heap.getW_set hg _ _).trans ((if_neg (by rintro ⟨_, e2⟩; omega)).trans (R.sources_pending i' hi'))
  · intro i' hi'
    exact (Heap.getW_set hg _ _).trans ((if_neg (by rintro ⟨_, e2⟩; omega)).trans (R.sources_taken i' hi'))
  · intro i' hi'
    exact (Heap.getW_set hg _ _).trans ((if_neg (by rintro ⟨_, e2⟩; omega)).trans (R.sources_priority i' hi'))
  · intro i' hi' j' hj'
    refine (Heap.getW_set hg _ _).trans ?_
    by_cases e : i' = i ∧ j' = j
    · obtain ⟨rfl, rfl⟩ := e
      rw [if_pos ⟨rfl, rfl⟩]; simp
    · rw [if_neg (by rintro ⟨_, e2⟩; omega)]
      simp only [if_neg e]; exact R.sources_enabled i' hi' j' hj'
  · intro i' hi'
    exact (Heap.getW_set hg _ _).trans ((if_neg (by rintro ⟨_, e2⟩; omega)).trans (R.bars i' hi'))
  · intro i' hi'
    exact (Heap.getW_set hg _ _).trans ((if_neg (by rintro ⟨_, e2⟩; omega)).trans (R.soft i' hi'))
  · intro o ho
    by_cases e : p.o + o = ((((p.add 1).add (i * 7)).add 3).add (j * 1)).o
    · exact ⟨_, (Heap.getW_set hg _ _).trans (if_pos ⟨rfl, e⟩)⟩
    · obtain ⟨u, hu⟩ := R.all o ho
      exact ⟨u, ((Heap.getW_set hg _ _).trans (if_neg (fun x => e x.2))).trans hu⟩

theorem Intc.Rep.rd_bars (R : Intc.Rep p s h) {i : Nat} (hi : i < 4) {κ : Int → Prop} (hk : κ (s.bars i)) : rdI .i64 ((p.add 120).add (i * 1)) κ h := rdI_of (Heap.get_of_W (R.bars i hi)) hk
theorem Intc.Rep.wr_bars (R : Intc.Rep p s h) {i : Nat} (hi : i < 4) {v : Int} {κ : Heap → Prop} (hk : ∀ h', Intc.Rep p { s with bars := fun i' => if i' = i then v else s.bars i' } h' → Keeps (· = p.b) h h' → κ h') : wr ((p.add 120).add (i * 1)) (.int .i64 v) κ h := by
  have hg := R.bars i hi
  refine wr_of hg (hk _ ?_ (Keeps.set hg))
  constructor
  · skip
    exact (Heap.getW_set hg _ _).trans ((if_neg (by rintro ⟨_, e2⟩; omega)).trans (R.n ))
  · intro i' hi'
    exact (Heap.getW_set hg _ _).trans ((if_neg (by rintro ⟨_, e2⟩; omega)).trans (R.sources_pending i' hi'))
  · intro i' hi'
    exact (Heap.getW_set hg _ _).trans ((if_neg (by rintro ⟨_, e2⟩; omega)).trans (R.sources_taken i' hi'))
  · intro i' hi'
    exact (Heap.getW_set hg _ _).trans ((if_neg (by rintro ⟨_, e2⟩; omega)).trans (R.sources_priority i' hi'))
  · intro i' hi' j' hj'
    exact (Heap.getW_set hg _ _).trans ((if_neg (by rintro ⟨_, e2⟩; omega)).trans (R.sources_enabled i' hi' j' hj'))
  · intro i' hi'
    refine (Heap.getW_set hg _ _).trans ?_
    by_cases e : i' = i
    · obtain rfl := e
      rw [if_pos ⟨rfl, rfl⟩]; simp
    · rw [if_neg (by rintro ⟨_, e2⟩; omega)]
      simp only [if_neg e]; exact R.bars i' hi'
  · intro i' hi'
    exact (Heap.getW_set hg _ _).trans ((if_neg (by rintro ⟨_, e2⟩; omega)).trans (R.soft i' hi'))
  · intro o ho
    by_cases e : p.o + o = ((p.add 120).add (i * 1)).o
    · exact ⟨_, (Heap.getW_set hg _ _).trans (if_pos ⟨rfl, e⟩)⟩
    · obtain ⟨u, hu⟩ := R.all o ho
      exact ⟨u, ((Heap.getW_set hg _ _).trans (if_neg (fun x => e x.2))).trans hu⟩

theorem Intc.Rep.rd_soft (R : Intc.Rep p s h) {i : Nat} (hi : i < 4) {κ : Bool → Prop} (hk : κ (s.soft i)) : rdB ((p.add 124).add (i * 1)) κ h := rdB_of (Heap.get_of_W (R.soft i hi)) hk
theorem Intc.Rep.wr_soft (R : Intc.Rep p s h) {i : Nat} (hi : i < 4) {v : Bool} {κ : Heap → Prop} (hk : ∀ h', Intc.Rep p { s with soft := fun i' => if i' = i then v else s.soft i' } h' → Keeps (· = p.b) h h' → κ h') : wr ((p.add 124).add (i * 1)) (.bool v) κ h := by
  have hg := R.soft i hi
  refine wr_of hg (hk _ ?_ (Keeps.set hg))
  constructor
  · skip
    exact (Heap.getW_set hg _ _).trans ((if_neg (by rintro ⟨_, e2⟩; omega)).trans (R.n ))
  · intro i' hi'
    exact (Heap.getW_set hg _ _).trans ((if_neg (by rintro ⟨_, e2⟩; omega)).trans (R.sources_pending i' hi'))
  · intro i' hi'
    exact (Heap.getW_set hg _ _).trans ((if_neg (by rintro ⟨_, e2⟩; omega)).trans (R.sources_taken i' hi'))
  · intro i' hi'
    exact (Heap.getW_set hg _ _).trans ((if_neg (by rintro ⟨_, e2⟩; omega)).trans (R.sources_priority i' hi'))
  · intro i' hi' j' hj'
    exact (Heap.getW_set hg _ _).trans ((if_neg (by rintro ⟨_, e2⟩; omega)).trans (R.sources_enabled i' hi' j' hj'))
  · intro i' hi'
    exact (Heap.getW_set hg _ _).trans ((if_neg (by rintro ⟨_, e2⟩; omega)).trans (R.bars i' hi'))
  · intro i' hi'
    refine (Heap.getW_set hg _ _).trans ?_
    by_cases e : i' = i
    · obtain rfl := e
      rw [if_pos ⟨rfl, rfl⟩]; simp
    · rw [if_neg (by rintro ⟨_, e2⟩; omega)]
      simp only [if_neg e]; exact R.soft i' hi'
  · intro o ho
    by_cases e : p.o + o = ((p.add 124).add (i * 1)).o
    · exact ⟨_, (Heap.getW_set hg _ _).trans (if_pos ⟨rfl, e⟩)⟩
    · obtain ⟨u, hu⟩ := R.all o ho
      exact ⟨u, ((Heap.getW_set hg _ _).trans (if_neg (fun x => e x.2))).trans hu⟩

theorem Intc.Rep.congr {s' : Intc} (R : Intc.Rep p s h) (h0 : s'.n = s.n) (h1 : ∀ i, i < 17 → s'.sources_pending i = s.sources_pending i) (h2 : ∀ i, i < 17 → s'.sources_taken i = s.sources_taken i) (h3 : ∀ i, i < 17 → s'.sources_priority i = s.sources_priority i) (h4 : ∀ i, i < 17 → ∀ j, j < 4 → s'.sources_enabled i j = s.sources_enabled i j) (h5 : ∀ i, i < 4 → s'.bars i = s.bars i) (h6 : ∀ i, i < 4 → s'.soft i = s.soft i) : Intc.Rep p s' h where
  n := by rw [h0]; exact R.n
  sources_pending := fun i hi => by rw [h1 i hi]; exact R.sources_pending i hi
  sources_taken := fun i hi => by rw [h2 i hi]; exact R.sources_taken i hi
  sources_priority := fun i hi => by rw [h3 i hi]; exact R.sources_priority i hi
  sources_enabled := fun i hi j hj => by rw [h4 i hi j hj]; exact R.sources_enabled i hi j hj
  bars := fun i hi => by rw [h5 i hi]; exact R.bars i hi
  soft := fun i hi => by rw [h6 i hi]; exact R.soft i hi
  all := R.all

end

def Intc.ofL (l : List V) : Intc where
  n := intAt l (0 + 0)
  sources_pending := fun i => boolAt l (0 + 1 + i * 7 + 0)
  sources_taken := fun i => intAt l (0 + 1 + i * 7 + 1)
  sources_priority := fun i => intAt l (0 + 1 + i * 7 + 2)
  sources_enabled := fun i j => boolAt l (0 + 1 + i * 7 + 3 + j * 1)
  bars := fun i => intAt l (0 + 120 + i * 1)
  soft := fun i => boolAt l (0 + 124 + i * 1)

def Intc.fits (l : List V) : Bool :=
  Nat.beq l.length 128 && isI .i64 (l[0 + 0]?) && (List.range 17).all (fun i => isB (l[0 + 1 + i * 7 + 0]?)) && (List.range 17).all (fun i => isI .i64 (l[0 + 1 + i * 7 + 1]?)) && (List.range 17).all (fun i => isI .i64 (l[0 + 1 + i * 7 + 2]?)) && (List.range 17).all (fun i => (List.range 4).all (fun j => isB (l[0 + 1 + i * 7 + 3 + j * 1]?))) && (List.range 4).all (fun i => isI .i64 (l[0 + 120 + i * 1]?)) && (List.range 4).all (fun i => isB (l[0 + 124 + i * 1]?))

theorem Intc.Rep.ofL {b : Nat} {h : Heap} {l : List V} (e : h.obj b = some (.cells l false)) (hl : Intc.fits l = true) : Intc.Rep ⟨b, 0⟩ (Intc.ofL l) h := by
  unfold Intc.fits at hl
  simp only [Bool.and_eq_true, List.all_eq_true, List.mem_range] at hl
  obtain ⟨⟨⟨⟨⟨⟨⟨hlen, h0⟩, h1⟩, h2⟩, h3⟩, h4⟩, h5⟩, h6⟩ := hl
  constructor
  · skip
    rw [getW_cells e]; simp only []; exact at_isI (h0 )
  · intro i hi
    rw [getW_cells e]; simp only []; exact at_isB (h1 i hi)
  · intro i hi
    rw [getW_cells e]; simp only []; exact at_isI (h2 i hi)
  · intro i hi
    rw [getW_cells e]; simp only []; exact at_isI (h3 i hi)
  · intro i hi j hj
    rw [getW_cells e]; simp only []; exact at_isB (h4 i hi j hj)
  · intro i hi
    rw [getW_cells e]; simp only []; exact at_isI (h5 i hi)
  · intro i hi
    rw [getW_cells e]; simp only []; exact at_isB (h6 i hi)
  · intro o ho
    rw [getW_cells e, Nat.zero_add]
    exact ⟨_, List.getElem?_eq_getElem (by have := Nat.eq_of_beq_eq_true hlen; omega)⟩

end Go.Vintc
