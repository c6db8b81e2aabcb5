import Derived.Test.YtgfnnjnmomifjaaDoorGwR
import Derived.Test.YtgfnnjnmomifjaaDoorLiftO
set_option linter.unusedSimpArgs false
set_option linter.unusedVariables false
set_option maxRecDepth 100000

/- A map's entry goes, by the list of blocks. -/
namespace Go.Back
open Go.Lift Go.Fn Go.Mem Go.Frames

theorem mapDel_st {h0 h : Heap} {W : Nat → Prop} {L : List (Nat × HO)} {i b c : Nat} {ks : Sh} {es : List (V × V)} {bs : List Nat} {k : V} {κ : Heap → Prop} (S : St h0 W L h) (hi : L[i]? = some (b, .map ks es bs c)) (hk : ∀ h', St h0 W (L.set i (b, .map ks (mdel k es) (bdel k es bs) c)) h' → κ h') : mapDel ks (some b) k κ h :=
  ⟨es, bs, c, S.obj hi, hk _ (S.put hi (by simp [Heap.setO]) (Keeps.setO (S.obj hi)))⟩

theorem mfind1 {a : Int} {v : V} : mfind (.int .i64 a) [(.int .i64 a, v)] = some v := by simp [mfind, keq]
theorem mdel1 {a : Int} {v : V} : mdel (.int .i64 a) [(.int .i64 a, v)] = [] := by simp [mdel, keq]
theorem bdel1 {a : Int} {v : V} {n : Nat} : bdel (.int .i64 a) [(.int .i64 a, v)] [n] = [] := by simp [bdel, keq]

end Go.Back

/- A request's state is told, and the request given back. -/
namespace Go.Back
open Go.Lift Go.Fn Go.Mem Go.Frames

section
variable {U U' : Ifc} {x : Nat → Int} {h0 h : Heap} {W : Nat → Prop} {L : List (Nat × HO)}

theorem gput {gb pm bm g p b base k : Nat} {bs xs : List UInt8} {mk : Bool} {m : Nat → Int} {s : Sl} (S : St h0 W L h)
    (hg : L[g]? = some (gb, .cells (flatC pm (base : Int)) false)) (hp : L[p]? = some (pm, .cells (memC bm) false)) (hm : L[b]? = some (bm, .cells (strCells bs) mk)) (hpb : p ≠ b) (M : MemIs bs base m) (hb : base + 16 ≤ 40) (H : Held h s 1 (strCells xs)) (hk : k + xs.length ≤ 4096) {a : Int} (ea : a = (k : Int))
    {Q : Int → Heap → Prop} (hq : ∀ bs' m' mk' h', MemIs bs' base m' → (∀ j, j < 512 → 8 * j + 8 ≤ k ∨ k + xs.length ≤ 8 * j → m' j = m j) → St h0 W (L.set b (bm, .cells (strCells bs') mk')) h' → Q 0 h') : palisadelaw24_Flat_Put (some ⟨gb, 0⟩) a s Q h := by
  subst ea
  have e16 : IntKind.u64.wrap (IntKind.i64.wrap (256 * 16)) = 4096 := by decide
  have hs : s.len = xs.length := by have := H.len; rw [strCells_length] at this; omega
  unfold palisadelaw24_Flat_Put
  rw [der_some]
  refine S.rI hg rfl (br_f (decide_eq_false (by rw [e16]; omega)) ?_)
  rw [der_some]
  refine S.rI hg rfl (br_f (decide_eq_false (by rw [e16, wrapu64 (x := ((s.len : Nat) : Int)), wrapu64] <;> omega)) ?_)
  rw [der_some]
  refine S.rP hg rfl ?_
  rw [der_some]
  refine S.rI hg rfl ?_
  have e : IntKind.u64.wrap ((k : Int) + IntKind.u64.wrap (IntKind.i64.wrap (256 * (base : Int)))) = ((256 * base + k : Nat) : Int) := by
    rw [wrap64 (x := 256 * (base : Int)), wrapu64 (x := 256 * (base : Int)), wrapu64] <;> omega
  rw [e]
  have hl := M.len
  refine Mem.Put_of (mrep S hp hm hpb M.len) (by omega) (by omega) H (by omega) (fun hn => ?_) (fun _ h1 R1 k1 => ?_)
  · exfalso
    rw [hl] at hn
    simp [lies] at hn
    omega
  · rw [Int.toNat_natCast] at R1
    obtain ⟨m', M', hm'⟩ := M.other (xs := xs) (a := 256 * base + k) (by omega)
    obtain ⟨mk', harr⟩ := R1.arr
    exact hq _ m' mk' h1 M' (fun j hj hd => hm' j hj (by omega)) (S.put hm harr k1)

theorem tell_of (hu : GU U U') {cb gb pm bm base c : Nat} {bs : List UInt8} {mk mk' : Bool} {rest : List V} {m : Nat → Int} {page st : Int} {kb : Bool} (M : MemIs bs base m) (hb : base + 16 ≤ 40) (hst : 0 ≤ st ∧ st ≤ 255)
    (S : St h0 W [(cb, .cells (partsC 1024 16 (256 * page) 256 kb 1100 1 ++ rest) mk'), (gb, .cells (flatC pm (base : Int)) false), (pm, .cells (memC bm) false), (bm, .cells (strCells bs) mk)] h)
    {Q : Int → Heap → Prop} (hq : ∀ bs' m' mk2 h', MemIs bs' base m' → (∀ j, j < 512 → j ≠ 137 → m' j = m j) → St h0 W [(cb, .cells (partsC 1024 16 (256 * page) 256 kb 1100 1 ++ rest) mk'), (gb, .cells (flatC pm (base : Int)) false), (pm, .cells (memC bm) false), (bm, .cells (strCells bs') mk2)] h' → Q 1 h') :
    backend_tell U (.iface 4 (.ptr (some ⟨gb, 0⟩))) 0 ⟨some ⟨cb, 0⟩, 3, c⟩ st Q h := by
  unfold backend_tell
  ((with_reducible apply St.al); assumption; intro c1 g_ S_)
  repeat (first | ((with_reducible first|apply St.rI|apply St.rB|apply St.rP|apply St.rSl|apply St.rV|apply St.rM|apply St.rS|apply St.rN|apply St.ckA);assumption;(first|exact i0|exact i1|exact i2|exact i3|exact i4|exact i5|exact i6|exact i7|exact i8|exact i9|exact i10|exact i11|exact i12|exact i13|exact i14|exact i15);(first|rfl|exact Nat.le_of_ble_eq_true rfl)) | with_reducible refine der_of ?_ | ((with_reducible refine br_t ?_ ?_);rfl) | ((with_reducible refine br_f ?_ ?_);rfl) | ((with_reducible refine br_t ?_ ?_);assumption) | ((with_reducible refine br_f ?_ ?_);assumption) | ((with_reducible first|apply St.wrL|apply St.wr);assumption;(first|exact i0|exact i1|exact i2|exact i3|exact i4|exact i5|exact i6|exact i7|exact i8|exact i9|exact i10|exact i11|exact i12|exact i13|exact i14|exact i15);(first|exact Nat.le_of_ble_eq_true rfl|rfl);intro g_ S_;simp only [Ptr.add, List.set, splice, List.take, List.drop, List.nil_append, List.append_nil, List.cons_append, List.length_cons, List.length_nil, Nat.zero_add, Nat.add_zero, Nat.reduceAdd, Nat.reduceMul, Nat.mul_one, Int.toNat_zero, Int.toNat_one, Int.reduceToNat] at S_) | ((with_reducible refine ix_of ?_ ?_ ?_);exact of_decide_eq_true rfl;exact of_decide_eq_true rfl) | ((with_reducible first|refine nz_of ?_ ?_|refine nneg_of ?_ ?_);exact of_decide_eq_true rfl) | ((with_reducible refine chk_of ?_ ?_);rfl) | (with_reducible first|apply asI_of|apply asB_of|apply asP_of|apply asSl_of|apply asAggV_of|apply asTupV_of|apply asCons_of|apply asNil_of|apply isNil_n|apply isNil_i|apply nilC_i|apply nilCU_i|apply nilCU_f|apply mthC_i) | ((with_reducible refine And.intro ?_ ?_);rfl) | ((with_reducible apply exAnd);rfl))
  ((with_reducible apply St.al); assumption; intro c2 g_ S_)
  repeat (first | ((with_reducible first|apply St.rI|apply St.rB|apply St.rP|apply St.rSl|apply St.rV|apply St.rM|apply St.rS|apply St.rN|apply St.ckA);assumption;(first|exact i0|exact i1|exact i2|exact i3|exact i4|exact i5|exact i6|exact i7|exact i8|exact i9|exact i10|exact i11|exact i12|exact i13|exact i14|exact i15);(first|rfl|exact Nat.le_of_ble_eq_true rfl)) | with_reducible refine der_of ?_ | ((with_reducible refine br_t ?_ ?_);rfl) | ((with_reducible refine br_f ?_ ?_);rfl) | ((with_reducible refine br_t ?_ ?_);assumption) | ((with_reducible refine br_f ?_ ?_);assumption) | ((with_reducible first|apply St.wrL|apply St.wr);assumption;(first|exact i0|exact i1|exact i2|exact i3|exact i4|exact i5|exact i6|exact i7|exact i8|exact i9|exact i10|exact i11|exact i12|exact i13|exact i14|exact i15);(first|exact Nat.le_of_ble_eq_true rfl|rfl);intro g_ S_;simp only [Ptr.add, List.set, splice, List.take, List.drop, List.nil_append, List.append_nil, List.cons_append, List.length_cons, List.length_nil, Nat.zero_add, Nat.add_zero, Nat.reduceAdd, Nat.reduceMul, Nat.mul_one, Int.toNat_zero, Int.toNat_one, Int.reduceToNat] at S_) | ((with_reducible refine ix_of ?_ ?_ ?_);exact of_decide_eq_true rfl;exact of_decide_eq_true rfl) | ((with_reducible first|refine nz_of ?_ ?_|refine nneg_of ?_ ?_);exact of_decide_eq_true rfl) | ((with_reducible refine chk_of ?_ ?_);rfl) | (with_reducible first|apply asI_of|apply asB_of|apply asP_of|apply asSl_of|apply asAggV_of|apply asTupV_of|apply asCons_of|apply asNil_of|apply isNil_n|apply isNil_i|apply nilC_i|apply nilCU_i|apply nilCU_f|apply mthC_i) | ((with_reducible refine And.intro ?_ ?_);rfl) | ((with_reducible apply exAnd);rfl))
  ((with_reducible apply St.al); assumption; intro c3 g_ S_)
  have H : Held g_ ⟨some ⟨c3, 0⟩, 1, 1⟩ 1 (strCells [UInt8.ofNat st.toNat]) := by
    refine ⟨rfl, fun p hp i v hv => ?_, fun hp => by cases hp⟩
    cases hp
    rw [get_cells (S_.obj i0), Nat.zero_add, ← hv]
    have : ((UInt8.ofNat st.toNat).toNat : Int) = st := by
      have h1 : (UInt8.ofNat st.toNat).toNat = st.toNat % 256 := by simp
      rw [h1]; omega
    have e : strCells [UInt8.ofNat st.toNat] = [V.int .u8 st] := by simp only [strCells, List.map_cons, List.map_nil, this]
    rw [e]
  refine hu.put _ _ _ _ _ (gput (g := 4) (p := 5) (b := 6) (k := 1100) S_ rfl rfl rfl (by decide) M hb H (by show 1100 + 1 ≤ 4096; decide) rfl (fun bs' m' mk2 g1 M1 hm1 S1 => ?_))
  simp only [List.set] at S1
  clear S_
  repeat (first | ((with_reducible first|apply St.rI|apply St.rB|apply St.rP|apply St.rSl|apply St.rV|apply St.rM|apply St.rS|apply St.rN|apply St.ckA);assumption;(first|exact i0|exact i1|exact i2|exact i3|exact i4|exact i5|exact i6|exact i7|exact i8|exact i9|exact i10|exact i11|exact i12|exact i13|exact i14|exact i15);(first|rfl|exact Nat.le_of_ble_eq_true rfl)) | with_reducible refine der_of ?_ | ((with_reducible refine br_t ?_ ?_);rfl) | ((with_reducible refine br_f ?_ ?_);rfl) | ((with_reducible refine br_t ?_ ?_);assumption) | ((with_reducible refine br_f ?_ ?_);assumption) | ((with_reducible first|apply St.wrL|apply St.wr);assumption;(first|exact i0|exact i1|exact i2|exact i3|exact i4|exact i5|exact i6|exact i7|exact i8|exact i9|exact i10|exact i11|exact i12|exact i13|exact i14|exact i15);(first|exact Nat.le_of_ble_eq_true rfl|rfl);intro g_ S_;simp only [Ptr.add, List.set, splice, List.take, List.drop, List.nil_append, List.append_nil, List.cons_append, List.length_cons, List.length_nil, Nat.zero_add, Nat.add_zero, Nat.reduceAdd, Nat.reduceMul, Nat.mul_one, Int.toNat_zero, Int.toNat_one, Int.reduceToNat] at S_) | ((with_reducible refine ix_of ?_ ?_ ?_);exact of_decide_eq_true rfl;exact of_decide_eq_true rfl) | ((with_reducible first|refine nz_of ?_ ?_|refine nneg_of ?_ ?_);exact of_decide_eq_true rfl) | ((with_reducible refine chk_of ?_ ?_);rfl) | (with_reducible first|apply asI_of|apply asB_of|apply asP_of|apply asSl_of|apply asAggV_of|apply asTupV_of|apply asCons_of|apply asNil_of|apply isNil_n|apply isNil_i|apply nilC_i|apply nilCU_i|apply nilCU_f|apply mthC_i) | ((with_reducible refine And.intro ?_ ?_);rfl) | ((with_reducible apply exAnd);rfl))
  exact hq bs' m' mk2 _ M1 (fun j hj hne => hm1 j hj (by simp only [List.length_cons, List.length_nil]; omega)) (St.pick S1 [3, 4, 5, 6] (by decide) rfl)

end
end Go.Back

/- Several requests wait: the words for it. -/
namespace Go.Lift

theorem mem_pick {L L' : List (Nat × HO)} {is : List Nat} (hl : is.map (fun i => L[i]?) = L'.map some) {p : Nat × HO} (hp : p ∈ L') : p ∈ L := by
  have : some p ∈ L'.map some := List.mem_map.2 ⟨p, hp, rfl⟩
  rw [← hl] at this
  obtain ⟨i, _, e⟩ := List.mem_map.1 this
  exact List.mem_of_getElem? e

theorem St.perm {h0 h : Heap} {W : Nat → Prop} {L L' : List (Nat × HO)} (S : St h0 W L h) (p : L.Perm L') : St h0 W L' h :=
  ⟨(p.map _).nodup_iff.1 S.nodup, fun b x hb => S.objs b x (p.mem_iff.2 hb), fun b x hb => S.new b x (p.mem_iff.2 hb), S.keeps⟩

theorem St.pickR {h0 h : Heap} {W : Nat → Prop} {A A' R : List (Nat × HO)} (S : St h0 W (A ++ R) h) (is : List Nat) (hn : is.Nodup) (hl : is.map (fun i => A[i]?) = A'.map some) : St h0 W (A' ++ R) h := by
  have SA := (S.sub (List.sublist_append_left A R)).pick is hn hl
  refine ⟨?_, fun b x hb => ?_, fun b x hb => ?_, S.keeps⟩
  · have hnd := S.nodup
    rw [List.map_append, List.nodup_append] at hnd ⊢
    refine ⟨SA.nodup, hnd.2.1, fun a ha b hb => hnd.2.2 a ?_ b hb⟩
    obtain ⟨p, hp, rfl⟩ := List.mem_map.1 ha
    exact List.mem_map.2 ⟨p, mem_pick hl hp, rfl⟩
  · rcases List.mem_append.1 hb with h1 | h1
    · exact SA.objs b x h1
    · exact S.objs b x (List.mem_append.2 (.inr h1))
  · rcases List.mem_append.1 hb with h1 | h1
    · exact SA.new b x h1
    · exact S.new b x (List.mem_append.2 (.inr h1))

theorem iput_new {a : Int} {v : V} : ∀ l : List (Int × V), ifind a l = none → iput a v l = l ++ [(a, v)]
  | [], _ => rfl
  | (a', v') :: l, h => by
    simp only [ifind] at h
    simp only [iput]
    by_cases e : a = a'
    · rw [if_pos e] at h; cases h
    · rw [if_neg e] at h ⊢
      rw [iput_new l h]; rfl

end Go.Lift
namespace Go.Back
open Go.Lift Go.Fn Go.Mem Go.Frames

section
variable {h0 h : Heap} {L L' A A' R : List (Nat × HO)} {db : Nat} {y : Disk.Lay} {d : Disk.Dsk}

theorem BW.mono (B : BW h0 L db y d h) (S : St h0 none_ L' h) (hs : ∀ p, p ∈ L' → p ∈ L) : BW h0 L' db y d h := ⟨S, B.R, B.ok, B.pbe, fun b v hb => B.out b v (hs _ hb), B.fresh⟩
theorem BW.perm (B : BW h0 L db y d h) (p : L.Perm L') : BW h0 L' db y d h := B.mono (B.st.perm p) (fun _ hp => p.mem_iff.2 hp)
theorem BW.pickR (B : BW h0 (A ++ R) db y d h) (is : List Nat) (hn : is.Nodup) (hl : is.map (fun i => A[i]?) = A'.map some) : BW h0 (A' ++ R) db y d h :=
  B.mono (B.st.pickR is hn hl) (fun p hp => by
    rcases List.mem_append.1 hp with h1 | h1
    · exact List.mem_append.2 (.inl (mem_pick hl h1))
    · exact List.mem_append.2 (.inr h1))
theorem BW.off {z : Nat} (B : BW h0 L db y d h) (hz : h0.obj z ≠ none) : ¬ keysOf L z := fun hk => by
  obtain ⟨u, hu⟩ := hk
  rcases B.st.new _ u hu with h1 | h1
  · exact hz h1
  · exact h1
end

/-- A request that waits: its number, and where its chain lies. -/
structure Wt where
  n : Nat
  cb : Nat
  c : Nat
  rest : List V
  mt : Bool

def Wt.ent (o f : Int) (rd : Bool) (q : Wt) : Int × V := (o * 4294967296 + (q.n : Int), .agg [.int .i64 0, .sl ⟨some ⟨q.cb, 0⟩, 3, q.c⟩, .int .i64 f, .bool rd])
def Wt.blk (page : Int) (kb : Bool) (q : Wt) : Nat × HO := (q.cb, .cells (partsC 1024 16 (256 * page) 256 kb 1100 1 ++ q.rest) q.mt)
def Wt.req (o f b : Int) (wr : Bool) (q : Wt) : Disk.Req := ⟨o * 4294967296 + (q.n : Int), wr, b, f⟩

theorem ent_none {o f : Int} {rd : Bool} {k : Nat} : ∀ ws : List Wt, (∀ q, q ∈ ws → q.n < k) → ifind (o * 4294967296 + (k : Int)) (ws.map (Wt.ent o f rd)) = none
  | [], _ => rfl
  | q :: ws, h => by
    have h1 := h q (List.mem_cons_self)
    simp only [List.map_cons, Wt.ent, ifind]
    rw [if_neg (by omega)]
    exact ent_none ws (fun q hq => h q (List.mem_cons_of_mem _ hq))

/-- The requests have the numbers from g on. -/
def Row : Nat → List Wt → Prop
  | _, [] => True
  | g, q :: ws => q.n = g ∧ Row (g + 1) ws

theorem Row.lt : ∀ {g : Nat} {ws : List Wt}, Row g ws → ∀ q, q ∈ ws → q.n < g + ws.length
  | g, p :: ws, h, q, hq => by
    rcases List.mem_cons.1 hq with rfl | hq
    · have := h.1; simp only [List.length_cons]; omega
    · have := Row.lt h.2 q hq; simp only [List.length_cons]; omega

theorem Row.snoc {q : Wt} : ∀ {g : Nat} {ws : List Wt}, Row g ws → q.n = g + ws.length → Row g (ws ++ [q])
  | g, [], _, h => ⟨h, trivial⟩
  | g, p :: ws, h, hq => ⟨h.1, Row.snoc h.2 (by simp only [List.length_cons] at hq; omega)⟩

structure Ad where
  fb : Nat
  tm : Nat
  wm : Nat
  blk : Nat
  rg : Nat
  db : Nat
  wq : Nat
  gb : Nat
  pm : Nat
  bm : Nat
  base : Nat
  first : Int
  owner : Nat
  page : Int
  block : Int
  kind : Int

structure Ad.Ok (p : Ad) : Prop where
  b : p.base + 16 ≤ 40
  b4 : 4 ≤ p.base
  f : 0 ≤ p.first ∧ p.first ≤ 8
  o : p.owner = 1 ∨ p.owner = 2
  pg : 6 ≤ p.page ∧ p.page < 16
  bl : 0 ≤ p.block ∧ p.block < 4
  k : p.kind = 0 ∨ p.kind = 1

def Ad.fr (p : Ad) : Int := (p.base : Int) + p.page
def Ad.ent (p : Ad) : Wt → Int × V := Wt.ent (p.owner : Int) p.fr (!(p.kind == 1))
def Ad.cl (p : Ad) : Wt → Nat × HO := Wt.blk p.page (p.kind == 0)
def Ad.req (p : Ad) : Wt → Disk.Req := Wt.req (p.owner : Int) p.fr (p.first + p.block) (p.kind == 1)

def Ad.L (p : Ad) (F : FS) (bt : List Nat) (ct : Nat) (bw : List Nat) (cw : Nat) (asked : Int) (es : List (Int × V)) (eb : List Nat) (ec : Nat) (t g0 : Nat) (bs : List UInt8) (mk : Bool) : List (Nat × HO) :=
  [(p.fb, .cells (F.cells p.tm p.wm) false), (p.tm, .map (.int .i64) (ikeys .i64 F.t) bt ct), (p.wm, .map (.int .i64) (ikeys .i64 F.w) bw cw), (p.blk, .cells (blkC p.rg p.db p.fb p.wq p.first 4 (p.owner : Int) asked) false), (p.wq, .map (.int .i64) (ikeys .i64 es) eb ec), (p.rg, .cells (ringC ((t : Nat) : Int) ((g0 : Nat) : Int) false) false), (p.gb, .cells (flatC p.pm (p.base : Int)) false), (p.pm, .cells (memC p.bm) false), (p.bm, .cells (strCells bs) mk)]

/-- What is known of the frames: how often the page's is had. -/
structure FrOk (p : Ad) (F : FS) (v : Nat) : Prop where
  n : F.n = 40
  first : F.first = 4
  t : ifind p.fr F.t = some (.int .i64 (v : Int))
  w : ifind p.fr F.w = some (.int .i64 (p.owner : Int))

/-- The guest's block, with the requests ws that wait (ps at the disk); t were taken, g0 given back. -/
def Wld (p : Ad) (h0 : Heap) (X : List (Nat × HO)) (m : Nat → Int) (t g0 : Nat) (ws ps : List Wt) (h : Heap) : Prop :=
  ∃ F bs mk bt ct bw cw eb ec y d, MemIs bs p.base m ∧ A3ok F bt ct bw cw ∧ FrOk p F (1 + ws.length) ∧ (eb.Nodup ∧ (∀ b, b ∈ eb → b < ec) ∧ eb.length = (ws.map p.ent).length) ∧
    d.n = 12 ∧ d.pend = ps.map p.req ∧ Row g0 ws ∧ g0 + ws.length = t ∧ BW h0 (p.L F bt ct bw cw (t : Int) (ws.map p.ent) eb ec t g0 bs mk ++ (X ++ ws.map p.cl)) p.db y d h

end Go.Back

/- Chains of any parts: offered, taken, told. -/
namespace Go.Back
open Go.Lift Go.Fn Go.Mem Go.Frames

structure Pt where
  a : Int
  l : Int
  w : Bool

def Pt.cells (p : Pt) : List V := [.int .u64 p.a, .int .i64 p.l, .bool p.w]
def pcells : List Pt → List V
  | [] => []
  | p :: ps => p.cells ++ pcells ps

theorem pcells_length : ∀ ps : List Pt, (pcells ps).length = ps.length * 3
  | [] => rfl
  | p :: ps => by simp only [pcells, List.length_append, pcells_length ps, List.length_cons, Pt.cells, List.length_nil]; omega

theorem pcells_append (a b : List Pt) : pcells (a ++ b) = pcells a ++ pcells b := by
  induction a with
  | nil => rfl
  | cons p a ih => simp only [List.cons_append, pcells, ih, List.append_assoc]

theorem pcells_get : ∀ {ps : List Pt} {i : Nat} {p : Pt} {j : Nat} {r : List V}, ps[i]? = some p → j < 3 → (pcells ps ++ r)[i * 3 + j]? = p.cells[j]?
  | [], _, _, _, _, h, _ => by simp at h
  | q :: ps, 0, p, j, r, h, hj => by
    simp at h; subst h
    rw [show pcells (q :: ps) = q.cells ++ pcells ps from rfl, List.append_assoc, List.getElem?_append_left (by simp [Pt.cells]; omega), Nat.zero_mul, Nat.zero_add]
  | q :: ps, i + 1, p, j, r, h, hj => by
    simp only [List.getElem?_cons_succ] at h
    rw [show pcells (q :: ps) = q.cells ++ pcells ps from rfl, List.append_assoc, List.getElem?_append_right (by simp [Pt.cells]; omega)]
    rw [show (i + 1) * 3 + j - q.cells.length = i * 3 + j by simp [Pt.cells]; omega]
    exact pcells_get h hj

/-- Parts that may be offered: only the last one is to be written. -/
structure PtOk (p : Pt) : Prop where
  a : 0 ≤ p.a ∧ p.a ≤ 1000000
  l : 1 ≤ p.l ∧ p.l ≤ 4096

def flg (p : Pt) (more : Bool) : Int := (if p.w then 2 else 0) + (if more then 1 else 0)

theorem flg_ok (p : Pt) (more : Bool) : (0 ≤ flg p more ∧ flg p more ≤ 3) ∧ (ibits .and .u64 (flg p more) 2 != 0) = p.w ∧ (ibits .and .u64 (flg p more) 1 != 0) = more := by
  unfold flg
  cases p.w <;> cases more
  · exact ⟨by decide, rfl, rfl⟩
  · exact ⟨by decide, rfl, rfl⟩
  · exact ⟨by decide, rfl, rfl⟩
  · exact ⟨by decide, rfl, rfl⟩

/-- The descriptors of the parts up to k stand there. -/
def Desc (m : Nat → Int) (ps : List Pt) (k : Nat) : Prop :=
  ∀ i p, i < k → ps[i]? = some p → m (4 * i) = p.a ∧ m (4 * i + 1) = p.l ∧ m (4 * i + 2) = flg p (decide (i + 1 < ps.length)) ∧ m (4 * i + 3) = ((i + 1 : Nat) : Int)

theorem Desc.same {m m' : Nat → Int} {ps : List Pt} {k : Nat} (D : Desc m ps k) (h : ∀ j, j < 4 * k → m' j = m j) : Desc m' ps k := by
  intro i p hi hp
  obtain ⟨h1, h2, h3, h4⟩ := D i p hi hp
  exact ⟨(h _ (by omega)).trans h1, (h _ (by omega)).trans h2, (h _ (by omega)).trans h3, (h _ (by omega)).trans h4⟩

section
variable {U U' : Ifc} {x : Nat → Int} {h0 h : Heap} {W : Nat → Prop}

theorem offer_gen (w : Wid U h0 x) (hw : ¬ W (U.glob 1)) (hk8 : knownB x 8 = true) {pb gb pm bm base cp : Nat} {bs : List UInt8} {mk mkp : Bool} {m : Nat → Int} {ps : List Pt} {rp : List V} (M : MemIs bs base m) (hb : base + 16 ≤ 40) (hps : 1 ≤ ps.length ∧ ps.length ≤ 8) (hok : ∀ p, p ∈ ps → PtOk p)
    (S : St h0 W [(pb, .cells (pcells ps ++ rp) mkp), (gb, .cells (flatC pm (base : Int)) false), (pm, .cells (memC bm) false), (bm, .cells (strCells bs) mk)] h) {Q : Heap → Prop}
    (hq : ∀ bs' m' mk' h', MemIs bs' base m' → Desc m' ps ps.length → m' 32 = 1 → m' 33 = 0 → (∀ j, 41 ≤ j → m' j = m j) → St h0 W [(pb, .cells (pcells ps ++ rp) mkp), (gb, .cells (flatC pm (base : Int)) false), (pm, .cells (memC bm) false), (bm, .cells (strCells bs') mk')] h' → Q h') : palisadelaw24_offer U (some ⟨gb, 0⟩) 0 ⟨some ⟨pb, 0⟩, ps.length, cp⟩ Q h := by
  unfold palisadelaw24_offer palisadelaw24_offer.j1
  intro I HI
  have key : ∀ (j i : Nat) (m1 : Nat → Int) (bs : List UInt8) (mk : Bool) (h : Heap), i + j = ps.length → MemIs bs base m1 → Desc m1 ps i → (∀ j, 32 ≤ j → m1 j = m j) → St h0 W [(pb, .cells (pcells ps ++ rp) mkp), (gb, .cells (flatC pm (base : Int)) false), (pm, .cells (memC bm) false), (bm, .cells (strCells bs) mk)] h → I (some ⟨gb, 0⟩) 0 ⟨some ⟨pb, 0⟩, ps.length, cp⟩ (i : Int) h := by
    intro j
    induction j with
    | zero =>
      intro i m1 bs mk h hij M D hm S
      obtain rfl : i = ps.length := by omega
      refine HI _ _ _ _ _ ?_
      unfold palisadelaw24_offer.b1
      refine br_f (decide_eq_false (by simp)) ?_
      refine nz_of (by decide) ?_
      refine gstore (g := 1) (p := 2) (b := 3) w hw hk8 S rfl rfl rfl (by decide) M hb (k := 33) (by decide) (by decide) (by decide) (by decide) (fun bs2 mk2 g2 M S => ?_)
      simp only [List.set] at S
      refine gstore (g := 1) (p := 2) (b := 3) w hw hk8 S rfl rfl rfl (by decide) M hb (k := 32) (by decide) (by decide) (by decide) (by decide) (fun bs3 mk3 g3 M S => ?_)
      simp only [List.set] at S
      refine hq bs3 _ mk3 _ M (D.same (fun j hj => ?_)) (by unfold upd; rw [if_pos rfl]; decide) (by unfold upd; rw [if_neg (by decide), if_pos rfl]) (fun j hj => ?_) S
      · unfold upd; rw [if_neg (by omega), if_neg (by omega)]
      · unfold upd; rw [if_neg (by omega), if_neg (by omega)]; exact hm j (by omega)
    | succ j ih =>
      intro i m1 bs mk h hij M D hm S
      have hi : i < ps.length := by omega
      have hp : ps[i]? = some ps[i] := List.getElem?_eq_getElem hi
      generalize ps[i] = p at hp
      have pok := hok p (List.mem_of_getElem? hp)
      obtain ⟨pa, pl⟩ := pok
      have c0 : (pcells ps ++ rp)[0 + i * 3 + 0]? = some (.int .u64 p.a) := by rw [Nat.zero_add]; exact (pcells_get hp (by decide)).trans rfl
      have c1 : (pcells ps ++ rp)[0 + i * 3 + 1]? = some (.int .i64 p.l) := by rw [Nat.zero_add]; exact (pcells_get hp (by decide)).trans rfl
      have c2 : (pcells ps ++ rp)[0 + i * 3 + 2]? = some (.bool p.w) := by rw [Nat.zero_add]; exact (pcells_get hp (by decide)).trans rfl
      refine HI _ _ _ _ _ ?_
      unfold palisadelaw24_offer.b1
      refine br_t (decide_eq_true (by show (i : Int) < (ps.length : Int); omega)) (br_t (decide_eq_true (by omega)) (ix_of (by omega) (by show (i : Int) < (ps.length : Int); omega) ?_))
      rw [der_some, Int.toNat_natCast]
      refine S.rB i0 c2 ?_
      have e32 : IntKind.u64.wrap (32 * IntKind.u64.wrap (i : Int)) = ((8 * (4 * i) : Nat) : Int) := by rw [wrapu64 (x := (i : Int)), wrapu64] <;> omega
      have a8 : IntKind.u64.wrap (((8 * (4 * i) : Nat) : Int) + 8) = ((8 * (4 * i + 1) : Nat) : Int) := by rw [wrapu64] <;> omega
      have a16 : IntKind.u64.wrap (((8 * (4 * i) : Nat) : Int) + 16) = ((8 * (4 * i + 2) : Nat) : Int) := by rw [wrapu64] <;> omega
      have a24 : IntKind.u64.wrap (((8 * (4 * i) : Nat) : Int) + 24) = ((8 * (4 * i + 3) : Nat) : Int) := by rw [wrapu64] <;> omega
      have en : IntKind.u64.wrap (IntKind.i64.wrap ((i : Int) + 1)) = ((i + 1 : Nat) : Int) := by rw [wrap64 (x := (i : Int) + 1), wrapu64] <;> omega
      have en2 : IntKind.i64.wrap ((i : Int) + 1) = ((i + 1 : Nat) : Int) := by rw [wrap64] <;> omega
      have el : IntKind.u64.wrap p.l = p.l := wrapu64
      have j8 : palisadelaw24_offer.j8 U I (some ⟨gb, 0⟩) 0 ⟨some ⟨pb, 0⟩, ps.length, cp⟩ (i : Int) (flg p (decide (i + 1 < ps.length))) Q h := by
        have fo := (flg_ok p (decide (i + 1 < ps.length))).1
        unfold palisadelaw24_offer.j8
        refine ix_of (by omega) (by show (i : Int) < (ps.length : Int); omega) ?_
        rw [der_some, Int.toNat_natCast]
        refine S.rI i0 c0 ?_
        rw [e32]
        refine gstore (g := 1) (p := 2) (b := 3) w hw hk8 S rfl rfl rfl (by decide) M hb (k := 4 * i) (by omega) rfl pa.1 (by omega) (fun bs2 mk2 g2 M S => ?_)
        simp only [List.set] at S
        refine ix_of (by omega) (by show (i : Int) < (ps.length : Int); omega) ?_
        rw [der_some, Int.toNat_natCast]
        refine S.rI i0 c1 ?_
        rw [el, a8]
        refine gstore (g := 1) (p := 2) (b := 3) w hw hk8 S rfl rfl rfl (by decide) M hb (k := 4 * i + 1) (by omega) rfl (by omega) (by omega) (fun bs3 mk3 g3 M S => ?_)
        simp only [List.set] at S
        rw [a16]
        refine gstore (g := 1) (p := 2) (b := 3) w hw hk8 S rfl rfl rfl (by decide) M hb (k := 4 * i + 2) (by omega) rfl fo.1 (by omega) (fun bs4 mk4 g4 M S => ?_)
        simp only [List.set] at S
        unfold palisadelaw24_offer.j12
        rw [a24, en]
        refine gstore (g := 1) (p := 2) (b := 3) w hw hk8 S rfl rfl rfl (by decide) M hb (k := 4 * i + 3) (by omega) rfl (by omega) (by omega) (fun bs5 mk5 g5 M S => ?_)
        simp only [List.set] at S
        unfold palisadelaw24_offer.j2
        rw [en2]
        refine ih (i + 1) _ bs5 mk5 g5 (by omega) M (fun i' p' hi' hp' => ?_) (fun j hj => ?_) S
        · unfold upd
          by_cases e : i' = i
          · subst e
            rw [hp] at hp'; cases hp'
            refine ⟨?_, ?_, ?_, ?_⟩
            · rw [if_neg (by omega), if_neg (by omega), if_neg (by omega), if_pos rfl]
            · rw [if_neg (by omega), if_neg (by omega), if_pos rfl]
            · rw [if_neg (by omega), if_pos rfl]
            · rw [if_pos rfl]
          · obtain ⟨h1, h2, h3, h4⟩ := D i' p' (by omega) hp'
            refine ⟨?_, ?_, ?_, ?_⟩
            · rw [if_neg (by omega), if_neg (by omega), if_neg (by omega), if_neg (by omega)]; exact h1
            · rw [if_neg (by omega), if_neg (by omega), if_neg (by omega), if_neg (by omega)]; exact h2
            · rw [if_neg (by omega), if_neg (by omega), if_neg (by omega), if_neg (by omega)]; exact h3
            · rw [if_neg (by omega), if_neg (by omega), if_neg (by omega), if_neg (by omega)]; exact h4
        · unfold upd
          rw [if_neg (by omega), if_neg (by omega), if_neg (by omega), if_neg (by omega)]
          exact hm j hj
      have j6 : ∀ f : Int, f = (if p.w then 2 else 0) → palisadelaw24_offer.j6 U I (some ⟨gb, 0⟩) 0 ⟨some ⟨pb, 0⟩, ps.length, cp⟩ (i : Int) f Q h := by
        intro f hf
        unfold palisadelaw24_offer.j6
        by_cases e : i + 1 < ps.length
        · refine br_t (decide_eq_true (by rw [en2]; show ((i + 1 : Nat) : Int) < (ps.length : Int); omega)) (br_t (decide_eq_true (by omega)) ?_)
          have : IntKind.u64.wrap (f + 1) = flg p (decide (i + 1 < ps.length)) := by
            rw [hf, decide_eq_true e]; unfold flg; cases p.w <;> decide
          rw [this]; exact j8
        · refine br_f (decide_eq_false (by rw [en2]; show ¬ ((i + 1 : Nat) : Int) < (ps.length : Int); omega)) ?_
          have : f = flg p (decide (i + 1 < ps.length)) := by
            rw [hf, decide_eq_false e]; unfold flg; cases p.w <;> decide
          rw [this]; exact j8
      cases hpw : p.w
      · exact br_f rfl (j6 0 (by rw [hpw]; rfl))
      · exact br_t rfl (j6 2 (by rw [hpw]; rfl))
  exact key ps.length 0 m bs mk h (by omega) M (fun i p hi => by omega) (fun _ _ => rfl) S

end
end Go.Back

/- A chain of any parts is taken. -/
namespace Go.Back
open Go.Lift Go.Fn Go.Mem Go.Frames

section
variable {U U' : Ifc} {x : Nat → Int} {h0 h : Heap} {W : Nat → Prop}

theorem chain_gen (hu : GU U U') (w : Wid U' h0 x) (hw : ¬ W (U'.glob 1)) (hk8 : knownB x 8 = true) {rd rg gb pm bm base : Nat} {bs : List UInt8} {mk : Bool} {m : Nat → Int} {t gv : Int} {ps : List Pt} (M : MemIs bs base m) (hb : base + 16 ≤ 40) (hps : 1 ≤ ps.length ∧ ps.length ≤ 8) (hok : ∀ p, p ∈ ps → PtOk p) (hwr : ∀ (i : Nat) p q, ps[i]? = some p → ps[i + 1]? = some q → p.w = true → q.w = true) (D : Desc m ps ps.length)
    (S : St h0 W [(rd, .cells (rdC gb) false), (rg, .cells (ringC (t : Int) gv false) false), (gb, .cells (flatC pm (base : Int)) false), (pm, .cells (memC bm) false), (bm, .cells (strCells bs) mk)] h)
    {Q : Int → Sl → Bool → Heap → Prop} (hq : ∀ cb c rest mk' h', St h0 W [(cb, .cells (pcells (ps) ++ rest) mk'), (rd, .cells (rdC gb) false), (rg, .cells (ringC (t : Int) gv false) false), (gb, .cells (flatC pm (base : Int)) false), (pm, .cells (memC bm) false), (bm, .cells (strCells bs) mk)] h' → Q 0 ⟨some ⟨cb, 0⟩, ps.length, c⟩ true h') :
    ring_Ring_chain U (some ⟨rg, 0⟩) (some ⟨rd, 0⟩) 0 Q h := by
  unfold ring_Ring_chain
  ((with_reducible apply St.al); assumption; intro c1 g_ S_)
  repeat (first | ((with_reducible first|apply St.rI|apply St.rB|apply St.rP|apply St.rSl|apply St.rV|apply St.rM|apply St.rS|apply St.rN|apply St.ckA);assumption;(first|exact i0|exact i1|exact i2|exact i3|exact i4|exact i5|exact i6|exact i7|exact i8|exact i9|exact i10|exact i11|exact i12|exact i13|exact i14|exact i15);(first|rfl|exact Nat.le_of_ble_eq_true rfl)) | with_reducible refine der_of ?_ | ((with_reducible refine br_t ?_ ?_);rfl) | ((with_reducible refine br_f ?_ ?_);rfl) | ((with_reducible refine br_t ?_ ?_);assumption) | ((with_reducible refine br_f ?_ ?_);assumption) | ((with_reducible first|apply St.wrL|apply St.wr);assumption;(first|exact i0|exact i1|exact i2|exact i3|exact i4|exact i5|exact i6|exact i7|exact i8|exact i9|exact i10|exact i11|exact i12|exact i13|exact i14|exact i15);(first|exact Nat.le_of_ble_eq_true rfl|rfl);intro g_ S_;simp only [Ptr.add, List.set, splice, List.take, List.drop, List.nil_append, List.append_nil, List.cons_append, List.length_cons, List.length_nil, Nat.zero_add, Nat.add_zero, Nat.reduceAdd, Nat.reduceMul, Nat.mul_one, Int.toNat_zero, Int.toNat_one, Int.reduceToNat] at S_) | ((with_reducible refine ix_of ?_ ?_ ?_);exact of_decide_eq_true rfl;exact of_decide_eq_true rfl) | ((with_reducible first|refine nz_of ?_ ?_|refine nneg_of ?_ ?_);exact of_decide_eq_true rfl) | ((with_reducible refine chk_of ?_ ?_);rfl) | (with_reducible first|apply asI_of|apply asB_of|apply asP_of|apply asSl_of|apply asAggV_of|apply asTupV_of|apply asCons_of|apply asNil_of|apply isNil_n|apply isNil_i|apply nilC_i|apply nilCU_i|apply nilCU_f|apply mthC_i) | ((with_reducible refine And.intro ?_ ?_);rfl) | ((with_reducible apply exAnd);rfl))
  unfold ring_Ring_chain.j3
  intro I HI
  -- the end, and the next round, behind a part that was appended
  have step : ∀ (i : Nat) (p : Pt) (cb c c1 d : Nat) (rest : List V) (mk' : Bool) (g : Heap), i < ps.length → ps[i]? = some p →
      (i + 1 < ps.length → ∀ cb c rest mk' g', St h0 W [(cb, .cells (pcells (ps.take (i + 1)) ++ rest) mk'), (c1, .cells [.int .i64 0, .sl ⟨some ⟨cb, 0⟩, i + 1, c⟩] false), (rd, .cells (rdC gb) false), (rg, .cells (ringC (t : Int) gv false) false), (gb, .cells (flatC pm (base : Int)) false), (pm, .cells (memC bm) false), (bm, .cells (strCells bs) mk)] g' → i + 1 ≤ c → rest.length = (c - (i + 1)) * 3 → I (some ⟨rg, 0⟩) (some ⟨rd, 0⟩) 0 ⟨c1, 0⟩ false ((i + 1 : Nat) : Int) 8 ((i + 1 : Nat) : Int) g') →
      St h0 W [(cb, .cells (pcells (ps.take i) ++ rest) mk'), (d, .cells p.cells false), (c1, .cells [.int .i64 0, .sl ⟨some ⟨cb, 0⟩, i, c⟩] false), (rd, .cells (rdC gb) false), (rg, .cells (ringC (t : Int) gv false) false), (gb, .cells (flatC pm (base : Int)) false), (pm, .cells (memC bm) false), (bm, .cells (strCells bs) mk)] g → 1 ≤ i → i ≤ c → rest.length = (c - i) * 3 →
      ring_Ring_chain.j10 U I (some ⟨rg, 0⟩) (some ⟨rd, 0⟩) 0 ⟨c1, 0⟩ ⟨d, 0⟩ ((i + 1 : Nat) : Int) (decide (i + 1 < ps.length)) 8 (i : Int) Q g := by
    intro i p cb c c1 d rest mk' g hi hp hnext S hi1 hc hr
    have et : ps.take i ++ [p] = ps.take (i + 1) := by rw [List.take_add_one, hp]; rfl
    have ew : IntKind.u64.wrap ((i : Int) + 1) = ((i + 1 : Nat) : Int) := by rw [wrapu64] <;> omega
    unfold Pt.cells at S
    unfold ring_Ring_chain.j10
    repeat (first | ((with_reducible first|apply St.rI|apply St.rB|apply St.rP|apply St.rSl|apply St.rV|apply St.rM|apply St.rS|apply St.rN|apply St.ckA);assumption;(first|exact i0|exact i1|exact i2|exact i3|exact i4|exact i5|exact i6|exact i7|exact i8|exact i9|exact i10|exact i11|exact i12|exact i13|exact i14|exact i15);(first|rfl|exact Nat.le_of_ble_eq_true rfl)) | with_reducible refine der_of ?_ | ((with_reducible refine br_t ?_ ?_);rfl) | ((with_reducible refine br_f ?_ ?_);rfl) | ((with_reducible refine br_t ?_ ?_);assumption) | ((with_reducible refine br_f ?_ ?_);assumption) | ((with_reducible first|apply St.wrL|apply St.wr);assumption;(first|exact i0|exact i1|exact i2|exact i3|exact i4|exact i5|exact i6|exact i7|exact i8|exact i9|exact i10|exact i11|exact i12|exact i13|exact i14|exact i15);(first|exact Nat.le_of_ble_eq_true rfl|rfl);intro g_ S_;simp only [Ptr.add, List.set, splice, List.take, List.drop, List.nil_append, List.append_nil, List.cons_append, List.length_cons, List.length_nil, Nat.zero_add, Nat.add_zero, Nat.reduceAdd, Nat.reduceMul, Nat.mul_one, Int.toNat_zero, Int.toNat_one, Int.reduceToNat] at S_) | ((with_reducible refine ix_of ?_ ?_ ?_);exact of_decide_eq_true rfl;exact of_decide_eq_true rfl) | ((with_reducible first|refine nz_of ?_ ?_|refine nneg_of ?_ ?_);exact of_decide_eq_true rfl) | ((with_reducible refine chk_of ?_ ?_);rfl) | (with_reducible first|apply asI_of|apply asB_of|apply asP_of|apply asSl_of|apply asAggV_of|apply asTupV_of|apply asCons_of|apply asNil_of|apply isNil_n|apply isNil_i|apply nilC_i|apply nilCU_i|apply nilCU_f|apply mthC_i) | ((with_reducible refine And.intro ?_ ?_);rfl) | ((with_reducible apply exAnd);rfl))
    ((with_reducible apply St.al); assumption; intro e2 g_ S_)
    repeat (first | ((with_reducible first|apply St.rI|apply St.rB|apply St.rP|apply St.rSl|apply St.rV|apply St.rM|apply St.rS|apply St.rN|apply St.ckA);assumption;(first|exact i0|exact i1|exact i2|exact i3|exact i4|exact i5|exact i6|exact i7|exact i8|exact i9|exact i10|exact i11|exact i12|exact i13|exact i14|exact i15);(first|rfl|exact Nat.le_of_ble_eq_true rfl)) | with_reducible refine der_of ?_ | ((with_reducible refine br_t ?_ ?_);rfl) | ((with_reducible refine br_f ?_ ?_);rfl) | ((with_reducible refine br_t ?_ ?_);assumption) | ((with_reducible refine br_f ?_ ?_);assumption) | ((with_reducible first|apply St.wrL|apply St.wr);assumption;(first|exact i0|exact i1|exact i2|exact i3|exact i4|exact i5|exact i6|exact i7|exact i8|exact i9|exact i10|exact i11|exact i12|exact i13|exact i14|exact i15);(first|exact Nat.le_of_ble_eq_true rfl|rfl);intro g_ S_;simp only [Ptr.add, List.set, splice, List.take, List.drop, List.nil_append, List.append_nil, List.cons_append, List.length_cons, List.length_nil, Nat.zero_add, Nat.add_zero, Nat.reduceAdd, Nat.reduceMul, Nat.mul_one, Int.toNat_zero, Int.toNat_one, Int.reduceToNat] at S_) | ((with_reducible refine ix_of ?_ ?_ ?_);exact of_decide_eq_true rfl;exact of_decide_eq_true rfl) | ((with_reducible first|refine nz_of ?_ ?_|refine nneg_of ?_ ?_);exact of_decide_eq_true rfl) | ((with_reducible refine chk_of ?_ ?_);rfl) | (with_reducible first|apply asI_of|apply asB_of|apply asP_of|apply asSl_of|apply asAggV_of|apply asTupV_of|apply asCons_of|apply asNil_of|apply isNil_n|apply isNil_i|apply nilC_i|apply nilCU_i|apply nilCU_f|apply mthC_i) | ((with_reducible refine And.intro ?_ ?_);rfl) | ((with_reducible apply exAnd);rfl))
    have S4 : St h0 W [(cb, .cells (pcells (ps.take i) ++ rest) mk'), (c1, .cells [.int .i64 0, .sl ⟨some ⟨cb, 0⟩, i, c⟩] false), (rd, .cells (rdC gb) false), (rg, .cells (ringC (t : Int) gv false) false), (gb, .cells (flatC pm (base : Int)) false), (pm, .cells (memC bm) false), (bm, .cells (strCells bs) mk)] g_ := St.pick S_ [1, 3, 4, 5, 6, 7, 8] (by decide) rfl
    clear S_ S
    refine app_own S4 (by rw [pcells_length, List.length_take]; omega) hc hr rfl rfl (by decide) (by omega) (fun cb c rest mk' g2 S2 hc hr => ?_)
    have e3 : pcells (ps.take i) ++ [V.int .u64 p.a, V.int .i64 p.l, V.bool p.w] = pcells (ps.take (i + 1)) := by
      rw [← et, pcells_append]; rfl
    simp only [List.take, List.drop] at S2
    rw [e3] at S2
    clear S4
    repeat (first | ((with_reducible first|apply St.rI|apply St.rB|apply St.rP|apply St.rSl|apply St.rV|apply St.rM|apply St.rS|apply St.rN|apply St.ckA);assumption;(first|exact i0|exact i1|exact i2|exact i3|exact i4|exact i5|exact i6|exact i7|exact i8|exact i9|exact i10|exact i11|exact i12|exact i13|exact i14|exact i15);(first|rfl|exact Nat.le_of_ble_eq_true rfl)) | with_reducible refine der_of ?_ | ((with_reducible refine br_t ?_ ?_);rfl) | ((with_reducible refine br_f ?_ ?_);rfl) | ((with_reducible refine br_t ?_ ?_);assumption) | ((with_reducible refine br_f ?_ ?_);assumption) | ((with_reducible first|apply St.wrL|apply St.wr);assumption;(first|exact i0|exact i1|exact i2|exact i3|exact i4|exact i5|exact i6|exact i7|exact i8|exact i9|exact i10|exact i11|exact i12|exact i13|exact i14|exact i15);(first|exact Nat.le_of_ble_eq_true rfl|rfl);intro g_ S_;simp only [Ptr.add, List.set, splice, List.take, List.drop, List.nil_append, List.append_nil, List.cons_append, List.length_cons, List.length_nil, Nat.zero_add, Nat.add_zero, Nat.reduceAdd, Nat.reduceMul, Nat.mul_one, Int.toNat_zero, Int.toNat_one, Int.reduceToNat] at S_) | ((with_reducible refine ix_of ?_ ?_ ?_);exact of_decide_eq_true rfl;exact of_decide_eq_true rfl) | ((with_reducible first|refine nz_of ?_ ?_|refine nneg_of ?_ ?_);exact of_decide_eq_true rfl) | ((with_reducible refine chk_of ?_ ?_);rfl) | (with_reducible first|apply asI_of|apply asB_of|apply asP_of|apply asSl_of|apply asAggV_of|apply asTupV_of|apply asCons_of|apply asNil_of|apply isNil_n|apply isNil_i|apply nilC_i|apply nilCU_i|apply nilCU_f|apply mthC_i) | ((with_reducible refine And.intro ?_ ?_);rfl) | ((with_reducible apply exAnd);rfl))
    by_cases e : i + 1 < ps.length
    · rw [decide_eq_true e]
      repeat (first | ((with_reducible first|apply St.rI|apply St.rB|apply St.rP|apply St.rSl|apply St.rV|apply St.rM|apply St.rS|apply St.rN|apply St.ckA);assumption;(first|exact i0|exact i1|exact i2|exact i3|exact i4|exact i5|exact i6|exact i7|exact i8|exact i9|exact i10|exact i11|exact i12|exact i13|exact i14|exact i15);(first|rfl|exact Nat.le_of_ble_eq_true rfl)) | with_reducible refine der_of ?_ | ((with_reducible refine br_t ?_ ?_);rfl) | ((with_reducible refine br_f ?_ ?_);rfl) | ((with_reducible refine br_t ?_ ?_);assumption) | ((with_reducible refine br_f ?_ ?_);assumption) | ((with_reducible first|apply St.wrL|apply St.wr);assumption;(first|exact i0|exact i1|exact i2|exact i3|exact i4|exact i5|exact i6|exact i7|exact i8|exact i9|exact i10|exact i11|exact i12|exact i13|exact i14|exact i15);(first|exact Nat.le_of_ble_eq_true rfl|rfl);intro g_ S_;simp only [Ptr.add, List.set, splice, List.take, List.drop, List.nil_append, List.append_nil, List.cons_append, List.length_cons, List.length_nil, Nat.zero_add, Nat.add_zero, Nat.reduceAdd, Nat.reduceMul, Nat.mul_one, Int.toNat_zero, Int.toNat_one, Int.reduceToNat] at S_) | ((with_reducible refine ix_of ?_ ?_ ?_);exact of_decide_eq_true rfl;exact of_decide_eq_true rfl) | ((with_reducible first|refine nz_of ?_ ?_|refine nneg_of ?_ ?_);exact of_decide_eq_true rfl) | ((with_reducible refine chk_of ?_ ?_);rfl) | (with_reducible first|apply asI_of|apply asB_of|apply asP_of|apply asSl_of|apply asAggV_of|apply asTupV_of|apply asCons_of|apply asNil_of|apply isNil_n|apply isNil_i|apply nilC_i|apply nilCU_i|apply nilCU_f|apply mthC_i) | ((with_reducible refine And.intro ?_ ?_);rfl) | ((with_reducible apply exAnd);rfl))
      rw [ew]
      exact hnext e cb c rest mk' _ (St.pick S_ [0, 1, 2, 3, 4, 5, 6] (by decide) rfl) hc hr
    · rw [decide_eq_false e]
      repeat (first | ((with_reducible first|apply St.rI|apply St.rB|apply St.rP|apply St.rSl|apply St.rV|apply St.rM|apply St.rS|apply St.rN|apply St.ckA);assumption;(first|exact i0|exact i1|exact i2|exact i3|exact i4|exact i5|exact i6|exact i7|exact i8|exact i9|exact i10|exact i11|exact i12|exact i13|exact i14|exact i15);(first|rfl|exact Nat.le_of_ble_eq_true rfl)) | with_reducible refine der_of ?_ | ((with_reducible refine br_t ?_ ?_);rfl) | ((with_reducible refine br_f ?_ ?_);rfl) | ((with_reducible refine br_t ?_ ?_);assumption) | ((with_reducible refine br_f ?_ ?_);assumption) | ((with_reducible first|apply St.wrL|apply St.wr);assumption;(first|exact i0|exact i1|exact i2|exact i3|exact i4|exact i5|exact i6|exact i7|exact i8|exact i9|exact i10|exact i11|exact i12|exact i13|exact i14|exact i15);(first|exact Nat.le_of_ble_eq_true rfl|rfl);intro g_ S_;simp only [Ptr.add, List.set, splice, List.take, List.drop, List.nil_append, List.append_nil, List.cons_append, List.length_cons, List.length_nil, Nat.zero_add, Nat.add_zero, Nat.reduceAdd, Nat.reduceMul, Nat.mul_one, Int.toNat_zero, Int.toNat_one, Int.reduceToNat] at S_) | ((with_reducible refine ix_of ?_ ?_ ?_);exact of_decide_eq_true rfl;exact of_decide_eq_true rfl) | ((with_reducible first|refine nz_of ?_ ?_|refine nneg_of ?_ ?_);exact of_decide_eq_true rfl) | ((with_reducible refine chk_of ?_ ?_);rfl) | (with_reducible first|apply asI_of|apply asB_of|apply asP_of|apply asSl_of|apply asAggV_of|apply asTupV_of|apply asCons_of|apply asNil_of|apply isNil_n|apply isNil_i|apply nilC_i|apply nilCU_i|apply nilCU_f|apply mthC_i) | ((with_reducible refine And.intro ?_ ?_);rfl) | ((with_reducible apply exAnd);rfl))
      have e4 : i + 1 = ps.length := by omega
      rw [e4, List.take_length] at S_
      rw [e4]
      exact hq cb c rest mk' _ (St.pick S_ [0, 2, 3, 4, 5, 6] (by decide) rfl)
  have key : ∀ (j i : Nat) (c1 cb c : Nat) (rest : List V) (mk' : Bool) (g : Heap), i + j = ps.length → 1 ≤ i → 1 ≤ j → St h0 W [(cb, .cells (pcells (ps.take i) ++ rest) mk'), (c1, .cells [.int .i64 0, .sl ⟨some ⟨cb, 0⟩, i, c⟩] false), (rd, .cells (rdC gb) false), (rg, .cells (ringC (t : Int) gv false) false), (gb, .cells (flatC pm (base : Int)) false), (pm, .cells (memC bm) false), (bm, .cells (strCells bs) mk)] g → i ≤ c → rest.length = (c - i) * 3 → I (some ⟨rg, 0⟩) (some ⟨rd, 0⟩) 0 ⟨c1, 0⟩ false (i : Int) 8 (i : Int) g := by
    intro j
    induction j with
    | zero => intro i c1 cb c rest mk' g hij hi hj; omega
    | succ j ih =>
      intro i c1 cb c rest mk' g hij hi hj S hc hr
      have hil : i < ps.length := by omega
      have hp : ps[i]? = some ps[i] := List.getElem?_eq_getElem hil
      generalize ps[i] = p at hp
      obtain ⟨d0, d1, d2, d3⟩ := D i p hil hp
      have pok := hok p (List.mem_of_getElem? hp)
      have fo := flg_ok p (decide (i + 1 < ps.length))
      have hp1 : ps[i - 1]? = some ps[i - 1] := List.getElem?_eq_getElem (by omega)
      generalize ps[i - 1] = p1 at hp1
      have w1 := hwr (i - 1) p1 p hp1 (by rw [show i - 1 + 1 = i by omega]; exact hp)
      have hpt : (ps.take i)[i - 1]? = some p1 := by rw [List.getElem?_take_of_lt (by omega)]; exact hp1
      have c2 : (pcells (ps.take i) ++ rest)[0 + (i - 1) * 3 + 2]? = some (.bool p1.w) := by rw [Nat.zero_add, pcells_get hpt (by decide)]; rfl
      refine HI _ _ _ _ _ _ _ _ _ ?_
      unfold ring_Ring_chain.b3
      refine br_t (decide_eq_true (by omega)) ?_
      repeat (first | ((with_reducible first|apply St.rI|apply St.rB|apply St.rP|apply St.rSl|apply St.rV|apply St.rM|apply St.rS|apply St.rN|apply St.ckA);assumption;(first|exact i0|exact i1|exact i2|exact i3|exact i4|exact i5|exact i6|exact i7|exact i8|exact i9|exact i10|exact i11|exact i12|exact i13|exact i14|exact i15);(first|rfl|exact Nat.le_of_ble_eq_true rfl)) | with_reducible refine der_of ?_ | ((with_reducible refine br_t ?_ ?_);rfl) | ((with_reducible refine br_f ?_ ?_);rfl) | ((with_reducible refine br_t ?_ ?_);assumption) | ((with_reducible refine br_f ?_ ?_);assumption) | ((with_reducible first|apply St.wrL|apply St.wr);assumption;(first|exact i0|exact i1|exact i2|exact i3|exact i4|exact i5|exact i6|exact i7|exact i8|exact i9|exact i10|exact i11|exact i12|exact i13|exact i14|exact i15);(first|exact Nat.le_of_ble_eq_true rfl|rfl);intro g_ S_;simp only [Ptr.add, List.set, splice, List.take, List.drop, List.nil_append, List.append_nil, List.cons_append, List.length_cons, List.length_nil, Nat.zero_add, Nat.add_zero, Nat.reduceAdd, Nat.reduceMul, Nat.mul_one, Int.toNat_zero, Int.toNat_one, Int.reduceToNat] at S_) | ((with_reducible refine ix_of ?_ ?_ ?_);exact of_decide_eq_true rfl;exact of_decide_eq_true rfl) | ((with_reducible first|refine nz_of ?_ ?_|refine nneg_of ?_ ?_);exact of_decide_eq_true rfl) | ((with_reducible refine chk_of ?_ ?_);rfl) | (with_reducible first|apply asI_of|apply asB_of|apply asP_of|apply asSl_of|apply asAggV_of|apply asTupV_of|apply asCons_of|apply asNil_of|apply isNil_n|apply isNil_i|apply nilC_i|apply nilCU_i|apply nilCU_f|apply mthC_i) | ((with_reducible refine And.intro ?_ ?_);rfl) | ((with_reducible apply exAnd);rfl))
      refine br_f (decide_eq_false (by omega)) ?_
      repeat (first | ((with_reducible first|apply St.rI|apply St.rB|apply St.rP|apply St.rSl|apply St.rV|apply St.rM|apply St.rS|apply St.rN|apply St.ckA);assumption;(first|exact i0|exact i1|exact i2|exact i3|exact i4|exact i5|exact i6|exact i7|exact i8|exact i9|exact i10|exact i11|exact i12|exact i13|exact i14|exact i15);(first|rfl|exact Nat.le_of_ble_eq_true rfl)) | with_reducible refine der_of ?_ | ((with_reducible refine br_t ?_ ?_);rfl) | ((with_reducible refine br_f ?_ ?_);rfl) | ((with_reducible refine br_t ?_ ?_);assumption) | ((with_reducible refine br_f ?_ ?_);assumption) | ((with_reducible first|apply St.wrL|apply St.wr);assumption;(first|exact i0|exact i1|exact i2|exact i3|exact i4|exact i5|exact i6|exact i7|exact i8|exact i9|exact i10|exact i11|exact i12|exact i13|exact i14|exact i15);(first|exact Nat.le_of_ble_eq_true rfl|rfl);intro g_ S_;simp only [Ptr.add, List.set, splice, List.take, List.drop, List.nil_append, List.append_nil, List.cons_append, List.length_cons, List.length_nil, Nat.zero_add, Nat.add_zero, Nat.reduceAdd, Nat.reduceMul, Nat.mul_one, Int.toNat_zero, Int.toNat_one, Int.reduceToNat] at S_) | ((with_reducible refine ix_of ?_ ?_ ?_);exact of_decide_eq_true rfl;exact of_decide_eq_true rfl) | ((with_reducible first|refine nz_of ?_ ?_|refine nneg_of ?_ ?_);exact of_decide_eq_true rfl) | ((with_reducible refine chk_of ?_ ?_);rfl) | (with_reducible first|apply asI_of|apply asB_of|apply asP_of|apply asSl_of|apply asAggV_of|apply asTupV_of|apply asCons_of|apply asNil_of|apply isNil_n|apply isNil_i|apply nilC_i|apply nilCU_i|apply nilCU_f|apply mthC_i) | ((with_reducible refine And.intro ?_ ?_);rfl) | ((with_reducible apply exAnd);rfl))
      refine part (r := 2) (g := 4) (p := 5) (b := 6) (i := i) hu w hw hk8 S rfl rfl rfl rfl (by decide) M hb (by omega) (by rw [wrapu64 (x := 32 * (i : Int)), wrapu64] <;> omega) d0 d1 d2 d3 pok.l fo.1 pok.a (fun g1 S1 => ?_)
      rw [fo.2.1, fo.2.2]
      ((with_reducible apply St.al); assumption; intro d g_ S_)
      repeat (first | ((with_reducible first|apply St.rI|apply St.rB|apply St.rP|apply St.rSl|apply St.rV|apply St.rM|apply St.rS|apply St.rN|apply St.ckA);assumption;(first|exact i0|exact i1|exact i2|exact i3|exact i4|exact i5|exact i6|exact i7|exact i8|exact i9|exact i10|exact i11|exact i12|exact i13|exact i14|exact i15);(first|rfl|exact Nat.le_of_ble_eq_true rfl)) | with_reducible refine der_of ?_ | ((with_reducible refine br_t ?_ ?_);rfl) | ((with_reducible refine br_f ?_ ?_);rfl) | ((with_reducible refine br_t ?_ ?_);assumption) | ((with_reducible refine br_f ?_ ?_);assumption) | ((with_reducible first|apply St.wrL|apply St.wr);assumption;(first|exact i0|exact i1|exact i2|exact i3|exact i4|exact i5|exact i6|exact i7|exact i8|exact i9|exact i10|exact i11|exact i12|exact i13|exact i14|exact i15);(first|exact Nat.le_of_ble_eq_true rfl|rfl);intro g_ S_;simp only [Ptr.add, List.set, splice, List.take, List.drop, List.nil_append, List.append_nil, List.cons_append, List.length_cons, List.length_nil, Nat.zero_add, Nat.add_zero, Nat.reduceAdd, Nat.reduceMul, Nat.mul_one, Int.toNat_zero, Int.toNat_one, Int.reduceToNat] at S_) | ((with_reducible refine ix_of ?_ ?_ ?_);exact of_decide_eq_true rfl;exact of_decide_eq_true rfl) | ((with_reducible first|refine nz_of ?_ ?_|refine nneg_of ?_ ?_);exact of_decide_eq_true rfl) | ((with_reducible refine chk_of ?_ ?_);rfl) | (with_reducible first|apply asI_of|apply asB_of|apply asP_of|apply asSl_of|apply asAggV_of|apply asTupV_of|apply asCons_of|apply asNil_of|apply isNil_n|apply isNil_i|apply nilC_i|apply nilCU_i|apply nilCU_f|apply mthC_i) | ((with_reducible refine And.intro ?_ ?_);rfl) | ((with_reducible apply exAnd);rfl))
      unfold ring_Ring_chain.j8
      repeat (first | ((with_reducible first|apply St.rI|apply St.rB|apply St.rP|apply St.rSl|apply St.rV|apply St.rM|apply St.rS|apply St.rN|apply St.ckA);assumption;(first|exact i0|exact i1|exact i2|exact i3|exact i4|exact i5|exact i6|exact i7|exact i8|exact i9|exact i10|exact i11|exact i12|exact i13|exact i14|exact i15);(first|rfl|exact Nat.le_of_ble_eq_true rfl)) | with_reducible refine der_of ?_ | ((with_reducible refine br_t ?_ ?_);rfl) | ((with_reducible refine br_f ?_ ?_);rfl) | ((with_reducible refine br_t ?_ ?_);assumption) | ((with_reducible refine br_f ?_ ?_);assumption) | ((with_reducible first|apply St.wrL|apply St.wr);assumption;(first|exact i0|exact i1|exact i2|exact i3|exact i4|exact i5|exact i6|exact i7|exact i8|exact i9|exact i10|exact i11|exact i12|exact i13|exact i14|exact i15);(first|exact Nat.le_of_ble_eq_true rfl|rfl);intro g_ S_;simp only [Ptr.add, List.set, splice, List.take, List.drop, List.nil_append, List.append_nil, List.cons_append, List.length_cons, List.length_nil, Nat.zero_add, Nat.add_zero, Nat.reduceAdd, Nat.reduceMul, Nat.mul_one, Int.toNat_zero, Int.toNat_one, Int.reduceToNat] at S_) | ((with_reducible refine ix_of ?_ ?_ ?_);exact of_decide_eq_true rfl;exact of_decide_eq_true rfl) | ((with_reducible first|refine nz_of ?_ ?_|refine nneg_of ?_ ?_);exact of_decide_eq_true rfl) | ((with_reducible refine chk_of ?_ ?_);rfl) | (with_reducible first|apply asI_of|apply asB_of|apply asP_of|apply asSl_of|apply asAggV_of|apply asTupV_of|apply asCons_of|apply asNil_of|apply isNil_n|apply isNil_i|apply nilC_i|apply nilCU_i|apply nilCU_f|apply mthC_i) | ((with_reducible refine And.intro ?_ ?_);rfl) | ((with_reducible apply exAnd);rfl))
      refine br_t (decide_eq_true (by show (i : Int) > 0; omega)) ?_
      repeat (first | ((with_reducible first|apply St.rI|apply St.rB|apply St.rP|apply St.rSl|apply St.rV|apply St.rM|apply St.rS|apply St.rN|apply St.ckA);assumption;(first|exact i0|exact i1|exact i2|exact i3|exact i4|exact i5|exact i6|exact i7|exact i8|exact i9|exact i10|exact i11|exact i12|exact i13|exact i14|exact i15);(first|rfl|exact Nat.le_of_ble_eq_true rfl)) | with_reducible refine der_of ?_ | ((with_reducible refine br_t ?_ ?_);rfl) | ((with_reducible refine br_f ?_ ?_);rfl) | ((with_reducible refine br_t ?_ ?_);assumption) | ((with_reducible refine br_f ?_ ?_);assumption) | ((with_reducible first|apply St.wrL|apply St.wr);assumption;(first|exact i0|exact i1|exact i2|exact i3|exact i4|exact i5|exact i6|exact i7|exact i8|exact i9|exact i10|exact i11|exact i12|exact i13|exact i14|exact i15);(first|exact Nat.le_of_ble_eq_true rfl|rfl);intro g_ S_;simp only [Ptr.add, List.set, splice, List.take, List.drop, List.nil_append, List.append_nil, List.cons_append, List.length_cons, List.length_nil, Nat.zero_add, Nat.add_zero, Nat.reduceAdd, Nat.reduceMul, Nat.mul_one, Int.toNat_zero, Int.toNat_one, Int.reduceToNat] at S_) | ((with_reducible refine ix_of ?_ ?_ ?_);exact of_decide_eq_true rfl;exact of_decide_eq_true rfl) | ((with_reducible first|refine nz_of ?_ ?_|refine nneg_of ?_ ?_);exact of_decide_eq_true rfl) | ((with_reducible refine chk_of ?_ ?_);rfl) | (with_reducible first|apply asI_of|apply asB_of|apply asP_of|apply asSl_of|apply asAggV_of|apply asTupV_of|apply asCons_of|apply asNil_of|apply isNil_n|apply isNil_i|apply nilC_i|apply nilCU_i|apply nilCU_f|apply mthC_i) | ((with_reducible refine And.intro ?_ ?_);rfl) | ((with_reducible apply exAnd);rfl))
      have ei : IntKind.i64.wrap ((i : Int) - 1) = ((i - 1 : Nat) : Int) := by rw [wrap64] <;> omega
      rw [ei]
      refine ix_of (by omega) (by show ((i - 1 : Nat) : Int) < (i : Int); omega) ?_
      rw [der_some, Int.toNat_natCast]
      refine S_.rB i1 c2 ?_
      have fin := step i p cb c c1 d rest mk' _ hil hp (fun e cb c rest mk' g' S' hc hr => ih (i + 1) c1 cb c rest mk' g' (by omega) (by omega) (by omega) S' hc hr) (St.pick S_ [1, 0, 2, 3, 4, 5, 6, 7] (by decide) rfl) hi hc hr
      cases e1 : p1.w
      · exact br_f rfl fin
      · refine br_t rfl (S_.rB (p := (⟨d, 0⟩ : Ptr).add 2) (x := p.w) i0 rfl (br_f (by rw [w1 e1]; rfl) ?_))
        exact fin
  have hp : ps[0]? = some ps[0] := List.getElem?_eq_getElem (by omega)
  generalize ps[0] = p at hp
  obtain ⟨d0, d1, d2, d3⟩ := D 0 p (by omega) hp
  have pok := hok p (List.mem_of_getElem? hp)
  have fo := flg_ok p (decide (0 + 1 < ps.length))
  refine HI _ _ _ _ _ _ _ _ _ ?_
  unfold ring_Ring_chain.b3
  repeat (first | ((with_reducible first|apply St.rI|apply St.rB|apply St.rP|apply St.rSl|apply St.rV|apply St.rM|apply St.rS|apply St.rN|apply St.ckA);assumption;(first|exact i0|exact i1|exact i2|exact i3|exact i4|exact i5|exact i6|exact i7|exact i8|exact i9|exact i10|exact i11|exact i12|exact i13|exact i14|exact i15);(first|rfl|exact Nat.le_of_ble_eq_true rfl)) | with_reducible refine der_of ?_ | ((with_reducible refine br_t ?_ ?_);rfl) | ((with_reducible refine br_f ?_ ?_);rfl) | ((with_reducible refine br_t ?_ ?_);assumption) | ((with_reducible refine br_f ?_ ?_);assumption) | ((with_reducible first|apply St.wrL|apply St.wr);assumption;(first|exact i0|exact i1|exact i2|exact i3|exact i4|exact i5|exact i6|exact i7|exact i8|exact i9|exact i10|exact i11|exact i12|exact i13|exact i14|exact i15);(first|exact Nat.le_of_ble_eq_true rfl|rfl);intro g_ S_;simp only [Ptr.add, List.set, splice, List.take, List.drop, List.nil_append, List.append_nil, List.cons_append, List.length_cons, List.length_nil, Nat.zero_add, Nat.add_zero, Nat.reduceAdd, Nat.reduceMul, Nat.mul_one, Int.toNat_zero, Int.toNat_one, Int.reduceToNat] at S_) | ((with_reducible refine ix_of ?_ ?_ ?_);exact of_decide_eq_true rfl;exact of_decide_eq_true rfl) | ((with_reducible first|refine nz_of ?_ ?_|refine nneg_of ?_ ?_);exact of_decide_eq_true rfl) | ((with_reducible refine chk_of ?_ ?_);rfl) | (with_reducible first|apply asI_of|apply asB_of|apply asP_of|apply asSl_of|apply asAggV_of|apply asTupV_of|apply asCons_of|apply asNil_of|apply isNil_n|apply isNil_i|apply nilC_i|apply nilCU_i|apply nilCU_f|apply mthC_i) | ((with_reducible refine And.intro ?_ ?_);rfl) | ((with_reducible apply exAnd);rfl))
  refine part (r := 1) (g := 3) (p := 4) (b := 5) (i := 0) hu w hw hk8 S_ rfl rfl rfl rfl (by decide) M hb (by decide) (by decide) d0 d1 d2 d3 pok.l fo.1 pok.a (fun g1 S1 => ?_)
  rw [fo.2.1, fo.2.2]
  clear S_ S
  ((with_reducible apply St.al); assumption; intro d1 g_ S_)
  repeat (first | ((with_reducible first|apply St.rI|apply St.rB|apply St.rP|apply St.rSl|apply St.rV|apply St.rM|apply St.rS|apply St.rN|apply St.ckA);assumption;(first|exact i0|exact i1|exact i2|exact i3|exact i4|exact i5|exact i6|exact i7|exact i8|exact i9|exact i10|exact i11|exact i12|exact i13|exact i14|exact i15);(first|rfl|exact Nat.le_of_ble_eq_true rfl)) | with_reducible refine der_of ?_ | ((with_reducible refine br_t ?_ ?_);rfl) | ((with_reducible refine br_f ?_ ?_);rfl) | ((with_reducible refine br_t ?_ ?_);assumption) | ((with_reducible refine br_f ?_ ?_);assumption) | ((with_reducible first|apply St.wrL|apply St.wr);assumption;(first|exact i0|exact i1|exact i2|exact i3|exact i4|exact i5|exact i6|exact i7|exact i8|exact i9|exact i10|exact i11|exact i12|exact i13|exact i14|exact i15);(first|exact Nat.le_of_ble_eq_true rfl|rfl);intro g_ S_;simp only [Ptr.add, List.set, splice, List.take, List.drop, List.nil_append, List.append_nil, List.cons_append, List.length_cons, List.length_nil, Nat.zero_add, Nat.add_zero, Nat.reduceAdd, Nat.reduceMul, Nat.mul_one, Int.toNat_zero, Int.toNat_one, Int.reduceToNat] at S_) | ((with_reducible refine ix_of ?_ ?_ ?_);exact of_decide_eq_true rfl;exact of_decide_eq_true rfl) | ((with_reducible first|refine nz_of ?_ ?_|refine nneg_of ?_ ?_);exact of_decide_eq_true rfl) | ((with_reducible refine chk_of ?_ ?_);rfl) | (with_reducible first|apply asI_of|apply asB_of|apply asP_of|apply asSl_of|apply asAggV_of|apply asTupV_of|apply asCons_of|apply asNil_of|apply isNil_n|apply isNil_i|apply nilC_i|apply nilCU_i|apply nilCU_f|apply mthC_i) | ((with_reducible refine And.intro ?_ ?_);rfl) | ((with_reducible apply exAnd);rfl))
  unfold ring_Ring_chain.j8
  repeat (first | ((with_reducible first|apply St.rI|apply St.rB|apply St.rP|apply St.rSl|apply St.rV|apply St.rM|apply St.rS|apply St.rN|apply St.ckA);assumption;(first|exact i0|exact i1|exact i2|exact i3|exact i4|exact i5|exact i6|exact i7|exact i8|exact i9|exact i10|exact i11|exact i12|exact i13|exact i14|exact i15);(first|rfl|exact Nat.le_of_ble_eq_true rfl)) | with_reducible refine der_of ?_ | ((with_reducible refine br_t ?_ ?_);rfl) | ((with_reducible refine br_f ?_ ?_);rfl) | ((with_reducible refine br_t ?_ ?_);assumption) | ((with_reducible refine br_f ?_ ?_);assumption) | ((with_reducible first|apply St.wrL|apply St.wr);assumption;(first|exact i0|exact i1|exact i2|exact i3|exact i4|exact i5|exact i6|exact i7|exact i8|exact i9|exact i10|exact i11|exact i12|exact i13|exact i14|exact i15);(first|exact Nat.le_of_ble_eq_true rfl|rfl);intro g_ S_;simp only [Ptr.add, List.set, splice, List.take, List.drop, List.nil_append, List.append_nil, List.cons_append, List.length_cons, List.length_nil, Nat.zero_add, Nat.add_zero, Nat.reduceAdd, Nat.reduceMul, Nat.mul_one, Int.toNat_zero, Int.toNat_one, Int.reduceToNat] at S_) | ((with_reducible refine ix_of ?_ ?_ ?_);exact of_decide_eq_true rfl;exact of_decide_eq_true rfl) | ((with_reducible first|refine nz_of ?_ ?_|refine nneg_of ?_ ?_);exact of_decide_eq_true rfl) | ((with_reducible refine chk_of ?_ ?_);rfl) | (with_reducible first|apply asI_of|apply asB_of|apply asP_of|apply asSl_of|apply asAggV_of|apply asTupV_of|apply asCons_of|apply asNil_of|apply isNil_n|apply isNil_i|apply nilC_i|apply nilCU_i|apply nilCU_f|apply mthC_i) | ((with_reducible refine And.intro ?_ ?_);rfl) | ((with_reducible apply exAnd);rfl))
  unfold ring_Ring_chain.j10
  repeat (first | ((with_reducible first|apply St.rI|apply St.rB|apply St.rP|apply St.rSl|apply St.rV|apply St.rM|apply St.rS|apply St.rN|apply St.ckA);assumption;(first|exact i0|exact i1|exact i2|exact i3|exact i4|exact i5|exact i6|exact i7|exact i8|exact i9|exact i10|exact i11|exact i12|exact i13|exact i14|exact i15);(first|rfl|exact Nat.le_of_ble_eq_true rfl)) | with_reducible refine der_of ?_ | ((with_reducible refine br_t ?_ ?_);rfl) | ((with_reducible refine br_f ?_ ?_);rfl) | ((with_reducible refine br_t ?_ ?_);assumption) | ((with_reducible refine br_f ?_ ?_);assumption) | ((with_reducible first|apply St.wrL|apply St.wr);assumption;(first|exact i0|exact i1|exact i2|exact i3|exact i4|exact i5|exact i6|exact i7|exact i8|exact i9|exact i10|exact i11|exact i12|exact i13|exact i14|exact i15);(first|exact Nat.le_of_ble_eq_true rfl|rfl);intro g_ S_;simp only [Ptr.add, List.set, splice, List.take, List.drop, List.nil_append, List.append_nil, List.cons_append, List.length_cons, List.length_nil, Nat.zero_add, Nat.add_zero, Nat.reduceAdd, Nat.reduceMul, Nat.mul_one, Int.toNat_zero, Int.toNat_one, Int.reduceToNat] at S_) | ((with_reducible refine ix_of ?_ ?_ ?_);exact of_decide_eq_true rfl;exact of_decide_eq_true rfl) | ((with_reducible first|refine nz_of ?_ ?_|refine nneg_of ?_ ?_);exact of_decide_eq_true rfl) | ((with_reducible refine chk_of ?_ ?_);rfl) | (with_reducible first|apply asI_of|apply asB_of|apply asP_of|apply asSl_of|apply asAggV_of|apply asTupV_of|apply asCons_of|apply asNil_of|apply isNil_n|apply isNil_i|apply nilC_i|apply nilCU_i|apply nilCU_f|apply mthC_i) | ((with_reducible refine And.intro ?_ ?_);rfl) | ((with_reducible apply exAnd);rfl))
  ((with_reducible apply St.al); assumption; intro e1 g_ S_)
  repeat (first | ((with_reducible first|apply St.rI|apply St.rB|apply St.rP|apply St.rSl|apply St.rV|apply St.rM|apply St.rS|apply St.rN|apply St.ckA);assumption;(first|exact i0|exact i1|exact i2|exact i3|exact i4|exact i5|exact i6|exact i7|exact i8|exact i9|exact i10|exact i11|exact i12|exact i13|exact i14|exact i15);(first|rfl|exact Nat.le_of_ble_eq_true rfl)) | with_reducible refine der_of ?_ | ((with_reducible refine br_t ?_ ?_);rfl) | ((with_reducible refine br_f ?_ ?_);rfl) | ((with_reducible refine br_t ?_ ?_);assumption) | ((with_reducible refine br_f ?_ ?_);assumption) | ((with_reducible first|apply St.wrL|apply St.wr);assumption;(first|exact i0|exact i1|exact i2|exact i3|exact i4|exact i5|exact i6|exact i7|exact i8|exact i9|exact i10|exact i11|exact i12|exact i13|exact i14|exact i15);(first|exact Nat.le_of_ble_eq_true rfl|rfl);intro g_ S_;simp only [Ptr.add, List.set, splice, List.take, List.drop, List.nil_append, List.append_nil, List.cons_append, List.length_cons, List.length_nil, Nat.zero_add, Nat.add_zero, Nat.reduceAdd, Nat.reduceMul, Nat.mul_one, Int.toNat_zero, Int.toNat_one, Int.reduceToNat] at S_) | ((with_reducible refine ix_of ?_ ?_ ?_);exact of_decide_eq_true rfl;exact of_decide_eq_true rfl) | ((with_reducible first|refine nz_of ?_ ?_|refine nneg_of ?_ ?_);exact of_decide_eq_true rfl) | ((with_reducible refine chk_of ?_ ?_);rfl) | (with_reducible first|apply asI_of|apply asB_of|apply asP_of|apply asSl_of|apply asAggV_of|apply asTupV_of|apply asCons_of|apply asNil_of|apply isNil_n|apply isNil_i|apply nilC_i|apply nilCU_i|apply nilCU_f|apply mthC_i) | ((with_reducible refine And.intro ?_ ?_);rfl) | ((with_reducible apply exAnd);rfl))
  refine app_nil S_ rfl rfl (by decide) (fun cb c rest mk' g2 S2 hc hr => ?_)
  clear S_
  repeat (first | ((with_reducible first|apply St.rI|apply St.rB|apply St.rP|apply St.rSl|apply St.rV|apply St.rM|apply St.rS|apply St.rN|apply St.ckA);assumption;(first|exact i0|exact i1|exact i2|exact i3|exact i4|exact i5|exact i6|exact i7|exact i8|exact i9|exact i10|exact i11|exact i12|exact i13|exact i14|exact i15);(first|rfl|exact Nat.le_of_ble_eq_true rfl)) | with_reducible refine der_of ?_ | ((with_reducible refine br_t ?_ ?_);rfl) | ((with_reducible refine br_f ?_ ?_);rfl) | ((with_reducible refine br_t ?_ ?_);assumption) | ((with_reducible refine br_f ?_ ?_);assumption) | ((with_reducible first|apply St.wrL|apply St.wr);assumption;(first|exact i0|exact i1|exact i2|exact i3|exact i4|exact i5|exact i6|exact i7|exact i8|exact i9|exact i10|exact i11|exact i12|exact i13|exact i14|exact i15);(first|exact Nat.le_of_ble_eq_true rfl|rfl);intro g_ S_;simp only [Ptr.add, List.set, splice, List.take, List.drop, List.nil_append, List.append_nil, List.cons_append, List.length_cons, List.length_nil, Nat.zero_add, Nat.add_zero, Nat.reduceAdd, Nat.reduceMul, Nat.mul_one, Int.toNat_zero, Int.toNat_one, Int.reduceToNat] at S_) | ((with_reducible refine ix_of ?_ ?_ ?_);exact of_decide_eq_true rfl;exact of_decide_eq_true rfl) | ((with_reducible first|refine nz_of ?_ ?_|refine nneg_of ?_ ?_);exact of_decide_eq_true rfl) | ((with_reducible refine chk_of ?_ ?_);rfl) | (with_reducible first|apply asI_of|apply asB_of|apply asP_of|apply asSl_of|apply asAggV_of|apply asTupV_of|apply asCons_of|apply asNil_of|apply isNil_n|apply isNil_i|apply nilC_i|apply nilCU_i|apply nilCU_f|apply mthC_i) | ((with_reducible refine And.intro ?_ ?_);rfl) | ((with_reducible apply exAnd);rfl))
  have et : ps.take 1 = [p] := by rw [List.take_one, List.head?_eq_getElem?, hp]; rfl
  have e3 : ([V.int .u64 p.a, V.int .i64 p.l, V.bool p.w] : List V) = pcells (ps.take 1) := by rw [et]; rfl
  by_cases e : 0 + 1 < ps.length
  · rw [decide_eq_true e]
    repeat (first | ((with_reducible first|apply St.rI|apply St.rB|apply St.rP|apply St.rSl|apply St.rV|apply St.rM|apply St.rS|apply St.rN|apply St.ckA);assumption;(first|exact i0|exact i1|exact i2|exact i3|exact i4|exact i5|exact i6|exact i7|exact i8|exact i9|exact i10|exact i11|exact i12|exact i13|exact i14|exact i15);(first|rfl|exact Nat.le_of_ble_eq_true rfl)) | with_reducible refine der_of ?_ | ((with_reducible refine br_t ?_ ?_);rfl) | ((with_reducible refine br_f ?_ ?_);rfl) | ((with_reducible refine br_t ?_ ?_);assumption) | ((with_reducible refine br_f ?_ ?_);assumption) | ((with_reducible first|apply St.wrL|apply St.wr);assumption;(first|exact i0|exact i1|exact i2|exact i3|exact i4|exact i5|exact i6|exact i7|exact i8|exact i9|exact i10|exact i11|exact i12|exact i13|exact i14|exact i15);(first|exact Nat.le_of_ble_eq_true rfl|rfl);intro g_ S_;simp only [Ptr.add, List.set, splice, List.take, List.drop, List.nil_append, List.append_nil, List.cons_append, List.length_cons, List.length_nil, Nat.zero_add, Nat.add_zero, Nat.reduceAdd, Nat.reduceMul, Nat.mul_one, Int.toNat_zero, Int.toNat_one, Int.reduceToNat] at S_) | ((with_reducible refine ix_of ?_ ?_ ?_);exact of_decide_eq_true rfl;exact of_decide_eq_true rfl) | ((with_reducible first|refine nz_of ?_ ?_|refine nneg_of ?_ ?_);exact of_decide_eq_true rfl) | ((with_reducible refine chk_of ?_ ?_);rfl) | (with_reducible first|apply asI_of|apply asB_of|apply asP_of|apply asSl_of|apply asAggV_of|apply asTupV_of|apply asCons_of|apply asNil_of|apply isNil_n|apply isNil_i|apply nilC_i|apply nilCU_i|apply nilCU_f|apply mthC_i) | ((with_reducible refine And.intro ?_ ?_);rfl) | ((with_reducible apply exAnd);rfl))
    rw [show IntKind.u64.wrap (0 + 1) = 1 by decide]
    refine key (ps.length - 1) 1 c1 cb c rest mk' _ (by omega) (by decide) (by omega) ?_ hc hr
    rw [← e3]
    exact St.pick S_ [0, 3, 4, 5, 6, 7, 8] (by decide) rfl
  · rw [decide_eq_false e]
    repeat (first | ((with_reducible first|apply St.rI|apply St.rB|apply St.rP|apply St.rSl|apply St.rV|apply St.rM|apply St.rS|apply St.rN|apply St.ckA);assumption;(first|exact i0|exact i1|exact i2|exact i3|exact i4|exact i5|exact i6|exact i7|exact i8|exact i9|exact i10|exact i11|exact i12|exact i13|exact i14|exact i15);(first|rfl|exact Nat.le_of_ble_eq_true rfl)) | with_reducible refine der_of ?_ | ((with_reducible refine br_t ?_ ?_);rfl) | ((with_reducible refine br_f ?_ ?_);rfl) | ((with_reducible refine br_t ?_ ?_);assumption) | ((with_reducible refine br_f ?_ ?_);assumption) | ((with_reducible first|apply St.wrL|apply St.wr);assumption;(first|exact i0|exact i1|exact i2|exact i3|exact i4|exact i5|exact i6|exact i7|exact i8|exact i9|exact i10|exact i11|exact i12|exact i13|exact i14|exact i15);(first|exact Nat.le_of_ble_eq_true rfl|rfl);intro g_ S_;simp only [Ptr.add, List.set, splice, List.take, List.drop, List.nil_append, List.append_nil, List.cons_append, List.length_cons, List.length_nil, Nat.zero_add, Nat.add_zero, Nat.reduceAdd, Nat.reduceMul, Nat.mul_one, Int.toNat_zero, Int.toNat_one, Int.reduceToNat] at S_) | ((with_reducible refine ix_of ?_ ?_ ?_);exact of_decide_eq_true rfl;exact of_decide_eq_true rfl) | ((with_reducible first|refine nz_of ?_ ?_|refine nneg_of ?_ ?_);exact of_decide_eq_true rfl) | ((with_reducible refine chk_of ?_ ?_);rfl) | (with_reducible first|apply asI_of|apply asB_of|apply asP_of|apply asSl_of|apply asAggV_of|apply asTupV_of|apply asCons_of|apply asNil_of|apply isNil_n|apply isNil_i|apply nilC_i|apply nilCU_i|apply nilCU_f|apply mthC_i) | ((with_reducible refine And.intro ?_ ?_);rfl) | ((with_reducible apply exAnd);rfl))
    have e4 : 1 = ps.length := by omega
    have e5 : pcells ps = [V.int .u64 p.a, V.int .i64 p.l, V.bool p.w] := by rw [e3, e4, List.take_length]
    have hq1 := hq cb c rest mk' _ (by rw [e5]; exact St.pick S_ [0, 4, 5, 6, 7, 8] (by decide) rfl)
    rw [← e4] at hq1
    exact hq1

end
end Go.Back

/- A chain of any parts: next, told, and what it asks for where it may not be. -/
namespace Go.Back
open Go.Lift Go.Fn Go.Mem Go.Frames

/-- A chain that may be taken. -/
structure PsOk (ps : List Pt) : Prop where
  n : 1 ≤ ps.length ∧ ps.length ≤ 8
  ok : ∀ p, p ∈ ps → PtOk p
  wr : ∀ (i : Nat) p q, ps[i]? = some p → ps[i + 1]? = some q → p.w = true → q.w = true

section
variable {U U' : Ifc} {x : Nat → Int} {h0 h : Heap} {W : Nat → Prop} {L : List (Nat × HO)}

theorem next_gen (hu : GU U U') (w : Wid U' h0 x) (hw : ¬ W (U'.glob 1)) (hk8 : knownB x 8 = true) {rg gb pm bm base : Nat} {bs : List UInt8} {mk : Bool} {m : Nat → Int} {t : Nat} {gv : Int} {ps : List Pt} (M : MemIs bs base m) (hb : base + 16 ≤ 40) (ht : t ≤ 1000) {cnt : Int} (hcnt : m 32 = cnt) (h1 : (t : Int) < cnt ∧ cnt ≤ t + 8) (hhead : m (33 + t % 8) = 0) (P : PsOk ps) (D : Desc m ps ps.length)
    (S : St h0 W [(rg, .cells (ringC ((t : Nat) : Int) gv false) false), (gb, .cells (flatC pm (base : Int)) false), (pm, .cells (memC bm) false), (bm, .cells (strCells bs) mk)] h)
    {Q : Int → Sl → Bool → Int → Heap → Prop} (hq : ∀ cb c rest mk' h', St h0 W [(cb, .cells (pcells ps ++ rest) mk'), (rg, .cells (ringC ((t + 1 : Nat) : Int) gv false) false), (gb, .cells (flatC pm (base : Int)) false), (pm, .cells (memC bm) false), (bm, .cells (strCells bs) mk)] h' → Q 0 ⟨some ⟨cb, 0⟩, ps.length, c⟩ true 0 h') : ring_Ring_Next U (some ⟨rg, 0⟩) (.iface 4 (.ptr (some ⟨gb, 0⟩))) Q h := by
  unfold ring_Ring_Next
  ((with_reducible apply St.al); assumption; intro n1 g_ S_)
  unfold ring_Ring_usable
  repeat (first | ((with_reducible first|apply St.rI|apply St.rB|apply St.rP|apply St.rSl|apply St.rV|apply St.rM|apply St.rS|apply St.rN|apply St.ckA);assumption;(first|exact i0|exact i1|exact i2|exact i3|exact i4|exact i5|exact i6|exact i7|exact i8|exact i9|exact i10|exact i11|exact i12|exact i13|exact i14|exact i15);(first|rfl|exact Nat.le_of_ble_eq_true rfl)) | with_reducible refine der_of ?_ | ((with_reducible refine br_t ?_ ?_);rfl) | ((with_reducible refine br_f ?_ ?_);rfl) | ((with_reducible refine br_t ?_ ?_);assumption) | ((with_reducible refine br_f ?_ ?_);assumption) | ((with_reducible first|apply St.wrL|apply St.wr);assumption;(first|exact i0|exact i1|exact i2|exact i3|exact i4|exact i5|exact i6|exact i7|exact i8|exact i9|exact i10|exact i11|exact i12|exact i13|exact i14|exact i15);(first|exact Nat.le_of_ble_eq_true rfl|rfl);intro g_ S_;simp only [Ptr.add, List.set, splice, List.take, List.drop, List.nil_append, List.append_nil, List.cons_append, List.length_cons, List.length_nil, Nat.zero_add, Nat.add_zero, Nat.reduceAdd, Nat.reduceMul, Nat.mul_one, Int.toNat_zero, Int.toNat_one, Int.reduceToNat] at S_) | ((with_reducible refine ix_of ?_ ?_ ?_);exact of_decide_eq_true rfl;exact of_decide_eq_true rfl) | ((with_reducible first|refine nz_of ?_ ?_|refine nneg_of ?_ ?_);exact of_decide_eq_true rfl) | ((with_reducible refine chk_of ?_ ?_);rfl) | (with_reducible first|apply asI_of|apply asB_of|apply asP_of|apply asSl_of|apply asAggV_of|apply asTupV_of|apply asCons_of|apply asNil_of|apply isNil_n|apply isNil_i|apply nilC_i|apply nilCU_i|apply nilCU_f|apply mthC_i) | ((with_reducible refine And.intro ?_ ?_);rfl) | ((with_reducible apply exAnd);rfl))
  ((with_reducible apply St.al); assumption; intro rd g_ S_)
  repeat (first | ((with_reducible first|apply St.rI|apply St.rB|apply St.rP|apply St.rSl|apply St.rV|apply St.rM|apply St.rS|apply St.rN|apply St.ckA);assumption;(first|exact i0|exact i1|exact i2|exact i3|exact i4|exact i5|exact i6|exact i7|exact i8|exact i9|exact i10|exact i11|exact i12|exact i13|exact i14|exact i15);(first|rfl|exact Nat.le_of_ble_eq_true rfl)) | with_reducible refine der_of ?_ | ((with_reducible refine br_t ?_ ?_);rfl) | ((with_reducible refine br_f ?_ ?_);rfl) | ((with_reducible refine br_t ?_ ?_);assumption) | ((with_reducible refine br_f ?_ ?_);assumption) | ((with_reducible first|apply St.wrL|apply St.wr);assumption;(first|exact i0|exact i1|exact i2|exact i3|exact i4|exact i5|exact i6|exact i7|exact i8|exact i9|exact i10|exact i11|exact i12|exact i13|exact i14|exact i15);(first|exact Nat.le_of_ble_eq_true rfl|rfl);intro g_ S_;simp only [Ptr.add, List.set, splice, List.take, List.drop, List.nil_append, List.append_nil, List.cons_append, List.length_cons, List.length_nil, Nat.zero_add, Nat.add_zero, Nat.reduceAdd, Nat.reduceMul, Nat.mul_one, Int.toNat_zero, Int.toNat_one, Int.reduceToNat] at S_) | ((with_reducible refine ix_of ?_ ?_ ?_);exact of_decide_eq_true rfl;exact of_decide_eq_true rfl) | ((with_reducible first|refine nz_of ?_ ?_|refine nneg_of ?_ ?_);exact of_decide_eq_true rfl) | ((with_reducible refine chk_of ?_ ?_);rfl) | (with_reducible first|apply asI_of|apply asB_of|apply asP_of|apply asSl_of|apply asAggV_of|apply asTupV_of|apply asCons_of|apply asNil_of|apply isNil_n|apply isNil_i|apply nilC_i|apply nilCU_i|apply nilCU_f|apply mthC_i) | ((with_reducible refine And.intro ?_ ?_);rfl) | ((with_reducible apply exAnd);rfl))
  refine number (r := 0) (g := 3) (p := 4) (b := 5) (k := 32) hu w hw hk8 S_ rfl rfl rfl rfl (by decide) M hb (by decide) (by decide) (fun g1 S1 => ?_)
  rw [hcnt]
  clear S_
  unfold ring_Ring_Next.j7
  repeat (first | ((with_reducible first|apply St.rI|apply St.rB|apply St.rP|apply St.rSl|apply St.rV|apply St.rM|apply St.rS|apply St.rN|apply St.ckA);assumption;(first|exact i0|exact i1|exact i2|exact i3|exact i4|exact i5|exact i6|exact i7|exact i8|exact i9|exact i10|exact i11|exact i12|exact i13|exact i14|exact i15);(first|rfl|exact Nat.le_of_ble_eq_true rfl)) | with_reducible refine der_of ?_ | ((with_reducible refine br_t ?_ ?_);rfl) | ((with_reducible refine br_f ?_ ?_);rfl) | ((with_reducible refine br_t ?_ ?_);assumption) | ((with_reducible refine br_f ?_ ?_);assumption) | ((with_reducible first|apply St.wrL|apply St.wr);assumption;(first|exact i0|exact i1|exact i2|exact i3|exact i4|exact i5|exact i6|exact i7|exact i8|exact i9|exact i10|exact i11|exact i12|exact i13|exact i14|exact i15);(first|exact Nat.le_of_ble_eq_true rfl|rfl);intro g_ S_;simp only [Ptr.add, List.set, splice, List.take, List.drop, List.nil_append, List.append_nil, List.cons_append, List.length_cons, List.length_nil, Nat.zero_add, Nat.add_zero, Nat.reduceAdd, Nat.reduceMul, Nat.mul_one, Int.toNat_zero, Int.toNat_one, Int.reduceToNat] at S_) | ((with_reducible refine ix_of ?_ ?_ ?_);exact of_decide_eq_true rfl;exact of_decide_eq_true rfl) | ((with_reducible first|refine nz_of ?_ ?_|refine nneg_of ?_ ?_);exact of_decide_eq_true rfl) | ((with_reducible refine chk_of ?_ ?_);rfl) | (with_reducible first|apply asI_of|apply asB_of|apply asP_of|apply asSl_of|apply asAggV_of|apply asTupV_of|apply asCons_of|apply asNil_of|apply isNil_n|apply isNil_i|apply nilC_i|apply nilCU_i|apply nilCU_f|apply mthC_i) | ((with_reducible refine And.intro ?_ ?_);rfl) | ((with_reducible apply exAnd);rfl))
  refine br_f (by simp; omega) ?_
  unfold ring_Ring_Next.j9
  repeat (first | ((with_reducible first|apply St.rI|apply St.rB|apply St.rP|apply St.rSl|apply St.rV|apply St.rM|apply St.rS|apply St.rN|apply St.ckA);assumption;(first|exact i0|exact i1|exact i2|exact i3|exact i4|exact i5|exact i6|exact i7|exact i8|exact i9|exact i10|exact i11|exact i12|exact i13|exact i14|exact i15);(first|rfl|exact Nat.le_of_ble_eq_true rfl)) | with_reducible refine der_of ?_ | ((with_reducible refine br_t ?_ ?_);rfl) | ((with_reducible refine br_f ?_ ?_);rfl) | ((with_reducible refine br_t ?_ ?_);assumption) | ((with_reducible refine br_f ?_ ?_);assumption) | ((with_reducible first|apply St.wrL|apply St.wr);assumption;(first|exact i0|exact i1|exact i2|exact i3|exact i4|exact i5|exact i6|exact i7|exact i8|exact i9|exact i10|exact i11|exact i12|exact i13|exact i14|exact i15);(first|exact Nat.le_of_ble_eq_true rfl|rfl);intro g_ S_;simp only [Ptr.add, List.set, splice, List.take, List.drop, List.nil_append, List.append_nil, List.cons_append, List.length_cons, List.length_nil, Nat.zero_add, Nat.add_zero, Nat.reduceAdd, Nat.reduceMul, Nat.mul_one, Int.toNat_zero, Int.toNat_one, Int.reduceToNat] at S_) | ((with_reducible refine ix_of ?_ ?_ ?_);exact of_decide_eq_true rfl;exact of_decide_eq_true rfl) | ((with_reducible first|refine nz_of ?_ ?_|refine nneg_of ?_ ?_);exact of_decide_eq_true rfl) | ((with_reducible refine chk_of ?_ ?_);rfl) | (with_reducible first|apply asI_of|apply asB_of|apply asP_of|apply asSl_of|apply asAggV_of|apply asTupV_of|apply asCons_of|apply asNil_of|apply isNil_n|apply isNil_i|apply nilC_i|apply nilCU_i|apply nilCU_f|apply mthC_i) | ((with_reducible refine And.intro ?_ ?_);rfl) | ((with_reducible apply exAnd);rfl))
  refine br_t (decide_eq_true (by rw [wrapu64] <;> omega)) ?_
  repeat (first | ((with_reducible first|apply St.rI|apply St.rB|apply St.rP|apply St.rSl|apply St.rV|apply St.rM|apply St.rS|apply St.rN|apply St.ckA);assumption;(first|exact i0|exact i1|exact i2|exact i3|exact i4|exact i5|exact i6|exact i7|exact i8|exact i9|exact i10|exact i11|exact i12|exact i13|exact i14|exact i15);(first|rfl|exact Nat.le_of_ble_eq_true rfl)) | with_reducible refine der_of ?_ | ((with_reducible refine br_t ?_ ?_);rfl) | ((with_reducible refine br_f ?_ ?_);rfl) | ((with_reducible refine br_t ?_ ?_);assumption) | ((with_reducible refine br_f ?_ ?_);assumption) | ((with_reducible first|apply St.wrL|apply St.wr);assumption;(first|exact i0|exact i1|exact i2|exact i3|exact i4|exact i5|exact i6|exact i7|exact i8|exact i9|exact i10|exact i11|exact i12|exact i13|exact i14|exact i15);(first|exact Nat.le_of_ble_eq_true rfl|rfl);intro g_ S_;simp only [Ptr.add, List.set, splice, List.take, List.drop, List.nil_append, List.append_nil, List.cons_append, List.length_cons, List.length_nil, Nat.zero_add, Nat.add_zero, Nat.reduceAdd, Nat.reduceMul, Nat.mul_one, Int.toNat_zero, Int.toNat_one, Int.reduceToNat] at S_) | ((with_reducible refine ix_of ?_ ?_ ?_);exact of_decide_eq_true rfl;exact of_decide_eq_true rfl) | ((with_reducible first|refine nz_of ?_ ?_|refine nneg_of ?_ ?_);exact of_decide_eq_true rfl) | ((with_reducible refine chk_of ?_ ?_);rfl) | (with_reducible first|apply asI_of|apply asB_of|apply asP_of|apply asSl_of|apply asAggV_of|apply asTupV_of|apply asCons_of|apply asNil_of|apply isNil_n|apply isNil_i|apply nilC_i|apply nilCU_i|apply nilCU_f|apply mthC_i) | ((with_reducible refine And.intro ?_ ?_);rfl) | ((with_reducible apply exAnd);rfl))
  have ead : IntKind.u64.wrap (IntKind.u64.wrap (0 + IntKind.u64.wrap (32 * 8)) + IntKind.u64.wrap (8 * IntKind.u64.wrap (1 + (t : Int).tmod 8))) = ((8 * (33 + t % 8) : Nat) : Int) := by
    rw [Int.tmod_eq_emod_of_nonneg (by omega), wrapu64 (x := 1 + (t : Int) % 8), wrapu64 (x := 8 * (1 + (t : Int) % 8)), show IntKind.u64.wrap (0 + IntKind.u64.wrap (32 * 8)) = 256 by decide, wrapu64] <;> omega
  refine number (r := 0) (g := 3) (p := 4) (b := 5) (k := 33 + t % 8) hu w hw hk8 S1 rfl rfl rfl rfl (by decide) M hb (by omega) ead (fun g2 S2 => ?_)
  rw [hhead]
  clear S1
  unfold ring_Ring_Next.j11
  repeat (first | ((with_reducible first|apply St.rI|apply St.rB|apply St.rP|apply St.rSl|apply St.rV|apply St.rM|apply St.rS|apply St.rN|apply St.ckA);assumption;(first|exact i0|exact i1|exact i2|exact i3|exact i4|exact i5|exact i6|exact i7|exact i8|exact i9|exact i10|exact i11|exact i12|exact i13|exact i14|exact i15);(first|rfl|exact Nat.le_of_ble_eq_true rfl)) | with_reducible refine der_of ?_ | ((with_reducible refine br_t ?_ ?_);rfl) | ((with_reducible refine br_f ?_ ?_);rfl) | ((with_reducible refine br_t ?_ ?_);assumption) | ((with_reducible refine br_f ?_ ?_);assumption) | ((with_reducible first|apply St.wrL|apply St.wr);assumption;(first|exact i0|exact i1|exact i2|exact i3|exact i4|exact i5|exact i6|exact i7|exact i8|exact i9|exact i10|exact i11|exact i12|exact i13|exact i14|exact i15);(first|exact Nat.le_of_ble_eq_true rfl|rfl);intro g_ S_;simp only [Ptr.add, List.set, splice, List.take, List.drop, List.nil_append, List.append_nil, List.cons_append, List.length_cons, List.length_nil, Nat.zero_add, Nat.add_zero, Nat.reduceAdd, Nat.reduceMul, Nat.mul_one, Int.toNat_zero, Int.toNat_one, Int.reduceToNat] at S_) | ((with_reducible refine ix_of ?_ ?_ ?_);exact of_decide_eq_true rfl;exact of_decide_eq_true rfl) | ((with_reducible first|refine nz_of ?_ ?_|refine nneg_of ?_ ?_);exact of_decide_eq_true rfl) | ((with_reducible refine chk_of ?_ ?_);rfl) | (with_reducible first|apply asI_of|apply asB_of|apply asP_of|apply asSl_of|apply asAggV_of|apply asTupV_of|apply asCons_of|apply asNil_of|apply isNil_n|apply isNil_i|apply nilC_i|apply nilCU_i|apply nilCU_f|apply mthC_i) | ((with_reducible refine And.intro ?_ ?_);rfl) | ((with_reducible apply exAnd);rfl))
  have SP : St h0 W ([(rd, .cells (rdC gb) false), (rg, .cells (ringC ((t : Nat) : Int) gv false) false), (gb, .cells (flatC pm (base : Int)) false), (pm, .cells (memC bm) false), (bm, .cells (strCells bs) mk)] ++ [(n1, .cells [.int .i64 0, .sl ⟨none, 0, 0⟩] false)]) g2 := St.pick S2 [0, 2, 3, 4, 5, 1] (by decide) rfl
  clear S2
  refine chain_gen hu (w.keeps SP.keeps hw) (SP.notA w.known hw) hk8 M hb P.n P.ok P.wr D SP.head (fun cb c rest mk' g3 S3 => ?_)
  have S4 := St.frame S3 SP
  simp only [List.cons_append, List.nil_append] at S4
  clear S3 SP
  ((with_reducible apply St.al); assumption; intro n3 g_ S_)
  repeat (first | ((with_reducible first|apply St.rI|apply St.rB|apply St.rP|apply St.rSl|apply St.rV|apply St.rM|apply St.rS|apply St.rN|apply St.ckA);assumption;(first|exact i0|exact i1|exact i2|exact i3|exact i4|exact i5|exact i6|exact i7|exact i8|exact i9|exact i10|exact i11|exact i12|exact i13|exact i14|exact i15);(first|rfl|exact Nat.le_of_ble_eq_true rfl)) | with_reducible refine der_of ?_ | ((with_reducible refine br_t ?_ ?_);rfl) | ((with_reducible refine br_f ?_ ?_);rfl) | ((with_reducible refine br_t ?_ ?_);assumption) | ((with_reducible refine br_f ?_ ?_);assumption) | ((with_reducible first|apply St.wrL|apply St.wr);assumption;(first|exact i0|exact i1|exact i2|exact i3|exact i4|exact i5|exact i6|exact i7|exact i8|exact i9|exact i10|exact i11|exact i12|exact i13|exact i14|exact i15);(first|exact Nat.le_of_ble_eq_true rfl|rfl);intro g_ S_;simp only [Ptr.add, List.set, splice, List.take, List.drop, List.nil_append, List.append_nil, List.cons_append, List.length_cons, List.length_nil, Nat.zero_add, Nat.add_zero, Nat.reduceAdd, Nat.reduceMul, Nat.mul_one, Int.toNat_zero, Int.toNat_one, Int.reduceToNat] at S_) | ((with_reducible refine ix_of ?_ ?_ ?_);exact of_decide_eq_true rfl;exact of_decide_eq_true rfl) | ((with_reducible first|refine nz_of ?_ ?_|refine nneg_of ?_ ?_);exact of_decide_eq_true rfl) | ((with_reducible refine chk_of ?_ ?_);rfl) | (with_reducible first|apply asI_of|apply asB_of|apply asP_of|apply asSl_of|apply asAggV_of|apply asTupV_of|apply asCons_of|apply asNil_of|apply isNil_n|apply isNil_i|apply nilC_i|apply nilCU_i|apply nilCU_f|apply mthC_i) | ((with_reducible refine And.intro ?_ ?_);rfl) | ((with_reducible apply exAnd);rfl))
  have ew : IntKind.u64.wrap ((t : Int) + 1) = ((t + 1 : Nat) : Int) := by rw [wrapu64] <;> omega
  rw [ew] at S_
  exact hq cb c rest mk' _ (St.pick S_ [1, 3, 4, 5, 6] (by decide) rfl)

theorem gput2 {gb pm bm g p b base k : Nat} {bs xs : List UInt8} {mk : Bool} {m : Nat → Int} {s : Sl} (S : St h0 W L h)
    (hg : L[g]? = some (gb, .cells (flatC pm (base : Int)) false)) (hp : L[p]? = some (pm, .cells (memC bm) false)) (hm : L[b]? = some (bm, .cells (strCells bs) mk)) (hpb : p ≠ b) (M : MemIs bs base m) (hb : base + 16 ≤ 40) (H : Held h s 1 (strCells xs)) (hk : k + xs.length ≤ 4096) {a : Int} (ea : a = (k : Int))
    {Q : Int → Heap → Prop} (hq : ∀ mk' h', St h0 W (L.set b (bm, .cells (strCells (Go.Mem.put bs (256 * base + k) xs)) mk')) h' → Q 0 h') : palisadelaw24_Flat_Put (some ⟨gb, 0⟩) a s Q h := by
  subst ea
  have e16 : IntKind.u64.wrap (IntKind.i64.wrap (256 * 16)) = 4096 := by decide
  have hs : s.len = xs.length := by have := H.len; rw [strCells_length] at this; omega
  unfold palisadelaw24_Flat_Put
  rw [der_some]
  refine S.rI hg rfl (br_f (decide_eq_false (by rw [e16]; omega)) ?_)
  rw [der_some]
  refine S.rI hg rfl (br_f (decide_eq_false (by rw [e16, wrapu64 (x := ((s.len : Nat) : Int)), wrapu64] <;> omega)) ?_)
  rw [der_some]
  refine S.rP hg rfl ?_
  rw [der_some]
  refine S.rI hg rfl ?_
  have e : IntKind.u64.wrap ((k : Int) + IntKind.u64.wrap (IntKind.i64.wrap (256 * (base : Int)))) = ((256 * base + k : Nat) : Int) := by
    rw [wrap64 (x := 256 * (base : Int)), wrapu64 (x := 256 * (base : Int)), wrapu64] <;> omega
  rw [e]
  have hl := M.len
  refine Mem.Put_of (mrep S hp hm hpb M.len) (by omega) (by omega) H (by omega) (fun hn => ?_) (fun _ h1 R1 k1 => ?_)
  · exfalso
    rw [hl] at hn
    simp [lies] at hn
    omega
  · rw [Int.toNat_natCast] at R1
    obtain ⟨mk', harr⟩ := R1.arr
    exact hq mk' h1 (S.put hm harr k1)

/-- The byte at an address of the guest's. -/
def byteAt (bs : List UInt8) (base a : Nat) : Int := valN 1 bs ((256 * base + a : Nat) : Int)

theorem byteAt_eq {bs : List UInt8} {base a : Nat} : byteAt bs base a = (((bs.drop (256 * base + a)).headD 0).toNat : Int) := by
  unfold byteAt valN sx
  rw [if_neg (by decide), Int.toNat_natCast]
  cases bs.drop (256 * base + a) with
  | nil => rfl
  | cons b l => simp [byteSum]

theorem byteAt_put {bs : List UInt8} {base a : Nat} {b : UInt8} (ha : 256 * base + a < bs.length) : byteAt (Go.Mem.put bs (256 * base + a) [b]) base a = (b.toNat : Int) := by
  rw [byteAt_eq]
  have e : ((Go.Mem.put bs (256 * base + a) [b]).drop (256 * base + a)).headD 0 = b := by
    rw [List.headD_eq_head?_getD, List.head?_drop, put_get (by simp; omega), if_pos (by simp)]
    simp
  rw [e]

theorem byteSum_inj : ∀ (l1 l2 : List UInt8), l1.length = l2.length → byteSum l1 = byteSum l2 → l1 = l2
  | [], [], _, _ => rfl
  | [], _ :: _, h, _ => by simp at h
  | _ :: _, [], h, _ => by simp at h
  | a :: l1, b :: l2, h, e => by
    simp only [byteSum] at e
    have ha := a.toNat_lt
    have hb := b.toNat_lt
    have h1 : a = b := UInt8.toNat_inj.1 (by omega)
    subst h1
    rw [byteSum_inj l1 l2 (by simpa using h) (by omega)]

/-- Where a word is the same, its bytes are. -/
theorem byteAt_word {bs bs' : List UInt8} {base : Nat} {m m' : Nat → Int} (M : MemIs bs base m) (M' : MemIs bs' base m') (hb : base + 16 ≤ 40) {a : Nat} (ha : a < 4096) (he : m' (a / 8) = m (a / 8)) : byteAt bs' base a = byteAt bs base a := by
  have h1 := M.word (a / 8) (by omega)
  have h2 := M'.word (a / 8) (by omega)
  rw [he, ← h1] at h2
  unfold valN sx at h2
  rw [if_neg (by decide), if_neg (by decide), Int.toNat_natCast] at h2
  have hl := M.len
  have hl' := M'.len
  have e := byteSum_inj _ _ (by simp; omega) (Int.ofNat_inj.1 h2)
  rw [byteAt_eq, byteAt_eq, List.headD_eq_head?_getD, List.headD_eq_head?_getD, List.head?_drop, List.head?_drop]
  have g := congrArg (fun l => l[a % 8]?) e
  rw [List.getElem?_take_of_lt (by omega), List.getElem?_take_of_lt (by omega), List.getElem?_drop, List.getElem?_drop, show 256 * base + 8 * (a / 8) + a % 8 = 256 * base + a by omega] at g
  rw [g]

theorem gbyte (w : Wid U h0 x) (hw : ¬ W (U.glob 1)) (hk1 : knownB x 1 = true) {gb pm bm g p b base k : Nat} {bs : List UInt8} {mk : Bool} {m : Nat → Int} (S : St h0 W L h)
    (hg : L[g]? = some (gb, .cells (flatC pm (base : Int)) false)) (hp : L[p]? = some (pm, .cells (memC bm) false)) (hm : L[b]? = some (bm, .cells (strCells bs) mk)) (hpb : p ≠ b) (M : MemIs bs base m) (hb : base + 16 ≤ 40) (hk : k < 4096) {a : Int} (ea : a = (k : Int))
    {Q : Int → Int → Heap → Prop} (hq : ∀ h', Keeps none_ h h' → Q (byteAt bs base k) 0 h') : palisadelaw24_Flat_Load U (some ⟨gb, 0⟩) a 1 Q h := by
  subst ea
  unfold palisadelaw24_Flat_Load
  rw [der_some]
  refine S.rI hg rfl (br_f (decide_eq_false (by rw [show IntKind.u64.wrap (IntKind.i64.wrap (256 * 16)) = 4096 by decide]; omega)) ?_)
  rw [der_some]
  refine S.rP hg rfl ?_
  rw [der_some]
  refine S.rI hg rfl ?_
  have e : IntKind.u64.wrap ((k : Int) + IntKind.u64.wrap (IntKind.i64.wrap (256 * (base : Int)))) = ((256 * base + k : Nat) : Int) := by
    rw [wrap64 (x := 256 * (base : Int)), wrapu64 (x := 256 * (base : Int)), wrapu64] <;> omega
  rw [e]
  have hok : errN 1 bs.length ((256 * base + k : Nat) : Int) = 0 := by
    rw [M.len]
    unfold errN
    rw [if_neg (by simp), show lies 10240 ((256 * base + k : Nat) : Int) ((1 : Nat) : Int) = true by simp [lies]; omega]
    rfl
  refine LoadN_of (w.keeps S.keeps hw) (mrep S hp hm hpb M.len) (n := 1) (.inl rfl) hk1 (by omega) (by omega) (fun _ g1 k1 => ?_) (fun hne => absurd hok hne) rfl
  exact hq g1 k1

theorem tell_gen (hu : GU U U') {cb gb pm bm base c : Nat} {bs : List UInt8} {mk mk' : Bool} {rest : List V} {m : Nat → Int} {st : Int} {ps : List Pt} {q : Pt} {k : Nat} (M : MemIs bs base m) (hb : base + 16 ≤ 40) (hst : 0 ≤ st ∧ st ≤ 255) (hps : 1 ≤ ps.length ∧ ps.length ≤ 8) (hq' : ps[ps.length - 1]? = some q) (hk : q.a = (k : Int)) (hk2 : k < 4096)
    (S : St h0 W [(cb, .cells (pcells ps ++ rest) mk'), (gb, .cells (flatC pm (base : Int)) false), (pm, .cells (memC bm) false), (bm, .cells (strCells bs) mk)] h) {Q : Int → Heap → Prop}
    (hq0 : q.w = false → ∀ h', St h0 W [(cb, .cells (pcells ps ++ rest) mk'), (gb, .cells (flatC pm (base : Int)) false), (pm, .cells (memC bm) false), (bm, .cells (strCells bs) mk)] h' → Q 0 h')
    (hq1 : q.w = true → ∀ bs' m' mk2 h', MemIs bs' base m' → (∀ j, j < 512 → j ≠ k / 8 → m' j = m j) → byteAt bs' base k = st → St h0 W [(cb, .cells (pcells ps ++ rest) mk'), (gb, .cells (flatC pm (base : Int)) false), (pm, .cells (memC bm) false), (bm, .cells (strCells bs') mk2)] h' → Q 1 h') :
    backend_tell U (.iface 4 (.ptr (some ⟨gb, 0⟩))) 0 ⟨some ⟨cb, 0⟩, ps.length, c⟩ st Q h := by
  have c0 : (pcells ps ++ rest)[0 + (ps.length - 1) * 3 + 0]? = some (.int .u64 q.a) := by rw [Nat.zero_add]; exact (pcells_get hq' (by decide)).trans rfl
  have c1 : (pcells ps ++ rest)[0 + (ps.length - 1) * 3 + 1]? = some (.int .i64 q.l) := by rw [Nat.zero_add]; exact (pcells_get hq' (by decide)).trans rfl
  have c2 : (pcells ps ++ rest)[0 + (ps.length - 1) * 3 + 2]? = some (.bool q.w) := by rw [Nat.zero_add]; exact (pcells_get hq' (by decide)).trans rfl
  unfold backend_tell
  ((with_reducible apply St.al); assumption; intro b1 g_ S_)
  repeat (first | ((with_reducible first|apply St.rI|apply St.rB|apply St.rP|apply St.rSl|apply St.rV|apply St.rM|apply St.rS|apply St.rN|apply St.ckA);assumption;(first|exact i0|exact i1|exact i2|exact i3|exact i4|exact i5|exact i6|exact i7|exact i8|exact i9|exact i10|exact i11|exact i12|exact i13|exact i14|exact i15);(first|rfl|exact Nat.le_of_ble_eq_true rfl)) | with_reducible refine der_of ?_ | ((with_reducible refine br_t ?_ ?_);rfl) | ((with_reducible refine br_f ?_ ?_);rfl) | ((with_reducible refine br_t ?_ ?_);assumption) | ((with_reducible refine br_f ?_ ?_);assumption) | ((with_reducible first|apply St.wrL|apply St.wr);assumption;(first|exact i0|exact i1|exact i2|exact i3|exact i4|exact i5|exact i6|exact i7|exact i8|exact i9|exact i10|exact i11|exact i12|exact i13|exact i14|exact i15);(first|exact Nat.le_of_ble_eq_true rfl|rfl);intro g_ S_;simp only [Ptr.add, List.set, splice, List.take, List.drop, List.nil_append, List.append_nil, List.cons_append, List.length_cons, List.length_nil, Nat.zero_add, Nat.add_zero, Nat.reduceAdd, Nat.reduceMul, Nat.mul_one, Int.toNat_zero, Int.toNat_one, Int.reduceToNat] at S_) | ((with_reducible refine ix_of ?_ ?_ ?_);exact of_decide_eq_true rfl;exact of_decide_eq_true rfl) | ((with_reducible first|refine nz_of ?_ ?_|refine nneg_of ?_ ?_);exact of_decide_eq_true rfl) | ((with_reducible refine chk_of ?_ ?_);rfl) | (with_reducible first|apply asI_of|apply asB_of|apply asP_of|apply asSl_of|apply asAggV_of|apply asTupV_of|apply asCons_of|apply asNil_of|apply isNil_n|apply isNil_i|apply nilC_i|apply nilCU_i|apply nilCU_f|apply mthC_i) | ((with_reducible refine And.intro ?_ ?_);rfl) | ((with_reducible apply exAnd);rfl))
  have ei : IntKind.i64.wrap ((ps.length : Int) - 1) = ((ps.length - 1 : Nat) : Int) := by rw [wrap64] <;> omega
  show ix (IntKind.i64.wrap ((ps.length : Int) - 1)) ps.length _
  rw [ei]
  refine ix_of (by omega) (by omega) ?_
  rw [der_some, Int.toNat_natCast]
  refine S_.rI i1 c0 (S_.rI i1 c1 (S_.rB i1 c2 ?_))
  ((with_reducible apply St.al); assumption; intro b2 g_ S_)
  repeat (first | ((with_reducible first|apply St.rI|apply St.rB|apply St.rP|apply St.rSl|apply St.rV|apply St.rM|apply St.rS|apply St.rN|apply St.ckA);assumption;(first|exact i0|exact i1|exact i2|exact i3|exact i4|exact i5|exact i6|exact i7|exact i8|exact i9|exact i10|exact i11|exact i12|exact i13|exact i14|exact i15);(first|rfl|exact Nat.le_of_ble_eq_true rfl)) | with_reducible refine der_of ?_ | ((with_reducible refine br_t ?_ ?_);rfl) | ((with_reducible refine br_f ?_ ?_);rfl) | ((with_reducible refine br_t ?_ ?_);assumption) | ((with_reducible refine br_f ?_ ?_);assumption) | ((with_reducible first|apply St.wrL|apply St.wr);assumption;(first|exact i0|exact i1|exact i2|exact i3|exact i4|exact i5|exact i6|exact i7|exact i8|exact i9|exact i10|exact i11|exact i12|exact i13|exact i14|exact i15);(first|exact Nat.le_of_ble_eq_true rfl|rfl);intro g_ S_;simp only [Ptr.add, List.set, splice, List.take, List.drop, List.nil_append, List.append_nil, List.cons_append, List.length_cons, List.length_nil, Nat.zero_add, Nat.add_zero, Nat.reduceAdd, Nat.reduceMul, Nat.mul_one, Int.toNat_zero, Int.toNat_one, Int.reduceToNat] at S_) | ((with_reducible refine ix_of ?_ ?_ ?_);exact of_decide_eq_true rfl;exact of_decide_eq_true rfl) | ((with_reducible first|refine nz_of ?_ ?_|refine nneg_of ?_ ?_);exact of_decide_eq_true rfl) | ((with_reducible refine chk_of ?_ ?_);rfl) | (with_reducible first|apply asI_of|apply asB_of|apply asP_of|apply asSl_of|apply asAggV_of|apply asTupV_of|apply asCons_of|apply asNil_of|apply isNil_n|apply isNil_i|apply nilC_i|apply nilCU_i|apply nilCU_f|apply mthC_i) | ((with_reducible refine And.intro ?_ ?_);rfl) | ((with_reducible apply exAnd);rfl))
  cases hw : q.w
  · repeat (first | ((with_reducible first|apply St.rI|apply St.rB|apply St.rP|apply St.rSl|apply St.rV|apply St.rM|apply St.rS|apply St.rN|apply St.ckA);assumption;(first|exact i0|exact i1|exact i2|exact i3|exact i4|exact i5|exact i6|exact i7|exact i8|exact i9|exact i10|exact i11|exact i12|exact i13|exact i14|exact i15);(first|rfl|exact Nat.le_of_ble_eq_true rfl)) | with_reducible refine der_of ?_ | ((with_reducible refine br_t ?_ ?_);rfl) | ((with_reducible refine br_f ?_ ?_);rfl) | ((with_reducible refine br_t ?_ ?_);assumption) | ((with_reducible refine br_f ?_ ?_);assumption) | ((with_reducible first|apply St.wrL|apply St.wr);assumption;(first|exact i0|exact i1|exact i2|exact i3|exact i4|exact i5|exact i6|exact i7|exact i8|exact i9|exact i10|exact i11|exact i12|exact i13|exact i14|exact i15);(first|exact Nat.le_of_ble_eq_true rfl|rfl);intro g_ S_;simp only [Ptr.add, List.set, splice, List.take, List.drop, List.nil_append, List.append_nil, List.cons_append, List.length_cons, List.length_nil, Nat.zero_add, Nat.add_zero, Nat.reduceAdd, Nat.reduceMul, Nat.mul_one, Int.toNat_zero, Int.toNat_one, Int.reduceToNat] at S_) | ((with_reducible refine ix_of ?_ ?_ ?_);exact of_decide_eq_true rfl;exact of_decide_eq_true rfl) | ((with_reducible first|refine nz_of ?_ ?_|refine nneg_of ?_ ?_);exact of_decide_eq_true rfl) | ((with_reducible refine chk_of ?_ ?_);rfl) | (with_reducible first|apply asI_of|apply asB_of|apply asP_of|apply asSl_of|apply asAggV_of|apply asTupV_of|apply asCons_of|apply asNil_of|apply isNil_n|apply isNil_i|apply nilC_i|apply nilCU_i|apply nilCU_f|apply mthC_i) | ((with_reducible refine And.intro ?_ ?_);rfl) | ((with_reducible apply exAnd);rfl))
    exact hq0 hw _ (St.pick S_ [2, 3, 4, 5] (by decide) rfl)
  · repeat (first | ((with_reducible first|apply St.rI|apply St.rB|apply St.rP|apply St.rSl|apply St.rV|apply St.rM|apply St.rS|apply St.rN|apply St.ckA);assumption;(first|exact i0|exact i1|exact i2|exact i3|exact i4|exact i5|exact i6|exact i7|exact i8|exact i9|exact i10|exact i11|exact i12|exact i13|exact i14|exact i15);(first|rfl|exact Nat.le_of_ble_eq_true rfl)) | with_reducible refine der_of ?_ | ((with_reducible refine br_t ?_ ?_);rfl) | ((with_reducible refine br_f ?_ ?_);rfl) | ((with_reducible refine br_t ?_ ?_);assumption) | ((with_reducible refine br_f ?_ ?_);assumption) | ((with_reducible first|apply St.wrL|apply St.wr);assumption;(first|exact i0|exact i1|exact i2|exact i3|exact i4|exact i5|exact i6|exact i7|exact i8|exact i9|exact i10|exact i11|exact i12|exact i13|exact i14|exact i15);(first|exact Nat.le_of_ble_eq_true rfl|rfl);intro g_ S_;simp only [Ptr.add, List.set, splice, List.take, List.drop, List.nil_append, List.append_nil, List.cons_append, List.length_cons, List.length_nil, Nat.zero_add, Nat.add_zero, Nat.reduceAdd, Nat.reduceMul, Nat.mul_one, Int.toNat_zero, Int.toNat_one, Int.reduceToNat] at S_) | ((with_reducible refine ix_of ?_ ?_ ?_);exact of_decide_eq_true rfl;exact of_decide_eq_true rfl) | ((with_reducible first|refine nz_of ?_ ?_|refine nneg_of ?_ ?_);exact of_decide_eq_true rfl) | ((with_reducible refine chk_of ?_ ?_);rfl) | (with_reducible first|apply asI_of|apply asB_of|apply asP_of|apply asSl_of|apply asAggV_of|apply asTupV_of|apply asCons_of|apply asNil_of|apply isNil_n|apply isNil_i|apply nilC_i|apply nilCU_i|apply nilCU_f|apply mthC_i) | ((with_reducible refine And.intro ?_ ?_);rfl) | ((with_reducible apply exAnd);rfl))
    ((with_reducible apply St.al); assumption; intro c3 g_ S_)
    have H : Held g_ ⟨some ⟨c3, 0⟩, 1, 1⟩ 1 (strCells [UInt8.ofNat st.toNat]) := by
      refine ⟨rfl, fun p hp i v hv => ?_, fun hp => by cases hp⟩
      cases hp
      rw [get_cells (S_.obj i0), Nat.zero_add, ← hv]
      have : ((UInt8.ofNat st.toNat).toNat : Int) = st := by
        have h1 : (UInt8.ofNat st.toNat).toNat = st.toNat % 256 := by simp
        rw [h1]; omega
      have e : strCells [UInt8.ofNat st.toNat] = [V.int .u8 st] := by simp only [strCells, List.map_cons, List.map_nil, this]
      rw [e]
    refine hu.put _ _ _ _ _ (gput2 (g := 4) (p := 5) (b := 6) (k := k) S_ rfl rfl rfl (by decide) M hb H (by show k + 1 ≤ 4096; omega) hk (fun mk2 g1 S1 => ?_))
    simp only [List.set] at S1
    clear S_
    repeat (first | ((with_reducible first|apply St.rI|apply St.rB|apply St.rP|apply St.rSl|apply St.rV|apply St.rM|apply St.rS|apply St.rN|apply St.ckA);assumption;(first|exact i0|exact i1|exact i2|exact i3|exact i4|exact i5|exact i6|exact i7|exact i8|exact i9|exact i10|exact i11|exact i12|exact i13|exact i14|exact i15);(first|rfl|exact Nat.le_of_ble_eq_true rfl)) | with_reducible refine der_of ?_ | ((with_reducible refine br_t ?_ ?_);rfl) | ((with_reducible refine br_f ?_ ?_);rfl) | ((with_reducible refine br_t ?_ ?_);assumption) | ((with_reducible refine br_f ?_ ?_);assumption) | ((with_reducible first|apply St.wrL|apply St.wr);assumption;(first|exact i0|exact i1|exact i2|exact i3|exact i4|exact i5|exact i6|exact i7|exact i8|exact i9|exact i10|exact i11|exact i12|exact i13|exact i14|exact i15);(first|exact Nat.le_of_ble_eq_true rfl|rfl);intro g_ S_;simp only [Ptr.add, List.set, splice, List.take, List.drop, List.nil_append, List.append_nil, List.cons_append, List.length_cons, List.length_nil, Nat.zero_add, Nat.add_zero, Nat.reduceAdd, Nat.reduceMul, Nat.mul_one, Int.toNat_zero, Int.toNat_one, Int.reduceToNat] at S_) | ((with_reducible refine ix_of ?_ ?_ ?_);exact of_decide_eq_true rfl;exact of_decide_eq_true rfl) | ((with_reducible first|refine nz_of ?_ ?_|refine nneg_of ?_ ?_);exact of_decide_eq_true rfl) | ((with_reducible refine chk_of ?_ ?_);rfl) | (with_reducible first|apply asI_of|apply asB_of|apply asP_of|apply asSl_of|apply asAggV_of|apply asTupV_of|apply asCons_of|apply asNil_of|apply isNil_n|apply isNil_i|apply nilC_i|apply nilCU_i|apply nilCU_f|apply mthC_i) | ((with_reducible refine And.intro ?_ ?_);rfl) | ((with_reducible apply exAnd);rfl))
    obtain ⟨m', M', hm'⟩ := M.other (xs := [UInt8.ofNat st.toNat]) (a := 256 * base + k) (by simp only [List.length_cons, List.length_nil]; omega)
    have hl := M.len
    refine hq1 hw _ m' mk2 _ M' (fun j hj hne => hm' j hj (by simp only [List.length_cons, List.length_nil]; omega)) ?_ (St.pick S1 [3, 4, 5, 6] (by decide) rfl)
    rw [byteAt_put (by omega)]
    have h1 : (UInt8.ofNat st.toNat).toNat = st.toNat % 256 := by simp
    rw [h1]; omega

end
end Go.Back

/- What a request that may not be is answered. -/
namespace Go.Back
open Go.Lift Go.Fn Go.Mem Go.Frames

section
variable {U U' : Ifc} {x : Nat → Int} {h0 h : Heap} {W : Nat → Prop}

/-- Three parts are read, in whatever order. -/
theorem ask_tree {bp : Option Ptr} {gv : V} {cb c : Nat} {a0 l0 a1 l1 a2 l2 : Int} {w0 w1 w2 : Bool} {rest : List V} {mk' : Bool} {R : List (Nat × HO)} (S : St h0 W ([(cb, .cells ([.int .u64 a0, .int .i64 l0, .bool w0, .int .u64 a1, .int .i64 l1, .bool w1, .int .u64 a2, .int .i64 l2, .bool w2] ++ rest) mk')] ++ R) h)
    {Q : Int → Bool → Int → Int → Int → Heap → Prop} (fin : ∀ (c2 p3 p4 p5 : Nat) (g : Heap), St h0 W ([(c2, .cells [.int .i64 0, .bool false, .int .i64 0, .int .i64 0] false), (p3, .cells [.int .u64 a0, .int .i64 l0, .bool w0] false), (p4, .cells [.int .u64 a1, .int .i64 l1, .bool w1] false), (p5, .cells [.int .u64 a2, .int .i64 l2, .bool w2] false), (cb, .cells ([.int .u64 a0, .int .i64 l0, .bool w0, .int .u64 a1, .int .i64 l1, .bool w1, .int .u64 a2, .int .i64 l2, .bool w2] ++ rest) mk')] ++ R) g → backend_Block_ask.j4 U bp gv ⟨c2, 0⟩ ⟨p3, 0⟩ ⟨p4, 0⟩ ⟨p5, 0⟩ Q g) :
    backend_Block_ask U bp gv 0 ⟨some ⟨cb, 0⟩, 3, c⟩ Q h := by
  simp only [List.cons_append, List.nil_append] at S
  unfold backend_Block_ask
  ((with_reducible apply St.al); assumption; intro c1 g_ S_)
  ((with_reducible apply St.al); assumption; intro c2 g_ S_)
  repeat (first | ((with_reducible first|apply St.rI|apply St.rB|apply St.rP|apply St.rSl|apply St.rV|apply St.rM|apply St.rS|apply St.rN|apply St.ckA);assumption;(first|exact i0|exact i1|exact i2|exact i3|exact i4|exact i5|exact i6|exact i7|exact i8|exact i9|exact i10|exact i11|exact i12|exact i13|exact i14|exact i15);(first|rfl|exact Nat.le_of_ble_eq_true rfl)) | with_reducible refine der_of ?_ | ((with_reducible refine br_t ?_ ?_);rfl) | ((with_reducible refine br_f ?_ ?_);rfl) | ((with_reducible refine br_t ?_ ?_);assumption) | ((with_reducible refine br_f ?_ ?_);assumption) | ((with_reducible first|apply St.wrL|apply St.wr);assumption;(first|exact i0|exact i1|exact i2|exact i3|exact i4|exact i5|exact i6|exact i7|exact i8|exact i9|exact i10|exact i11|exact i12|exact i13|exact i14|exact i15);(first|exact Nat.le_of_ble_eq_true rfl|rfl);intro g_ S_;simp only [Ptr.add, List.set, splice, List.take, List.drop, List.nil_append, List.append_nil, List.cons_append, List.length_cons, List.length_nil, Nat.zero_add, Nat.add_zero, Nat.reduceAdd, Nat.reduceMul, Nat.mul_one, Int.toNat_zero, Int.toNat_one, Int.reduceToNat] at S_) | ((with_reducible refine ix_of ?_ ?_ ?_);exact of_decide_eq_true rfl;exact of_decide_eq_true rfl) | ((with_reducible first|refine nz_of ?_ ?_|refine nneg_of ?_ ?_);exact of_decide_eq_true rfl) | ((with_reducible refine chk_of ?_ ?_);rfl) | (with_reducible first|apply asI_of|apply asB_of|apply asP_of|apply asSl_of|apply asAggV_of|apply asTupV_of|apply asCons_of|apply asNil_of|apply isNil_n|apply isNil_i|apply nilC_i|apply nilCU_i|apply nilCU_f|apply mthC_i) | ((with_reducible refine And.intro ?_ ?_);rfl) | ((with_reducible apply exAnd);rfl))
  refine ⟨?_, ?_⟩
  all_goals repeat (first | ((with_reducible first|apply St.rI|apply St.rB|apply St.rP|apply St.rSl|apply St.rV|apply St.rM|apply St.rS|apply St.rN|apply St.ckA);assumption;(first|exact i0|exact i1|exact i2|exact i3|exact i4|exact i5|exact i6|exact i7|exact i8|exact i9|exact i10|exact i11|exact i12|exact i13|exact i14|exact i15);(first|rfl|exact Nat.le_of_ble_eq_true rfl)) | with_reducible refine der_of ?_ | ((with_reducible refine br_t ?_ ?_);rfl) | ((with_reducible refine br_f ?_ ?_);rfl) | ((with_reducible refine br_t ?_ ?_);assumption) | ((with_reducible refine br_f ?_ ?_);assumption) | ((with_reducible first|apply St.wrL|apply St.wr);assumption;(first|exact i0|exact i1|exact i2|exact i3|exact i4|exact i5|exact i6|exact i7|exact i8|exact i9|exact i10|exact i11|exact i12|exact i13|exact i14|exact i15);(first|exact Nat.le_of_ble_eq_true rfl|rfl);intro g_ S_;simp only [Ptr.add, List.set, splice, List.take, List.drop, List.nil_append, List.append_nil, List.cons_append, List.length_cons, List.length_nil, Nat.zero_add, Nat.add_zero, Nat.reduceAdd, Nat.reduceMul, Nat.mul_one, Int.toNat_zero, Int.toNat_one, Int.reduceToNat] at S_) | ((with_reducible first|apply St.al|apply St.alM);assumption;intro b_ g_ S_) | ((with_reducible refine ix_of ?_ ?_ ?_);exact of_decide_eq_true rfl;exact of_decide_eq_true rfl) | ((with_reducible first|refine nz_of ?_ ?_|refine nneg_of ?_ ?_);exact of_decide_eq_true rfl) | ((with_reducible refine chk_of ?_ ?_);rfl) | (with_reducible first|apply asI_of|apply asB_of|apply asP_of|apply asSl_of|apply asAggV_of|apply asTupV_of|apply asCons_of|apply asNil_of|apply isNil_n|apply isNil_i|apply nilC_i|apply nilCU_i|apply nilCU_f|apply mthC_i) | ((with_reducible refine And.intro ?_ ?_);rfl) | ((with_reducible apply exAnd);rfl))
  all_goals try (with_reducible refine And.intro ?_ ?_)
  all_goals repeat (first | ((with_reducible first|apply St.rI|apply St.rB|apply St.rP|apply St.rSl|apply St.rV|apply St.rM|apply St.rS|apply St.rN|apply St.ckA);assumption;(first|exact i0|exact i1|exact i2|exact i3|exact i4|exact i5|exact i6|exact i7|exact i8|exact i9|exact i10|exact i11|exact i12|exact i13|exact i14|exact i15);(first|rfl|exact Nat.le_of_ble_eq_true rfl)) | with_reducible refine der_of ?_ | ((with_reducible refine br_t ?_ ?_);rfl) | ((with_reducible refine br_f ?_ ?_);rfl) | ((with_reducible refine br_t ?_ ?_);assumption) | ((with_reducible refine br_f ?_ ?_);assumption) | ((with_reducible first|apply St.wrL|apply St.wr);assumption;(first|exact i0|exact i1|exact i2|exact i3|exact i4|exact i5|exact i6|exact i7|exact i8|exact i9|exact i10|exact i11|exact i12|exact i13|exact i14|exact i15);(first|exact Nat.le_of_ble_eq_true rfl|rfl);intro g_ S_;simp only [Ptr.add, List.set, splice, List.take, List.drop, List.nil_append, List.append_nil, List.cons_append, List.length_cons, List.length_nil, Nat.zero_add, Nat.add_zero, Nat.reduceAdd, Nat.reduceMul, Nat.mul_one, Int.toNat_zero, Int.toNat_one, Int.reduceToNat] at S_) | ((with_reducible first|apply St.al|apply St.alM);assumption;intro b_ g_ S_) | ((with_reducible refine ix_of ?_ ?_ ?_);exact of_decide_eq_true rfl;exact of_decide_eq_true rfl) | ((with_reducible first|refine nz_of ?_ ?_|refine nneg_of ?_ ?_);exact of_decide_eq_true rfl) | ((with_reducible refine chk_of ?_ ?_);rfl) | (with_reducible first|apply asI_of|apply asB_of|apply asP_of|apply asSl_of|apply asAggV_of|apply asTupV_of|apply asCons_of|apply asNil_of|apply isNil_n|apply isNil_i|apply nilC_i|apply nilCU_i|apply nilCU_f|apply mthC_i) | ((with_reducible refine And.intro ?_ ?_);rfl) | ((with_reducible apply exAnd);rfl))
  all_goals try (with_reducible refine And.intro ?_ ?_)
  all_goals repeat (first | ((with_reducible first|apply St.rI|apply St.rB|apply St.rP|apply St.rSl|apply St.rV|apply St.rM|apply St.rS|apply St.rN|apply St.ckA);assumption;(first|exact i0|exact i1|exact i2|exact i3|exact i4|exact i5|exact i6|exact i7|exact i8|exact i9|exact i10|exact i11|exact i12|exact i13|exact i14|exact i15);(first|rfl|exact Nat.le_of_ble_eq_true rfl)) | with_reducible refine der_of ?_ | ((with_reducible refine br_t ?_ ?_);rfl) | ((with_reducible refine br_f ?_ ?_);rfl) | ((with_reducible refine br_t ?_ ?_);assumption) | ((with_reducible refine br_f ?_ ?_);assumption) | ((with_reducible first|apply St.wrL|apply St.wr);assumption;(first|exact i0|exact i1|exact i2|exact i3|exact i4|exact i5|exact i6|exact i7|exact i8|exact i9|exact i10|exact i11|exact i12|exact i13|exact i14|exact i15);(first|exact Nat.le_of_ble_eq_true rfl|rfl);intro g_ S_;simp only [Ptr.add, List.set, splice, List.take, List.drop, List.nil_append, List.append_nil, List.cons_append, List.length_cons, List.length_nil, Nat.zero_add, Nat.add_zero, Nat.reduceAdd, Nat.reduceMul, Nat.mul_one, Int.toNat_zero, Int.toNat_one, Int.reduceToNat] at S_) | ((with_reducible first|apply St.al|apply St.alM);assumption;intro b_ g_ S_) | ((with_reducible refine ix_of ?_ ?_ ?_);exact of_decide_eq_true rfl;exact of_decide_eq_true rfl) | ((with_reducible first|refine nz_of ?_ ?_|refine nneg_of ?_ ?_);exact of_decide_eq_true rfl) | ((with_reducible refine chk_of ?_ ?_);rfl) | (with_reducible first|apply asI_of|apply asB_of|apply asP_of|apply asSl_of|apply asAggV_of|apply asTupV_of|apply asCons_of|apply asNil_of|apply isNil_n|apply isNil_i|apply nilC_i|apply nilCU_i|apply nilCU_f|apply mthC_i) | ((with_reducible refine And.intro ?_ ?_);rfl) | ((with_reducible apply exAnd);rfl))
  all_goals try (with_reducible refine And.intro ?_ ?_)
  all_goals repeat (first | ((with_reducible first|apply St.rI|apply St.rB|apply St.rP|apply St.rSl|apply St.rV|apply St.rM|apply St.rS|apply St.rN|apply St.ckA);assumption;(first|exact i0|exact i1|exact i2|exact i3|exact i4|exact i5|exact i6|exact i7|exact i8|exact i9|exact i10|exact i11|exact i12|exact i13|exact i14|exact i15);(first|rfl|exact Nat.le_of_ble_eq_true rfl)) | with_reducible refine der_of ?_ | ((with_reducible refine br_t ?_ ?_);rfl) | ((with_reducible refine br_f ?_ ?_);rfl) | ((with_reducible refine br_t ?_ ?_);assumption) | ((with_reducible refine br_f ?_ ?_);assumption) | ((with_reducible first|apply St.wrL|apply St.wr);assumption;(first|exact i0|exact i1|exact i2|exact i3|exact i4|exact i5|exact i6|exact i7|exact i8|exact i9|exact i10|exact i11|exact i12|exact i13|exact i14|exact i15);(first|exact Nat.le_of_ble_eq_true rfl|rfl);intro g_ S_;simp only [Ptr.add, List.set, splice, List.take, List.drop, List.nil_append, List.append_nil, List.cons_append, List.length_cons, List.length_nil, Nat.zero_add, Nat.add_zero, Nat.reduceAdd, Nat.reduceMul, Nat.mul_one, Int.toNat_zero, Int.toNat_one, Int.reduceToNat] at S_) | ((with_reducible first|apply St.al|apply St.alM);assumption;intro b_ g_ S_) | ((with_reducible refine ix_of ?_ ?_ ?_);exact of_decide_eq_true rfl;exact of_decide_eq_true rfl) | ((with_reducible first|refine nz_of ?_ ?_|refine nneg_of ?_ ?_);exact of_decide_eq_true rfl) | ((with_reducible refine chk_of ?_ ?_);rfl) | (with_reducible first|apply asI_of|apply asB_of|apply asP_of|apply asSl_of|apply asAggV_of|apply asTupV_of|apply asCons_of|apply asNil_of|apply isNil_n|apply isNil_i|apply nilC_i|apply nilCU_i|apply nilCU_f|apply mthC_i) | ((with_reducible refine And.intro ?_ ?_);rfl) | ((with_reducible apply exAnd);rfl))
  all_goals (first | (apply fin; exact St.pickR (A := [_, _, _, (c2, .cells [.int .i64 0, .bool false, .int .i64 0, .int .i64 0] false), _, (cb, .cells ([.int .u64 a0, .int .i64 l0, .bool w0, .int .u64 a1, .int .i64 l1, .bool w1, .int .u64 a2, .int .i64 l2, .bool w2] ++ rest) mk')]) (by assumption) [3, 0, 1, 2, 5] (by decide) rfl) | (apply fin; exact St.pickR (A := [_, _, _, (c2, .cells [.int .i64 0, .bool false, .int .i64 0, .int .i64 0] false), _, (cb, .cells ([.int .u64 a0, .int .i64 l0, .bool w0, .int .u64 a1, .int .i64 l1, .bool w1, .int .u64 a2, .int .i64 l2, .bool w2] ++ rest) mk')]) (by assumption) [3, 0, 2, 1, 5] (by decide) rfl) | (apply fin; exact St.pickR (A := [_, _, _, (c2, .cells [.int .i64 0, .bool false, .int .i64 0, .int .i64 0] false), _, (cb, .cells ([.int .u64 a0, .int .i64 l0, .bool w0, .int .u64 a1, .int .i64 l1, .bool w1, .int .u64 a2, .int .i64 l2, .bool w2] ++ rest) mk')]) (by assumption) [3, 1, 0, 2, 5] (by decide) rfl) | (apply fin; exact St.pickR (A := [_, _, _, (c2, .cells [.int .i64 0, .bool false, .int .i64 0, .int .i64 0] false), _, (cb, .cells ([.int .u64 a0, .int .i64 l0, .bool w0, .int .u64 a1, .int .i64 l1, .bool w1, .int .u64 a2, .int .i64 l2, .bool w2] ++ rest) mk')]) (by assumption) [3, 1, 2, 0, 5] (by decide) rfl) | (apply fin; exact St.pickR (A := [_, _, _, (c2, .cells [.int .i64 0, .bool false, .int .i64 0, .int .i64 0] false), _, (cb, .cells ([.int .u64 a0, .int .i64 l0, .bool w0, .int .u64 a1, .int .i64 l1, .bool w1, .int .u64 a2, .int .i64 l2, .bool w2] ++ rest) mk')]) (by assumption) [3, 2, 0, 1, 5] (by decide) rfl) | (apply fin; exact St.pickR (A := [_, _, _, (c2, .cells [.int .i64 0, .bool false, .int .i64 0, .int .i64 0] false), _, (cb, .cells ([.int .u64 a0, .int .i64 l0, .bool w0, .int .u64 a1, .int .i64 l1, .bool w1, .int .u64 a2, .int .i64 l2, .bool w2] ++ rest) mk')]) (by assumption) [3, 2, 1, 0, 5] (by decide) rfl))

/-- Parts that are none of a request. -/
theorem ask_form {bp : Option Ptr} {gv : V} {cb c : Nat} {ps : List Pt} {rest : List V} {mk' : Bool} {R : List (Nat × HO)} (hl : ∀ p, p ∈ ps → p.l ≤ 16) (S : St h0 W ([(cb, .cells (pcells ps ++ rest) mk')] ++ R) h)
    {Q : Int → Bool → Int → Int → Int → Heap → Prop} (hq : ∀ h', St h0 W ([(cb, .cells (pcells ps ++ rest) mk')] ++ R) h' → Q 0 false 0 0 2 h') :
    backend_Block_ask U bp gv 0 ⟨some ⟨cb, 0⟩, ps.length, c⟩ Q h := by
  by_cases e : ps.length = 3
  · obtain ⟨⟨a0, l0, w0⟩, ⟨a1, l1, w1⟩, ⟨a2, l2, w2⟩, rfl⟩ : ∃ p q r, ps = [p, q, r] := by
      match ps, e with
      | [p, q, r], _ => exact ⟨p, q, r, rfl⟩
    have hl1 : l1 ≤ 16 := hl ⟨a1, l1, w1⟩ (by simp)
    refine ask_tree (S := S) (fun c2 p3 p4 p5 g S => ?_)
    simp only [List.cons_append, List.nil_append] at S
    have j5 : backend_Block_ask.j5 U ⟨c2, 0⟩ Q g := by
      unfold backend_Block_ask.j5
      repeat (first | ((with_reducible first|apply St.rI|apply St.rB|apply St.rP|apply St.rSl|apply St.rV|apply St.rM|apply St.rS|apply St.rN|apply St.ckA);assumption;(first|exact i0|exact i1|exact i2|exact i3|exact i4|exact i5|exact i6|exact i7|exact i8|exact i9|exact i10|exact i11|exact i12|exact i13|exact i14|exact i15);(first|rfl|exact Nat.le_of_ble_eq_true rfl)) | with_reducible refine der_of ?_ | ((with_reducible refine br_t ?_ ?_);rfl) | ((with_reducible refine br_f ?_ ?_);rfl) | ((with_reducible refine br_t ?_ ?_);assumption) | ((with_reducible refine br_f ?_ ?_);assumption) | ((with_reducible first|apply St.wrL|apply St.wr);assumption;(first|exact i0|exact i1|exact i2|exact i3|exact i4|exact i5|exact i6|exact i7|exact i8|exact i9|exact i10|exact i11|exact i12|exact i13|exact i14|exact i15);(first|exact Nat.le_of_ble_eq_true rfl|rfl);intro g_ S_;simp only [Ptr.add, List.set, splice, List.take, List.drop, List.nil_append, List.append_nil, List.cons_append, List.length_cons, List.length_nil, Nat.zero_add, Nat.add_zero, Nat.reduceAdd, Nat.reduceMul, Nat.mul_one, Int.toNat_zero, Int.toNat_one, Int.reduceToNat] at S_) | ((with_reducible refine ix_of ?_ ?_ ?_);exact of_decide_eq_true rfl;exact of_decide_eq_true rfl) | ((with_reducible first|refine nz_of ?_ ?_|refine nneg_of ?_ ?_);exact of_decide_eq_true rfl) | ((with_reducible refine chk_of ?_ ?_);rfl) | (with_reducible first|apply asI_of|apply asB_of|apply asP_of|apply asSl_of|apply asAggV_of|apply asTupV_of|apply asCons_of|apply asNil_of|apply isNil_n|apply isNil_i|apply nilC_i|apply nilCU_i|apply nilCU_f|apply mthC_i) | ((with_reducible refine And.intro ?_ ?_);rfl) | ((with_reducible apply exAnd);rfl))
      exact hq _ (St.pickR (A := [_, _, _, _, (cb, .cells (pcells [⟨a0, l0, w0⟩, ⟨a1, l1, w1⟩, ⟨a2, l2, w2⟩] ++ rest) mk')]) S_ [4] (by decide) rfl)
    unfold backend_Block_ask.j4
    repeat (first | ((with_reducible first|apply St.rI|apply St.rB|apply St.rP|apply St.rSl|apply St.rV|apply St.rM|apply St.rS|apply St.rN|apply St.ckA);assumption;(first|exact i0|exact i1|exact i2|exact i3|exact i4|exact i5|exact i6|exact i7|exact i8|exact i9|exact i10|exact i11|exact i12|exact i13|exact i14|exact i15);(first|rfl|exact Nat.le_of_ble_eq_true rfl)) | with_reducible refine der_of ?_ | ((with_reducible refine br_t ?_ ?_);rfl) | ((with_reducible refine br_f ?_ ?_);rfl) | ((with_reducible refine br_t ?_ ?_);assumption) | ((with_reducible refine br_f ?_ ?_);assumption) | ((with_reducible first|apply St.wrL|apply St.wr);assumption;(first|exact i0|exact i1|exact i2|exact i3|exact i4|exact i5|exact i6|exact i7|exact i8|exact i9|exact i10|exact i11|exact i12|exact i13|exact i14|exact i15);(first|exact Nat.le_of_ble_eq_true rfl|rfl);intro g_ S_;simp only [Ptr.add, List.set, splice, List.take, List.drop, List.nil_append, List.append_nil, List.cons_append, List.length_cons, List.length_nil, Nat.zero_add, Nat.add_zero, Nat.reduceAdd, Nat.reduceMul, Nat.mul_one, Int.toNat_zero, Int.toNat_one, Int.reduceToNat] at S_) | ((with_reducible refine ix_of ?_ ?_ ?_);exact of_decide_eq_true rfl;exact of_decide_eq_true rfl) | ((with_reducible first|refine nz_of ?_ ?_|refine nneg_of ?_ ?_);exact of_decide_eq_true rfl) | ((with_reducible refine chk_of ?_ ?_);rfl) | (with_reducible first|apply asI_of|apply asB_of|apply asP_of|apply asSl_of|apply asAggV_of|apply asTupV_of|apply asCons_of|apply asNil_of|apply isNil_n|apply isNil_i|apply nilC_i|apply nilCU_i|apply nilCU_f|apply mthC_i) | ((with_reducible refine And.intro ?_ ?_);rfl) | ((with_reducible apply exAnd);rfl))
    cases w0
    · refine br_f rfl ?_
      repeat (first | ((with_reducible first|apply St.rI|apply St.rB|apply St.rP|apply St.rSl|apply St.rV|apply St.rM|apply St.rS|apply St.rN|apply St.ckA);assumption;(first|exact i0|exact i1|exact i2|exact i3|exact i4|exact i5|exact i6|exact i7|exact i8|exact i9|exact i10|exact i11|exact i12|exact i13|exact i14|exact i15);(first|rfl|exact Nat.le_of_ble_eq_true rfl)) | with_reducible refine der_of ?_ | ((with_reducible refine br_t ?_ ?_);rfl) | ((with_reducible refine br_f ?_ ?_);rfl) | ((with_reducible refine br_t ?_ ?_);assumption) | ((with_reducible refine br_f ?_ ?_);assumption) | ((with_reducible first|apply St.wrL|apply St.wr);assumption;(first|exact i0|exact i1|exact i2|exact i3|exact i4|exact i5|exact i6|exact i7|exact i8|exact i9|exact i10|exact i11|exact i12|exact i13|exact i14|exact i15);(first|exact Nat.le_of_ble_eq_true rfl|rfl);intro g_ S_;simp only [Ptr.add, List.set, splice, List.take, List.drop, List.nil_append, List.append_nil, List.cons_append, List.length_cons, List.length_nil, Nat.zero_add, Nat.add_zero, Nat.reduceAdd, Nat.reduceMul, Nat.mul_one, Int.toNat_zero, Int.toNat_one, Int.reduceToNat] at S_) | ((with_reducible refine ix_of ?_ ?_ ?_);exact of_decide_eq_true rfl;exact of_decide_eq_true rfl) | ((with_reducible first|refine nz_of ?_ ?_|refine nneg_of ?_ ?_);exact of_decide_eq_true rfl) | ((with_reducible refine chk_of ?_ ?_);rfl) | (with_reducible first|apply asI_of|apply asB_of|apply asP_of|apply asSl_of|apply asAggV_of|apply asTupV_of|apply asCons_of|apply asNil_of|apply isNil_n|apply isNil_i|apply nilC_i|apply nilCU_i|apply nilCU_f|apply mthC_i) | ((with_reducible refine And.intro ?_ ?_);rfl) | ((with_reducible apply exAnd);rfl))
      by_cases e0 : (l0 != 16) = true
      · exact br_t e0 j5
      · refine br_f (by simpa using e0) ?_
        repeat (first | ((with_reducible first|apply St.rI|apply St.rB|apply St.rP|apply St.rSl|apply St.rV|apply St.rM|apply St.rS|apply St.rN|apply St.ckA);assumption;(first|exact i0|exact i1|exact i2|exact i3|exact i4|exact i5|exact i6|exact i7|exact i8|exact i9|exact i10|exact i11|exact i12|exact i13|exact i14|exact i15);(first|rfl|exact Nat.le_of_ble_eq_true rfl)) | with_reducible refine der_of ?_ | ((with_reducible refine br_t ?_ ?_);rfl) | ((with_reducible refine br_f ?_ ?_);rfl) | ((with_reducible refine br_t ?_ ?_);assumption) | ((with_reducible refine br_f ?_ ?_);assumption) | ((with_reducible first|apply St.wrL|apply St.wr);assumption;(first|exact i0|exact i1|exact i2|exact i3|exact i4|exact i5|exact i6|exact i7|exact i8|exact i9|exact i10|exact i11|exact i12|exact i13|exact i14|exact i15);(first|exact Nat.le_of_ble_eq_true rfl|rfl);intro g_ S_;simp only [Ptr.add, List.set, splice, List.take, List.drop, List.nil_append, List.append_nil, List.cons_append, List.length_cons, List.length_nil, Nat.zero_add, Nat.add_zero, Nat.reduceAdd, Nat.reduceMul, Nat.mul_one, Int.toNat_zero, Int.toNat_one, Int.reduceToNat] at S_) | ((with_reducible refine ix_of ?_ ?_ ?_);exact of_decide_eq_true rfl;exact of_decide_eq_true rfl) | ((with_reducible first|refine nz_of ?_ ?_|refine nneg_of ?_ ?_);exact of_decide_eq_true rfl) | ((with_reducible refine chk_of ?_ ?_);rfl) | (with_reducible first|apply asI_of|apply asB_of|apply asP_of|apply asSl_of|apply asAggV_of|apply asTupV_of|apply asCons_of|apply asNil_of|apply isNil_n|apply isNil_i|apply nilC_i|apply nilCU_i|apply nilCU_f|apply mthC_i) | ((with_reducible refine And.intro ?_ ?_);rfl) | ((with_reducible apply exAnd);rfl))
        exact br_t (by simp; omega) j5
    · exact br_t rfl j5
  · simp only [List.cons_append, List.nil_append] at S
    unfold backend_Block_ask
    ((with_reducible apply St.al); assumption; intro c1 g_ S_)
    ((with_reducible apply St.al); assumption; intro c2 g_ S_)
    repeat (first | ((with_reducible first|apply St.rI|apply St.rB|apply St.rP|apply St.rSl|apply St.rV|apply St.rM|apply St.rS|apply St.rN|apply St.ckA);assumption;(first|exact i0|exact i1|exact i2|exact i3|exact i4|exact i5|exact i6|exact i7|exact i8|exact i9|exact i10|exact i11|exact i12|exact i13|exact i14|exact i15);(first|rfl|exact Nat.le_of_ble_eq_true rfl)) | with_reducible refine der_of ?_ | ((with_reducible refine br_t ?_ ?_);rfl) | ((with_reducible refine br_f ?_ ?_);rfl) | ((with_reducible refine br_t ?_ ?_);assumption) | ((with_reducible refine br_f ?_ ?_);assumption) | ((with_reducible first|apply St.wrL|apply St.wr);assumption;(first|exact i0|exact i1|exact i2|exact i3|exact i4|exact i5|exact i6|exact i7|exact i8|exact i9|exact i10|exact i11|exact i12|exact i13|exact i14|exact i15);(first|exact Nat.le_of_ble_eq_true rfl|rfl);intro g_ S_;simp only [Ptr.add, List.set, splice, List.take, List.drop, List.nil_append, List.append_nil, List.cons_append, List.length_cons, List.length_nil, Nat.zero_add, Nat.add_zero, Nat.reduceAdd, Nat.reduceMul, Nat.mul_one, Int.toNat_zero, Int.toNat_one, Int.reduceToNat] at S_) | ((with_reducible refine ix_of ?_ ?_ ?_);exact of_decide_eq_true rfl;exact of_decide_eq_true rfl) | ((with_reducible first|refine nz_of ?_ ?_|refine nneg_of ?_ ?_);exact of_decide_eq_true rfl) | ((with_reducible refine chk_of ?_ ?_);rfl) | (with_reducible first|apply asI_of|apply asB_of|apply asP_of|apply asSl_of|apply asAggV_of|apply asTupV_of|apply asCons_of|apply asNil_of|apply isNil_n|apply isNil_i|apply nilC_i|apply nilCU_i|apply nilCU_f|apply mthC_i) | ((with_reducible refine And.intro ?_ ?_);rfl) | ((with_reducible apply exAnd);rfl))
    refine br_t (by show (((ps.length : Nat) : Int) != 3) = true; simp; omega) ?_
    repeat (first | ((with_reducible first|apply St.rI|apply St.rB|apply St.rP|apply St.rSl|apply St.rV|apply St.rM|apply St.rS|apply St.rN|apply St.ckA);assumption;(first|exact i0|exact i1|exact i2|exact i3|exact i4|exact i5|exact i6|exact i7|exact i8|exact i9|exact i10|exact i11|exact i12|exact i13|exact i14|exact i15);(first|rfl|exact Nat.le_of_ble_eq_true rfl)) | with_reducible refine der_of ?_ | ((with_reducible refine br_t ?_ ?_);rfl) | ((with_reducible refine br_f ?_ ?_);rfl) | ((with_reducible refine br_t ?_ ?_);assumption) | ((with_reducible refine br_f ?_ ?_);assumption) | ((with_reducible first|apply St.wrL|apply St.wr);assumption;(first|exact i0|exact i1|exact i2|exact i3|exact i4|exact i5|exact i6|exact i7|exact i8|exact i9|exact i10|exact i11|exact i12|exact i13|exact i14|exact i15);(first|exact Nat.le_of_ble_eq_true rfl|rfl);intro g_ S_;simp only [Ptr.add, List.set, splice, List.take, List.drop, List.nil_append, List.append_nil, List.cons_append, List.length_cons, List.length_nil, Nat.zero_add, Nat.add_zero, Nat.reduceAdd, Nat.reduceMul, Nat.mul_one, Int.toNat_zero, Int.toNat_one, Int.reduceToNat] at S_) | ((with_reducible refine ix_of ?_ ?_ ?_);exact of_decide_eq_true rfl;exact of_decide_eq_true rfl) | ((with_reducible first|refine nz_of ?_ ?_|refine nneg_of ?_ ?_);exact of_decide_eq_true rfl) | ((with_reducible refine chk_of ?_ ?_);rfl) | (with_reducible first|apply asI_of|apply asB_of|apply asP_of|apply asSl_of|apply asAggV_of|apply asTupV_of|apply asCons_of|apply asNil_of|apply isNil_n|apply isNil_i|apply nilC_i|apply nilCU_i|apply nilCU_f|apply mthC_i) | ((with_reducible refine And.intro ?_ ?_);rfl) | ((with_reducible apply exAnd);rfl))
    exact hq _ (St.pickR (A := [_, _, (cb, .cells (pcells ps ++ rest) mk')]) S_ [2] (by decide) rfl)

/-- A kind, or a block, that is none. -/
theorem ask_bad (hu : GU U U') {cb blk rg db wq gb pm bm base fb tm wm c : Nat} {F : FS} {bt bw : List Nat} {ct cw : Nat} {bs : List UInt8} {mk mk' : Bool} {rest : List V} {m : Nat → Int} {kind block page asked first owner v st : Int} (M : MemIs bs base m) (hb : base + 16 ≤ 40) (ok : A3ok F bt ct bw cw)
    (hkd : 0 ≤ kind ∧ kind ≤ 18446744073709551615) (hbl : 0 ≤ block ∧ block ≤ 18446744073709551615) (hpg : 0 ≤ page ∧ page < 16) (hk : m 128 = kind) (hbk : m 129 = block)
    (ht : ifind ((base : Int) + page) F.t = some (.int .i64 v)) (hv : v ≠ 0) (hw : ifind ((base : Int) + page) F.w = some (.int .i64 owner))
    (hst : (1 < kind ∧ st = 2) ∨ (kind ≤ 1 ∧ 3 < block ∧ st = 1))
    (S : St h0 W [(cb, .cells ([.int .u64 1024, .int .i64 16, .bool false, .int .u64 (256 * page), .int .i64 256, .bool (kind == 0), .int .u64 1100, .int .i64 1, .bool true] ++ rest) mk'), (blk, .cells (blkC rg db fb wq first 4 owner asked) false), (gb, .cells (flatC pm (base : Int)) false), (pm, .cells (memC bm) false), (bm, .cells (strCells bs) mk), (fb, .cells (FS.cells (F) tm wm) false), (tm, .map (.int .i64) (ikeys .i64 (F : FS).t) bt ct), (wm, .map (.int .i64) (ikeys .i64 (F : FS).w) bw cw)] h)
    {Q : Int → Bool → Int → Int → Int → Heap → Prop} (hq : ∀ h', St h0 W [(cb, .cells ([.int .u64 1024, .int .i64 16, .bool false, .int .u64 (256 * page), .int .i64 256, .bool (kind == 0), .int .u64 1100, .int .i64 1, .bool true] ++ rest) mk'), (blk, .cells (blkC rg db fb wq first 4 owner asked) false), (gb, .cells (flatC pm (base : Int)) false), (pm, .cells (memC bm) false), (bm, .cells (strCells bs) mk), (fb, .cells (FS.cells (F) tm wm) false), (tm, .map (.int .i64) (ikeys .i64 (F : FS).t) bt ct), (wm, .map (.int .i64) (ikeys .i64 (F : FS).w) bw cw)] h' → Q 0 false 0 0 st h') :
    backend_Block_ask U (some ⟨blk, 0⟩) (.iface 4 (.ptr (some ⟨gb, 0⟩))) 0 ⟨some ⟨cb, 0⟩, 3, c⟩ Q h := by
  refine ask_tree (R := [(blk, .cells (blkC rg db fb wq first 4 owner asked) false), (gb, .cells (flatC pm (base : Int)) false), (pm, .cells (memC bm) false), (bm, .cells (strCells bs) mk), (fb, .cells (FS.cells (F) tm wm) false), (tm, .map (.int .i64) (ikeys .i64 (F : FS).t) bt ct), (wm, .map (.int .i64) (ikeys .i64 (F : FS).w) bw cw)]) S (fun c2 p3 p4 p5 g S => ?_)
  simp only [List.cons_append, List.nil_append] at S
  unfold backend_Block_ask.j4
  repeat (first | ((with_reducible first|apply St.rI|apply St.rB|apply St.rP|apply St.rSl|apply St.rV|apply St.rM|apply St.rS|apply St.rN|apply St.ckA);assumption;(first|exact i0|exact i1|exact i2|exact i3|exact i4|exact i5|exact i6|exact i7|exact i8|exact i9|exact i10|exact i11|exact i12|exact i13|exact i14|exact i15);(first|rfl|exact Nat.le_of_ble_eq_true rfl)) | with_reducible refine der_of ?_ | ((with_reducible refine br_t ?_ ?_);rfl) | ((with_reducible refine br_f ?_ ?_);rfl) | ((with_reducible refine br_t ?_ ?_);assumption) | ((with_reducible refine br_f ?_ ?_);assumption) | ((with_reducible first|apply St.wrL|apply St.wr);assumption;(first|exact i0|exact i1|exact i2|exact i3|exact i4|exact i5|exact i6|exact i7|exact i8|exact i9|exact i10|exact i11|exact i12|exact i13|exact i14|exact i15);(first|exact Nat.le_of_ble_eq_true rfl|rfl);intro g_ S_;simp only [Ptr.add, List.set, splice, List.take, List.drop, List.nil_append, List.append_nil, List.cons_append, List.length_cons, List.length_nil, Nat.zero_add, Nat.add_zero, Nat.reduceAdd, Nat.reduceMul, Nat.mul_one, Int.toNat_zero, Int.toNat_one, Int.reduceToNat] at S_) | ((with_reducible refine ix_of ?_ ?_ ?_);exact of_decide_eq_true rfl;exact of_decide_eq_true rfl) | ((with_reducible first|refine nz_of ?_ ?_|refine nneg_of ?_ ?_);exact of_decide_eq_true rfl) | ((with_reducible refine chk_of ?_ ?_);rfl) | (with_reducible first|apply asI_of|apply asB_of|apply asP_of|apply asSl_of|apply asAggV_of|apply asTupV_of|apply asCons_of|apply asNil_of|apply isNil_n|apply isNil_i|apply nilC_i|apply nilCU_i|apply nilCU_f|apply mthC_i) | ((with_reducible refine And.intro ?_ ?_);rfl) | ((with_reducible apply exAnd);rfl))
  refine br_f (by rw [Int.mul_tmod_right]; rfl) ?_
  repeat (first | ((with_reducible first|apply St.rI|apply St.rB|apply St.rP|apply St.rSl|apply St.rV|apply St.rM|apply St.rS|apply St.rN|apply St.ckA);assumption;(first|exact i0|exact i1|exact i2|exact i3|exact i4|exact i5|exact i6|exact i7|exact i8|exact i9|exact i10|exact i11|exact i12|exact i13|exact i14|exact i15);(first|rfl|exact Nat.le_of_ble_eq_true rfl)) | with_reducible refine der_of ?_ | ((with_reducible refine br_t ?_ ?_);rfl) | ((with_reducible refine br_f ?_ ?_);rfl) | ((with_reducible refine br_t ?_ ?_);assumption) | ((with_reducible refine br_f ?_ ?_);assumption) | ((with_reducible first|apply St.wrL|apply St.wr);assumption;(first|exact i0|exact i1|exact i2|exact i3|exact i4|exact i5|exact i6|exact i7|exact i8|exact i9|exact i10|exact i11|exact i12|exact i13|exact i14|exact i15);(first|exact Nat.le_of_ble_eq_true rfl|rfl);intro g_ S_;simp only [Ptr.add, List.set, splice, List.take, List.drop, List.nil_append, List.append_nil, List.cons_append, List.length_cons, List.length_nil, Nat.zero_add, Nat.add_zero, Nat.reduceAdd, Nat.reduceMul, Nat.mul_one, Int.toNat_zero, Int.toNat_one, Int.reduceToNat] at S_) | ((with_reducible refine ix_of ?_ ?_ ?_);exact of_decide_eq_true rfl;exact of_decide_eq_true rfl) | ((with_reducible first|refine nz_of ?_ ?_|refine nneg_of ?_ ?_);exact of_decide_eq_true rfl) | ((with_reducible refine chk_of ?_ ?_);rfl) | (with_reducible first|apply asI_of|apply asB_of|apply asP_of|apply asSl_of|apply asAggV_of|apply asTupV_of|apply asCons_of|apply asNil_of|apply isNil_n|apply isNil_i|apply nilC_i|apply nilCU_i|apply nilCU_f|apply mthC_i) | ((with_reducible refine And.intro ?_ ?_);rfl) | ((with_reducible apply exAnd);rfl))
  unfold backend_Block_ask.j6
  repeat (first | ((with_reducible first|apply St.rI|apply St.rB|apply St.rP|apply St.rSl|apply St.rV|apply St.rM|apply St.rS|apply St.rN|apply St.ckA);assumption;(first|exact i0|exact i1|exact i2|exact i3|exact i4|exact i5|exact i6|exact i7|exact i8|exact i9|exact i10|exact i11|exact i12|exact i13|exact i14|exact i15);(first|rfl|exact Nat.le_of_ble_eq_true rfl)) | with_reducible refine der_of ?_ | ((with_reducible refine br_t ?_ ?_);rfl) | ((with_reducible refine br_f ?_ ?_);rfl) | ((with_reducible refine br_t ?_ ?_);assumption) | ((with_reducible refine br_f ?_ ?_);assumption) | ((with_reducible first|apply St.wrL|apply St.wr);assumption;(first|exact i0|exact i1|exact i2|exact i3|exact i4|exact i5|exact i6|exact i7|exact i8|exact i9|exact i10|exact i11|exact i12|exact i13|exact i14|exact i15);(first|exact Nat.le_of_ble_eq_true rfl|rfl);intro g_ S_;simp only [Ptr.add, List.set, splice, List.take, List.drop, List.nil_append, List.append_nil, List.cons_append, List.length_cons, List.length_nil, Nat.zero_add, Nat.add_zero, Nat.reduceAdd, Nat.reduceMul, Nat.mul_one, Int.toNat_zero, Int.toNat_one, Int.reduceToNat] at S_) | ((with_reducible refine ix_of ?_ ?_ ?_);exact of_decide_eq_true rfl;exact of_decide_eq_true rfl) | ((with_reducible first|refine nz_of ?_ ?_|refine nneg_of ?_ ?_);exact of_decide_eq_true rfl) | ((with_reducible refine chk_of ?_ ?_);rfl) | (with_reducible first|apply asI_of|apply asB_of|apply asP_of|apply asSl_of|apply asAggV_of|apply asTupV_of|apply asCons_of|apply asNil_of|apply isNil_n|apply isNil_i|apply nilC_i|apply nilCU_i|apply nilCU_f|apply mthC_i) | ((with_reducible refine And.intro ?_ ?_);rfl) | ((with_reducible apply exAnd);rfl))
  refine hu.bytes _ _ _ _ _ (gbytes (g := 6) (p := 7) (b := 8) S rfl rfl rfl (by decide) M hb (k := 1024) (n := 16) (by decide) rfl rfl (fun s sb rest2 mk2 g2 S2 hsp hsl hsc => ?_))
  clear S
  obtain ⟨sp, sl, sc⟩ := s
  simp only at hsp hsl hsc
  subst hsp hsl
  repeat (first | ((with_reducible first|apply St.rI|apply St.rB|apply St.rP|apply St.rSl|apply St.rV|apply St.rM|apply St.rS|apply St.rN|apply St.ckA);assumption;(first|exact i0|exact i1|exact i2|exact i3|exact i4|exact i5|exact i6|exact i7|exact i8|exact i9|exact i10|exact i11|exact i12|exact i13|exact i14|exact i15);(first|rfl|exact Nat.le_of_ble_eq_true rfl)) | with_reducible refine der_of ?_ | ((with_reducible refine br_t ?_ ?_);rfl) | ((with_reducible refine br_f ?_ ?_);rfl) | ((with_reducible refine br_t ?_ ?_);assumption) | ((with_reducible refine br_f ?_ ?_);assumption) | ((with_reducible first|apply St.wrL|apply St.wr);assumption;(first|exact i0|exact i1|exact i2|exact i3|exact i4|exact i5|exact i6|exact i7|exact i8|exact i9|exact i10|exact i11|exact i12|exact i13|exact i14|exact i15);(first|exact Nat.le_of_ble_eq_true rfl|rfl);intro g_ S_;simp only [Ptr.add, List.set, splice, List.take, List.drop, List.nil_append, List.append_nil, List.cons_append, List.length_cons, List.length_nil, Nat.zero_add, Nat.add_zero, Nat.reduceAdd, Nat.reduceMul, Nat.mul_one, Int.toNat_zero, Int.toNat_one, Int.reduceToNat] at S_) | ((with_reducible refine ix_of ?_ ?_ ?_);exact of_decide_eq_true rfl;exact of_decide_eq_true rfl) | ((with_reducible first|refine nz_of ?_ ?_|refine nneg_of ?_ ?_);exact of_decide_eq_true rfl) | ((with_reducible refine chk_of ?_ ?_);rfl) | (with_reducible first|apply asI_of|apply asB_of|apply asP_of|apply asSl_of|apply asAggV_of|apply asTupV_of|apply asCons_of|apply asNil_of|apply isNil_n|apply isNil_i|apply nilC_i|apply nilCU_i|apply nilCU_f|apply mthC_i) | ((with_reducible refine And.intro ?_ ?_);rfl) | ((with_reducible apply exAnd);rfl))
  refine sb_of (by decide) (by show (8 : Int) ≤ ((16 : Nat) : Int); decide) ?_
  have hl := M.len
  have H0 : Held g2 ⟨some ⟨sb, 0⟩, 16, sc⟩ 1 (strCells ((bs.drop (256 * base + 1024)).take 16)) := by
    refine ⟨by rw [strCells_length]; simp; omega, fun p hp i u hu => ?_, fun hp => by cases hp⟩
    cases hp
    rw [get_cells (S2.obj i0), Nat.zero_add, List.getElem?_append_left, hu]
    rcases Nat.lt_or_ge i (strCells ((bs.drop (256 * base + 1024)).take 16)).length with h1 | h1
    · exact h1
    · rw [List.getElem?_eq_none h1] at hu; cases hu
  have H1 : Held g2 ⟨slp (some ⟨sb, 0⟩) ((8 : Int).toNat * 1) (8 : Int).toNat sc, 16 - (8 : Int).toNat, sc - (8 : Int).toNat⟩ 1 (strCells (((bs.drop (256 * base + 1024)).take 16).drop 8)) := by
    have e1 : slp (some ⟨sb, 0⟩) ((8 : Int).toNat * 1) (8 : Int).toNat sc = some ⟨sb, 8⟩ := by
      unfold slp
      rw [if_neg (by show ¬ sc = 8; omega)]
      rfl
    rw [e1]
    refine ⟨by rw [strCells_length]; simp; omega, fun p hp i u hu => ?_, fun hp => by cases hp⟩
    cases hp
    have := H0.row ⟨sb, 0⟩ rfl (8 + i) u (by rw [strCells_get] at hu ⊢; rw [List.getElem?_drop] at hu; exact hu)
    rw [Nat.zero_add] at this
    exact this
  have n0 : ((byteSum (((bs.drop (256 * base + 1024)).take 16).take 8) : Nat) : Int) = kind := by
    rw [List.take_take, ← hk, ← M.word 128 (by decide)]
    unfold valN sx
    rw [if_neg (by decide), Int.toNat_natCast]
    rfl
  have n1 : ((byteSum ((((bs.drop (256 * base + 1024)).take 16).drop 8).take 8) : Nat) : Int) = block := by
    rw [← hbk, ← M.word 129 (by decide)]
    unfold valN sx
    rw [if_neg (by decide), Int.toNat_natCast, List.drop_take, List.drop_drop, List.take_take]
    rfl
  refine num8 H0 (by simp; omega) (num8 H1 (by simp; omega) ?_)
  rw [n0, n1]
  rcases hst with ⟨h1, rfl⟩ | ⟨h1, h2, rfl⟩
  · refine br_t (decide_eq_true (by omega)) ?_
    unfold backend_Block_ask.j11
    repeat (first | ((with_reducible first|apply St.rI|apply St.rB|apply St.rP|apply St.rSl|apply St.rV|apply St.rM|apply St.rS|apply St.rN|apply St.ckA);assumption;(first|exact i0|exact i1|exact i2|exact i3|exact i4|exact i5|exact i6|exact i7|exact i8|exact i9|exact i10|exact i11|exact i12|exact i13|exact i14|exact i15);(first|rfl|exact Nat.le_of_ble_eq_true rfl)) | with_reducible refine der_of ?_ | ((with_reducible refine br_t ?_ ?_);rfl) | ((with_reducible refine br_f ?_ ?_);rfl) | ((with_reducible refine br_t ?_ ?_);assumption) | ((with_reducible refine br_f ?_ ?_);assumption) | ((with_reducible first|apply St.wrL|apply St.wr);assumption;(first|exact i0|exact i1|exact i2|exact i3|exact i4|exact i5|exact i6|exact i7|exact i8|exact i9|exact i10|exact i11|exact i12|exact i13|exact i14|exact i15);(first|exact Nat.le_of_ble_eq_true rfl|rfl);intro g_ S_;simp only [Ptr.add, List.set, splice, List.take, List.drop, List.nil_append, List.append_nil, List.cons_append, List.length_cons, List.length_nil, Nat.zero_add, Nat.add_zero, Nat.reduceAdd, Nat.reduceMul, Nat.mul_one, Int.toNat_zero, Int.toNat_one, Int.reduceToNat] at S_) | ((with_reducible refine ix_of ?_ ?_ ?_);exact of_decide_eq_true rfl;exact of_decide_eq_true rfl) | ((with_reducible first|refine nz_of ?_ ?_|refine nneg_of ?_ ?_);exact of_decide_eq_true rfl) | ((with_reducible refine chk_of ?_ ?_);rfl) | (with_reducible first|apply asI_of|apply asB_of|apply asP_of|apply asSl_of|apply asAggV_of|apply asTupV_of|apply asCons_of|apply asNil_of|apply isNil_n|apply isNil_i|apply nilC_i|apply nilCU_i|apply nilCU_f|apply mthC_i) | ((with_reducible refine And.intro ?_ ?_);rfl) | ((with_reducible apply exAnd);rfl))
    exact hq _ (St.pick S_ [5, 6, 7, 8, 9, 10, 11, 12] (by decide) rfl)
  · refine br_f (decide_eq_false (by omega)) ?_
    repeat (first | ((with_reducible first|apply St.rI|apply St.rB|apply St.rP|apply St.rSl|apply St.rV|apply St.rM|apply St.rS|apply St.rN|apply St.ckA);assumption;(first|exact i0|exact i1|exact i2|exact i3|exact i4|exact i5|exact i6|exact i7|exact i8|exact i9|exact i10|exact i11|exact i12|exact i13|exact i14|exact i15);(first|rfl|exact Nat.le_of_ble_eq_true rfl)) | with_reducible refine der_of ?_ | ((with_reducible refine br_t ?_ ?_);rfl) | ((with_reducible refine br_f ?_ ?_);rfl) | ((with_reducible refine br_t ?_ ?_);assumption) | ((with_reducible refine br_f ?_ ?_);assumption) | ((with_reducible first|apply St.wrL|apply St.wr);assumption;(first|exact i0|exact i1|exact i2|exact i3|exact i4|exact i5|exact i6|exact i7|exact i8|exact i9|exact i10|exact i11|exact i12|exact i13|exact i14|exact i15);(first|exact Nat.le_of_ble_eq_true rfl|rfl);intro g_ S_;simp only [Ptr.add, List.set, splice, List.take, List.drop, List.nil_append, List.append_nil, List.cons_append, List.length_cons, List.length_nil, Nat.zero_add, Nat.add_zero, Nat.reduceAdd, Nat.reduceMul, Nat.mul_one, Int.toNat_zero, Int.toNat_one, Int.reduceToNat] at S_) | ((with_reducible refine ix_of ?_ ?_ ?_);exact of_decide_eq_true rfl;exact of_decide_eq_true rfl) | ((with_reducible first|refine nz_of ?_ ?_|refine nneg_of ?_ ?_);exact of_decide_eq_true rfl) | ((with_reducible refine chk_of ?_ ?_);rfl) | (with_reducible first|apply asI_of|apply asB_of|apply asP_of|apply asSl_of|apply asAggV_of|apply asTupV_of|apply asCons_of|apply asNil_of|apply isNil_n|apply isNil_i|apply nilC_i|apply nilCU_i|apply nilCU_f|apply mthC_i) | ((with_reducible refine And.intro ?_ ?_);rfl) | ((with_reducible apply exAnd);rfl))
    refine br_f (by simp) ?_
    unfold backend_Block_ask.j12
    repeat (first | ((with_reducible first|apply St.rI|apply St.rB|apply St.rP|apply St.rSl|apply St.rV|apply St.rM|apply St.rS|apply St.rN|apply St.ckA);assumption;(first|exact i0|exact i1|exact i2|exact i3|exact i4|exact i5|exact i6|exact i7|exact i8|exact i9|exact i10|exact i11|exact i12|exact i13|exact i14|exact i15);(first|rfl|exact Nat.le_of_ble_eq_true rfl)) | with_reducible refine der_of ?_ | ((with_reducible refine br_t ?_ ?_);rfl) | ((with_reducible refine br_f ?_ ?_);rfl) | ((with_reducible refine br_t ?_ ?_);assumption) | ((with_reducible refine br_f ?_ ?_);assumption) | ((with_reducible first|apply St.wrL|apply St.wr);assumption;(first|exact i0|exact i1|exact i2|exact i3|exact i4|exact i5|exact i6|exact i7|exact i8|exact i9|exact i10|exact i11|exact i12|exact i13|exact i14|exact i15);(first|exact Nat.le_of_ble_eq_true rfl|rfl);intro g_ S_;simp only [Ptr.add, List.set, splice, List.take, List.drop, List.nil_append, List.append_nil, List.cons_append, List.length_cons, List.length_nil, Nat.zero_add, Nat.add_zero, Nat.reduceAdd, Nat.reduceMul, Nat.mul_one, Int.toNat_zero, Int.toNat_one, Int.reduceToNat] at S_) | ((with_reducible refine ix_of ?_ ?_ ?_);exact of_decide_eq_true rfl;exact of_decide_eq_true rfl) | ((with_reducible first|refine nz_of ?_ ?_|refine nneg_of ?_ ?_);exact of_decide_eq_true rfl) | ((with_reducible refine chk_of ?_ ?_);rfl) | (with_reducible first|apply asI_of|apply asB_of|apply asP_of|apply asSl_of|apply asAggV_of|apply asTupV_of|apply asCons_of|apply asNil_of|apply isNil_n|apply isNil_i|apply nilC_i|apply nilCU_i|apply nilCU_f|apply mthC_i) | ((with_reducible refine And.intro ?_ ?_);rfl) | ((with_reducible apply exAnd);rfl))
    have ep : IntKind.i64.wrap (IntKind.u64.wrap ((256 * page).tdiv 256)) = page := by
      rw [Int.mul_tdiv_cancel_left _ (by decide), wrapu64 (x := page), wrap64] <;> omega
    rw [ep]
    refine hu.frame _ _ _ _ _ ?_
    unfold palisadelaw24_Flat_Frame
    refine br_f (decide_eq_false (by omega)) ?_
    repeat (first | ((with_reducible first|apply St.rI|apply St.rB|apply St.rP|apply St.rSl|apply St.rV|apply St.rM|apply St.rS|apply St.rN|apply St.ckA);assumption;(first|exact i0|exact i1|exact i2|exact i3|exact i4|exact i5|exact i6|exact i7|exact i8|exact i9|exact i10|exact i11|exact i12|exact i13|exact i14|exact i15);(first|rfl|exact Nat.le_of_ble_eq_true rfl)) | with_reducible refine der_of ?_ | ((with_reducible refine br_t ?_ ?_);rfl) | ((with_reducible refine br_f ?_ ?_);rfl) | ((with_reducible refine br_t ?_ ?_);assumption) | ((with_reducible refine br_f ?_ ?_);assumption) | ((with_reducible first|apply St.wrL|apply St.wr);assumption;(first|exact i0|exact i1|exact i2|exact i3|exact i4|exact i5|exact i6|exact i7|exact i8|exact i9|exact i10|exact i11|exact i12|exact i13|exact i14|exact i15);(first|exact Nat.le_of_ble_eq_true rfl|rfl);intro g_ S_;simp only [Ptr.add, List.set, splice, List.take, List.drop, List.nil_append, List.append_nil, List.cons_append, List.length_cons, List.length_nil, Nat.zero_add, Nat.add_zero, Nat.reduceAdd, Nat.reduceMul, Nat.mul_one, Int.toNat_zero, Int.toNat_one, Int.reduceToNat] at S_) | ((with_reducible refine ix_of ?_ ?_ ?_);exact of_decide_eq_true rfl;exact of_decide_eq_true rfl) | ((with_reducible first|refine nz_of ?_ ?_|refine nneg_of ?_ ?_);exact of_decide_eq_true rfl) | ((with_reducible refine chk_of ?_ ?_);rfl) | (with_reducible first|apply asI_of|apply asB_of|apply asP_of|apply asSl_of|apply asAggV_of|apply asTupV_of|apply asCons_of|apply asNil_of|apply isNil_n|apply isNil_i|apply nilC_i|apply nilCU_i|apply nilCU_f|apply mthC_i) | ((with_reducible refine And.intro ?_ ?_);rfl) | ((with_reducible apply exAnd);rfl))
    refine br_f (decide_eq_false (by omega)) ?_
    repeat (first | ((with_reducible first|apply St.rI|apply St.rB|apply St.rP|apply St.rSl|apply St.rV|apply St.rM|apply St.rS|apply St.rN|apply St.ckA);assumption;(first|exact i0|exact i1|exact i2|exact i3|exact i4|exact i5|exact i6|exact i7|exact i8|exact i9|exact i10|exact i11|exact i12|exact i13|exact i14|exact i15);(first|rfl|exact Nat.le_of_ble_eq_true rfl)) | with_reducible refine der_of ?_ | ((with_reducible refine br_t ?_ ?_);rfl) | ((with_reducible refine br_f ?_ ?_);rfl) | ((with_reducible refine br_t ?_ ?_);assumption) | ((with_reducible refine br_f ?_ ?_);assumption) | ((with_reducible first|apply St.wrL|apply St.wr);assumption;(first|exact i0|exact i1|exact i2|exact i3|exact i4|exact i5|exact i6|exact i7|exact i8|exact i9|exact i10|exact i11|exact i12|exact i13|exact i14|exact i15);(first|exact Nat.le_of_ble_eq_true rfl|rfl);intro g_ S_;simp only [Ptr.add, List.set, splice, List.take, List.drop, List.nil_append, List.append_nil, List.cons_append, List.length_cons, List.length_nil, Nat.zero_add, Nat.add_zero, Nat.reduceAdd, Nat.reduceMul, Nat.mul_one, Int.toNat_zero, Int.toNat_one, Int.reduceToNat] at S_) | ((with_reducible refine ix_of ?_ ?_ ?_);exact of_decide_eq_true rfl;exact of_decide_eq_true rfl) | ((with_reducible first|refine nz_of ?_ ?_|refine nneg_of ?_ ?_);exact of_decide_eq_true rfl) | ((with_reducible refine chk_of ?_ ?_);rfl) | (with_reducible first|apply asI_of|apply asB_of|apply asP_of|apply asSl_of|apply asAggV_of|apply asTupV_of|apply asCons_of|apply asNil_of|apply isNil_n|apply isNil_i|apply nilC_i|apply nilCU_i|apply nilCU_f|apply mthC_i) | ((with_reducible refine And.intro ?_ ?_);rfl) | ((with_reducible apply exAnd);rfl))
    have ef : IntKind.i64.wrap ((base : Int) + page) = (base : Int) + page := by rw [wrap64] <;> omega
    rw [ef]
    refine Owner_of (rep_at (i := 10) (j := 11) (k := 12) S2 ok rfl rfl rfl (by decide)) ht hv hw ?_
    unfold backend_Block_ask.j14
    repeat (first | ((with_reducible first|apply St.rI|apply St.rB|apply St.rP|apply St.rSl|apply St.rV|apply St.rM|apply St.rS|apply St.rN|apply St.ckA);assumption;(first|exact i0|exact i1|exact i2|exact i3|exact i4|exact i5|exact i6|exact i7|exact i8|exact i9|exact i10|exact i11|exact i12|exact i13|exact i14|exact i15);(first|rfl|exact Nat.le_of_ble_eq_true rfl)) | with_reducible refine der_of ?_ | ((with_reducible refine br_t ?_ ?_);rfl) | ((with_reducible refine br_f ?_ ?_);rfl) | ((with_reducible refine br_t ?_ ?_);assumption) | ((with_reducible refine br_f ?_ ?_);assumption) | ((with_reducible first|apply St.wrL|apply St.wr);assumption;(first|exact i0|exact i1|exact i2|exact i3|exact i4|exact i5|exact i6|exact i7|exact i8|exact i9|exact i10|exact i11|exact i12|exact i13|exact i14|exact i15);(first|exact Nat.le_of_ble_eq_true rfl|rfl);intro g_ S_;simp only [Ptr.add, List.set, splice, List.take, List.drop, List.nil_append, List.append_nil, List.cons_append, List.length_cons, List.length_nil, Nat.zero_add, Nat.add_zero, Nat.reduceAdd, Nat.reduceMul, Nat.mul_one, Int.toNat_zero, Int.toNat_one, Int.reduceToNat] at S_) | ((with_reducible refine ix_of ?_ ?_ ?_);exact of_decide_eq_true rfl;exact of_decide_eq_true rfl) | ((with_reducible first|refine nz_of ?_ ?_|refine nneg_of ?_ ?_);exact of_decide_eq_true rfl) | ((with_reducible refine chk_of ?_ ?_);rfl) | (with_reducible first|apply asI_of|apply asB_of|apply asP_of|apply asSl_of|apply asAggV_of|apply asTupV_of|apply asCons_of|apply asNil_of|apply isNil_n|apply isNil_i|apply nilC_i|apply nilCU_i|apply nilCU_f|apply mthC_i) | ((with_reducible refine And.intro ?_ ?_);rfl) | ((with_reducible apply exAnd);rfl))
    refine br_f (by simp) ?_
    repeat (first | ((with_reducible first|apply St.rI|apply St.rB|apply St.rP|apply St.rSl|apply St.rV|apply St.rM|apply St.rS|apply St.rN|apply St.ckA);assumption;(first|exact i0|exact i1|exact i2|exact i3|exact i4|exact i5|exact i6|exact i7|exact i8|exact i9|exact i10|exact i11|exact i12|exact i13|exact i14|exact i15);(first|rfl|exact Nat.le_of_ble_eq_true rfl)) | with_reducible refine der_of ?_ | ((with_reducible refine br_t ?_ ?_);rfl) | ((with_reducible refine br_f ?_ ?_);rfl) | ((with_reducible refine br_t ?_ ?_);assumption) | ((with_reducible refine br_f ?_ ?_);assumption) | ((with_reducible first|apply St.wrL|apply St.wr);assumption;(first|exact i0|exact i1|exact i2|exact i3|exact i4|exact i5|exact i6|exact i7|exact i8|exact i9|exact i10|exact i11|exact i12|exact i13|exact i14|exact i15);(first|exact Nat.le_of_ble_eq_true rfl|rfl);intro g_ S_;simp only [Ptr.add, List.set, splice, List.take, List.drop, List.nil_append, List.append_nil, List.cons_append, List.length_cons, List.length_nil, Nat.zero_add, Nat.add_zero, Nat.reduceAdd, Nat.reduceMul, Nat.mul_one, Int.toNat_zero, Int.toNat_one, Int.reduceToNat] at S_) | ((with_reducible refine ix_of ?_ ?_ ?_);exact of_decide_eq_true rfl;exact of_decide_eq_true rfl) | ((with_reducible first|refine nz_of ?_ ?_|refine nneg_of ?_ ?_);exact of_decide_eq_true rfl) | ((with_reducible refine chk_of ?_ ?_);rfl) | (with_reducible first|apply asI_of|apply asB_of|apply asP_of|apply asSl_of|apply asAggV_of|apply asTupV_of|apply asCons_of|apply asNil_of|apply isNil_n|apply isNil_i|apply nilC_i|apply nilCU_i|apply nilCU_f|apply mthC_i) | ((with_reducible refine And.intro ?_ ?_);rfl) | ((with_reducible apply exAnd);rfl))
    refine br_t (decide_eq_true (by rw [show IntKind.u64.wrap 4 = 4 by decide]; omega)) ?_
    repeat (first | ((with_reducible first|apply St.rI|apply St.rB|apply St.rP|apply St.rSl|apply St.rV|apply St.rM|apply St.rS|apply St.rN|apply St.ckA);assumption;(first|exact i0|exact i1|exact i2|exact i3|exact i4|exact i5|exact i6|exact i7|exact i8|exact i9|exact i10|exact i11|exact i12|exact i13|exact i14|exact i15);(first|rfl|exact Nat.le_of_ble_eq_true rfl)) | with_reducible refine der_of ?_ | ((with_reducible refine br_t ?_ ?_);rfl) | ((with_reducible refine br_f ?_ ?_);rfl) | ((with_reducible refine br_t ?_ ?_);assumption) | ((with_reducible refine br_f ?_ ?_);assumption) | ((with_reducible first|apply St.wrL|apply St.wr);assumption;(first|exact i0|exact i1|exact i2|exact i3|exact i4|exact i5|exact i6|exact i7|exact i8|exact i9|exact i10|exact i11|exact i12|exact i13|exact i14|exact i15);(first|exact Nat.le_of_ble_eq_true rfl|rfl);intro g_ S_;simp only [Ptr.add, List.set, splice, List.take, List.drop, List.nil_append, List.append_nil, List.cons_append, List.length_cons, List.length_nil, Nat.zero_add, Nat.add_zero, Nat.reduceAdd, Nat.reduceMul, Nat.mul_one, Int.toNat_zero, Int.toNat_one, Int.reduceToNat] at S_) | ((with_reducible refine ix_of ?_ ?_ ?_);exact of_decide_eq_true rfl;exact of_decide_eq_true rfl) | ((with_reducible first|refine nz_of ?_ ?_|refine nneg_of ?_ ?_);exact of_decide_eq_true rfl) | ((with_reducible refine chk_of ?_ ?_);rfl) | (with_reducible first|apply asI_of|apply asB_of|apply asP_of|apply asSl_of|apply asAggV_of|apply asTupV_of|apply asCons_of|apply asNil_of|apply isNil_n|apply isNil_i|apply nilC_i|apply nilCU_i|apply nilCU_f|apply mthC_i) | ((with_reducible refine And.intro ?_ ?_);rfl) | ((with_reducible apply exAnd);rfl))
    exact hq _ (St.pick S_ [5, 6, 7, 8, 9, 10, 11, 12] (by decide) rfl)

end
end Go.Back

/- How often frames are had; a request that is given back at once. -/
namespace Go.Frames
open Go.Lift Go.Fn Go.Mem

theorem ifind_mem {a : Int} {v : V} : ∀ {l : List (Int × V)}, IKeys l → (a, v) ∈ l → ifind a l = some v
  | [], _, h => by cases h
  | (a', v') :: l, hn, h => by
    simp only [IKeys, List.map_cons, List.nodup_cons] at hn
    simp only [ifind]
    rcases List.mem_cons.1 h with e | h
    · cases e; rw [if_pos rfl]
    · have : a ≠ a' := fun e => hn.1 (List.mem_map.2 ⟨_, h, e⟩)
      rw [if_neg this]
      exact ifind_mem hn.2 h

section
variable {fb tm wm : Nat} {F : FS} {h : Heap}

/-- All frames are had once. -/
theorem Sum_of (R : Rep fb tm wm F h) (hk : IKeys F.t) (h1 : ∀ a v, (a, v) ∈ F.t → v = .int .i64 1) (hl : F.t.length ≤ 65536) {Q : Int → Heap → Prop} (hq : ∀ h', Keeps none_ h h' → Q (F.t.length : Int) h') : frames_Frames_Sum (some ⟨fb, 0⟩) Q h := by
  unfold frames_Frames_Sum
  refine none_of_ R (br_f rfl ?_)
  rw [der_some]
  refine rt R (range_of R.t (fun it g hit I0 k0 => ?_))
  unfold frames_Frames_Sum.j5
  intro I HI
  have key : ∀ (n : Nat) (done : List Int) (g : Heap), done.length + n = F.t.length → done.Nodup → (∀ a, a ∈ done → a ∈ F.t.map (·.1)) → IterAt g it tm .i64 F.t done → Keeps none_ h g → I (done.length : Int) ⟨it, 0⟩ g := by
    intro n
    induction n with
    | zero =>
      intro done g hn hd hs hI hkp
      refine HI _ _ _ ?_
      unfold frames_Frames_Sum.b5
      refine ⟨rfl, next_of hk hI (fun _ => ?_) (fun a v hav hnd => ?_)⟩
      · rw [show done.length = F.t.length by omega]
        exact hq g hkp
      · exfalso
        have ha : a ∈ F.t.map (·.1) := List.mem_map.2 ⟨_, hav, rfl⟩
        have hsub : (a :: done).length ≤ (F.t.map (·.1)).length := List.Nodup.length_le_of_subset (List.nodup_cons.2 ⟨hnd, hd⟩) (fun b hb => by
          rcases List.mem_cons.1 hb with rfl | hb
          · exact ha
          · exact hs b hb)
        simp only [List.length_cons, List.length_map] at hsub
        omega
    | succ n ih =>
      intro done g hn hd hs hI hkp
      refine HI _ _ _ ?_
      unfold frames_Frames_Sum.b5
      refine ⟨rfl, next_of hk hI (fun hall => ?_) (fun a v hav hnd g2 hI2 k2 => ?_)⟩
      · exfalso
        have hsub : (F.t.map (·.1)).length ≤ done.length := List.Nodup.length_le_of_subset hk (fun b hb => by
          obtain ⟨e, he, rfl⟩ := List.mem_map.1 hb
          exact hall e.1 e.2 he)
        simp only [List.length_map] at hsub
        omega
      · obtain rfl := h1 a v hav
        refine ⟨rfl, entry_of hk hI2 hav (asI_of (asI_of ?_))⟩
        have ew : IntKind.i64.wrap ((done.length : Int) + 1) = ((done ++ [a]).length : Int) := by
          rw [wrap64] <;> simp only [List.length_append, List.length_cons, List.length_nil] <;> omega
        rw [ew]
        have hk3 : Keeps none_ h g2 := ⟨fun c hc hn => by
          by_cases e : c = it
          · subst e; exact absurd hit hc
          · exact (k2.same c (hkp.known c hc) e).trans (hkp.same c hc hn), fun c hc => k2.known c (hkp.known c hc)⟩
        refine ih (done ++ [a]) g2 (by simp only [List.length_append, List.length_cons, List.length_nil]; omega) ?_ (fun b hb => ?_) hI2 hk3
        · rw [List.nodup_append]
          exact ⟨hd, by simp, fun x hx y hy => by simp at hy; subst hy; exact fun e => hnd (e ▸ hx)⟩
        · rcases List.mem_append.1 hb with hb | hb
          · exact hs b hb
          · simp only [List.mem_singleton] at hb
            subst hb
            exact List.mem_map.2 ⟨_, hav, rfl⟩
  exact key F.t.length [] g (by simp) List.nodup_nil (fun a ha => by cases ha) I0 k0

end
end Go.Frames

/- A request that may not be is given back at once. -/
namespace Go.Back
open Go.Lift Go.Fn Go.Mem Go.Frames

section
variable {U U' : Ifc} {x : Nat → Int} {h0 h : Heap}

theorem kick_no (hu : GU U U') (w : Wid U' h0 x) (hk8 : knownB x 8 = true) {blk rg db wq gb pm bm base fb tm wm wc : Nat} {F : FS} {bt bw : List Nat} {ct cw : Nat} {bs : List UInt8} {mk : Bool} {m : Nat → Int} {asked first owner st : Int} {ps : List Pt} {q : Pt} {k : Nat} {R : List (Nat × HO)} {dk : Nat} {y : Disk.Lay} {d : Disk.Dsk} (M : MemIs bs base m) (hb : base + 16 ≤ 40) (P : PsOk ps) (D : Desc m ps ps.length) (hcnt : m 32 = 1) (hhead : m 33 = 0)
    (hlast : ps[ps.length - 1]? = some q) (hqa : q.a = (k : Int)) (hk : 488 ≤ k ∧ k < 4096) (hst : st = 1 ∨ st = 2)
    (hask : ∀ (hh : Heap) (K : Nat → Prop) (cb c : Nat) (rest : List V) (mk' : Bool) (g : Heap) (Q' : Int → Bool → Int → Int → Int → Heap → Prop), St hh K [(cb, .cells (pcells ps ++ rest) mk'), (blk, .cells (blkC rg db fb wq first 4 owner asked) false), (gb, .cells (flatC pm (base : Int)) false), (pm, .cells (memC bm) false), (bm, .cells (strCells bs) mk), (fb, .cells (FS.cells F tm wm) false), (tm, .map (.int .i64) (ikeys .i64 (F : FS).t) bt ct), (wm, .map (.int .i64) (ikeys .i64 (F : FS).w) bw cw)] g → (∀ g', St hh K [(cb, .cells (pcells ps ++ rest) mk'), (blk, .cells (blkC rg db fb wq first 4 owner asked) false), (gb, .cells (flatC pm (base : Int)) false), (pm, .cells (memC bm) false), (bm, .cells (strCells bs) mk), (fb, .cells (FS.cells F tm wm) false), (tm, .map (.int .i64) (ikeys .i64 (F : FS).t) bt ct), (wm, .map (.int .i64) (ikeys .i64 (F : FS).w) bw cw)] g' → Q' 0 false 0 0 st g') → backend_Block_ask U (some ⟨blk, 0⟩) (.iface 4 (.ptr (some ⟨gb, 0⟩))) 0 ⟨some ⟨cb, 0⟩, ps.length, c⟩ Q' g)
    (B : BW h0 ([(fb, .cells (FS.cells F tm wm) false), (tm, .map (.int .i64) (ikeys .i64 (F : FS).t) bt ct), (wm, .map (.int .i64) (ikeys .i64 (F : FS).w) bw cw), (blk, .cells (blkC rg db fb wq first 4 owner asked) false), (wq, .map (.int .i64) [] [] wc), (rg, .cells (ringC ((0 : Nat) : Int) ((0 : Nat) : Int) false) false), (gb, .cells (flatC pm (base : Int)) false), (pm, .cells (memC bm) false), (bm, .cells (strCells bs) mk)] ++ R) dk y d h) {Q : Int → Int → Heap → Prop}
    (hq : ∀ bs' m' mk2 h', MemIs bs' base m' → m' 41 = 1 → m' 43 = (if q.w then 1 else 0) → (q.w = true → byteAt bs' base k = st) → BW h0 ([(fb, .cells (FS.cells F tm wm) false), (tm, .map (.int .i64) (ikeys .i64 (F : FS).t) bt ct), (wm, .map (.int .i64) (ikeys .i64 (F : FS).w) bw cw), (blk, .cells (blkC rg db fb wq first 4 owner asked) false), (wq, .map (.int .i64) [] [] wc), (rg, .cells (ringC ((1 : Nat) : Int) ((1 : Nat) : Int) false) false), (gb, .cells (flatC pm (base : Int)) false), (pm, .cells (memC bm) false), (bm, .cells (strCells bs') mk2)] ++ R) dk y d h' → Q 1 0 h') :
    backend_Block_Kick U (some ⟨blk, 0⟩) (.iface 4 (.ptr (some ⟨gb, 0⟩))) Q h := by
  have hw0 : ¬ none_ (U'.glob 1) := fun f => f
  have wh : Wid U' h x := w.keeps B.st.keeps hw0
  have S_ := B.st.base
  simp only [List.cons_append, List.nil_append] at S_
  unfold backend_Block_Kick backend_Block_none
  repeat (first | ((with_reducible first|apply St.rI|apply St.rB|apply St.rP|apply St.rSl|apply St.rV|apply St.rM|apply St.rS|apply St.rN|apply St.ckA);assumption;(first|exact i0|exact i1|exact i2|exact i3|exact i4|exact i5|exact i6|exact i7|exact i8|exact i9|exact i10|exact i11|exact i12|exact i13|exact i14|exact i15);(first|rfl|exact Nat.le_of_ble_eq_true rfl)) | with_reducible refine der_of ?_ | ((with_reducible refine br_t ?_ ?_);rfl) | ((with_reducible refine br_f ?_ ?_);rfl) | ((with_reducible refine br_t ?_ ?_);assumption) | ((with_reducible refine br_f ?_ ?_);assumption) | ((with_reducible first|apply St.wrL|apply St.wr);assumption;(first|exact i0|exact i1|exact i2|exact i3|exact i4|exact i5|exact i6|exact i7|exact i8|exact i9|exact i10|exact i11|exact i12|exact i13|exact i14|exact i15);(first|exact Nat.le_of_ble_eq_true rfl|rfl);intro g_ S_;simp only [Ptr.add, List.set, splice, List.take, List.drop, List.nil_append, List.append_nil, List.cons_append, List.length_cons, List.length_nil, Nat.zero_add, Nat.add_zero, Nat.reduceAdd, Nat.reduceMul, Nat.mul_one, Int.toNat_zero, Int.toNat_one, Int.reduceToNat] at S_) | ((with_reducible refine ix_of ?_ ?_ ?_);exact of_decide_eq_true rfl;exact of_decide_eq_true rfl) | ((with_reducible first|refine nz_of ?_ ?_|refine nneg_of ?_ ?_);exact of_decide_eq_true rfl) | ((with_reducible refine chk_of ?_ ?_);rfl) | (with_reducible first|apply asI_of|apply asB_of|apply asP_of|apply asSl_of|apply asAggV_of|apply asTupV_of|apply asCons_of|apply asNil_of|apply isNil_n|apply isNil_i|apply nilC_i|apply nilCU_i|apply nilCU_f|apply mthC_i) | ((with_reducible refine And.intro ?_ ?_);rfl) | ((with_reducible apply exAnd);rfl))
  unfold backend_Block_Kick.j4
  intro I HI
  refine HI _ _ _ _ ?_
  unfold backend_Block_Kick.b4
  repeat (first | ((with_reducible first|apply St.rI|apply St.rB|apply St.rP|apply St.rSl|apply St.rV|apply St.rM|apply St.rS|apply St.rN|apply St.ckA);assumption;(first|exact i0|exact i1|exact i2|exact i3|exact i4|exact i5|exact i6|exact i7|exact i8|exact i9|exact i10|exact i11|exact i12|exact i13|exact i14|exact i15);(first|rfl|exact Nat.le_of_ble_eq_true rfl)) | with_reducible refine der_of ?_ | ((with_reducible refine br_t ?_ ?_);rfl) | ((with_reducible refine br_f ?_ ?_);rfl) | ((with_reducible refine br_t ?_ ?_);assumption) | ((with_reducible refine br_f ?_ ?_);assumption) | ((with_reducible first|apply St.wrL|apply St.wr);assumption;(first|exact i0|exact i1|exact i2|exact i3|exact i4|exact i5|exact i6|exact i7|exact i8|exact i9|exact i10|exact i11|exact i12|exact i13|exact i14|exact i15);(first|exact Nat.le_of_ble_eq_true rfl|rfl);intro g_ S_;simp only [Ptr.add, List.set, splice, List.take, List.drop, List.nil_append, List.append_nil, List.cons_append, List.length_cons, List.length_nil, Nat.zero_add, Nat.add_zero, Nat.reduceAdd, Nat.reduceMul, Nat.mul_one, Int.toNat_zero, Int.toNat_one, Int.reduceToNat] at S_) | ((with_reducible refine ix_of ?_ ?_ ?_);exact of_decide_eq_true rfl;exact of_decide_eq_true rfl) | ((with_reducible first|refine nz_of ?_ ?_|refine nneg_of ?_ ?_);exact of_decide_eq_true rfl) | ((with_reducible refine chk_of ?_ ?_);rfl) | (with_reducible first|apply asI_of|apply asB_of|apply asP_of|apply asSl_of|apply asAggV_of|apply asTupV_of|apply asCons_of|apply asNil_of|apply isNil_n|apply isNil_i|apply nilC_i|apply nilCU_i|apply nilCU_f|apply mthC_i) | ((with_reducible refine And.intro ?_ ?_);rfl) | ((with_reducible apply exAnd);rfl))
  unfold mapLen
  refine ⟨_, _, _, _, S_.obj (i := 4) rfl, ?_⟩
  repeat (first | ((with_reducible first|apply St.rI|apply St.rB|apply St.rP|apply St.rSl|apply St.rV|apply St.rM|apply St.rS|apply St.rN|apply St.ckA);assumption;(first|exact i0|exact i1|exact i2|exact i3|exact i4|exact i5|exact i6|exact i7|exact i8|exact i9|exact i10|exact i11|exact i12|exact i13|exact i14|exact i15);(first|rfl|exact Nat.le_of_ble_eq_true rfl)) | with_reducible refine der_of ?_ | ((with_reducible refine br_t ?_ ?_);rfl) | ((with_reducible refine br_f ?_ ?_);rfl) | ((with_reducible refine br_t ?_ ?_);assumption) | ((with_reducible refine br_f ?_ ?_);assumption) | ((with_reducible first|apply St.wrL|apply St.wr);assumption;(first|exact i0|exact i1|exact i2|exact i3|exact i4|exact i5|exact i6|exact i7|exact i8|exact i9|exact i10|exact i11|exact i12|exact i13|exact i14|exact i15);(first|exact Nat.le_of_ble_eq_true rfl|rfl);intro g_ S_;simp only [Ptr.add, List.set, splice, List.take, List.drop, List.nil_append, List.append_nil, List.cons_append, List.length_cons, List.length_nil, Nat.zero_add, Nat.add_zero, Nat.reduceAdd, Nat.reduceMul, Nat.mul_one, Int.toNat_zero, Int.toNat_one, Int.reduceToNat] at S_) | ((with_reducible refine ix_of ?_ ?_ ?_);exact of_decide_eq_true rfl;exact of_decide_eq_true rfl) | ((with_reducible first|refine nz_of ?_ ?_|refine nneg_of ?_ ?_);exact of_decide_eq_true rfl) | ((with_reducible refine chk_of ?_ ?_);rfl) | (with_reducible first|apply asI_of|apply asB_of|apply asP_of|apply asSl_of|apply asAggV_of|apply asTupV_of|apply asCons_of|apply asNil_of|apply isNil_n|apply isNil_i|apply nilC_i|apply nilCU_i|apply nilCU_f|apply mthC_i) | ((with_reducible refine And.intro ?_ ?_);rfl) | ((with_reducible apply exAnd);rfl))
  have SP : St h _ ([(rg, .cells (ringC ((0 : Nat) : Int) ((0 : Nat) : Int) false) false), (gb, .cells (flatC pm (base : Int)) false), (pm, .cells (memC bm) false), (bm, .cells (strCells bs) mk)] ++ ([(fb, .cells (FS.cells F tm wm) false), (tm, .map (.int .i64) (ikeys .i64 (F : FS).t) bt ct), (wm, .map (.int .i64) (ikeys .i64 (F : FS).w) bw cw), (blk, .cells (blkC rg db fb wq first 4 owner asked) false), (wq, .map (.int .i64) [] [] wc)] ++ R)) h := St.pickR (A := [(fb, .cells (FS.cells F tm wm) false), (tm, .map (.int .i64) (ikeys .i64 (F : FS).t) bt ct), (wm, .map (.int .i64) (ikeys .i64 (F : FS).w) bw cw), (blk, .cells (blkC rg db fb wq first 4 owner asked) false), (wq, .map (.int .i64) [] [] wc), (rg, .cells (ringC ((0 : Nat) : Int) ((0 : Nat) : Int) false) false), (gb, .cells (flatC pm (base : Int)) false), (pm, .cells (memC bm) false), (bm, .cells (strCells bs) mk)]) (A' := [(rg, .cells (ringC ((0 : Nat) : Int) ((0 : Nat) : Int) false) false), (gb, .cells (flatC pm (base : Int)) false), (pm, .cells (memC bm) false), (bm, .cells (strCells bs) mk), (fb, .cells (FS.cells F tm wm) false), (tm, .map (.int .i64) (ikeys .i64 (F : FS).t) bt ct), (wm, .map (.int .i64) (ikeys .i64 (F : FS).w) bw cw), (blk, .cells (blkC rg db fb wq first 4 owner asked) false), (wq, .map (.int .i64) [] [] wc)]) S_ [5, 6, 7, 8, 0, 1, 2, 3, 4] (by decide) rfl
  refine next_gen (t := 0) hu wh (SP.notA wh.known (B.off w.known)) hk8 M hb (by decide) hcnt (by decide) hhead P D SP.head (fun cb c rest mk' g1 S1 => ?_)
  have S2 := St.frame S1 SP
  simp only [List.cons_append, List.nil_append] at S2
  clear S1 SP S_
  ((with_reducible apply St.al); assumption; intro k1 g_ S_)
  repeat (first | ((with_reducible first|apply St.rI|apply St.rB|apply St.rP|apply St.rSl|apply St.rV|apply St.rM|apply St.rS|apply St.rN|apply St.ckA);assumption;(first|exact i0|exact i1|exact i2|exact i3|exact i4|exact i5|exact i6|exact i7|exact i8|exact i9|exact i10|exact i11|exact i12|exact i13|exact i14|exact i15);(first|rfl|exact Nat.le_of_ble_eq_true rfl)) | with_reducible refine der_of ?_ | ((with_reducible refine br_t ?_ ?_);rfl) | ((with_reducible refine br_f ?_ ?_);rfl) | ((with_reducible refine br_t ?_ ?_);assumption) | ((with_reducible refine br_f ?_ ?_);assumption) | ((with_reducible first|apply St.wrL|apply St.wr);assumption;(first|exact i0|exact i1|exact i2|exact i3|exact i4|exact i5|exact i6|exact i7|exact i8|exact i9|exact i10|exact i11|exact i12|exact i13|exact i14|exact i15);(first|exact Nat.le_of_ble_eq_true rfl|rfl);intro g_ S_;simp only [Ptr.add, List.set, splice, List.take, List.drop, List.nil_append, List.append_nil, List.cons_append, List.length_cons, List.length_nil, Nat.zero_add, Nat.add_zero, Nat.reduceAdd, Nat.reduceMul, Nat.mul_one, Int.toNat_zero, Int.toNat_one, Int.reduceToNat] at S_) | ((with_reducible refine ix_of ?_ ?_ ?_);exact of_decide_eq_true rfl;exact of_decide_eq_true rfl) | ((with_reducible first|refine nz_of ?_ ?_|refine nneg_of ?_ ?_);exact of_decide_eq_true rfl) | ((with_reducible refine chk_of ?_ ?_);rfl) | (with_reducible first|apply asI_of|apply asB_of|apply asP_of|apply asSl_of|apply asAggV_of|apply asTupV_of|apply asCons_of|apply asNil_of|apply isNil_n|apply isNil_i|apply nilC_i|apply nilCU_i|apply nilCU_f|apply mthC_i) | ((with_reducible refine And.intro ?_ ?_);rfl) | ((with_reducible apply exAnd);rfl))
  unfold backend_Block_Kick.j8
  repeat (first | ((with_reducible first|apply St.rI|apply St.rB|apply St.rP|apply St.rSl|apply St.rV|apply St.rM|apply St.rS|apply St.rN|apply St.ckA);assumption;(first|exact i0|exact i1|exact i2|exact i3|exact i4|exact i5|exact i6|exact i7|exact i8|exact i9|exact i10|exact i11|exact i12|exact i13|exact i14|exact i15);(first|rfl|exact Nat.le_of_ble_eq_true rfl)) | with_reducible refine der_of ?_ | ((with_reducible refine br_t ?_ ?_);rfl) | ((with_reducible refine br_f ?_ ?_);rfl) | ((with_reducible refine br_t ?_ ?_);assumption) | ((with_reducible refine br_f ?_ ?_);assumption) | ((with_reducible first|apply St.wrL|apply St.wr);assumption;(first|exact i0|exact i1|exact i2|exact i3|exact i4|exact i5|exact i6|exact i7|exact i8|exact i9|exact i10|exact i11|exact i12|exact i13|exact i14|exact i15);(first|exact Nat.le_of_ble_eq_true rfl|rfl);intro g_ S_;simp only [Ptr.add, List.set, splice, List.take, List.drop, List.nil_append, List.append_nil, List.cons_append, List.length_cons, List.length_nil, Nat.zero_add, Nat.add_zero, Nat.reduceAdd, Nat.reduceMul, Nat.mul_one, Int.toNat_zero, Int.toNat_one, Int.reduceToNat] at S_) | ((with_reducible refine ix_of ?_ ?_ ?_);exact of_decide_eq_true rfl;exact of_decide_eq_true rfl) | ((with_reducible first|refine nz_of ?_ ?_|refine nneg_of ?_ ?_);exact of_decide_eq_true rfl) | ((with_reducible refine chk_of ?_ ?_);rfl) | (with_reducible first|apply asI_of|apply asB_of|apply asP_of|apply asSl_of|apply asAggV_of|apply asTupV_of|apply asCons_of|apply asNil_of|apply isNil_n|apply isNil_i|apply nilC_i|apply nilCU_i|apply nilCU_f|apply mthC_i) | ((with_reducible refine And.intro ?_ ?_);rfl) | ((with_reducible apply exAnd);rfl))
  have SA : St h _ ([(cb, .cells (pcells ps ++ rest) mk'), (blk, .cells (blkC rg db fb wq first 4 owner asked) false), (gb, .cells (flatC pm (base : Int)) false), (pm, .cells (memC bm) false), (bm, .cells (strCells bs) mk), (fb, .cells (FS.cells F tm wm) false), (tm, .map (.int .i64) (ikeys .i64 (F : FS).t) bt ct), (wm, .map (.int .i64) (ikeys .i64 (F : FS).w) bw cw)] ++ ([(k1, .cells [.int .i64 0, .sl ⟨some ⟨cb, 0⟩, ps.length, c⟩] false), (rg, .cells (ringC ((1 : Nat) : Int) ((0 : Nat) : Int) false) false), (wq, .map (.int .i64) [] [] wc)] ++ R)) g_ := St.pickR (A := [(k1, .cells [.int .i64 0, .sl ⟨some ⟨cb, 0⟩, ps.length, c⟩] false), (cb, .cells (pcells ps ++ rest) mk'), (rg, .cells (ringC ((1 : Nat) : Int) ((0 : Nat) : Int) false) false), (gb, .cells (flatC pm (base : Int)) false), (pm, .cells (memC bm) false), (bm, .cells (strCells bs) mk), (fb, .cells (FS.cells F tm wm) false), (tm, .map (.int .i64) (ikeys .i64 (F : FS).t) bt ct), (wm, .map (.int .i64) (ikeys .i64 (F : FS).w) bw cw), (blk, .cells (blkC rg db fb wq first 4 owner asked) false), (wq, .map (.int .i64) [] [] wc)]) (A' := [(cb, .cells (pcells ps ++ rest) mk'), (blk, .cells (blkC rg db fb wq first 4 owner asked) false), (gb, .cells (flatC pm (base : Int)) false), (pm, .cells (memC bm) false), (bm, .cells (strCells bs) mk), (fb, .cells (FS.cells F tm wm) false), (tm, .map (.int .i64) (ikeys .i64 (F : FS).t) bt ct), (wm, .map (.int .i64) (ikeys .i64 (F : FS).w) bw cw), (k1, .cells [.int .i64 0, .sl ⟨some ⟨cb, 0⟩, ps.length, c⟩] false), (rg, .cells (ringC ((1 : Nat) : Int) ((0 : Nat) : Int) false) false), (wq, .map (.int .i64) [] [] wc)]) S_ [1, 9, 3, 4, 5, 6, 7, 8, 0, 2, 10] (by decide) rfl
  clear S_ S2
  refine hask _ _ cb c rest mk' _ _ SA.head (fun g2 S3 => ?_)
  have S4 := St.frame S3 SA
  simp only [List.cons_append, List.nil_append] at S4
  clear S3 SA
  ((with_reducible apply St.al); assumption; intro k2 g_ S_)
  repeat (first | ((with_reducible first|apply St.rI|apply St.rB|apply St.rP|apply St.rSl|apply St.rV|apply St.rM|apply St.rS|apply St.rN|apply St.ckA);assumption;(first|exact i0|exact i1|exact i2|exact i3|exact i4|exact i5|exact i6|exact i7|exact i8|exact i9|exact i10|exact i11|exact i12|exact i13|exact i14|exact i15);(first|rfl|exact Nat.le_of_ble_eq_true rfl)) | with_reducible refine der_of ?_ | ((with_reducible refine br_t ?_ ?_);rfl) | ((with_reducible refine br_f ?_ ?_);rfl) | ((with_reducible refine br_t ?_ ?_);assumption) | ((with_reducible refine br_f ?_ ?_);assumption) | ((with_reducible first|apply St.wrL|apply St.wr);assumption;(first|exact i0|exact i1|exact i2|exact i3|exact i4|exact i5|exact i6|exact i7|exact i8|exact i9|exact i10|exact i11|exact i12|exact i13|exact i14|exact i15);(first|exact Nat.le_of_ble_eq_true rfl|rfl);intro g_ S_;simp only [Ptr.add, List.set, splice, List.take, List.drop, List.nil_append, List.append_nil, List.cons_append, List.length_cons, List.length_nil, Nat.zero_add, Nat.add_zero, Nat.reduceAdd, Nat.reduceMul, Nat.mul_one, Int.toNat_zero, Int.toNat_one, Int.reduceToNat] at S_) | ((with_reducible refine ix_of ?_ ?_ ?_);exact of_decide_eq_true rfl;exact of_decide_eq_true rfl) | ((with_reducible first|refine nz_of ?_ ?_|refine nneg_of ?_ ?_);exact of_decide_eq_true rfl) | ((with_reducible refine chk_of ?_ ?_);rfl) | (with_reducible first|apply asI_of|apply asB_of|apply asP_of|apply asSl_of|apply asAggV_of|apply asTupV_of|apply asCons_of|apply asNil_of|apply isNil_n|apply isNil_i|apply nilC_i|apply nilCU_i|apply nilCU_f|apply mthC_i) | ((with_reducible refine And.intro ?_ ?_);rfl) | ((with_reducible apply exAnd);rfl))
  refine br_f (by rcases hst with rfl | rfl <;> rfl) ?_
  unfold backend_Block_Kick.j11
  refine br_f (by rcases hst with rfl | rfl <;> rfl) ?_
  repeat (first | ((with_reducible first|apply St.rI|apply St.rB|apply St.rP|apply St.rSl|apply St.rV|apply St.rM|apply St.rS|apply St.rN|apply St.ckA);assumption;(first|exact i0|exact i1|exact i2|exact i3|exact i4|exact i5|exact i6|exact i7|exact i8|exact i9|exact i10|exact i11|exact i12|exact i13|exact i14|exact i15);(first|rfl|exact Nat.le_of_ble_eq_true rfl)) | with_reducible refine der_of ?_ | ((with_reducible refine br_t ?_ ?_);rfl) | ((with_reducible refine br_f ?_ ?_);rfl) | ((with_reducible refine br_t ?_ ?_);assumption) | ((with_reducible refine br_f ?_ ?_);assumption) | ((with_reducible first|apply St.wrL|apply St.wr);assumption;(first|exact i0|exact i1|exact i2|exact i3|exact i4|exact i5|exact i6|exact i7|exact i8|exact i9|exact i10|exact i11|exact i12|exact i13|exact i14|exact i15);(first|exact Nat.le_of_ble_eq_true rfl|rfl);intro g_ S_;simp only [Ptr.add, List.set, splice, List.take, List.drop, List.nil_append, List.append_nil, List.cons_append, List.length_cons, List.length_nil, Nat.zero_add, Nat.add_zero, Nat.reduceAdd, Nat.reduceMul, Nat.mul_one, Int.toNat_zero, Int.toNat_one, Int.reduceToNat] at S_) | ((with_reducible refine ix_of ?_ ?_ ?_);exact of_decide_eq_true rfl;exact of_decide_eq_true rfl) | ((with_reducible first|refine nz_of ?_ ?_|refine nneg_of ?_ ?_);exact of_decide_eq_true rfl) | ((with_reducible refine chk_of ?_ ?_);rfl) | (with_reducible first|apply asI_of|apply asB_of|apply asP_of|apply asSl_of|apply asAggV_of|apply asTupV_of|apply asCons_of|apply asNil_of|apply isNil_n|apply isNil_i|apply nilC_i|apply nilCU_i|apply nilCU_f|apply mthC_i) | ((with_reducible refine And.intro ?_ ?_);rfl) | ((with_reducible apply exAnd);rfl))
  have ST : St h _ ([(cb, .cells (pcells ps ++ rest) mk'), (gb, .cells (flatC pm (base : Int)) false), (pm, .cells (memC bm) false), (bm, .cells (strCells bs) mk)] ++ ([(k2, .cells [.int .i64 0, .bool false, .int .i64 0, .int .i64 0] false), (blk, .cells (blkC rg db fb wq first 4 owner asked) false), (fb, .cells (FS.cells F tm wm) false), (tm, .map (.int .i64) (ikeys .i64 (F : FS).t) bt ct), (wm, .map (.int .i64) (ikeys .i64 (F : FS).w) bw cw), (k1, .cells [.int .i64 0, .sl ⟨some ⟨cb, 0⟩, ps.length, c⟩] false), (rg, .cells (ringC ((1 : Nat) : Int) ((0 : Nat) : Int) false) false), (wq, .map (.int .i64) [] [] wc)] ++ R)) g_ := St.pickR (A := [(k2, .cells [.int .i64 0, .bool false, .int .i64 0, .int .i64 0] false), (cb, .cells (pcells ps ++ rest) mk'), (blk, .cells (blkC rg db fb wq first 4 owner asked) false), (gb, .cells (flatC pm (base : Int)) false), (pm, .cells (memC bm) false), (bm, .cells (strCells bs) mk), (fb, .cells (FS.cells F tm wm) false), (tm, .map (.int .i64) (ikeys .i64 (F : FS).t) bt ct), (wm, .map (.int .i64) (ikeys .i64 (F : FS).w) bw cw), (k1, .cells [.int .i64 0, .sl ⟨some ⟨cb, 0⟩, ps.length, c⟩] false), (rg, .cells (ringC ((1 : Nat) : Int) ((0 : Nat) : Int) false) false), (wq, .map (.int .i64) [] [] wc)]) (A' := [(cb, .cells (pcells ps ++ rest) mk'), (gb, .cells (flatC pm (base : Int)) false), (pm, .cells (memC bm) false), (bm, .cells (strCells bs) mk), (k2, .cells [.int .i64 0, .bool false, .int .i64 0, .int .i64 0] false), (blk, .cells (blkC rg db fb wq first 4 owner asked) false), (fb, .cells (FS.cells F tm wm) false), (tm, .map (.int .i64) (ikeys .i64 (F : FS).t) bt ct), (wm, .map (.int .i64) (ikeys .i64 (F : FS).w) bw cw), (k1, .cells [.int .i64 0, .sl ⟨some ⟨cb, 0⟩, ps.length, c⟩] false), (rg, .cells (ringC ((1 : Nat) : Int) ((0 : Nat) : Int) false) false), (wq, .map (.int .i64) [] [] wc)]) S_ [1, 3, 4, 5, 0, 2, 6, 7, 8, 9, 10, 11] (by decide) rfl
  clear S_ S4
  have fin : ∀ (n : Int) (bs1 : List UInt8) (m1 : Nat → Int) (mk1 : Bool) (g3 : Heap), 0 ≤ n ∧ n ≤ 1 → n = (if q.w then 1 else 0) → MemIs bs1 base m1 → (∀ j, j < 61 → m1 j = m j) → (q.w = true → byteAt bs1 base k = st) → St h (keysOf ([(fb, .cells (FS.cells F tm wm) false), (tm, .map (.int .i64) (ikeys .i64 (F : FS).t) bt ct), (wm, .map (.int .i64) (ikeys .i64 (F : FS).w) bw cw), (blk, .cells (blkC rg db fb wq first 4 owner asked) false), (wq, .map (.int .i64) [] [] wc), (rg, .cells (ringC ((0 : Nat) : Int) ((0 : Nat) : Int) false) false), (gb, .cells (flatC pm (base : Int)) false), (pm, .cells (memC bm) false), (bm, .cells (strCells bs) mk)] ++ R)) ([(cb, .cells (pcells ps ++ rest) mk'), (gb, .cells (flatC pm (base : Int)) false), (pm, .cells (memC bm) false), (bm, .cells (strCells bs1) mk1)] ++ ([(k2, .cells [.int .i64 0, .bool false, .int .i64 0, .int .i64 0] false), (blk, .cells (blkC rg db fb wq first 4 owner asked) false), (fb, .cells (FS.cells F tm wm) false), (tm, .map (.int .i64) (ikeys .i64 (F : FS).t) bt ct), (wm, .map (.int .i64) (ikeys .i64 (F : FS).w) bw cw), (k1, .cells [.int .i64 0, .sl ⟨some ⟨cb, 0⟩, ps.length, c⟩] false), (rg, .cells (ringC ((1 : Nat) : Int) ((0 : Nat) : Int) false) false), (wq, .map (.int .i64) [] [] wc)] ++ R)) g3 →
      ring_Ring_Push U (some ⟨rg, 0⟩) (.iface 4 (.ptr (some ⟨gb, 0⟩))) 0 n (fun r7 h => br (r7 != 0) (Q 0 r7 h) (I (some ⟨blk, 0⟩) (.iface 4 (.ptr (some ⟨gb, 0⟩))) (IntKind.i64.wrap (0 + 1)) h)) g3 := by
    intro n bs1 m1 mk1 g3 hn hn2 M1 hm1 hby S5
    simp only [List.cons_append, List.nil_append] at S5
    have SU : St h _ ([(rg, .cells (ringC ((1 : Nat) : Int) ((0 : Nat) : Int) false) false), (gb, .cells (flatC pm (base : Int)) false), (pm, .cells (memC bm) false), (bm, .cells (strCells bs1) mk1)] ++ ([(cb, .cells (pcells ps ++ rest) mk'), (k2, .cells [.int .i64 0, .bool false, .int .i64 0, .int .i64 0] false), (blk, .cells (blkC rg db fb wq first 4 owner asked) false), (fb, .cells (FS.cells F tm wm) false), (tm, .map (.int .i64) (ikeys .i64 (F : FS).t) bt ct), (wm, .map (.int .i64) (ikeys .i64 (F : FS).w) bw cw), (k1, .cells [.int .i64 0, .sl ⟨some ⟨cb, 0⟩, ps.length, c⟩] false), (wq, .map (.int .i64) [] [] wc)] ++ R)) g3 := St.pickR (A := [(cb, .cells (pcells ps ++ rest) mk'), (gb, .cells (flatC pm (base : Int)) false), (pm, .cells (memC bm) false), (bm, .cells (strCells bs1) mk1), (k2, .cells [.int .i64 0, .bool false, .int .i64 0, .int .i64 0] false), (blk, .cells (blkC rg db fb wq first 4 owner asked) false), (fb, .cells (FS.cells F tm wm) false), (tm, .map (.int .i64) (ikeys .i64 (F : FS).t) bt ct), (wm, .map (.int .i64) (ikeys .i64 (F : FS).w) bw cw), (k1, .cells [.int .i64 0, .sl ⟨some ⟨cb, 0⟩, ps.length, c⟩] false), (rg, .cells (ringC ((1 : Nat) : Int) ((0 : Nat) : Int) false) false), (wq, .map (.int .i64) [] [] wc)]) (A' := [(rg, .cells (ringC ((1 : Nat) : Int) ((0 : Nat) : Int) false) false), (gb, .cells (flatC pm (base : Int)) false), (pm, .cells (memC bm) false), (bm, .cells (strCells bs1) mk1), (cb, .cells (pcells ps ++ rest) mk'), (k2, .cells [.int .i64 0, .bool false, .int .i64 0, .int .i64 0] false), (blk, .cells (blkC rg db fb wq first 4 owner asked) false), (fb, .cells (FS.cells F tm wm) false), (tm, .map (.int .i64) (ikeys .i64 (F : FS).t) bt ct), (wm, .map (.int .i64) (ikeys .i64 (F : FS).w) bw cw), (k1, .cells [.int .i64 0, .sl ⟨some ⟨cb, 0⟩, ps.length, c⟩] false), (wq, .map (.int .i64) [] [] wc)]) S5 [10, 1, 2, 3, 0, 4, 5, 6, 7, 8, 9, 11] (by decide) rfl
    refine push (t := 1) (gv := 0) hu (wh.keeps SU.keeps (B.off w.known)) (SU.notA wh.known (B.off w.known)) hk8 M1 hb (by decide) (by decide) ⟨hn.1, by omega⟩ SU.head (fun bs2 mk2 g4 M2 S6 => ?_)
    have S7 := St.frame S6 SU
    simp only [List.cons_append, List.nil_append] at S7
    clear S6 SU
    have B2 := (B.step S7).pickR (A := [(rg, .cells (ringC ((1 : Nat) : Int) ((1 : Nat) : Int) false) false), (gb, .cells (flatC pm (base : Int)) false), (pm, .cells (memC bm) false), (bm, .cells (strCells bs2) mk2), (cb, .cells (pcells ps ++ rest) mk'), (k2, .cells [.int .i64 0, .bool false, .int .i64 0, .int .i64 0] false), (blk, .cells (blkC rg db fb wq first 4 owner asked) false), (fb, .cells (FS.cells F tm wm) false), (tm, .map (.int .i64) (ikeys .i64 (F : FS).t) bt ct), (wm, .map (.int .i64) (ikeys .i64 (F : FS).w) bw cw), (k1, .cells [.int .i64 0, .sl ⟨some ⟨cb, 0⟩, ps.length, c⟩] false), (wq, .map (.int .i64) [] [] wc)]) (A' := [(fb, .cells (FS.cells F tm wm) false), (tm, .map (.int .i64) (ikeys .i64 (F : FS).t) bt ct), (wm, .map (.int .i64) (ikeys .i64 (F : FS).w) bw cw), (blk, .cells (blkC rg db fb wq first 4 owner asked) false), (wq, .map (.int .i64) [] [] wc), (rg, .cells (ringC ((1 : Nat) : Int) ((1 : Nat) : Int) false) false), (gb, .cells (flatC pm (base : Int)) false), (pm, .cells (memC bm) false), (bm, .cells (strCells bs2) mk2)]) [7, 8, 9, 6, 11, 0, 1, 2, 3] (by decide) rfl
    clear S5 S7
    have S_ := B2.st.base
    simp only [List.cons_append, List.nil_append] at S_
    have w4 : Wid U' g4 x := w.keeps B2.st.keeps hw0
    refine br_f rfl ?_
    refine HI _ _ _ _ ?_
    unfold backend_Block_Kick.b4
    repeat (first | ((with_reducible first|apply St.rI|apply St.rB|apply St.rP|apply St.rSl|apply St.rV|apply St.rM|apply St.rS|apply St.rN|apply St.ckA);assumption;(first|exact i0|exact i1|exact i2|exact i3|exact i4|exact i5|exact i6|exact i7|exact i8|exact i9|exact i10|exact i11|exact i12|exact i13|exact i14|exact i15);(first|rfl|exact Nat.le_of_ble_eq_true rfl)) | with_reducible refine der_of ?_ | ((with_reducible refine br_t ?_ ?_);rfl) | ((with_reducible refine br_f ?_ ?_);rfl) | ((with_reducible refine br_t ?_ ?_);assumption) | ((with_reducible refine br_f ?_ ?_);assumption) | ((with_reducible first|apply St.wrL|apply St.wr);assumption;(first|exact i0|exact i1|exact i2|exact i3|exact i4|exact i5|exact i6|exact i7|exact i8|exact i9|exact i10|exact i11|exact i12|exact i13|exact i14|exact i15);(first|exact Nat.le_of_ble_eq_true rfl|rfl);intro g_ S_;simp only [Ptr.add, List.set, splice, List.take, List.drop, List.nil_append, List.append_nil, List.cons_append, List.length_cons, List.length_nil, Nat.zero_add, Nat.add_zero, Nat.reduceAdd, Nat.reduceMul, Nat.mul_one, Int.toNat_zero, Int.toNat_one, Int.reduceToNat] at S_) | ((with_reducible refine ix_of ?_ ?_ ?_);exact of_decide_eq_true rfl;exact of_decide_eq_true rfl) | ((with_reducible first|refine nz_of ?_ ?_|refine nneg_of ?_ ?_);exact of_decide_eq_true rfl) | ((with_reducible refine chk_of ?_ ?_);rfl) | (with_reducible first|apply asI_of|apply asB_of|apply asP_of|apply asSl_of|apply asAggV_of|apply asTupV_of|apply asCons_of|apply asNil_of|apply isNil_n|apply isNil_i|apply nilC_i|apply nilCU_i|apply nilCU_f|apply mthC_i) | ((with_reducible refine And.intro ?_ ?_);rfl) | ((with_reducible apply exAnd);rfl))
    unfold mapLen
    refine ⟨_, _, _, _, S_.obj (i := 4) rfl, ?_⟩
    repeat (first | ((with_reducible first|apply St.rI|apply St.rB|apply St.rP|apply St.rSl|apply St.rV|apply St.rM|apply St.rS|apply St.rN|apply St.ckA);assumption;(first|exact i0|exact i1|exact i2|exact i3|exact i4|exact i5|exact i6|exact i7|exact i8|exact i9|exact i10|exact i11|exact i12|exact i13|exact i14|exact i15);(first|rfl|exact Nat.le_of_ble_eq_true rfl)) | with_reducible refine der_of ?_ | ((with_reducible refine br_t ?_ ?_);rfl) | ((with_reducible refine br_f ?_ ?_);rfl) | ((with_reducible refine br_t ?_ ?_);assumption) | ((with_reducible refine br_f ?_ ?_);assumption) | ((with_reducible first|apply St.wrL|apply St.wr);assumption;(first|exact i0|exact i1|exact i2|exact i3|exact i4|exact i5|exact i6|exact i7|exact i8|exact i9|exact i10|exact i11|exact i12|exact i13|exact i14|exact i15);(first|exact Nat.le_of_ble_eq_true rfl|rfl);intro g_ S_;simp only [Ptr.add, List.set, splice, List.take, List.drop, List.nil_append, List.append_nil, List.cons_append, List.length_cons, List.length_nil, Nat.zero_add, Nat.add_zero, Nat.reduceAdd, Nat.reduceMul, Nat.mul_one, Int.toNat_zero, Int.toNat_one, Int.reduceToNat] at S_) | ((with_reducible refine ix_of ?_ ?_ ?_);exact of_decide_eq_true rfl;exact of_decide_eq_true rfl) | ((with_reducible first|refine nz_of ?_ ?_|refine nneg_of ?_ ?_);exact of_decide_eq_true rfl) | ((with_reducible refine chk_of ?_ ?_);rfl) | (with_reducible first|apply asI_of|apply asB_of|apply asP_of|apply asSl_of|apply asAggV_of|apply asTupV_of|apply asCons_of|apply asNil_of|apply isNil_n|apply isNil_i|apply nilC_i|apply nilCU_i|apply nilCU_f|apply mthC_i) | ((with_reducible refine And.intro ?_ ?_);rfl) | ((with_reducible apply exAnd);rfl))
    have SN : St g4 _ ([(rg, .cells (ringC ((1 : Nat) : Int) ((1 : Nat) : Int) false) false), (gb, .cells (flatC pm (base : Int)) false), (pm, .cells (memC bm) false), (bm, .cells (strCells bs2) mk2)] ++ ([(fb, .cells (FS.cells F tm wm) false), (tm, .map (.int .i64) (ikeys .i64 (F : FS).t) bt ct), (wm, .map (.int .i64) (ikeys .i64 (F : FS).w) bw cw), (blk, .cells (blkC rg db fb wq first 4 owner asked) false), (wq, .map (.int .i64) [] [] wc)] ++ R)) g4 := St.pickR (A := [(fb, .cells (FS.cells F tm wm) false), (tm, .map (.int .i64) (ikeys .i64 (F : FS).t) bt ct), (wm, .map (.int .i64) (ikeys .i64 (F : FS).w) bw cw), (blk, .cells (blkC rg db fb wq first 4 owner asked) false), (wq, .map (.int .i64) [] [] wc), (rg, .cells (ringC ((1 : Nat) : Int) ((1 : Nat) : Int) false) false), (gb, .cells (flatC pm (base : Int)) false), (pm, .cells (memC bm) false), (bm, .cells (strCells bs2) mk2)]) (A' := [(rg, .cells (ringC ((1 : Nat) : Int) ((1 : Nat) : Int) false) false), (gb, .cells (flatC pm (base : Int)) false), (pm, .cells (memC bm) false), (bm, .cells (strCells bs2) mk2), (fb, .cells (FS.cells F tm wm) false), (tm, .map (.int .i64) (ikeys .i64 (F : FS).t) bt ct), (wm, .map (.int .i64) (ikeys .i64 (F : FS).w) bw cw), (blk, .cells (blkC rg db fb wq first 4 owner asked) false), (wq, .map (.int .i64) [] [] wc)]) S_ [5, 6, 7, 8, 0, 1, 2, 3, 4] (by decide) rfl
    refine next0 (t := 1) hu w4 (SN.notA w4.known (B2.off w.known)) hk8 M2 hb (by decide) (by unfold upd; rw [if_neg (by decide), if_neg (by decide), if_neg (by decide)]; exact (hm1 32 (by decide)).trans hcnt) SN.head (fun g9 S9 => ?_)
    have S10 := St.frame S9 SN
    simp only [List.cons_append, List.nil_append] at S10
    clear S9 SN S_
    ((with_reducible apply St.al); assumption; intro k9 g_ S_)
    repeat (first | ((with_reducible first|apply St.rI|apply St.rB|apply St.rP|apply St.rSl|apply St.rV|apply St.rM|apply St.rS|apply St.rN|apply St.ckA);assumption;(first|exact i0|exact i1|exact i2|exact i3|exact i4|exact i5|exact i6|exact i7|exact i8|exact i9|exact i10|exact i11|exact i12|exact i13|exact i14|exact i15);(first|rfl|exact Nat.le_of_ble_eq_true rfl)) | with_reducible refine der_of ?_ | ((with_reducible refine br_t ?_ ?_);rfl) | ((with_reducible refine br_f ?_ ?_);rfl) | ((with_reducible refine br_t ?_ ?_);assumption) | ((with_reducible refine br_f ?_ ?_);assumption) | ((with_reducible first|apply St.wrL|apply St.wr);assumption;(first|exact i0|exact i1|exact i2|exact i3|exact i4|exact i5|exact i6|exact i7|exact i8|exact i9|exact i10|exact i11|exact i12|exact i13|exact i14|exact i15);(first|exact Nat.le_of_ble_eq_true rfl|rfl);intro g_ S_;simp only [Ptr.add, List.set, splice, List.take, List.drop, List.nil_append, List.append_nil, List.cons_append, List.length_cons, List.length_nil, Nat.zero_add, Nat.add_zero, Nat.reduceAdd, Nat.reduceMul, Nat.mul_one, Int.toNat_zero, Int.toNat_one, Int.reduceToNat] at S_) | ((with_reducible refine ix_of ?_ ?_ ?_);exact of_decide_eq_true rfl;exact of_decide_eq_true rfl) | ((with_reducible first|refine nz_of ?_ ?_|refine nneg_of ?_ ?_);exact of_decide_eq_true rfl) | ((with_reducible refine chk_of ?_ ?_);rfl) | (with_reducible first|apply asI_of|apply asB_of|apply asP_of|apply asSl_of|apply asAggV_of|apply asTupV_of|apply asCons_of|apply asNil_of|apply isNil_n|apply isNil_i|apply nilC_i|apply nilCU_i|apply nilCU_f|apply mthC_i) | ((with_reducible refine And.intro ?_ ?_);rfl) | ((with_reducible apply exAnd);rfl))
    unfold backend_Block_Kick.j7
    refine hq bs2 _ mk2 _ M2 (by unfold upd; rw [if_pos rfl]; rfl) (by unfold upd; rw [if_neg (by decide), if_pos rfl]; exact hn2) (fun hqw => ?_) ((B2.step S_).pickR (A := [(k9, _), (rg, .cells (ringC ((1 : Nat) : Int) ((1 : Nat) : Int) false) false), (gb, .cells (flatC pm (base : Int)) false), (pm, .cells (memC bm) false), (bm, .cells (strCells bs2) mk2), (fb, .cells (FS.cells F tm wm) false), (tm, .map (.int .i64) (ikeys .i64 (F : FS).t) bt ct), (wm, .map (.int .i64) (ikeys .i64 (F : FS).w) bw cw), (blk, .cells (blkC rg db fb wq first 4 owner asked) false), (wq, .map (.int .i64) [] [] wc)]) (A' := [(fb, .cells (FS.cells F tm wm) false), (tm, .map (.int .i64) (ikeys .i64 (F : FS).t) bt ct), (wm, .map (.int .i64) (ikeys .i64 (F : FS).w) bw cw), (blk, .cells (blkC rg db fb wq first 4 owner asked) false), (wq, .map (.int .i64) [] [] wc), (rg, .cells (ringC ((1 : Nat) : Int) ((1 : Nat) : Int) false) false), (gb, .cells (flatC pm (base : Int)) false), (pm, .cells (memC bm) false), (bm, .cells (strCells bs2) mk2)]) [5, 6, 7, 8, 9, 1, 2, 3, 4] (by decide) rfl)
    rw [byteAt_word M1 M2 hb hk.2 (by unfold upd; rw [if_neg (by omega), if_neg (by omega), if_neg (by omega)])]
    exact hby hqw
  refine tell_gen hu M hb (by omega) P.n hlast hqa hk.2 ST.head (fun hw g3 S5 => ?_) (fun hw bs1 m1 mk1 g3 M1 hm1 hby S5 => ?_)
  · have S6 := St.frame S5 ST
    have S_ := S6
    simp only [List.cons_append, List.nil_append] at S_
    repeat (first | ((with_reducible first|apply St.rI|apply St.rB|apply St.rP|apply St.rSl|apply St.rV|apply St.rM|apply St.rS|apply St.rN|apply St.ckA);assumption;(first|exact i0|exact i1|exact i2|exact i3|exact i4|exact i5|exact i6|exact i7|exact i8|exact i9|exact i10|exact i11|exact i12|exact i13|exact i14|exact i15);(first|rfl|exact Nat.le_of_ble_eq_true rfl)) | with_reducible refine der_of ?_ | ((with_reducible refine br_t ?_ ?_);rfl) | ((with_reducible refine br_f ?_ ?_);rfl) | ((with_reducible refine br_t ?_ ?_);assumption) | ((with_reducible refine br_f ?_ ?_);assumption) | ((with_reducible first|apply St.wrL|apply St.wr);assumption;(first|exact i0|exact i1|exact i2|exact i3|exact i4|exact i5|exact i6|exact i7|exact i8|exact i9|exact i10|exact i11|exact i12|exact i13|exact i14|exact i15);(first|exact Nat.le_of_ble_eq_true rfl|rfl);intro g_ S_;simp only [Ptr.add, List.set, splice, List.take, List.drop, List.nil_append, List.append_nil, List.cons_append, List.length_cons, List.length_nil, Nat.zero_add, Nat.add_zero, Nat.reduceAdd, Nat.reduceMul, Nat.mul_one, Int.toNat_zero, Int.toNat_one, Int.reduceToNat] at S_) | ((with_reducible refine ix_of ?_ ?_ ?_);exact of_decide_eq_true rfl;exact of_decide_eq_true rfl) | ((with_reducible first|refine nz_of ?_ ?_|refine nneg_of ?_ ?_);exact of_decide_eq_true rfl) | ((with_reducible refine chk_of ?_ ?_);rfl) | (with_reducible first|apply asI_of|apply asB_of|apply asP_of|apply asSl_of|apply asAggV_of|apply asTupV_of|apply asCons_of|apply asNil_of|apply isNil_n|apply isNil_i|apply nilC_i|apply nilCU_i|apply nilCU_f|apply mthC_i) | ((with_reducible refine And.intro ?_ ?_);rfl) | ((with_reducible apply exAnd);rfl))
    exact fin 0 bs m mk g3 (by decide) (by rw [hw]; rfl) M (fun _ _ => rfl) (fun h => by rw [hw] at h; cases h) S6
  · have S6 := St.frame S5 ST
    have S_ := S6
    simp only [List.cons_append, List.nil_append] at S_
    repeat (first | ((with_reducible first|apply St.rI|apply St.rB|apply St.rP|apply St.rSl|apply St.rV|apply St.rM|apply St.rS|apply St.rN|apply St.ckA);assumption;(first|exact i0|exact i1|exact i2|exact i3|exact i4|exact i5|exact i6|exact i7|exact i8|exact i9|exact i10|exact i11|exact i12|exact i13|exact i14|exact i15);(first|rfl|exact Nat.le_of_ble_eq_true rfl)) | with_reducible refine der_of ?_ | ((with_reducible refine br_t ?_ ?_);rfl) | ((with_reducible refine br_f ?_ ?_);rfl) | ((with_reducible refine br_t ?_ ?_);assumption) | ((with_reducible refine br_f ?_ ?_);assumption) | ((with_reducible first|apply St.wrL|apply St.wr);assumption;(first|exact i0|exact i1|exact i2|exact i3|exact i4|exact i5|exact i6|exact i7|exact i8|exact i9|exact i10|exact i11|exact i12|exact i13|exact i14|exact i15);(first|exact Nat.le_of_ble_eq_true rfl|rfl);intro g_ S_;simp only [Ptr.add, List.set, splice, List.take, List.drop, List.nil_append, List.append_nil, List.cons_append, List.length_cons, List.length_nil, Nat.zero_add, Nat.add_zero, Nat.reduceAdd, Nat.reduceMul, Nat.mul_one, Int.toNat_zero, Int.toNat_one, Int.reduceToNat] at S_) | ((with_reducible refine ix_of ?_ ?_ ?_);exact of_decide_eq_true rfl;exact of_decide_eq_true rfl) | ((with_reducible first|refine nz_of ?_ ?_|refine nneg_of ?_ ?_);exact of_decide_eq_true rfl) | ((with_reducible refine chk_of ?_ ?_);rfl) | (with_reducible first|apply asI_of|apply asB_of|apply asP_of|apply asSl_of|apply asAggV_of|apply asTupV_of|apply asCons_of|apply asNil_of|apply isNil_n|apply isNil_i|apply nilC_i|apply nilCU_i|apply nilCU_f|apply mthC_i) | ((with_reducible refine And.intro ?_ ?_);rfl) | ((with_reducible apply exAnd);rfl))
    exact fin 1 bs1 m1 mk1 g3 (by decide) (by rw [hw]; rfl) M1 (fun j hj => hm1 j (by omega) (by omega)) (fun _ => hby) S6

end
end Go.Back

/- BackendRefuses: the plain law. -/
namespace Go.Back
open Go.Lift Go.Fn Go.Mem Go.Frames

theorem BW.start {h0 h : Heap} {L : List (Nat × HO)} {db dm : Nat} (S : St h0 none_ ((db, .cells [.int .i64 12, .map (some dm), .sl ⟨none, 0, 0⟩] false) :: (dm, .map (.int .i64) [] [] 0) :: L) h) :
    BW h0 L db ⟨db, dm, ⟨none, 0, 0⟩, [], fun _ => False⟩ ⟨12, fun _ => Disk.zeros, []⟩ h := by
  have hfoot : ∀ z, Disk.Lay.Foot ⟨db, dm, ⟨none, 0, 0⟩, [], fun _ => False⟩ z → z = db ∨ z = dm := by
    intro z hz
    rcases hz with h1 | h1 | h1 | h1
    · exact .inl h1
    · exact .inr h1
    · obtain ⟨p, hp, _⟩ := h1; cases hp
    · exact h1.elim
  have hn := S.nodup
  simp only [List.map_cons, List.nodup_cons, List.mem_cons, not_or] at hn
  refine ⟨S.tail.tail, ⟨S.obj i0, ⟨[], 0, S.obj i1, by simp, by simp, rfl⟩, by simp [IKeys], fun i => rfl, .inl ⟨rfl, rfl⟩, fun x hx => hx.elim, fun x hx => ?_, fun e => hn.1.1 e.symm⟩, ⟨by decide, by decide, by simp, fun i => by simp [Disk.zeros], by simp, by simp⟩, rfl, fun b v hb hf => ?_, fun z hz => ?_⟩
  · obtain ⟨p, hp, _⟩ := hx; cases hp
  · have hm : b ∈ L.map (·.1) := List.mem_map.2 ⟨_, hb, rfl⟩
    rcases hfoot b hf with rfl | rfl
    · exact hn.1.2 hm
    · exact hn.2.1 hm
  · rcases hfoot z hz with rfl | rfl
    · rcases S.new _ _ (List.mem_cons_self) with h1 | h1
      · exact h1
      · exact h1.elim
    · rcases S.new _ _ (List.mem_cons_of_mem _ (List.mem_cons_self)) with h1 | h1
      · exact h1
      · exact h1.elim

theorem and63 (m : Int) : 0 ≤ ibits .and .u64 m 63 ∧ ibits .and .u64 m 63 ≤ 63 := by
  have hle : (BitVec.ofInt 64 m &&& BitVec.ofInt 64 63).toNat ≤ 63 := by
    rw [BitVec.toNat_and]; exact Nat.and_le_right
  have : ibits .and .u64 m 63 = IntKind.u64.wrap ((BitVec.ofInt 64 m &&& BitVec.ofInt 64 63).toNat : Int) := rfl
  rw [this, wrapu64] <;> omega

theorem and15 (m : Int) : 0 ≤ ibits .and .i64 m 15 ∧ ibits .and .i64 m 15 ≤ 15 := by
  have hle : (BitVec.ofInt 64 m &&& BitVec.ofInt 64 15).toNat ≤ 15 := by
    rw [BitVec.toNat_and]; exact Nat.and_le_right
  have : ibits .and .i64 m 15 = IntKind.i64.wrap ((BitVec.ofInt 64 m &&& BitVec.ofInt 64 15).toNat : Int) := rfl
  rw [this, wrap64]; omega

/-- The parts that are given. -/
def Args (s : Sl) (h : Heap) : Prop := s.len ≤ 9223372036854775807 ∧ ∀ i, i < s.len → ∃ p a l w, s.p = some p ∧ h.get p.b (p.o + i * 3 + 0) = some (.int .u64 a) ∧ h.get p.b (p.o + i * 3 + 1) = some (.int .i64 l) ∧ h.get p.b (p.o + i * 3 + 2) = some (.bool w)

theorem args_of {h : Heap} {s : Sl} (f : s.len ≤ s.cap ∧ s.cap ≤ maxLen ∧ (s.p = none → s.cap = 0) ∧ ∀ p, s.p = some p → ∀ i, i < s.cap → ∃ cs, cs.length = 3 ∧ (∀ j, j < 3 → h.get p.b (p.o + i * 3 + j) = cs[j]?) ∧
    Fits h (.struct (.cons 0 1 (.int .u64) (.cons 1 1 (.int .i64) (.cons 2 1 .bool .nil)))) cs) : Args s h := by
  obtain ⟨h1, h2, h3, h4⟩ := f
  refine ⟨Nat.le_trans h1 h2, fun i hi => ?_⟩
  cases hp : s.p with
  | none => have := h3 hp; omega
  | some p =>
    obtain ⟨cs, hl, hg, f⟩ := h4 p hp i (by omega)
    obtain ⟨⟨a, e0, _⟩, ⟨b, e1, _⟩, ⟨c, e2⟩, _⟩ := f
    match cs, hl with
    | [q0, q1, q2], _ =>
      simp only [List.drop_zero, List.take_succ_cons, List.take_zero, List.drop_succ_cons, List.cons.injEq, and_true] at e0 e1 e2
      subst e0 e1 e2
      exact ⟨p, a, b, c, rfl, (hg 0 (by omega)).trans rfl, (hg 1 (by omega)).trans rfl, (hg 2 (by omega)).trans rfl⟩

theorem wf_u64 {n : Int} (h : (Lit.int .u64 n).wf = true) : 0 ≤ n ∧ n ≤ 18446744073709551615 := by
  simpa [Lit.wf, IntKind.min, IntKind.max, IntKind.signed, IntKind.bits] using h

section
variable {U U' : Ifc} {x : Nat → Int} {h0 h : Heap}

theorem offer_kick (hu : GU U U') (w : Wid U h0 x) (hk8 : knownB x 8 = true) {wb g0 g1 r0 r1 b0 b1 w0 db pm bm fb tm wm pb cp : Nat} {bt bw : List Nat} {ct cw : Nat} {bs : List UInt8} {mk mkp : Bool} {m : Nat → Int} {st : Int} {ps : List Pt} {rp : List V} {q : Pt} {k : Nat} {R : List (Nat × HO)} {dk : Nat} {y : Disk.Lay} {d : Disk.Dsk} (M : MemIs bs 4 m) (P : PsOk ps)
    (hlast : ps[ps.length - 1]? = some q) (hqa : q.a = (k : Int)) (hk : 488 ≤ k ∧ k < 4096) (hst : st = 1 ∨ st = 2)
    (hask : ∀ (bs : List UInt8) (m' : Nat → Int) (mk : Bool), MemIs bs 4 m' → (∀ j, 41 ≤ j → m' j = m j) → ∀ (hh : Heap) (K : Nat → Prop) (cb c : Nat) (rest : List V) (mk' : Bool) (g : Heap) (Q' : Int → Bool → Int → Int → Int → Heap → Prop), St hh K [(cb, .cells (pcells ps ++ rest) mk'), (b0, .cells (blkC r0 db fb w0 0 4 1 0) false), (g0, .cells (flatC pm ((4 : Nat) : Int)) false), (pm, .cells (memC bm) false), (bm, .cells (strCells bs) mk), (fb, .cells (FS.cells (Fc 32) tm wm) false), (tm, .map (.int .i64) (ikeys .i64 ((Fc 32) : FS).t) bt ct), (wm, .map (.int .i64) (ikeys .i64 ((Fc 32) : FS).w) bw cw)] g → (∀ g', St hh K [(cb, .cells (pcells ps ++ rest) mk'), (b0, .cells (blkC r0 db fb w0 0 4 1 0) false), (g0, .cells (flatC pm ((4 : Nat) : Int)) false), (pm, .cells (memC bm) false), (bm, .cells (strCells bs) mk), (fb, .cells (FS.cells (Fc 32) tm wm) false), (tm, .map (.int .i64) (ikeys .i64 ((Fc 32) : FS).t) bt ct), (wm, .map (.int .i64) (ikeys .i64 ((Fc 32) : FS).w) bw cw)] g' → Q' 0 false 0 0 st g') → backend_Block_ask U (some ⟨b0, 0⟩) (.iface 4 (.ptr (some ⟨g0, 0⟩))) 0 ⟨some ⟨cb, 0⟩, ps.length, c⟩ Q' g)
    (B : BW h0 ([(fb, .cells (FS.cells (Fc 32) tm wm) false), (tm, .map (.int .i64) (ikeys .i64 ((Fc 32) : FS).t) bt ct), (wm, .map (.int .i64) (ikeys .i64 ((Fc 32) : FS).w) bw cw), (b0, .cells (blkC r0 db fb w0 0 4 1 0) false), (w0, .map (.int .i64) [] [] 0), (r0, .cells (ringC ((0 : Nat) : Int) ((0 : Nat) : Int) false) false), (g0, .cells (flatC pm ((4 : Nat) : Int)) false), (pm, .cells (memC bm) false), (bm, .cells (strCells bs) mk), (pb, .cells (pcells ps ++ rp) mkp), (wb, .cells [.ptr (some ⟨pm, 0⟩), .ptr (some ⟨fb, 0⟩), .ptr (some ⟨db, 0⟩), .ptr (some ⟨g0, 0⟩), .ptr (some ⟨g1, 0⟩), .ptr (some ⟨r0, 0⟩), .ptr (some ⟨r1, 0⟩), .ptr (some ⟨b0, 0⟩), .ptr (some ⟨b1, 0⟩)] false)] ++ R) dk y d h) {Q : Int → Int → Heap → Prop}
    (hq : ∀ bs' m' mk2 h', MemIs bs' 4 m' → m' 41 = 1 → m' 43 = (if q.w then 1 else 0) → (q.w = true → byteAt bs' 4 k = st) → BW h0 ([(fb, .cells (FS.cells (Fc 32) tm wm) false), (tm, .map (.int .i64) (ikeys .i64 ((Fc 32) : FS).t) bt ct), (wm, .map (.int .i64) (ikeys .i64 ((Fc 32) : FS).w) bw cw), (b0, .cells (blkC r0 db fb w0 0 4 1 0) false), (w0, .map (.int .i64) [] [] 0), (r0, .cells (ringC ((1 : Nat) : Int) ((1 : Nat) : Int) false) false), (g0, .cells (flatC pm ((4 : Nat) : Int)) false), (pm, .cells (memC bm) false), (bm, .cells (strCells bs') mk2), (pb, .cells (pcells ps ++ rp) mkp), (wb, .cells [.ptr (some ⟨pm, 0⟩), .ptr (some ⟨fb, 0⟩), .ptr (some ⟨db, 0⟩), .ptr (some ⟨g0, 0⟩), .ptr (some ⟨g1, 0⟩), .ptr (some ⟨r0, 0⟩), .ptr (some ⟨r1, 0⟩), .ptr (some ⟨b0, 0⟩), .ptr (some ⟨b1, 0⟩)] false)] ++ R) dk y d h' → Q 1 0 h') :
    palisadelaw24_offer U (some ⟨g0, 0⟩) 0 ⟨some ⟨pb, 0⟩, ps.length, cp⟩ (fun h => der (some ⟨wb, 0⟩) (fun p1 => ix 0 2 (fun n2 => rdP ((p1.add 7).add (n2 * 1)) (fun x3 => backend_Block_Kick U x3 (.iface 4 (.ptr (some ⟨g0, 0⟩))) Q h) h))) h := by
  have hw0 : ∀ z : Nat, ¬ none_ z := fun _ f => f
  have w' : Wid U' h0 x := by intro i hi; rw [← hu.glob]; exact w i hi
  have wh : Wid U h x := w.keeps B.st.keeps (hw0 _)
  have SP : St h _ ([(pb, .cells (pcells ps ++ rp) mkp), (g0, .cells (flatC pm ((4 : Nat) : Int)) false), (pm, .cells (memC bm) false), (bm, .cells (strCells bs) mk)] ++ ([(fb, .cells (FS.cells (Fc 32) tm wm) false), (tm, .map (.int .i64) (ikeys .i64 ((Fc 32) : FS).t) bt ct), (wm, .map (.int .i64) (ikeys .i64 ((Fc 32) : FS).w) bw cw), (b0, .cells (blkC r0 db fb w0 0 4 1 0) false), (w0, .map (.int .i64) [] [] 0), (r0, .cells (ringC ((0 : Nat) : Int) ((0 : Nat) : Int) false) false), (wb, .cells [.ptr (some ⟨pm, 0⟩), .ptr (some ⟨fb, 0⟩), .ptr (some ⟨db, 0⟩), .ptr (some ⟨g0, 0⟩), .ptr (some ⟨g1, 0⟩), .ptr (some ⟨r0, 0⟩), .ptr (some ⟨r1, 0⟩), .ptr (some ⟨b0, 0⟩), .ptr (some ⟨b1, 0⟩)] false)] ++ R)) h := St.pickR (A := [(fb, .cells (FS.cells (Fc 32) tm wm) false), (tm, .map (.int .i64) (ikeys .i64 ((Fc 32) : FS).t) bt ct), (wm, .map (.int .i64) (ikeys .i64 ((Fc 32) : FS).w) bw cw), (b0, .cells (blkC r0 db fb w0 0 4 1 0) false), (w0, .map (.int .i64) [] [] 0), (r0, .cells (ringC ((0 : Nat) : Int) ((0 : Nat) : Int) false) false), (g0, .cells (flatC pm ((4 : Nat) : Int)) false), (pm, .cells (memC bm) false), (bm, .cells (strCells bs) mk), (pb, .cells (pcells ps ++ rp) mkp), (wb, .cells [.ptr (some ⟨pm, 0⟩), .ptr (some ⟨fb, 0⟩), .ptr (some ⟨db, 0⟩), .ptr (some ⟨g0, 0⟩), .ptr (some ⟨g1, 0⟩), .ptr (some ⟨r0, 0⟩), .ptr (some ⟨r1, 0⟩), .ptr (some ⟨b0, 0⟩), .ptr (some ⟨b1, 0⟩)] false)]) (A' := [(pb, .cells (pcells ps ++ rp) mkp), (g0, .cells (flatC pm ((4 : Nat) : Int)) false), (pm, .cells (memC bm) false), (bm, .cells (strCells bs) mk), (fb, .cells (FS.cells (Fc 32) tm wm) false), (tm, .map (.int .i64) (ikeys .i64 ((Fc 32) : FS).t) bt ct), (wm, .map (.int .i64) (ikeys .i64 ((Fc 32) : FS).w) bw cw), (b0, .cells (blkC r0 db fb w0 0 4 1 0) false), (w0, .map (.int .i64) [] [] 0), (r0, .cells (ringC ((0 : Nat) : Int) ((0 : Nat) : Int) false) false), (wb, .cells [.ptr (some ⟨pm, 0⟩), .ptr (some ⟨fb, 0⟩), .ptr (some ⟨db, 0⟩), .ptr (some ⟨g0, 0⟩), .ptr (some ⟨g1, 0⟩), .ptr (some ⟨r0, 0⟩), .ptr (some ⟨r1, 0⟩), .ptr (some ⟨b0, 0⟩), .ptr (some ⟨b1, 0⟩)] false)]) B.st.base [9, 6, 7, 8, 0, 1, 2, 3, 4, 5, 10] (by decide) rfl
  refine offer_gen (wh.keeps SP.keeps (B.off w.known)) (SP.notA wh.known (B.off w.known)) hk8 M (by decide) P.n P.ok SP.head (fun bs1 m1 mk1 ha M1 D1 h32 h33 hm1 S1 => ?_)
  have S2 := St.frame S1 SP
  simp only [List.cons_append, List.nil_append] at S2
  have B2 := (B.step S2).pickR (A := [(pb, .cells (pcells ps ++ rp) mkp), (g0, .cells (flatC pm ((4 : Nat) : Int)) false), (pm, .cells (memC bm) false), (bm, .cells (strCells bs1) mk1), (fb, .cells (FS.cells (Fc 32) tm wm) false), (tm, .map (.int .i64) (ikeys .i64 ((Fc 32) : FS).t) bt ct), (wm, .map (.int .i64) (ikeys .i64 ((Fc 32) : FS).w) bw cw), (b0, .cells (blkC r0 db fb w0 0 4 1 0) false), (w0, .map (.int .i64) [] [] 0), (r0, .cells (ringC ((0 : Nat) : Int) ((0 : Nat) : Int) false) false), (wb, .cells [.ptr (some ⟨pm, 0⟩), .ptr (some ⟨fb, 0⟩), .ptr (some ⟨db, 0⟩), .ptr (some ⟨g0, 0⟩), .ptr (some ⟨g1, 0⟩), .ptr (some ⟨r0, 0⟩), .ptr (some ⟨r1, 0⟩), .ptr (some ⟨b0, 0⟩), .ptr (some ⟨b1, 0⟩)] false)]) (A' := [(fb, .cells (FS.cells (Fc 32) tm wm) false), (tm, .map (.int .i64) (ikeys .i64 ((Fc 32) : FS).t) bt ct), (wm, .map (.int .i64) (ikeys .i64 ((Fc 32) : FS).w) bw cw), (b0, .cells (blkC r0 db fb w0 0 4 1 0) false), (w0, .map (.int .i64) [] [] 0), (r0, .cells (ringC ((0 : Nat) : Int) ((0 : Nat) : Int) false) false), (g0, .cells (flatC pm ((4 : Nat) : Int)) false), (pm, .cells (memC bm) false), (bm, .cells (strCells bs1) mk1), (pb, .cells (pcells ps ++ rp) mkp), (wb, .cells [.ptr (some ⟨pm, 0⟩), .ptr (some ⟨fb, 0⟩), .ptr (some ⟨db, 0⟩), .ptr (some ⟨g0, 0⟩), .ptr (some ⟨g1, 0⟩), .ptr (some ⟨r0, 0⟩), .ptr (some ⟨r1, 0⟩), .ptr (some ⟨b0, 0⟩), .ptr (some ⟨b1, 0⟩)] false)]) [4, 5, 6, 7, 8, 9, 1, 2, 3, 0, 10] (by decide) rfl
  clear S1 S2 SP
  have S_ := B2.st.base
  simp only [List.cons_append, List.nil_append] at S_
  repeat (first | ((with_reducible first|apply St.rI|apply St.rB|apply St.rP|apply St.rSl|apply St.rV|apply St.rM|apply St.rS|apply St.rN|apply St.ckA);assumption;(first|exact i0|exact i1|exact i2|exact i3|exact i4|exact i5|exact i6|exact i7|exact i8|exact i9|exact i10|exact i11|exact i12|exact i13|exact i14|exact i15);(first|rfl|exact Nat.le_of_ble_eq_true rfl)) | with_reducible refine der_of ?_ | ((with_reducible refine br_t ?_ ?_);rfl) | ((with_reducible refine br_f ?_ ?_);rfl) | ((with_reducible refine br_t ?_ ?_);assumption) | ((with_reducible refine br_f ?_ ?_);assumption) | ((with_reducible first|apply St.wrL|apply St.wr);assumption;(first|exact i0|exact i1|exact i2|exact i3|exact i4|exact i5|exact i6|exact i7|exact i8|exact i9|exact i10|exact i11|exact i12|exact i13|exact i14|exact i15);(first|exact Nat.le_of_ble_eq_true rfl|rfl);intro g_ S_;simp only [Ptr.add, List.set, splice, List.take, List.drop, List.nil_append, List.append_nil, List.cons_append, List.length_cons, List.length_nil, Nat.zero_add, Nat.add_zero, Nat.reduceAdd, Nat.reduceMul, Nat.mul_one, Int.toNat_zero, Int.toNat_one, Int.reduceToNat] at S_) | ((with_reducible refine ix_of ?_ ?_ ?_);exact of_decide_eq_true rfl;exact of_decide_eq_true rfl) | ((with_reducible first|refine nz_of ?_ ?_|refine nneg_of ?_ ?_);exact of_decide_eq_true rfl) | ((with_reducible refine chk_of ?_ ?_);rfl) | (with_reducible first|apply asI_of|apply asB_of|apply asP_of|apply asSl_of|apply asAggV_of|apply asTupV_of|apply asCons_of|apply asNil_of|apply isNil_n|apply isNil_i|apply nilC_i|apply nilCU_i|apply nilCU_f|apply mthC_i) | ((with_reducible refine And.intro ?_ ?_);rfl) | ((with_reducible apply exAnd);rfl))
  clear S_
  exact kick_no (R := [(pb, .cells (pcells ps ++ rp) mkp), (wb, .cells [.ptr (some ⟨pm, 0⟩), .ptr (some ⟨fb, 0⟩), .ptr (some ⟨db, 0⟩), .ptr (some ⟨g0, 0⟩), .ptr (some ⟨g1, 0⟩), .ptr (some ⟨r0, 0⟩), .ptr (some ⟨r1, 0⟩), .ptr (some ⟨b0, 0⟩), .ptr (some ⟨b1, 0⟩)] false)] ++ R) hu w' hk8 M1 (by decide) P D1 h32 h33 hlast hqa hk hst (hask bs1 m1 mk1 M1 hm1) B2 hq

theorem back_of (w : Wid U h0 x) (hk8 : knownB x 8 = true) {g0 pm bm : Nat} {bs : List UInt8} {mk : Bool} {m : Nat → Int} {W : Nat → Prop} (hw : ¬ W (U.glob 1)) {L : List (Nat × HO)} {g p b : Nat} (M : MemIs bs 4 m) (S : St h0 W L h) (hg : L[g]? = some (g0, .cells (flatC pm ((4 : Nat) : Int)) false)) (hp : L[p]? = some (pm, .cells (memC bm) false)) (hm : L[b]? = some (bm, .cells (strCells bs) mk)) (hpb : p ≠ b) (h41 : m 41 = 1) (h43 : 0 ≤ m 43 ∧ m 43 ≤ 1) {Q : Int → Int → Heap → Prop} (hq : ∀ h', Keeps none_ h h' → Q 1 (m 43) h') : palisadelaw24_back U (some ⟨g0, 0⟩) Q h := by
  unfold palisadelaw24_back
  refine gload (k := 41) w hw hk8 S hg hp hm hpb M (by decide) (by decide) (by decide) (fun h1 k1 => ?_)
  have S1 := S.keep k1
  refine nz_of (by decide) ?_
  refine gload (k := 43) w hw hk8 S1 hg hp hm hpb M (by decide) (by decide) (by rw [h41]; decide) (fun h2 k2 => ?_)
  rw [h41, show IntKind.i64.wrap (m 43) = m 43 by rw [wrap64] <;> omega]
  exact hq h2 (k1.trans k2)

end
end Go.Back

/- BackendRefuses: the plain law, joined. -/
namespace Go.Back
open Go.Lift Go.Fn Go.Mem Go.Frames

/-- Parts that were appended, beside the blocks L. -/
def Built (h0 : Heap) (L : List (Nat × HO)) (db : Nat) (y : Disk.Lay) (d : Disk.Dsk) (s : Sl) (ps : List Pt) (h : Heap) : Prop :=
  (ps = [] ∧ s = ⟨none, 0, 0⟩ ∧ BW h0 L db y d h) ∨ (ps ≠ [] ∧ ∃ pb c rp mkp, s = ⟨some ⟨pb, 0⟩, ps.length, c⟩ ∧ ps.length ≤ c ∧ rp.length = (c - ps.length) * 3 ∧ BW h0 ((pb, .cells (pcells ps ++ rp) mkp) :: L) db y d h)

section
variable {U U' : Ifc} {x : Nat → Int} {h0 h : Heap} {L : List (Nat × HO)} {db : Nat} {y : Disk.Lay} {d : Disk.Dsk}

theorem built_app {s : Sl} {ps : List Pt} {p : Pt} {z : List V} {κ : Sl → Heap → Prop} (hB : Built h0 L db y d s ps h) (hz : z.length = 3) (hl : ps.length ≤ 1000) (hk : ∀ s' h', Built h0 L db y d s' (ps ++ [p]) h' → κ s' h') :
    al p.cells (fun b h => rdN (1 * 3) (⟨b, 0⟩ : Ptr) (fun cs => appS 3 24 z s cs 1 κ h) h) h := by
  rcases hB with ⟨rfl, rfl, B⟩ | ⟨hne, pb, c, rp, mkp, rfl, hc, hr, B⟩
  · have S_ := B.st.base
    unfold Pt.cells
    ((with_reducible apply St.al); assumption; intro b g_ S_)
    repeat (first | ((with_reducible first|apply St.rI|apply St.rB|apply St.rP|apply St.rSl|apply St.rV|apply St.rM|apply St.rS|apply St.rN|apply St.ckA);assumption;(first|exact i0|exact i1|exact i2|exact i3|exact i4|exact i5|exact i6|exact i7|exact i8|exact i9|exact i10|exact i11|exact i12|exact i13|exact i14|exact i15);(first|rfl|exact Nat.le_of_ble_eq_true rfl)) | with_reducible refine der_of ?_ | ((with_reducible refine br_t ?_ ?_);rfl) | ((with_reducible refine br_f ?_ ?_);rfl) | ((with_reducible refine br_t ?_ ?_);assumption) | ((with_reducible refine br_f ?_ ?_);assumption) | ((with_reducible first|apply St.wrL|apply St.wr);assumption;(first|exact i0|exact i1|exact i2|exact i3|exact i4|exact i5|exact i6|exact i7|exact i8|exact i9|exact i10|exact i11|exact i12|exact i13|exact i14|exact i15);(first|exact Nat.le_of_ble_eq_true rfl|rfl);intro g_ S_;simp only [Ptr.add, List.set, splice, List.take, List.drop, List.nil_append, List.append_nil, List.cons_append, List.length_cons, List.length_nil, Nat.zero_add, Nat.add_zero, Nat.reduceAdd, Nat.reduceMul, Nat.mul_one, Int.toNat_zero, Int.toNat_one, Int.reduceToNat] at S_) | ((with_reducible refine ix_of ?_ ?_ ?_);exact of_decide_eq_true rfl;exact of_decide_eq_true rfl) | ((with_reducible first|refine nz_of ?_ ?_|refine nneg_of ?_ ?_);exact of_decide_eq_true rfl) | ((with_reducible refine chk_of ?_ ?_);rfl) | (with_reducible first|apply asI_of|apply asB_of|apply asP_of|apply asSl_of|apply asAggV_of|apply asTupV_of|apply asCons_of|apply asNil_of|apply isNil_n|apply isNil_i|apply nilC_i|apply nilCU_i|apply nilCU_f|apply mthC_i) | ((with_reducible refine And.intro ?_ ?_);rfl) | ((with_reducible apply exAnd);rfl))
    refine app_nil S_ rfl hz (by decide) (fun cb c rest mk g2 S2 hc hr => hk _ g2 (.inr ⟨by simp, cb, c, rest, mk, rfl, hc, hr, ?_⟩))
    exact (B.step S2).pickR (A := [_, _]) (A' := [_]) [0] (by decide) rfl
  · have S_ := B.st.base
    unfold Pt.cells
    ((with_reducible apply St.al); assumption; intro b g_ S_)
    repeat (first | ((with_reducible first|apply St.rI|apply St.rB|apply St.rP|apply St.rSl|apply St.rV|apply St.rM|apply St.rS|apply St.rN|apply St.ckA);assumption;(first|exact i0|exact i1|exact i2|exact i3|exact i4|exact i5|exact i6|exact i7|exact i8|exact i9|exact i10|exact i11|exact i12|exact i13|exact i14|exact i15);(first|rfl|exact Nat.le_of_ble_eq_true rfl)) | with_reducible refine der_of ?_ | ((with_reducible refine br_t ?_ ?_);rfl) | ((with_reducible refine br_f ?_ ?_);rfl) | ((with_reducible refine br_t ?_ ?_);assumption) | ((with_reducible refine br_f ?_ ?_);assumption) | ((with_reducible first|apply St.wrL|apply St.wr);assumption;(first|exact i0|exact i1|exact i2|exact i3|exact i4|exact i5|exact i6|exact i7|exact i8|exact i9|exact i10|exact i11|exact i12|exact i13|exact i14|exact i15);(first|exact Nat.le_of_ble_eq_true rfl|rfl);intro g_ S_;simp only [Ptr.add, List.set, splice, List.take, List.drop, List.nil_append, List.append_nil, List.cons_append, List.length_cons, List.length_nil, Nat.zero_add, Nat.add_zero, Nat.reduceAdd, Nat.reduceMul, Nat.mul_one, Int.toNat_zero, Int.toNat_one, Int.reduceToNat] at S_) | ((with_reducible refine ix_of ?_ ?_ ?_);exact of_decide_eq_true rfl;exact of_decide_eq_true rfl) | ((with_reducible first|refine nz_of ?_ ?_|refine nneg_of ?_ ?_);exact of_decide_eq_true rfl) | ((with_reducible refine chk_of ?_ ?_);rfl) | (with_reducible first|apply asI_of|apply asB_of|apply asP_of|apply asSl_of|apply asAggV_of|apply asTupV_of|apply asCons_of|apply asNil_of|apply isNil_n|apply isNil_i|apply nilC_i|apply nilCU_i|apply nilCU_f|apply mthC_i) | ((with_reducible refine And.intro ?_ ?_);rfl) | ((with_reducible apply exAnd);rfl))
    have S4 : St h _ ((pb, .cells (pcells ps ++ rp) mkp) :: L) g_ := S_.tail
    refine app_own S4 (by rw [pcells_length]) hc hr rfl hz (by decide) hl (fun cb c rest mk g2 S2 hc hr => hk _ g2 (.inr ⟨by simp, cb, c, rest, mk, ?_, ?_, ?_, ?_⟩))
    · simp only [List.length_append, List.length_cons, List.length_nil]
    · simp only [List.length_append, List.length_cons, List.length_nil]; exact hc
    · simp only [List.length_append, List.length_cons, List.length_nil]; exact hr
    · have e : pcells (ps ++ [p]) = pcells ps ++ [V.int .u64 p.a, V.int .i64 p.l, V.bool p.w] := by rw [pcells_append]; rfl
      rw [e]
      exact B.step S2

theorem pend_none (B : BW h0 L db y d h) (hp : d.pend = []) {Q : Sl → Heap → Prop} (hq : ∀ s h', s.len = 0 → Keeps none_ h h' → Q s h') : disk_Disk_Pending (some ⟨db, 0⟩) Q h := by
  obtain rfl := B.pbe
  refine Disk.Pending_of B.R B.ok (fun s h' H _ _ k => hq s h' ?_ k)
  have := H.len
  rw [hp] at this
  simp [Disk.reqs] at this
  omega

theorem keep_get {h h' : Heap} {b o : Nat} {v : V} (k : Keeps none_ h h') (hg : h.get b o = some v) : h'.get b o = some v := by
  have hb : h.obj b ≠ none := by intro e; simp [Heap.get, e] at hg
  have := k.same b hb (fun f => f)
  unfold Heap.get at hg ⊢
  rw [this]; exact hg

theorem tfill_keys : ∀ n, IKeys (tfill n)
  | 0 => by simp [tfill, IKeys]
  | n + 1 => IKeys.put (tfill_keys n)

theorem tfill_one {a : Int} {v : V} {n : Nat} (h : (a, v) ∈ tfill n) : v = .int .i64 1 := by
  have := ifind_mem (tfill_keys n) h
  rw [ifind_tfill] at this
  split at this
  · exact (Option.some.inj this).symm
  · cases this

theorem refuses (hu : GU U U') (w : Wid U h0 x) (hk8 : knownB x 8 = true) (hk1 : knownB x 1 = true) (a1 : Sl) (hA : Args a1 h0) (a2 a3 : Int) (r2 : 0 ≤ a2 ∧ a2 ≤ 18446744073709551615) (r3 : 0 ≤ a3 ∧ a3 ≤ 18446744073709551615) {Q : Bool → Heap → Prop} (hQ : ∀ h, Q true h) : palisadelaw24_BackendRefuses U a1 a2 a3 Q h0 := by
  have hw0 : ∀ z : Nat, ¬ none_ z := fun _ f => f
  unfold palisadelaw24_BackendRefuses
  refine begin_of (fun wb g0 g1 r0 r1 b0 b1 w0 w1 db dm pm bm fb tm wm mk bt ct bw cw g S ok => ?_)
  have S1 : St h0 none_ ((db, .cells [.int .i64 12, .map (some dm), .sl ⟨none, 0, 0⟩] false) :: (dm, .map (.int .i64) [] [] 0) :: [(fb, .cells (FS.cells (Fc 32) tm wm) false), (tm, .map (.int .i64) (ikeys .i64 ((Fc 32) : FS).t) bt ct), (wm, .map (.int .i64) (ikeys .i64 ((Fc 32) : FS).w) bw cw), (b0, .cells (blkC r0 db fb w0 0 4 1 0) false), (w0, .map (.int .i64) [] [] 0), (r0, .cells (ringC ((0 : Nat) : Int) ((0 : Nat) : Int) false) false), (g0, .cells (flatC pm ((4 : Nat) : Int)) false), (pm, .cells (memC bm) false), (bm, .cells (strCells (List.replicate 10240 0)) mk), (wb, .cells [.ptr (some ⟨pm, 0⟩), .ptr (some ⟨fb, 0⟩), .ptr (some ⟨db, 0⟩), .ptr (some ⟨g0, 0⟩), .ptr (some ⟨g1, 0⟩), .ptr (some ⟨r0, 0⟩), .ptr (some ⟨r1, 0⟩), .ptr (some ⟨b0, 0⟩), .ptr (some ⟨b1, 0⟩)] false)]) g := St.pick S [12, 13, 0, 1, 2, 8, 10, 6, 4, 14, 15, 3] (by decide) rfl
  have B := BW.start S1
  clear S S1
  have S_ := B.st.base
  refine br_f rfl ?_
  repeat (first | ((with_reducible first|apply St.rI|apply St.rB|apply St.rP|apply St.rSl|apply St.rV|apply St.rM|apply St.rS|apply St.rN|apply St.ckA);assumption;(first|exact i0|exact i1|exact i2|exact i3|exact i4|exact i5|exact i6|exact i7|exact i8|exact i9|exact i10|exact i11|exact i12|exact i13|exact i14|exact i15);(first|rfl|exact Nat.le_of_ble_eq_true rfl)) | with_reducible refine der_of ?_ | ((with_reducible refine br_t ?_ ?_);rfl) | ((with_reducible refine br_f ?_ ?_);rfl) | ((with_reducible refine br_t ?_ ?_);assumption) | ((with_reducible refine br_f ?_ ?_);assumption) | ((with_reducible first|apply St.wrL|apply St.wr);assumption;(first|exact i0|exact i1|exact i2|exact i3|exact i4|exact i5|exact i6|exact i7|exact i8|exact i9|exact i10|exact i11|exact i12|exact i13|exact i14|exact i15);(first|exact Nat.le_of_ble_eq_true rfl|rfl);intro g_ S_;simp only [Ptr.add, List.set, splice, List.take, List.drop, List.nil_append, List.append_nil, List.cons_append, List.length_cons, List.length_nil, Nat.zero_add, Nat.add_zero, Nat.reduceAdd, Nat.reduceMul, Nat.mul_one, Int.toNat_zero, Int.toNat_one, Int.reduceToNat] at S_) | ((with_reducible refine ix_of ?_ ?_ ?_);exact of_decide_eq_true rfl;exact of_decide_eq_true rfl) | ((with_reducible first|refine nz_of ?_ ?_|refine nneg_of ?_ ?_);exact of_decide_eq_true rfl) | ((with_reducible refine chk_of ?_ ?_);rfl) | (with_reducible first|apply asI_of|apply asB_of|apply asP_of|apply asSl_of|apply asAggV_of|apply asTupV_of|apply asCons_of|apply asNil_of|apply isNil_n|apply isNil_i|apply nilC_i|apply nilCU_i|apply nilCU_f|apply mthC_i) | ((with_reducible refine And.intro ?_ ?_);rfl) | ((with_reducible apply exAnd);rfl))
  have wg : Wid U g x := w.keeps B.st.keeps (hw0 _)
  have ng : ¬ keysOf _ (U.glob 1) := B.off w.known
  have SR : St g _ ([(g0, .cells (flatC pm ((4 : Nat) : Int)) false), (pm, .cells (memC bm) false), (bm, .cells (strCells (List.replicate 10240 0)) mk)] ++ [(fb, .cells (FS.cells (Fc 32) tm wm) false), (tm, .map (.int .i64) (ikeys .i64 ((Fc 32) : FS).t) bt ct), (wm, .map (.int .i64) (ikeys .i64 ((Fc 32) : FS).w) bw cw), (b0, .cells (blkC r0 db fb w0 0 4 1 0) false), (w0, .map (.int .i64) [] [] 0), (r0, .cells (ringC ((0 : Nat) : Int) ((0 : Nat) : Int) false) false), (wb, .cells [.ptr (some ⟨pm, 0⟩), .ptr (some ⟨fb, 0⟩), .ptr (some ⟨db, 0⟩), .ptr (some ⟨g0, 0⟩), .ptr (some ⟨g1, 0⟩), .ptr (some ⟨r0, 0⟩), .ptr (some ⟨r1, 0⟩), .ptr (some ⟨b0, 0⟩), .ptr (some ⟨b1, 0⟩)] false)]) g := St.pick S_ [6, 7, 8, 0, 1, 2, 3, 4, 5, 9] (by decide) rfl
  clear S_
  refine request_of (wg.keeps SR.keeps ng) (SR.notA wg.known ng) hk8 (MemIs.zero (by decide)) (by decide) (kind := a2) (block := a3) (page := 6) r2 r3 (by decide) SR.head (fun rb bs1 mk1 g2 M1 S1 => ?_)
  have S2 := St.frame S1 SR
  clear S1 SR
  have B1 := (B.step S2).pick (L' := [(fb, .cells (FS.cells (Fc 32) tm wm) false), (tm, .map (.int .i64) (ikeys .i64 ((Fc 32) : FS).t) bt ct), (wm, .map (.int .i64) (ikeys .i64 ((Fc 32) : FS).w) bw cw), (b0, .cells (blkC r0 db fb w0 0 4 1 0) false), (w0, .map (.int .i64) [] [] 0), (r0, .cells (ringC ((0 : Nat) : Int) ((0 : Nat) : Int) false) false), (g0, .cells (flatC pm ((4 : Nat) : Int)) false), (pm, .cells (memC bm) false), (bm, .cells (strCells bs1) mk1), (rb, .cells (pcells [⟨1024, 16, false⟩, ⟨256 * 6, 256, a2 == 0⟩, ⟨1100, 1, true⟩] ++ []) false), (wb, .cells [.ptr (some ⟨pm, 0⟩), .ptr (some ⟨fb, 0⟩), .ptr (some ⟨db, 0⟩), .ptr (some ⟨g0, 0⟩), .ptr (some ⟨g1, 0⟩), .ptr (some ⟨r0, 0⟩), .ptr (some ⟨r1, 0⟩), .ptr (some ⟨b0, 0⟩), .ptr (some ⟨b1, 0⟩)] false)]) [4, 5, 6, 7, 8, 9, 1, 2, 3, 0, 10] (by decide) rfl
  clear S2 B
  have hf1 : ifind (((4 : Nat) : Int) + 6) (Fc 32).t = some (.int .i64 1) := by
    show ifind _ (tfill 36) = _
    rw [ifind_tfill, if_pos (by decide)]
  have hf2 : ifind (((4 : Nat) : Int) + 6) (Fc 32).w = some (.int .i64 1) := by
    show ifind _ (wfill 32) = _
    rw [ifind_wfill, if_pos (by decide)]
    rfl
  have l36 : (tfill 36).length = 36 := by kernel_rfl
  -- how often frames are had
  have sum : ∀ {L : List (Nat × HO)} {i j k : Nat} {g : Heap} {K : Int → Heap → Prop}, St h0 none_ L g → L[i]? = some (fb, .cells (FS.cells (Fc 32) tm wm) false) → L[j]? = some (tm, .map (.int .i64) (ikeys .i64 ((Fc 32) : FS).t) bt ct) → L[k]? = some (wm, .map (.int .i64) (ikeys .i64 ((Fc 32) : FS).w) bw cw) → j ≠ k → (∀ h', Keeps none_ g h' → K 36 h') → frames_Frames_Sum (some ⟨fb, 0⟩) K g := by
    intro L i j k g K S hi hj hk hjk hK
    refine Sum_of (rep_at S ok hi hj hk hjk) (tfill_keys 36) (fun a v hav => tfill_one hav) (by show (tfill 36).length ≤ _; rw [l36]; decide) (fun h' k => ?_)
    have : (((Fc 32).t.length : Nat) : Int) = 36 := by show (((tfill 36).length : Nat) : Int) = 36; rw [l36]; rfl
    rw [this]
    exact hK h' k
  -- a kind or a block that is none
  have caseA : ∀ st : Int, (1 < a2 ∧ st = 2) ∨ (a2 ≤ 1 ∧ 3 < a3 ∧ st = 1) → palisadelaw24_BackendRefuses.j7 U a2 (some ⟨wb, 0⟩) (some ⟨g0, 0⟩) ⟨some ⟨rb, 0⟩, 3, 3⟩ Q g2 := by
    intro st hst
    unfold palisadelaw24_BackendRefuses.j7
    refine offer_kick (R := []) (ps := [⟨1024, 16, false⟩, ⟨256 * 6, 256, a2 == 0⟩, ⟨1100, 1, true⟩]) (q := ⟨1100, 1, true⟩) (k := 1100) (st := st) hu w hk8 M1 ⟨by show 1 ≤ 3 ∧ 3 ≤ 8; decide, fun p hp => ?_, fun i p q hp hq hw => ?_⟩ rfl rfl (by decide) (by omega) (fun bs m' mk M' hm hh K cb c rest mk' g Q' S hq => ?_) B1 (fun bs' m' mk2 h' M' h41 h43 hby B' => ?_)
    · simp only [List.mem_cons, List.not_mem_nil, or_false] at hp
      rcases hp with rfl | rfl | rfl
      · exact ⟨by decide, by decide⟩
      · exact ⟨by show (0 : Int) ≤ 256 * 6 ∧ (256 * 6 : Int) ≤ 1000000; decide, by show (1 : Int) ≤ 256 ∧ (256 : Int) ≤ 4096; decide⟩
      · exact ⟨by decide, by decide⟩
    · match i with
      | 0 => simp at hp; subst hp; cases hw
      | 1 => simp at hq; subst hq; rfl
      | i + 2 => simp at hq
    · exact ask_bad hu (kind := a2) (block := a3) (page := 6) M' (by decide) ok r2 r3 (by decide) ((hm 128 (by decide)).trans rfl) ((hm 129 (by decide)).trans rfl) hf1 (by decide) hf2 hst S hq
    · have S_ := B'.st
      simp only [List.cons_append, List.nil_append] at S_
      have h43' : m' 43 = 1 := h43
      refine gbyte (k := 1100) (g := 6) (p := 7) (b := 8) w (hw0 _) hk1 S_ rfl rfl rfl (by decide) M' (by decide) (by decide) rfl (fun h1 k1 => ?_)
      rw [hby rfl]
      have S1 := S_.keep k1
      refine back_of (g := 6) (p := 7) (b := 8) w hk8 (hw0 _) M' S1 rfl rfl rfl (by decide) h41 (by rw [h43']; decide) (fun h2 k2 => ?_)
      rw [h43']
      have S2 := S1.keep k2
      have B2 := B'.step (B'.st.base.keep (k1.trans k2))
      have j14 : palisadelaw24_BackendRefuses.j14 U (some ⟨wb, 0⟩) 1 0 st 1 st Q h2 := by
        unfold palisadelaw24_BackendRefuses.j14
        refine br_t rfl (br_t rfl (br_t (by simp) (br_t rfl ?_)))
        clear S_
        have S_ := S2
        repeat (first | ((with_reducible first|apply St.rI|apply St.rB|apply St.rP|apply St.rSl|apply St.rV|apply St.rM|apply St.rS|apply St.rN|apply St.ckA);assumption;(first|exact i0|exact i1|exact i2|exact i3|exact i4|exact i5|exact i6|exact i7|exact i8|exact i9|exact i10|exact i11|exact i12|exact i13|exact i14|exact i15);(first|rfl|exact Nat.le_of_ble_eq_true rfl)) | with_reducible refine der_of ?_ | ((with_reducible refine br_t ?_ ?_);rfl) | ((with_reducible refine br_f ?_ ?_);rfl) | ((with_reducible refine br_t ?_ ?_);assumption) | ((with_reducible refine br_f ?_ ?_);assumption) | ((with_reducible first|apply St.wrL|apply St.wr);assumption;(first|exact i0|exact i1|exact i2|exact i3|exact i4|exact i5|exact i6|exact i7|exact i8|exact i9|exact i10|exact i11|exact i12|exact i13|exact i14|exact i15);(first|exact Nat.le_of_ble_eq_true rfl|rfl);intro g_ S_;simp only [Ptr.add, List.set, splice, List.take, List.drop, List.nil_append, List.append_nil, List.cons_append, List.length_cons, List.length_nil, Nat.zero_add, Nat.add_zero, Nat.reduceAdd, Nat.reduceMul, Nat.mul_one, Int.toNat_zero, Int.toNat_one, Int.reduceToNat] at S_) | ((with_reducible refine ix_of ?_ ?_ ?_);exact of_decide_eq_true rfl;exact of_decide_eq_true rfl) | ((with_reducible first|refine nz_of ?_ ?_|refine nneg_of ?_ ?_);exact of_decide_eq_true rfl) | ((with_reducible refine chk_of ?_ ?_);rfl) | (with_reducible first|apply asI_of|apply asB_of|apply asP_of|apply asSl_of|apply asAggV_of|apply asTupV_of|apply asCons_of|apply asNil_of|apply isNil_n|apply isNil_i|apply nilC_i|apply nilCU_i|apply nilCU_f|apply mthC_i) | ((with_reducible refine And.intro ?_ ?_);rfl) | ((with_reducible apply exAnd);rfl))
        refine pend_none B2 rfl (fun s h3 hs k3 => ?_)
        refine br_t (by rw [hs]; rfl) ?_
        clear S_
        have S_ := S2.keep k3
        repeat (first | ((with_reducible first|apply St.rI|apply St.rB|apply St.rP|apply St.rSl|apply St.rV|apply St.rM|apply St.rS|apply St.rN|apply St.ckA);assumption;(first|exact i0|exact i1|exact i2|exact i3|exact i4|exact i5|exact i6|exact i7|exact i8|exact i9|exact i10|exact i11|exact i12|exact i13|exact i14|exact i15);(first|rfl|exact Nat.le_of_ble_eq_true rfl)) | with_reducible refine der_of ?_ | ((with_reducible refine br_t ?_ ?_);rfl) | ((with_reducible refine br_f ?_ ?_);rfl) | ((with_reducible refine br_t ?_ ?_);assumption) | ((with_reducible refine br_f ?_ ?_);assumption) | ((with_reducible first|apply St.wrL|apply St.wr);assumption;(first|exact i0|exact i1|exact i2|exact i3|exact i4|exact i5|exact i6|exact i7|exact i8|exact i9|exact i10|exact i11|exact i12|exact i13|exact i14|exact i15);(first|exact Nat.le_of_ble_eq_true rfl|rfl);intro g_ S_;simp only [Ptr.add, List.set, splice, List.take, List.drop, List.nil_append, List.append_nil, List.cons_append, List.length_cons, List.length_nil, Nat.zero_add, Nat.add_zero, Nat.reduceAdd, Nat.reduceMul, Nat.mul_one, Int.toNat_zero, Int.toNat_one, Int.reduceToNat] at S_) | ((with_reducible refine ix_of ?_ ?_ ?_);exact of_decide_eq_true rfl;exact of_decide_eq_true rfl) | ((with_reducible first|refine nz_of ?_ ?_|refine nneg_of ?_ ?_);exact of_decide_eq_true rfl) | ((with_reducible refine chk_of ?_ ?_);rfl) | (with_reducible first|apply asI_of|apply asB_of|apply asP_of|apply asSl_of|apply asAggV_of|apply asTupV_of|apply asCons_of|apply asNil_of|apply isNil_n|apply isNil_i|apply nilC_i|apply nilCU_i|apply nilCU_f|apply mthC_i) | ((with_reducible refine And.intro ?_ ?_);rfl) | ((with_reducible apply exAnd);rfl))
        exact sum (i := 0) (j := 1) (k := 2) S_ rfl rfl rfl (by decide) (fun h' _ => hQ h')
      unfold palisadelaw24_BackendRefuses.j11
      rcases hst with ⟨h1, rfl⟩ | ⟨h1, _, rfl⟩
      · exact br_f (decide_eq_false (by omega)) j14
      · exact br_t (decide_eq_true h1) j14
  by_cases c1 : 1 < a2
  · exact br_t (decide_eq_true c1) (caseA 2 (.inl ⟨c1, rfl⟩))
  refine br_f (decide_eq_false c1) ?_
  by_cases c2 : 3 < a3
  · exact br_t (decide_eq_true c2) (caseA 1 (.inr ⟨by omega, c2, rfl⟩))
  refine br_f (decide_eq_false c2) ?_
  clear caseA
  -- other parts
  have B2 := B1.pick (L' := [(fb, .cells (FS.cells (Fc 32) tm wm) false), (tm, .map (.int .i64) (ikeys .i64 ((Fc 32) : FS).t) bt ct), (wm, .map (.int .i64) (ikeys .i64 ((Fc 32) : FS).w) bw cw), (b0, .cells (blkC r0 db fb w0 0 4 1 0) false), (w0, .map (.int .i64) [] [] 0), (r0, .cells (ringC ((0 : Nat) : Int) ((0 : Nat) : Int) false) false), (g0, .cells (flatC pm ((4 : Nat) : Int)) false), (pm, .cells (memC bm) false), (bm, .cells (strCells bs1) mk1), (wb, .cells [.ptr (some ⟨pm, 0⟩), .ptr (some ⟨fb, 0⟩), .ptr (some ⟨db, 0⟩), .ptr (some ⟨g0, 0⟩), .ptr (some ⟨g1, 0⟩), .ptr (some ⟨r0, 0⟩), .ptr (some ⟨r1, 0⟩), .ptr (some ⟨b0, 0⟩), .ptr (some ⟨b1, 0⟩)] false)]) [0, 1, 2, 3, 4, 5, 6, 7, 8, 10] (by decide) rfl
  clear B1
  have last : ∀ (s : Sl) (ps : List Pt) (h : Heap), ps.length ≤ 8 → (∀ p, p ∈ ps → (1200 ≤ p.a ∧ p.a ≤ 1263) ∧ (1 ≤ p.l ∧ p.l ≤ 16)) → (∀ i p, i + 1 < ps.length → ps[i]? = some p → p.w = false) → Built h0 [(fb, .cells (FS.cells (Fc 32) tm wm) false), (tm, .map (.int .i64) (ikeys .i64 ((Fc 32) : FS).t) bt ct), (wm, .map (.int .i64) (ikeys .i64 ((Fc 32) : FS).w) bw cw), (b0, .cells (blkC r0 db fb w0 0 4 1 0) false), (w0, .map (.int .i64) [] [] 0), (r0, .cells (ringC ((0 : Nat) : Int) ((0 : Nat) : Int) false) false), (g0, .cells (flatC pm ((4 : Nat) : Int)) false), (pm, .cells (memC bm) false), (bm, .cells (strCells bs1) mk1), (wb, .cells [.ptr (some ⟨pm, 0⟩), .ptr (some ⟨fb, 0⟩), .ptr (some ⟨db, 0⟩), .ptr (some ⟨g0, 0⟩), .ptr (some ⟨g1, 0⟩), .ptr (some ⟨r0, 0⟩), .ptr (some ⟨r1, 0⟩), .ptr (some ⟨b0, 0⟩), .ptr (some ⟨b1, 0⟩)] false)] db ⟨db, dm, ⟨none, 0, 0⟩, [], fun _ => False⟩ ⟨12, fun _ => Disk.zeros, []⟩ s ps h → palisadelaw24_BackendRefuses.j20 U (some ⟨wb, 0⟩) (some ⟨g0, 0⟩) s Q h := by
    intro s ps h hl hps hwr hB
    unfold palisadelaw24_BackendRefuses.j20
    rcases hB with ⟨_, rfl, _⟩ | ⟨hne, pb, c, rp, mkp, rfl, hc, hr, B3⟩
    · exact br_t rfl (hQ h)
    have hpos : 1 ≤ ps.length := by
      cases ps with
      | nil => exact absurd rfl hne
      | cons p ps => simp
    refine br_f (by show (((ps.length : Nat) : Int) == 0) = false; simp; omega) ?_
    have hlast : ps[ps.length - 1]? = some ps[ps.length - 1] := List.getElem?_eq_getElem (by omega)
    generalize ps[ps.length - 1] = q at hlast
    obtain ⟨⟨qa, qb⟩, _⟩ := hps q (List.mem_of_getElem? hlast)
    refine offer_kick (R := []) (ps := ps) (q := q) (k := q.a.toNat) (st := 2) hu w hk8 M1 ⟨⟨hpos, hl⟩, fun p hp => ?_, fun i p r hp hr hw => ?_⟩ hlast (by omega) (by omega) (.inr rfl) (fun bs m' mk M' hm hh K cb c rest mk' g Q' S hq => ?_) (B3.pick [1, 2, 3, 4, 5, 6, 7, 8, 9, 0, 10] (by decide) rfl) (fun bs' m' mk2 h' M' h41 h43 hby B' => ?_)
    · obtain ⟨h1, h2⟩ := hps p hp
      exact ⟨by omega, by omega⟩
    · have hlt : i + 1 < ps.length := by
        rcases Nat.lt_or_ge (i + 1) ps.length with h1 | h1
        · exact h1
        · rw [List.getElem?_eq_none h1] at hr; cases hr
      rw [hwr i p hlt hp] at hw; cases hw
    · exact ask_form (R := [(b0, .cells (blkC r0 db fb w0 0 4 1 0) false), (g0, .cells (flatC pm ((4 : Nat) : Int)) false), (pm, .cells (memC bm) false), (bm, .cells (strCells bs) mk), (fb, .cells (FS.cells (Fc 32) tm wm) false), (tm, .map (.int .i64) (ikeys .i64 ((Fc 32) : FS).t) bt ct), (wm, .map (.int .i64) (ikeys .i64 ((Fc 32) : FS).w) bw cw)]) (fun p hp => (hps p hp).2.2) S hq
    · have S_ := B'.st
      simp only [List.cons_append, List.nil_append] at S_
      refine back_of (g := 6) (p := 7) (b := 8) w hk8 (hw0 _) M' S_ rfl rfl rfl (by decide) h41 (by rw [h43]; cases q.w <;> decide) (fun h2 k2 => ?_)
      clear S_
      have B4 := B'.step (B'.st.base.keep k2)
      have S_ := B4.st.base
      simp only [List.cons_append, List.nil_append] at S_
      have q0 : (pcells ps ++ rp)[0 + (ps.length - 1) * 3 + 0]? = some (.int .u64 q.a) := by rw [Nat.zero_add]; exact (pcells_get hlast (by decide)).trans rfl
      have q1 : (pcells ps ++ rp)[0 + (ps.length - 1) * 3 + 1]? = some (.int .i64 q.l) := by rw [Nat.zero_add]; exact (pcells_get hlast (by decide)).trans rfl
      have q2 : (pcells ps ++ rp)[0 + (ps.length - 1) * 3 + 2]? = some (.bool q.w) := by rw [Nat.zero_add]; exact (pcells_get hlast (by decide)).trans rfl
      have ei : IntKind.i64.wrap ((ps.length : Int) - 1) = ((ps.length - 1 : Nat) : Int) := by rw [wrap64] <;> omega
      unfold palisadelaw24_BackendRefuses.j25
      show ix (IntKind.i64.wrap ((ps.length : Int) - 1)) ps.length _
      rw [ei]
      refine ix_of (by omega) (by omega) ?_
      rw [der_some, Int.toNat_natCast]
      refine S_.rI (i := 9) rfl q0 (S_.rI (i := 9) rfl q1 (S_.rB (i := 9) rfl q2 ?_))
      ((with_reducible apply St.al); assumption; intro b6 g_ S_)
      repeat (first | ((with_reducible first|apply St.rI|apply St.rB|apply St.rP|apply St.rSl|apply St.rV|apply St.rM|apply St.rS|apply St.rN|apply St.ckA);assumption;(first|exact i0|exact i1|exact i2|exact i3|exact i4|exact i5|exact i6|exact i7|exact i8|exact i9|exact i10|exact i11|exact i12|exact i13|exact i14|exact i15);(first|rfl|exact Nat.le_of_ble_eq_true rfl)) | with_reducible refine der_of ?_ | ((with_reducible refine br_t ?_ ?_);rfl) | ((with_reducible refine br_f ?_ ?_);rfl) | ((with_reducible refine br_t ?_ ?_);assumption) | ((with_reducible refine br_f ?_ ?_);assumption) | ((with_reducible first|apply St.wrL|apply St.wr);assumption;(first|exact i0|exact i1|exact i2|exact i3|exact i4|exact i5|exact i6|exact i7|exact i8|exact i9|exact i10|exact i11|exact i12|exact i13|exact i14|exact i15);(first|exact Nat.le_of_ble_eq_true rfl|rfl);intro g_ S_;simp only [Ptr.add, List.set, splice, List.take, List.drop, List.nil_append, List.append_nil, List.cons_append, List.length_cons, List.length_nil, Nat.zero_add, Nat.add_zero, Nat.reduceAdd, Nat.reduceMul, Nat.mul_one, Int.toNat_zero, Int.toNat_one, Int.reduceToNat] at S_) | ((with_reducible refine ix_of ?_ ?_ ?_);exact of_decide_eq_true rfl;exact of_decide_eq_true rfl) | ((with_reducible first|refine nz_of ?_ ?_|refine nneg_of ?_ ?_);exact of_decide_eq_true rfl) | ((with_reducible refine chk_of ?_ ?_);rfl) | (with_reducible first|apply asI_of|apply asB_of|apply asP_of|apply asSl_of|apply asAggV_of|apply asTupV_of|apply asCons_of|apply asNil_of|apply isNil_n|apply isNil_i|apply nilC_i|apply nilCU_i|apply nilCU_f|apply mthC_i) | ((with_reducible refine And.intro ?_ ?_);rfl) | ((with_reducible apply exAnd);rfl))
      have B5 := B4.step S_
      refine pend_none B5 rfl (fun s h3 hs k3 => ?_)
      refine br_f (by rw [hs]; rfl) ?_
      have B6 := B5.step (B5.st.base.keep k3)
      clear S_ B5
      have S_ := B6.st.base
      repeat (first | ((with_reducible first|apply St.rI|apply St.rB|apply St.rP|apply St.rSl|apply St.rV|apply St.rM|apply St.rS|apply St.rN|apply St.ckA);assumption;(first|exact i0|exact i1|exact i2|exact i3|exact i4|exact i5|exact i6|exact i7|exact i8|exact i9|exact i10|exact i11|exact i12|exact i13|exact i14|exact i15);(first|rfl|exact Nat.le_of_ble_eq_true rfl)) | with_reducible refine der_of ?_ | ((with_reducible refine br_t ?_ ?_);rfl) | ((with_reducible refine br_f ?_ ?_);rfl) | ((with_reducible refine br_t ?_ ?_);assumption) | ((with_reducible refine br_f ?_ ?_);assumption) | ((with_reducible first|apply St.wrL|apply St.wr);assumption;(first|exact i0|exact i1|exact i2|exact i3|exact i4|exact i5|exact i6|exact i7|exact i8|exact i9|exact i10|exact i11|exact i12|exact i13|exact i14|exact i15);(first|exact Nat.le_of_ble_eq_true rfl|rfl);intro g_ S_;simp only [Ptr.add, List.set, splice, List.take, List.drop, List.nil_append, List.append_nil, List.cons_append, List.length_cons, List.length_nil, Nat.zero_add, Nat.add_zero, Nat.reduceAdd, Nat.reduceMul, Nat.mul_one, Int.toNat_zero, Int.toNat_one, Int.reduceToNat] at S_) | ((with_reducible refine ix_of ?_ ?_ ?_);exact of_decide_eq_true rfl;exact of_decide_eq_true rfl) | ((with_reducible first|refine nz_of ?_ ?_|refine nneg_of ?_ ?_);exact of_decide_eq_true rfl) | ((with_reducible refine chk_of ?_ ?_);rfl) | (with_reducible first|apply asI_of|apply asB_of|apply asP_of|apply asSl_of|apply asAggV_of|apply asTupV_of|apply asCons_of|apply asNil_of|apply isNil_n|apply isNil_i|apply nilC_i|apply nilCU_i|apply nilCU_f|apply mthC_i) | ((with_reducible refine And.intro ?_ ?_);rfl) | ((with_reducible apply exAnd);rfl))
      refine sum (i := 1) (j := 2) (k := 3) B6.st rfl rfl rfl (by decide) (fun h4 k4 => ?_)
      refine br_f rfl ?_
      have S7 := B6.st.keep k4
      unfold palisadelaw24_BackendRefuses.j28
      refine S7.rI (p := (⟨b6, 0⟩ : Ptr).add 0) i0 rfl ?_
      refine gbyte (k := q.a.toNat) (g := 7) (p := 8) (b := 9) w (hw0 _) hk1 S7 rfl rfl rfl (by decide) M' (by decide) (by omega) (by omega) (fun h5 k5 => ?_)
      have S8 := S7.keep k5
      refine S8.rB (p := (⟨b6, 0⟩ : Ptr).add 2) i0 rfl ?_
      cases hqw : q.w
      · refine br_f rfl (S8.rB (p := (⟨b6, 0⟩ : Ptr).add 2) (x := q.w) i0 rfl ?_)
        refine br_t (by rw [hqw]; rfl) ?_
        rw [h43, hqw]
        exact hQ _
      · refine br_t rfl (br_t (by rw [hby hqw]; rfl) (br_t (by rw [h43, hqw]; rfl) ?_))
        exact hQ _
  unfold palisadelaw24_BackendRefuses.j17
  intro I HI
  have key : ∀ (j i : Nat) (s : Sl) (ps : List Pt) (h : Heap), i + j = 8 → ps.length = i → i ≤ a1.len → (∀ p, p ∈ ps → (1200 ≤ p.a ∧ p.a ≤ 1263) ∧ (1 ≤ p.l ∧ p.l ≤ 16)) → (∀ k p, k + 1 < a1.len → ps[k]? = some p → p.w = false) → Built h0 [(fb, .cells (FS.cells (Fc 32) tm wm) false), (tm, .map (.int .i64) (ikeys .i64 ((Fc 32) : FS).t) bt ct), (wm, .map (.int .i64) (ikeys .i64 ((Fc 32) : FS).w) bw cw), (b0, .cells (blkC r0 db fb w0 0 4 1 0) false), (w0, .map (.int .i64) [] [] 0), (r0, .cells (ringC ((0 : Nat) : Int) ((0 : Nat) : Int) false) false), (g0, .cells (flatC pm ((4 : Nat) : Int)) false), (pm, .cells (memC bm) false), (bm, .cells (strCells bs1) mk1), (wb, .cells [.ptr (some ⟨pm, 0⟩), .ptr (some ⟨fb, 0⟩), .ptr (some ⟨db, 0⟩), .ptr (some ⟨g0, 0⟩), .ptr (some ⟨g1, 0⟩), .ptr (some ⟨r0, 0⟩), .ptr (some ⟨r1, 0⟩), .ptr (some ⟨b0, 0⟩), .ptr (some ⟨b1, 0⟩)] false)] db ⟨db, dm, ⟨none, 0, 0⟩, [], fun _ => False⟩ ⟨12, fun _ => Disk.zeros, []⟩ s ps h → I a1 (some ⟨wb, 0⟩) (some ⟨g0, 0⟩) s (i : Int) h := by
    intro j
    induction j with
    | zero =>
      intro i s ps h hij hl hi hps hwr hB
      have fin := last s ps h (by omega) hps (fun k p hk hp => hwr k p (by omega) hp) hB
      refine HI _ _ _ _ _ _ ?_
      unfold palisadelaw24_BackendRefuses.b17
      by_cases e : (i : Int) < (a1.len : Int)
      · exact br_t (decide_eq_true e) (br_f (decide_eq_false (by omega)) fin)
      · exact br_f (decide_eq_false e) fin
    | succ j ih =>
      intro i s ps h hij hl hi hps hwr hB
      refine HI _ _ _ _ _ _ ?_
      unfold palisadelaw24_BackendRefuses.b17
      by_cases e : (i : Int) < (a1.len : Int)
      · refine br_t (decide_eq_true e) (br_t (decide_eq_true (by omega)) (ix_of (by omega) e ?_))
        obtain ⟨p, a, l, pw, hp, e0, e1, e2⟩ := hA.2 i (by omega)
        have kp : Keeps none_ h0 h := by
          rcases hB with ⟨_, _, B⟩ | ⟨_, _, _, _, _, _, _, _, B⟩
          · exact B.st.keeps
          · exact B.st.keeps
        rw [hp, der_some, Int.toNat_natCast]
        refine rdI_of (keep_get kp e0) (ix_of (by omega) e ?_)
        rw [der_some, Int.toNat_natCast]
        refine rdI_of (keep_get kp e1) (ix_of (by omega) e ?_)
        rw [der_some, Int.toNat_natCast]
        refine rdB_of (keep_get kp e2) ?_
        obtain ⟨x0, x1⟩ := and63 a
        obtain ⟨y0, y1⟩ := and15 l
        have ex : IntKind.u64.wrap (1200 + ibits .and .u64 a 63) = 1200 + ibits .and .u64 a 63 := by rw [wrapu64] <;> omega
        have ey : IntKind.i64.wrap (1 + ibits .and .i64 l 15) = 1 + ibits .and .i64 l 15 := by rw [wrap64] <;> omega
        rw [ex, ey]
        have next : ∀ (b : Bool) (s' : Sl) (h' : Heap), (i + 1 < a1.len → b = false) → Built h0 [(fb, .cells (FS.cells (Fc 32) tm wm) false), (tm, .map (.int .i64) (ikeys .i64 ((Fc 32) : FS).t) bt ct), (wm, .map (.int .i64) (ikeys .i64 ((Fc 32) : FS).w) bw cw), (b0, .cells (blkC r0 db fb w0 0 4 1 0) false), (w0, .map (.int .i64) [] [] 0), (r0, .cells (ringC ((0 : Nat) : Int) ((0 : Nat) : Int) false) false), (g0, .cells (flatC pm ((4 : Nat) : Int)) false), (pm, .cells (memC bm) false), (bm, .cells (strCells bs1) mk1), (wb, .cells [.ptr (some ⟨pm, 0⟩), .ptr (some ⟨fb, 0⟩), .ptr (some ⟨db, 0⟩), .ptr (some ⟨g0, 0⟩), .ptr (some ⟨g1, 0⟩), .ptr (some ⟨r0, 0⟩), .ptr (some ⟨r1, 0⟩), .ptr (some ⟨b0, 0⟩), .ptr (some ⟨b1, 0⟩)] false)] db ⟨db, dm, ⟨none, 0, 0⟩, [], fun _ => False⟩ ⟨12, fun _ => Disk.zeros, []⟩ s' (ps ++ [⟨1200 + ibits .and .u64 a 63, 1 + ibits .and .i64 l 15, b⟩]) h' → palisadelaw24_BackendRefuses.j18 U I a1 (some ⟨wb, 0⟩) (some ⟨g0, 0⟩) s' (i : Int) Q h' := by
          intro b s' h' hb hB'
          unfold palisadelaw24_BackendRefuses.j18
          rw [show IntKind.i64.wrap ((i : Int) + 1) = ((i + 1 : Nat) : Int) by rw [wrap64] <;> omega]
          refine ih (i + 1) s' _ h' (by omega) (by simp only [List.length_append, List.length_cons, List.length_nil]; omega) (by omega) (fun r hr => ?_) (fun k r hk hr => ?_) hB'
          · rcases List.mem_append.1 hr with hr | hr
            · exact hps r hr
            · simp only [List.mem_singleton] at hr
              subst hr
              exact ⟨⟨by show 1200 ≤ 1200 + _; omega, by show 1200 + _ ≤ 1263; omega⟩, by show 1 ≤ 1 + _; omega, by show 1 + _ ≤ 16; omega⟩
          · rcases Nat.lt_or_ge k ps.length with h1 | h1
            · rw [List.getElem?_append_left h1] at hr; exact hwr k r hk hr
            · rw [List.getElem?_append_right h1] at hr
              rcases Nat.eq_zero_or_pos (k - ps.length) with h2 | h2
              · rw [h2] at hr
                simp only [List.getElem?_cons_zero, Option.some.injEq] at hr
                subst hr
                exact hb (by omega)
              · rw [List.getElem?_eq_none (by simp only [List.length_cons, List.length_nil]; omega)] at hr; cases hr
        cases pw
        · refine br_f rfl (built_app (p := ⟨1200 + ibits .and .u64 a 63, 1 + ibits .and .i64 l 15, false⟩) hB rfl (by omega) (fun s' h' hB' => ?_))
          exact next false s' h' (fun _ => rfl) hB'
        · refine br_t rfl (built_app (p := ⟨1200 + ibits .and .u64 a 63, 1 + ibits .and .i64 l 15, (i : Int) == IntKind.i64.wrap ((a1.len : Int) - 1)⟩) hB rfl (by omega) (fun s' h' hB' => ?_))
          refine next _ s' h' (fun hlt => ?_) hB'
          have := hA.1
          rw [show IntKind.i64.wrap ((a1.len : Int) - 1) = (a1.len : Int) - 1 by rw [wrap64] <;> omega]
          simp
          omega
      · refine br_f (decide_eq_false e) ?_
        exact last s ps h (by omega) hps (fun k p hk hp => hwr k p (by omega) hp) hB
  exact key 8 0 ⟨none, 0, 0⟩ [] g2 rfl rfl (by omega) (fun p hp => by cases hp) (fun k p _ hp => by simp at hp) (.inl ⟨rfl, rfl, B2⟩)

end
end Go.Back
