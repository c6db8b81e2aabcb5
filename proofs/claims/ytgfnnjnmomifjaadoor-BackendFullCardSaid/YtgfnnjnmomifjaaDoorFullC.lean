import Derived.Test.YtgfnnjnmomifjaaDoorGwB
set_option linter.unusedSimpArgs false
set_option linter.unusedVariables false
set_option maxRecDepth 100000

/- A map's entry goes, by the list of blocks. -/
namespace Go.Back
open Go.Lift Go.Fn Go.Mem Go.Frames

theorem mapDel_st {h0 h : Heap} {W : Nat → Prop} {L : List (Nat × HO)} {i b c : Nat} {ks : Sh} {es : List (V × V)} {bs : List Nat} {k : V} {κ : Heap → Prop} (S : St h0 W L h) (hi : L[i]? = some (b, .map ks es bs c)) (hk : ∀ h', St h0 W (L.set i (b, .map ks (mdel k es) (bdel k es bs) c)) h' → κ h') : mapDel ks (some b) k κ h :=
  ⟨es, bs, c, S.obj hi, hk _ (S.put hi (by simp [Heap.setO]) (Keeps.setO (S.obj hi)))⟩

theorem mfind1 {a : Int} {v : V} : mfind (.int .i64 a) [(.int .i64 a, v)] = some v := by simp [mfind, keq]
theorem mdel1 {a : Int} {v : V} : mdel (.int .i64 a) [(.int .i64 a, v)] = [] := by simp [mdel, keq]
theorem bdel1 {a : Int} {v : V} {n : Nat} : bdel (.int .i64 a) [(.int .i64 a, v)] [n] = [] := by simp [bdel, keq]

end Go.Back

/- A request's state is told, and the request given back. -/
namespace Go.Back
open Go.Lift Go.Fn Go.Mem Go.Frames

section
variable {U U' : Ifc} {x : Nat → Int} {h0 h : Heap} {W : Nat → Prop} {L : List (Nat × HO)}

theorem gput {gb pm bm g p b base k : Nat} {bs xs : List UInt8} {mk : Bool} {m : Nat → Int} {s : Sl} (S : St h0 W L h)
    (hg : L[g]? = some (gb, .cells (flatC pm (base : Int)) false)) (hp : L[p]? = some (pm, .cells (memC bm) false)) (hm : L[b]? = some (bm, .cells (strCells bs) mk)) (hpb : p ≠ b) (M : MemIs bs base m) (hb : base + 16 ≤ 40) (H : Held h s 1 (strCells xs)) (hk : k + xs.length ≤ 4096) {a : Int} (ea : a = (k : Int))
    {Q : Int → Heap → Prop} (hq : ∀ bs' m' mk' h', MemIs bs' base m' → (∀ j, j < 512 → 8 * j + 8 ≤ k ∨ k + xs.length ≤ 8 * j → m' j = m j) → St h0 W (L.set b (bm, .cells (strCells bs') mk')) h' → Q 0 h') : palisadelaw24_Flat_Put (some ⟨gb, 0⟩) a s Q h := by
  subst ea
  have e16 : IntKind.u64.wrap (IntKind.i64.wrap (256 * 16)) = 4096 := by decide
  have hs : s.len = xs.length := by have := H.len; rw [strCells_length] at this; omega
  unfold palisadelaw24_Flat_Put
  rw [der_some]
  refine S.rI hg rfl (br_f (decide_eq_false (by rw [e16]; omega)) ?_)
  rw [der_some]
  refine S.rI hg rfl (br_f (decide_eq_false (by rw [e16, wrapu64 (x := ((s.len : Nat) : Int)), wrapu64] <;> omega)) ?_)
  rw [der_some]
  refine S.rP hg rfl ?_
  rw [der_some]
  refine S.rI hg rfl ?_
  have e : IntKind.u64.wrap ((k : Int) + IntKind.u64.wrap (IntKind.i64.wrap (256 * (base : Int)))) = ((256 * base + k : Nat) : Int) := by
    rw [wrap64 (x := 256 * (base : Int)), wrapu64 (x := 256 * (base : Int)), wrapu64] <;> omega
  rw [e]
  have hl := M.len
  refine Mem.Put_of (mrep S hp hm hpb M.len) (by omega) (by omega) H (by omega) (fun hn => ?_) (fun _ h1 R1 k1 => ?_)
  · exfalso
    rw [hl] at hn
    simp [lies] at hn
    omega
  · rw [Int.toNat_natCast] at R1
    obtain ⟨m', M', hm'⟩ := M.other (xs := xs) (a := 256 * base + k) (by omega)
    obtain ⟨mk', harr⟩ := R1.arr
    exact hq _ m' mk' h1 M' (fun j hj hd => hm' j hj (by omega)) (S.put hm harr k1)

theorem tell_of (hu : GU U U') {cb gb pm bm base c : Nat} {bs : List UInt8} {mk mk' : Bool} {rest : List V} {m : Nat → Int} {page st : Int} {kb : Bool} (M : MemIs bs base m) (hb : base + 16 ≤ 40) (hst : 0 ≤ st ∧ st ≤ 255)
    (S : St h0 W [(cb, .cells (partsC 1024 16 (256 * page) 256 kb 1100 1 ++ rest) mk'), (gb, .cells (flatC pm (base : Int)) false), (pm, .cells (memC bm) false), (bm, .cells (strCells bs) mk)] h)
    {Q : Int → Heap → Prop} (hq : ∀ bs' m' mk2 h', MemIs bs' base m' → (∀ j, j < 512 → j ≠ 137 → m' j = m j) → St h0 W [(cb, .cells (partsC 1024 16 (256 * page) 256 kb 1100 1 ++ rest) mk'), (gb, .cells (flatC pm (base : Int)) false), (pm, .cells (memC bm) false), (bm, .cells (strCells bs') mk2)] h' → Q 1 h') :
    backend_tell U (.iface 4 (.ptr (some ⟨gb, 0⟩))) 0 ⟨some ⟨cb, 0⟩, 3, c⟩ st Q h := by
  unfold backend_tell
  ((with_reducible apply St.al); assumption; intro c1 g_ S_)
  repeat (first | ((with_reducible first|apply St.rI|apply St.rB|apply St.rP|apply St.rSl|apply St.rV|apply St.rM|apply St.rS|apply St.rN|apply St.ckA);assumption;(first|exact i0|exact i1|exact i2|exact i3|exact i4|exact i5|exact i6|exact i7|exact i8|exact i9|exact i10|exact i11|exact i12|exact i13|exact i14|exact i15);(first|rfl|exact Nat.le_of_ble_eq_true rfl)) | with_reducible refine der_of ?_ | ((with_reducible refine br_t ?_ ?_);rfl) | ((with_reducible refine br_f ?_ ?_);rfl) | ((with_reducible refine br_t ?_ ?_);assumption) | ((with_reducible refine br_f ?_ ?_);assumption) | ((with_reducible first|apply St.wrL|apply St.wr);assumption;(first|exact i0|exact i1|exact i2|exact i3|exact i4|exact i5|exact i6|exact i7|exact i8|exact i9|exact i10|exact i11|exact i12|exact i13|exact i14|exact i15);(first|exact Nat.le_of_ble_eq_true rfl|rfl);intro g_ S_;simp only [Ptr.add, List.set, splice, List.take, List.drop, List.nil_append, List.append_nil, List.cons_append, List.length_cons, List.length_nil, Nat.zero_add, Nat.add_zero, Nat.reduceAdd, Nat.reduceMul, Nat.mul_one, Int.toNat_zero, Int.toNat_one, Int.reduceToNat] at S_) | ((with_reducible refine ix_of ?_ ?_ ?_);exact of_decide_eq_true rfl;exact of_decide_eq_true rfl) | ((with_reducible first|refine nz_of ?_ ?_|refine nneg_of ?_ ?_);exact of_decide_eq_true rfl) | ((with_reducible refine chk_of ?_ ?_);rfl) | (with_reducible first|apply asI_of|apply asB_of|apply asP_of|apply asSl_of|apply asAggV_of|apply asTupV_of|apply asCons_of|apply asNil_of|apply isNil_n|apply isNil_i|apply nilC_i) | ((with_reducible refine And.intro ?_ ?_);rfl) | ((with_reducible apply exAnd);rfl))
  ((with_reducible apply St.al); assumption; intro c2 g_ S_)
  repeat (first | ((with_reducible first|apply St.rI|apply St.rB|apply St.rP|apply St.rSl|apply St.rV|apply St.rM|apply St.rS|apply St.rN|apply St.ckA);assumption;(first|exact i0|exact i1|exact i2|exact i3|exact i4|exact i5|exact i6|exact i7|exact i8|exact i9|exact i10|exact i11|exact i12|exact i13|exact i14|exact i15);(first|rfl|exact Nat.le_of_ble_eq_true rfl)) | with_reducible refine der_of ?_ | ((with_reducible refine br_t ?_ ?_);rfl) | ((with_reducible refine br_f ?_ ?_);rfl) | ((with_reducible refine br_t ?_ ?_);assumption) | ((with_reducible refine br_f ?_ ?_);assumption) | ((with_reducible first|apply St.wrL|apply St.wr);assumption;(first|exact i0|exact i1|exact i2|exact i3|exact i4|exact i5|exact i6|exact i7|exact i8|exact i9|exact i10|exact i11|exact i12|exact i13|exact i14|exact i15);(first|exact Nat.le_of_ble_eq_true rfl|rfl);intro g_ S_;simp only [Ptr.add, List.set, splice, List.take, List.drop, List.nil_append, List.append_nil, List.cons_append, List.length_cons, List.length_nil, Nat.zero_add, Nat.add_zero, Nat.reduceAdd, Nat.reduceMul, Nat.mul_one, Int.toNat_zero, Int.toNat_one, Int.reduceToNat] at S_) | ((with_reducible refine ix_of ?_ ?_ ?_);exact of_decide_eq_true rfl;exact of_decide_eq_true rfl) | ((with_reducible first|refine nz_of ?_ ?_|refine nneg_of ?_ ?_);exact of_decide_eq_true rfl) | ((with_reducible refine chk_of ?_ ?_);rfl) | (with_reducible first|apply asI_of|apply asB_of|apply asP_of|apply asSl_of|apply asAggV_of|apply asTupV_of|apply asCons_of|apply asNil_of|apply isNil_n|apply isNil_i|apply nilC_i) | ((with_reducible refine And.intro ?_ ?_);rfl) | ((with_reducible apply exAnd);rfl))
  ((with_reducible apply St.al); assumption; intro c3 g_ S_)
  have H : Held g_ ⟨some ⟨c3, 0⟩, 1, 1⟩ 1 (strCells [UInt8.ofNat st.toNat]) := by
    refine ⟨rfl, fun p hp i v hv => ?_, fun hp => by cases hp⟩
    cases hp
    rw [get_cells (S_.obj i0), Nat.zero_add, ← hv]
    have : ((UInt8.ofNat st.toNat).toNat : Int) = st := by
      have h1 : (UInt8.ofNat st.toNat).toNat = st.toNat % 256 := by simp
      rw [h1]; omega
    have e : strCells [UInt8.ofNat st.toNat] = [V.int .u8 st] := by simp only [strCells, List.map_cons, List.map_nil, this]
    rw [e]
  refine hu.put _ _ _ _ _ (gput (g := 4) (p := 5) (b := 6) (k := 1100) S_ rfl rfl rfl (by decide) M hb H (by show 1100 + 1 ≤ 4096; decide) rfl (fun bs' m' mk2 g1 M1 hm1 S1 => ?_))
  simp only [List.set] at S1
  clear S_
  repeat (first | ((with_reducible first|apply St.rI|apply St.rB|apply St.rP|apply St.rSl|apply St.rV|apply St.rM|apply St.rS|apply St.rN|apply St.ckA);assumption;(first|exact i0|exact i1|exact i2|exact i3|exact i4|exact i5|exact i6|exact i7|exact i8|exact i9|exact i10|exact i11|exact i12|exact i13|exact i14|exact i15);(first|rfl|exact Nat.le_of_ble_eq_true rfl)) | with_reducible refine der_of ?_ | ((with_reducible refine br_t ?_ ?_);rfl) | ((with_reducible refine br_f ?_ ?_);rfl) | ((with_reducible refine br_t ?_ ?_);assumption) | ((with_reducible refine br_f ?_ ?_);assumption) | ((with_reducible first|apply St.wrL|apply St.wr);assumption;(first|exact i0|exact i1|exact i2|exact i3|exact i4|exact i5|exact i6|exact i7|exact i8|exact i9|exact i10|exact i11|exact i12|exact i13|exact i14|exact i15);(first|exact Nat.le_of_ble_eq_true rfl|rfl);intro g_ S_;simp only [Ptr.add, List.set, splice, List.take, List.drop, List.nil_append, List.append_nil, List.cons_append, List.length_cons, List.length_nil, Nat.zero_add, Nat.add_zero, Nat.reduceAdd, Nat.reduceMul, Nat.mul_one, Int.toNat_zero, Int.toNat_one, Int.reduceToNat] at S_) | ((with_reducible refine ix_of ?_ ?_ ?_);exact of_decide_eq_true rfl;exact of_decide_eq_true rfl) | ((with_reducible first|refine nz_of ?_ ?_|refine nneg_of ?_ ?_);exact of_decide_eq_true rfl) | ((with_reducible refine chk_of ?_ ?_);rfl) | (with_reducible first|apply asI_of|apply asB_of|apply asP_of|apply asSl_of|apply asAggV_of|apply asTupV_of|apply asCons_of|apply asNil_of|apply isNil_n|apply isNil_i|apply nilC_i) | ((with_reducible refine And.intro ?_ ?_);rfl) | ((with_reducible apply exAnd);rfl))
  exact hq bs' m' mk2 _ M1 (fun j hj hne => hm1 j hj (by simp only [List.length_cons, List.length_nil]; omega)) (St.pick S1 [3, 4, 5, 6] (by decide) rfl)

end
end Go.Back

/- Several requests wait: the words for it. -/
namespace Go.Lift

theorem mem_pick {L L' : List (Nat × HO)} {is : List Nat} (hl : is.map (fun i => L[i]?) = L'.map some) {p : Nat × HO} (hp : p ∈ L') : p ∈ L := by
  have : some p ∈ L'.map some := List.mem_map.2 ⟨p, hp, rfl⟩
  rw [← hl] at this
  obtain ⟨i, _, e⟩ := List.mem_map.1 this
  exact List.mem_of_getElem? e

theorem St.perm {h0 h : Heap} {W : Nat → Prop} {L L' : List (Nat × HO)} (S : St h0 W L h) (p : L.Perm L') : St h0 W L' h :=
  ⟨(p.map _).nodup_iff.1 S.nodup, fun b x hb => S.objs b x (p.mem_iff.2 hb), fun b x hb => S.new b x (p.mem_iff.2 hb), S.keeps⟩

theorem St.pickR {h0 h : Heap} {W : Nat → Prop} {A A' R : List (Nat × HO)} (S : St h0 W (A ++ R) h) (is : List Nat) (hn : is.Nodup) (hl : is.map (fun i => A[i]?) = A'.map some) : St h0 W (A' ++ R) h := by
  have SA := (S.sub (List.sublist_append_left A R)).pick is hn hl
  refine ⟨?_, fun b x hb => ?_, fun b x hb => ?_, S.keeps⟩
  · have hnd := S.nodup
    rw [List.map_append, List.nodup_append] at hnd ⊢
    refine ⟨SA.nodup, hnd.2.1, fun a ha b hb => hnd.2.2 a ?_ b hb⟩
    obtain ⟨p, hp, rfl⟩ := List.mem_map.1 ha
    exact List.mem_map.2 ⟨p, mem_pick hl hp, rfl⟩
  · rcases List.mem_append.1 hb with h1 | h1
    · exact SA.objs b x h1
    · exact S.objs b x (List.mem_append.2 (.inr h1))
  · rcases List.mem_append.1 hb with h1 | h1
    · exact SA.new b x h1
    · exact S.new b x (List.mem_append.2 (.inr h1))

theorem iput_new {a : Int} {v : V} : ∀ l : List (Int × V), ifind a l = none → iput a v l = l ++ [(a, v)]
  | [], _ => rfl
  | (a', v') :: l, h => by
    simp only [ifind] at h
    simp only [iput]
    by_cases e : a = a'
    · rw [if_pos e] at h; cases h
    · rw [if_neg e] at h ⊢
      rw [iput_new l h]; rfl

end Go.Lift
namespace Go.Back
open Go.Lift Go.Fn Go.Mem Go.Frames

section
variable {h0 h : Heap} {L L' A A' R : List (Nat × HO)} {db : Nat} {y : Disk.Lay} {d : Disk.Dsk}

theorem BW.mono (B : BW h0 L db y d h) (S : St h0 none_ L' h) (hs : ∀ p, p ∈ L' → p ∈ L) : BW h0 L' db y d h := ⟨S, B.R, B.ok, B.pbe, fun b v hb => B.out b v (hs _ hb), B.fresh⟩
theorem BW.perm (B : BW h0 L db y d h) (p : L.Perm L') : BW h0 L' db y d h := B.mono (B.st.perm p) (fun _ hp => p.mem_iff.2 hp)
theorem BW.pickR (B : BW h0 (A ++ R) db y d h) (is : List Nat) (hn : is.Nodup) (hl : is.map (fun i => A[i]?) = A'.map some) : BW h0 (A' ++ R) db y d h :=
  B.mono (B.st.pickR is hn hl) (fun p hp => by
    rcases List.mem_append.1 hp with h1 | h1
    · exact List.mem_append.2 (.inl (mem_pick hl h1))
    · exact List.mem_append.2 (.inr h1))
theorem BW.off {z : Nat} (B : BW h0 L db y d h) (hz : h0.obj z ≠ none) : ¬ keysOf L z := fun hk => by
  obtain ⟨u, hu⟩ := hk
  rcases B.st.new _ u hu with h1 | h1
  · exact hz h1
  · exact h1
end

/-- A request that waits: its number, and where its chain lies. -/
structure Wt where
  n : Nat
  cb : Nat
  c : Nat
  rest : List V
  mt : Bool

def Wt.ent (o f : Int) (rd : Bool) (q : Wt) : Int × V := (o * 4294967296 + (q.n : Int), .agg [.int .i64 0, .sl ⟨some ⟨q.cb, 0⟩, 3, q.c⟩, .int .i64 f, .bool rd])
def Wt.blk (page : Int) (kb : Bool) (q : Wt) : Nat × HO := (q.cb, .cells (partsC 1024 16 (256 * page) 256 kb 1100 1 ++ q.rest) q.mt)
def Wt.req (o f b : Int) (wr : Bool) (q : Wt) : Disk.Req := ⟨o * 4294967296 + (q.n : Int), wr, b, f⟩

theorem ent_none {o f : Int} {rd : Bool} {k : Nat} : ∀ ws : List Wt, (∀ q, q ∈ ws → q.n < k) → ifind (o * 4294967296 + (k : Int)) (ws.map (Wt.ent o f rd)) = none
  | [], _ => rfl
  | q :: ws, h => by
    have h1 := h q (List.mem_cons_self)
    simp only [List.map_cons, Wt.ent, ifind]
    rw [if_neg (by omega)]
    exact ent_none ws (fun q hq => h q (List.mem_cons_of_mem _ hq))

/-- The requests have the numbers from g on. -/
def Row : Nat → List Wt → Prop
  | _, [] => True
  | g, q :: ws => q.n = g ∧ Row (g + 1) ws

theorem Row.lt : ∀ {g : Nat} {ws : List Wt}, Row g ws → ∀ q, q ∈ ws → q.n < g + ws.length
  | g, p :: ws, h, q, hq => by
    rcases List.mem_cons.1 hq with rfl | hq
    · have := h.1; simp only [List.length_cons]; omega
    · have := Row.lt h.2 q hq; simp only [List.length_cons]; omega

theorem Row.snoc {q : Wt} : ∀ {g : Nat} {ws : List Wt}, Row g ws → q.n = g + ws.length → Row g (ws ++ [q])
  | g, [], _, h => ⟨h, trivial⟩
  | g, p :: ws, h, hq => ⟨h.1, Row.snoc h.2 (by simp only [List.length_cons] at hq; omega)⟩

structure Ad where
  fb : Nat
  tm : Nat
  wm : Nat
  blk : Nat
  rg : Nat
  db : Nat
  wq : Nat
  gb : Nat
  pm : Nat
  bm : Nat
  base : Nat
  first : Int
  owner : Nat
  page : Int
  block : Int
  kind : Int

structure Ad.Ok (p : Ad) : Prop where
  b : p.base + 16 ≤ 40
  b4 : 4 ≤ p.base
  f : 0 ≤ p.first ∧ p.first ≤ 8
  o : p.owner = 1 ∨ p.owner = 2
  pg : 6 ≤ p.page ∧ p.page < 16
  bl : 0 ≤ p.block ∧ p.block < 4
  k : p.kind = 0 ∨ p.kind = 1

def Ad.fr (p : Ad) : Int := (p.base : Int) + p.page
def Ad.ent (p : Ad) : Wt → Int × V := Wt.ent (p.owner : Int) p.fr (!(p.kind == 1))
def Ad.cl (p : Ad) : Wt → Nat × HO := Wt.blk p.page (p.kind == 0)
def Ad.req (p : Ad) : Wt → Disk.Req := Wt.req (p.owner : Int) p.fr (p.first + p.block) (p.kind == 1)

def Ad.L (p : Ad) (F : FS) (bt : List Nat) (ct : Nat) (bw : List Nat) (cw : Nat) (asked : Int) (es : List (Int × V)) (eb : List Nat) (ec : Nat) (t g0 : Nat) (bs : List UInt8) (mk : Bool) : List (Nat × HO) :=
  [(p.fb, .cells (F.cells p.tm p.wm) false), (p.tm, .map (.int .i64) (ikeys .i64 F.t) bt ct), (p.wm, .map (.int .i64) (ikeys .i64 F.w) bw cw), (p.blk, .cells (blkC p.rg p.db p.fb p.wq p.first 4 (p.owner : Int) asked) false), (p.wq, .map (.int .i64) (ikeys .i64 es) eb ec), (p.rg, .cells (ringC ((t : Nat) : Int) ((g0 : Nat) : Int) false) false), (p.gb, .cells (flatC p.pm (p.base : Int)) false), (p.pm, .cells (memC p.bm) false), (p.bm, .cells (strCells bs) mk)]

/-- What is known of the frames: how often the page's is had. -/
structure FrOk (p : Ad) (F : FS) (v : Nat) : Prop where
  n : F.n = 40
  first : F.first = 4
  t : ifind p.fr F.t = some (.int .i64 (v : Int))
  w : ifind p.fr F.w = some (.int .i64 (p.owner : Int))

/-- The guest's block, with the requests ws that wait (ps at the disk); t were taken, g0 given back. -/
def Wld (p : Ad) (h0 : Heap) (X : List (Nat × HO)) (m : Nat → Int) (t g0 : Nat) (ws ps : List Wt) (h : Heap) : Prop :=
  ∃ F bs mk bt ct bw cw eb ec y d, MemIs bs p.base m ∧ A3ok F bt ct bw cw ∧ FrOk p F (1 + ws.length) ∧ (eb.Nodup ∧ (∀ b, b ∈ eb → b < ec) ∧ eb.length = (ws.map p.ent).length) ∧
    d.n = 12 ∧ d.pend = ps.map p.req ∧ Row g0 ws ∧ g0 + ws.length = t ∧ BW h0 (p.L F bt ct bw cw (t : Int) (ws.map p.ent) eb ec t g0 bs mk ++ (X ++ ws.map p.cl)) p.db y d h

end Go.Back

/- One more request is asked of the disk, while others wait. -/
namespace Go.Back
open Go.Lift Go.Fn Go.Mem Go.Frames

theorem subErr_ok {o f b : Int} {wr : Bool} {k : Nat} {d : Disk.Dsk} {ws : List Wt} (hn : d.n = 12) (hp : d.pend = ws.map (Wt.req o f b wr)) (hb : 0 ≤ b ∧ b < 12) (hl : ws.length < 8) (hlt : ∀ q, q ∈ ws → q.n < k) : d.subErr ⟨o * 4294967296 + (k : Int), wr, b, f⟩ = 0 := by
  have h1 : d.has b = true := by simp [Disk.Dsk.has, hn]; omega
  have h2 : d.pend.any (fun q => q.id == o * 4294967296 + (k : Int)) = false := by
    rw [List.any_eq_false]
    intro r hr
    rw [hp] at hr
    obtain ⟨q, hq, rfl⟩ := List.mem_map.1 hr
    have := hlt q hq
    simp [Wt.req]
    omega
  have h3 : ¬ d.pend.length ≥ 8 := by rw [hp]; simp; omega
  unfold Disk.Dsk.subErr
  simp only [h1, h2]
  rw [if_neg (by simp), if_neg (by simp), if_neg h3]

section
variable {U U' : Ifc} {x : Nat → Int} {h0 h : Heap}

theorem round (hu : GU U U') (u : Disk.DU U) (w : Wid U' h0 x) (hk8 : knownB x 8 = true) {p : Ad} (ok : p.Ok) {X : List (Nat × HO)} {m : Nat → Int} {t g0 : Nat} {ws : List Wt}
    (h128 : m 128 = p.kind) (h129 : m 129 = p.block) (ht0 : t ≤ 900) (hws : ws.length < 8) {cnt : Int} (hcnt : m 32 = cnt) (h1 : (t : Int) < cnt ∧ cnt ≤ t + 8) (hhead : m (33 + t % 8) = 0) (T : Three m 1024 16 (256 * p.page) 256 (p.kind == 0) 1100 1)
    (Wl : Wld p h0 X m t g0 ws ws h) {I : Option Ptr → V → Int → Heap → Prop} {n : Int} {Q : Int → Int → Heap → Prop}
    (hI : ∀ q h', Wld p h0 X m (t + 1) g0 (ws ++ [q]) (ws ++ [q]) h' → I (some ⟨p.blk, 0⟩) (.iface 4 (.ptr (some ⟨p.gb, 0⟩))) n h') :
    backend_Block_Kick.b4 U I (some ⟨p.blk, 0⟩) (.iface 4 (.ptr (some ⟨p.gb, 0⟩))) n Q h := by
  have hw0 : ¬ none_ (U'.glob 1) := fun f => f
  obtain ⟨F, bs, mk, bt, ct, bw, cw, eb, ec, y, d, M, a3, fr, eq, hn, hp, row, hgt, B⟩ := Wl
  obtain ⟨es, hes⟩ : ∃ es, es = ws.map p.ent := ⟨_, rfl⟩
  obtain ⟨R, hR⟩ : ∃ R, R = X ++ ws.map p.cl := ⟨_, rfl⟩
  rw [← hes] at eq B
  rw [← hR] at B
  have hsub := subErr_ok (k := t) hn hp (by have := ok.f; have := ok.bl; omega) hws (fun q hq => by have := row.lt q hq; omega)
  have hnew : ifind ((p.owner : Int) * 4294967296 + (t : Int)) es = none := by rw [hes]; exact ent_none ws (fun q hq => by have := row.lt q hq; omega)
  have hel : es.length = ws.length := by rw [hes]; simp
  obtain ⟨fb, tm, wm, blk, rg, db, wq, gb, pm, bm, base, first, owner, page, block, kind⟩ := p
  obtain ⟨hb, hb4, hf, hown, hpg, hbl, hkd⟩ := ok
  obtain ⟨fn, ff, ft, fw⟩ := fr
  simp only [Ad.fr, Ad.L, List.cons_append, List.nil_append] at h128 h129 T M fn ff ft fw eq B hb hb4 hf hown hpg hbl hkd hsub hnew ⊢
  unfold backend_Block_Kick.b4
  have S_ := B.st.base
  repeat (first | ((with_reducible first|apply St.rI|apply St.rB|apply St.rP|apply St.rSl|apply St.rV|apply St.rM|apply St.rS|apply St.rN|apply St.ckA);assumption;(first|exact i0|exact i1|exact i2|exact i3|exact i4|exact i5|exact i6|exact i7|exact i8|exact i9|exact i10|exact i11|exact i12|exact i13|exact i14|exact i15);(first|rfl|exact Nat.le_of_ble_eq_true rfl)) | with_reducible refine der_of ?_ | ((with_reducible refine br_t ?_ ?_);rfl) | ((with_reducible refine br_f ?_ ?_);rfl) | ((with_reducible refine br_t ?_ ?_);assumption) | ((with_reducible refine br_f ?_ ?_);assumption) | ((with_reducible first|apply St.wrL|apply St.wr);assumption;(first|exact i0|exact i1|exact i2|exact i3|exact i4|exact i5|exact i6|exact i7|exact i8|exact i9|exact i10|exact i11|exact i12|exact i13|exact i14|exact i15);(first|exact Nat.le_of_ble_eq_true rfl|rfl);intro g_ S_;simp only [Ptr.add, List.set, splice, List.take, List.drop, List.nil_append, List.append_nil, List.cons_append, List.length_cons, List.length_nil, Nat.zero_add, Nat.add_zero, Nat.reduceAdd, Nat.reduceMul, Nat.mul_one, Int.toNat_zero, Int.toNat_one, Int.reduceToNat] at S_) | ((with_reducible refine ix_of ?_ ?_ ?_);exact of_decide_eq_true rfl;exact of_decide_eq_true rfl) | ((with_reducible first|refine nz_of ?_ ?_|refine nneg_of ?_ ?_);exact of_decide_eq_true rfl) | ((with_reducible refine chk_of ?_ ?_);rfl) | (with_reducible first|apply asI_of|apply asB_of|apply asP_of|apply asSl_of|apply asAggV_of|apply asTupV_of|apply asCons_of|apply asNil_of|apply isNil_n|apply isNil_i|apply nilC_i) | ((with_reducible refine And.intro ?_ ?_);rfl) | ((with_reducible apply exAnd);rfl))
  unfold mapLen
  refine ⟨_, _, _, _, S_.obj (i := 4) rfl, ?_⟩
  rw [ikeys_length, hel]
  refine br_t (decide_eq_true (by omega)) ?_
  repeat (first | ((with_reducible first|apply St.rI|apply St.rB|apply St.rP|apply St.rSl|apply St.rV|apply St.rM|apply St.rS|apply St.rN|apply St.ckA);assumption;(first|exact i0|exact i1|exact i2|exact i3|exact i4|exact i5|exact i6|exact i7|exact i8|exact i9|exact i10|exact i11|exact i12|exact i13|exact i14|exact i15);(first|rfl|exact Nat.le_of_ble_eq_true rfl)) | with_reducible refine der_of ?_ | ((with_reducible refine br_t ?_ ?_);rfl) | ((with_reducible refine br_f ?_ ?_);rfl) | ((with_reducible refine br_t ?_ ?_);assumption) | ((with_reducible refine br_f ?_ ?_);assumption) | ((with_reducible first|apply St.wrL|apply St.wr);assumption;(first|exact i0|exact i1|exact i2|exact i3|exact i4|exact i5|exact i6|exact i7|exact i8|exact i9|exact i10|exact i11|exact i12|exact i13|exact i14|exact i15);(first|exact Nat.le_of_ble_eq_true rfl|rfl);intro g_ S_;simp only [Ptr.add, List.set, splice, List.take, List.drop, List.nil_append, List.append_nil, List.cons_append, List.length_cons, List.length_nil, Nat.zero_add, Nat.add_zero, Nat.reduceAdd, Nat.reduceMul, Nat.mul_one, Int.toNat_zero, Int.toNat_one, Int.reduceToNat] at S_) | ((with_reducible refine ix_of ?_ ?_ ?_);exact of_decide_eq_true rfl;exact of_decide_eq_true rfl) | ((with_reducible first|refine nz_of ?_ ?_|refine nneg_of ?_ ?_);exact of_decide_eq_true rfl) | ((with_reducible refine chk_of ?_ ?_);rfl) | (with_reducible first|apply asI_of|apply asB_of|apply asP_of|apply asSl_of|apply asAggV_of|apply asTupV_of|apply asCons_of|apply asNil_of|apply isNil_n|apply isNil_i|apply nilC_i) | ((with_reducible refine And.intro ?_ ?_);rfl) | ((with_reducible apply exAnd);rfl))
  have SP : St h _ ([(rg, .cells (ringC ((t : Nat) : Int) ((g0 : Nat) : Int) false) false), (gb, .cells (flatC pm (base : Int)) false), (pm, .cells (memC bm) false), (bm, .cells (strCells bs) mk)] ++ ([(fb, .cells (FS.cells (F) tm wm) false), (tm, .map (.int .i64) (ikeys .i64 (F : FS).t) bt ct), (wm, .map (.int .i64) (ikeys .i64 (F : FS).w) bw cw), (blk, .cells (blkC rg db fb wq first 4 (owner : Int) (t : Int)) false), (wq, .map (.int .i64) (ikeys .i64 es) eb ec)] ++ R)) h := St.pickR (A := [(fb, .cells (FS.cells (F) tm wm) false), (tm, .map (.int .i64) (ikeys .i64 (F : FS).t) bt ct), (wm, .map (.int .i64) (ikeys .i64 (F : FS).w) bw cw), (blk, .cells (blkC rg db fb wq first 4 (owner : Int) (t : Int)) false), (wq, .map (.int .i64) (ikeys .i64 es) eb ec), (rg, .cells (ringC ((t : Nat) : Int) ((g0 : Nat) : Int) false) false), (gb, .cells (flatC pm (base : Int)) false), (pm, .cells (memC bm) false), (bm, .cells (strCells bs) mk)]) (A' := [(rg, .cells (ringC ((t : Nat) : Int) ((g0 : Nat) : Int) false) false), (gb, .cells (flatC pm (base : Int)) false), (pm, .cells (memC bm) false), (bm, .cells (strCells bs) mk), (fb, .cells (FS.cells (F) tm wm) false), (tm, .map (.int .i64) (ikeys .i64 (F : FS).t) bt ct), (wm, .map (.int .i64) (ikeys .i64 (F : FS).w) bw cw), (blk, .cells (blkC rg db fb wq first 4 (owner : Int) (t : Int)) false), (wq, .map (.int .i64) (ikeys .i64 es) eb ec)]) S_ [5, 6, 7, 8, 0, 1, 2, 3, 4] (by decide) rfl
  have wh : Wid U' h x := w.keeps B.st.keeps hw0
  refine next3 hu wh (SP.notA wh.known (B.off w.known)) hk8 M hb (by omega) hcnt h1 hhead T SP.head (fun cb c rest mk' g1 S1 => ?_)
  have S2 := St.frame S1 SP
  simp only [List.cons_append, List.nil_append] at S2
  clear S1 SP S_
  ((with_reducible apply St.al); assumption; intro k1 g_ S_)
  repeat (first | ((with_reducible first|apply St.rI|apply St.rB|apply St.rP|apply St.rSl|apply St.rV|apply St.rM|apply St.rS|apply St.rN|apply St.ckA);assumption;(first|exact i0|exact i1|exact i2|exact i3|exact i4|exact i5|exact i6|exact i7|exact i8|exact i9|exact i10|exact i11|exact i12|exact i13|exact i14|exact i15);(first|rfl|exact Nat.le_of_ble_eq_true rfl)) | with_reducible refine der_of ?_ | ((with_reducible refine br_t ?_ ?_);rfl) | ((with_reducible refine br_f ?_ ?_);rfl) | ((with_reducible refine br_t ?_ ?_);assumption) | ((with_reducible refine br_f ?_ ?_);assumption) | ((with_reducible first|apply St.wrL|apply St.wr);assumption;(first|exact i0|exact i1|exact i2|exact i3|exact i4|exact i5|exact i6|exact i7|exact i8|exact i9|exact i10|exact i11|exact i12|exact i13|exact i14|exact i15);(first|exact Nat.le_of_ble_eq_true rfl|rfl);intro g_ S_;simp only [Ptr.add, List.set, splice, List.take, List.drop, List.nil_append, List.append_nil, List.cons_append, List.length_cons, List.length_nil, Nat.zero_add, Nat.add_zero, Nat.reduceAdd, Nat.reduceMul, Nat.mul_one, Int.toNat_zero, Int.toNat_one, Int.reduceToNat] at S_) | ((with_reducible refine ix_of ?_ ?_ ?_);exact of_decide_eq_true rfl;exact of_decide_eq_true rfl) | ((with_reducible first|refine nz_of ?_ ?_|refine nneg_of ?_ ?_);exact of_decide_eq_true rfl) | ((with_reducible refine chk_of ?_ ?_);rfl) | (with_reducible first|apply asI_of|apply asB_of|apply asP_of|apply asSl_of|apply asAggV_of|apply asTupV_of|apply asCons_of|apply asNil_of|apply isNil_n|apply isNil_i|apply nilC_i) | ((with_reducible refine And.intro ?_ ?_);rfl) | ((with_reducible apply exAnd);rfl))
  unfold backend_Block_Kick.j8
  repeat (first | ((with_reducible first|apply St.rI|apply St.rB|apply St.rP|apply St.rSl|apply St.rV|apply St.rM|apply St.rS|apply St.rN|apply St.ckA);assumption;(first|exact i0|exact i1|exact i2|exact i3|exact i4|exact i5|exact i6|exact i7|exact i8|exact i9|exact i10|exact i11|exact i12|exact i13|exact i14|exact i15);(first|rfl|exact Nat.le_of_ble_eq_true rfl)) | with_reducible refine der_of ?_ | ((with_reducible refine br_t ?_ ?_);rfl) | ((with_reducible refine br_f ?_ ?_);rfl) | ((with_reducible refine br_t ?_ ?_);assumption) | ((with_reducible refine br_f ?_ ?_);assumption) | ((with_reducible first|apply St.wrL|apply St.wr);assumption;(first|exact i0|exact i1|exact i2|exact i3|exact i4|exact i5|exact i6|exact i7|exact i8|exact i9|exact i10|exact i11|exact i12|exact i13|exact i14|exact i15);(first|exact Nat.le_of_ble_eq_true rfl|rfl);intro g_ S_;simp only [Ptr.add, List.set, splice, List.take, List.drop, List.nil_append, List.append_nil, List.cons_append, List.length_cons, List.length_nil, Nat.zero_add, Nat.add_zero, Nat.reduceAdd, Nat.reduceMul, Nat.mul_one, Int.toNat_zero, Int.toNat_one, Int.reduceToNat] at S_) | ((with_reducible refine ix_of ?_ ?_ ?_);exact of_decide_eq_true rfl;exact of_decide_eq_true rfl) | ((with_reducible first|refine nz_of ?_ ?_|refine nneg_of ?_ ?_);exact of_decide_eq_true rfl) | ((with_reducible refine chk_of ?_ ?_);rfl) | (with_reducible first|apply asI_of|apply asB_of|apply asP_of|apply asSl_of|apply asAggV_of|apply asTupV_of|apply asCons_of|apply asNil_of|apply isNil_n|apply isNil_i|apply nilC_i) | ((with_reducible refine And.intro ?_ ?_);rfl) | ((with_reducible apply exAnd);rfl))
  have SA : St h _ ([(cb, .cells (partsC 1024 16 (256 * page) 256 (kind == 0) 1100 1 ++ rest) mk'), (blk, .cells (blkC rg db fb wq first 4 (owner : Int) (t : Int)) false), (gb, .cells (flatC pm (base : Int)) false), (pm, .cells (memC bm) false), (bm, .cells (strCells bs) mk), (fb, .cells (FS.cells (F) tm wm) false), (tm, .map (.int .i64) (ikeys .i64 (F : FS).t) bt ct), (wm, .map (.int .i64) (ikeys .i64 (F : FS).w) bw cw)] ++ ([(k1, .cells [.int .i64 0, .sl ⟨some ⟨cb, 0⟩, 3, c⟩] false), (rg, .cells (ringC ((t + 1 : Nat) : Int) ((g0 : Nat) : Int) false) false), (wq, .map (.int .i64) (ikeys .i64 es) eb ec)] ++ R)) g_ := St.pickR (A := [(k1, .cells [.int .i64 0, .sl ⟨some ⟨cb, 0⟩, 3, c⟩] false), (cb, .cells (partsC 1024 16 (256 * page) 256 (kind == 0) 1100 1 ++ rest) mk'), (rg, .cells (ringC ((t + 1 : Nat) : Int) ((g0 : Nat) : Int) false) false), (gb, .cells (flatC pm (base : Int)) false), (pm, .cells (memC bm) false), (bm, .cells (strCells bs) mk), (fb, .cells (FS.cells (F) tm wm) false), (tm, .map (.int .i64) (ikeys .i64 (F : FS).t) bt ct), (wm, .map (.int .i64) (ikeys .i64 (F : FS).w) bw cw), (blk, .cells (blkC rg db fb wq first 4 (owner : Int) (t : Int)) false), (wq, .map (.int .i64) (ikeys .i64 es) eb ec)]) (A' := [(cb, .cells (partsC 1024 16 (256 * page) 256 (kind == 0) 1100 1 ++ rest) mk'), (blk, .cells (blkC rg db fb wq first 4 (owner : Int) (t : Int)) false), (gb, .cells (flatC pm (base : Int)) false), (pm, .cells (memC bm) false), (bm, .cells (strCells bs) mk), (fb, .cells (FS.cells (F) tm wm) false), (tm, .map (.int .i64) (ikeys .i64 (F : FS).t) bt ct), (wm, .map (.int .i64) (ikeys .i64 (F : FS).w) bw cw), (k1, .cells [.int .i64 0, .sl ⟨some ⟨cb, 0⟩, 3, c⟩] false), (rg, .cells (ringC ((t + 1 : Nat) : Int) ((g0 : Nat) : Int) false) false), (wq, .map (.int .i64) (ikeys .i64 es) eb ec)]) S_ [1, 9, 3, 4, 5, 6, 7, 8, 0, 2, 10] (by decide) rfl
  clear S_ S2
  refine ask_of hu M hb a3 hkd hbl (by omega) h128 h129 (by omega) (by omega) (by omega) ft (by omega) fw SA.head (fun g2 S3 => ?_)
  have S4 := St.frame S3 SA
  simp only [List.cons_append, List.nil_append] at S4
  clear S3 SA
  ((with_reducible apply St.al); assumption; intro k2 g_ S_)
  repeat (first | ((with_reducible first|apply St.rI|apply St.rB|apply St.rP|apply St.rSl|apply St.rV|apply St.rM|apply St.rS|apply St.rN|apply St.ckA);assumption;(first|exact i0|exact i1|exact i2|exact i3|exact i4|exact i5|exact i6|exact i7|exact i8|exact i9|exact i10|exact i11|exact i12|exact i13|exact i14|exact i15);(first|rfl|exact Nat.le_of_ble_eq_true rfl)) | with_reducible refine der_of ?_ | ((with_reducible refine br_t ?_ ?_);rfl) | ((with_reducible refine br_f ?_ ?_);rfl) | ((with_reducible refine br_t ?_ ?_);assumption) | ((with_reducible refine br_f ?_ ?_);assumption) | ((with_reducible first|apply St.wrL|apply St.wr);assumption;(first|exact i0|exact i1|exact i2|exact i3|exact i4|exact i5|exact i6|exact i7|exact i8|exact i9|exact i10|exact i11|exact i12|exact i13|exact i14|exact i15);(first|exact Nat.le_of_ble_eq_true rfl|rfl);intro g_ S_;simp only [Ptr.add, List.set, splice, List.take, List.drop, List.nil_append, List.append_nil, List.cons_append, List.length_cons, List.length_nil, Nat.zero_add, Nat.add_zero, Nat.reduceAdd, Nat.reduceMul, Nat.mul_one, Int.toNat_zero, Int.toNat_one, Int.reduceToNat] at S_) | ((with_reducible refine ix_of ?_ ?_ ?_);exact of_decide_eq_true rfl;exact of_decide_eq_true rfl) | ((with_reducible first|refine nz_of ?_ ?_|refine nneg_of ?_ ?_);exact of_decide_eq_true rfl) | ((with_reducible refine chk_of ?_ ?_);rfl) | (with_reducible first|apply asI_of|apply asB_of|apply asP_of|apply asSl_of|apply asAggV_of|apply asTupV_of|apply asCons_of|apply asNil_of|apply isNil_n|apply isNil_i|apply nilC_i) | ((with_reducible refine And.intro ?_ ?_);rfl) | ((with_reducible apply exAnd);rfl))
  unfold backend_Block_submit
  ((with_reducible apply St.al); assumption; intro c1 g_ S_)
  ((with_reducible apply St.al); assumption; intro c2 g_ S_)
  repeat (first | ((with_reducible first|apply St.rI|apply St.rB|apply St.rP|apply St.rSl|apply St.rV|apply St.rM|apply St.rS|apply St.rN|apply St.ckA);assumption;(first|exact i0|exact i1|exact i2|exact i3|exact i4|exact i5|exact i6|exact i7|exact i8|exact i9|exact i10|exact i11|exact i12|exact i13|exact i14|exact i15);(first|rfl|exact Nat.le_of_ble_eq_true rfl)) | with_reducible refine der_of ?_ | ((with_reducible refine br_t ?_ ?_);rfl) | ((with_reducible refine br_f ?_ ?_);rfl) | ((with_reducible refine br_t ?_ ?_);assumption) | ((with_reducible refine br_f ?_ ?_);assumption) | ((with_reducible first|apply St.wrL|apply St.wr);assumption;(first|exact i0|exact i1|exact i2|exact i3|exact i4|exact i5|exact i6|exact i7|exact i8|exact i9|exact i10|exact i11|exact i12|exact i13|exact i14|exact i15);(first|exact Nat.le_of_ble_eq_true rfl|rfl);intro g_ S_;simp only [Ptr.add, List.set, splice, List.take, List.drop, List.nil_append, List.append_nil, List.cons_append, List.length_cons, List.length_nil, Nat.zero_add, Nat.add_zero, Nat.reduceAdd, Nat.reduceMul, Nat.mul_one, Int.toNat_zero, Int.toNat_one, Int.reduceToNat] at S_) | ((with_reducible refine ix_of ?_ ?_ ?_);exact of_decide_eq_true rfl;exact of_decide_eq_true rfl) | ((with_reducible first|refine nz_of ?_ ?_|refine nneg_of ?_ ?_);exact of_decide_eq_true rfl) | ((with_reducible refine chk_of ?_ ?_);rfl) | (with_reducible first|apply asI_of|apply asB_of|apply asP_of|apply asSl_of|apply asAggV_of|apply asTupV_of|apply asCons_of|apply asNil_of|apply isNil_n|apply isNil_i|apply nilC_i) | ((with_reducible refine And.intro ?_ ?_);rfl) | ((with_reducible apply exAnd);rfl))
  have SQ : St h _ (A3 fb tm wm F bt ct bw cw ++ ([(c2, .cells [.int .i64 ((owner : Int) * 4294967296 + (t : Int)), .bool (kind == 1), .int .i64 (first + block), .int .i64 ((base : Int) + page)] false), (c1, .cells [.int .i64 0, .sl ⟨some ⟨cb, 0⟩, 3, c⟩] false), (cb, .cells (partsC 1024 16 (256 * page) 256 (kind == 0) 1100 1 ++ rest) mk'), (blk, .cells (blkC rg db fb wq first 4 (owner : Int) (t : Int)) false), (wq, .map (.int .i64) (ikeys .i64 es) eb ec), (rg, .cells (ringC ((t + 1 : Nat) : Int) ((g0 : Nat) : Int) false) false), (gb, .cells (flatC pm (base : Int)) false), (pm, .cells (memC bm) false), (bm, .cells (strCells bs) mk)] ++ R)) g_ := St.pickR (A := [(c2, .cells [.int .i64 ((owner : Int) * 4294967296 + (t : Int)), .bool (kind == 1), .int .i64 (first + block), .int .i64 ((base : Int) + page)] false), (c1, .cells [.int .i64 0, .sl ⟨some ⟨cb, 0⟩, 3, c⟩] false), (k2, .cells [.int .i64 ((owner : Int) * 4294967296 + (t : Int)), .bool (kind == 1), .int .i64 (first + block), .int .i64 ((base : Int) + page)] false), (cb, .cells (partsC 1024 16 (256 * page) 256 (kind == 0) 1100 1 ++ rest) mk'), (blk, .cells (blkC rg db fb wq first 4 (owner : Int) (t : Int)) false), (gb, .cells (flatC pm (base : Int)) false), (pm, .cells (memC bm) false), (bm, .cells (strCells bs) mk), (fb, .cells (FS.cells (F) tm wm) false), (tm, .map (.int .i64) (ikeys .i64 (F : FS).t) bt ct), (wm, .map (.int .i64) (ikeys .i64 (F : FS).w) bw cw), (k1, .cells [.int .i64 0, .sl ⟨some ⟨cb, 0⟩, 3, c⟩] false), (rg, .cells (ringC ((t + 1 : Nat) : Int) ((g0 : Nat) : Int) false) false), (wq, .map (.int .i64) (ikeys .i64 es) eb ec)]) (A' := [(fb, .cells (FS.cells (F) tm wm) false), (tm, .map (.int .i64) (ikeys .i64 (F : FS).t) bt ct), (wm, .map (.int .i64) (ikeys .i64 (F : FS).w) bw cw), (c2, .cells [.int .i64 ((owner : Int) * 4294967296 + (t : Int)), .bool (kind == 1), .int .i64 (first + block), .int .i64 ((base : Int) + page)] false), (c1, .cells [.int .i64 0, .sl ⟨some ⟨cb, 0⟩, 3, c⟩] false), (cb, .cells (partsC 1024 16 (256 * page) 256 (kind == 0) 1100 1 ++ rest) mk'), (blk, .cells (blkC rg db fb wq first 4 (owner : Int) (t : Int)) false), (wq, .map (.int .i64) (ikeys .i64 es) eb ec), (rg, .cells (ringC ((t + 1 : Nat) : Int) ((g0 : Nat) : Int) false) false), (gb, .cells (flatC pm (base : Int)) false), (pm, .cells (memC bm) false), (bm, .cells (strCells bs) mk)]) S_ [8, 9, 10, 0, 1, 3, 4, 13, 12, 5, 6, 7] (by decide) rfl
  clear S_ S4
  refine Hold_of (rep_at (i := 0) (j := 1) (k := 2) SQ a3 rfl rfl rfl (by decide)) (by omega) (by rw [fn]; omega) ft (by omega) fw (fun g3 R3 k3 => ?_)
  obtain ⟨bt', ct', bw', cw', S5, ok'⟩ := three_st SQ R3 k3
  simp only [A3, List.cons_append, List.nil_append] at S5
  clear SQ
  have B5 := B.step S5
  repeat (first | ((with_reducible first|apply St.rI|apply St.rB|apply St.rP|apply St.rSl|apply St.rV|apply St.rM|apply St.rS|apply St.rN|apply St.ckA);assumption;(first|exact i0|exact i1|exact i2|exact i3|exact i4|exact i5|exact i6|exact i7|exact i8|exact i9|exact i10|exact i11|exact i12|exact i13|exact i14|exact i15);(first|rfl|exact Nat.le_of_ble_eq_true rfl)) | with_reducible refine der_of ?_ | ((with_reducible refine br_t ?_ ?_);rfl) | ((with_reducible refine br_f ?_ ?_);rfl) | ((with_reducible refine br_t ?_ ?_);assumption) | ((with_reducible refine br_f ?_ ?_);assumption) | ((with_reducible first|apply St.wrL|apply St.wr);assumption;(first|exact i0|exact i1|exact i2|exact i3|exact i4|exact i5|exact i6|exact i7|exact i8|exact i9|exact i10|exact i11|exact i12|exact i13|exact i14|exact i15);(first|exact Nat.le_of_ble_eq_true rfl|rfl);intro g_ S_;simp only [Ptr.add, List.set, splice, List.take, List.drop, List.nil_append, List.append_nil, List.cons_append, List.length_cons, List.length_nil, Nat.zero_add, Nat.add_zero, Nat.reduceAdd, Nat.reduceMul, Nat.mul_one, Int.toNat_zero, Int.toNat_one, Int.reduceToNat] at S_) | ((with_reducible refine ix_of ?_ ?_ ?_);exact of_decide_eq_true rfl;exact of_decide_eq_true rfl) | ((with_reducible first|refine nz_of ?_ ?_|refine nneg_of ?_ ?_);exact of_decide_eq_true rfl) | ((with_reducible refine chk_of ?_ ?_);rfl) | (with_reducible first|apply asI_of|apply asB_of|apply asP_of|apply asSl_of|apply asAggV_of|apply asTupV_of|apply asCons_of|apply asNil_of|apply isNil_n|apply isNil_i|apply nilC_i) | ((with_reducible refine And.intro ?_ ?_);rfl) | ((with_reducible apply exAnd);rfl))
  refine BW.submit u B5 (r := ⟨(owner : Int) * 4294967296 + (t : Int), kind == 1, first + block, (base : Int) + page⟩) hsub (fun y' g4 B6 => ?_)
  clear S5 B5
  have S_ := B6.st.base
  repeat (first | ((with_reducible first|apply St.rI|apply St.rB|apply St.rP|apply St.rSl|apply St.rV|apply St.rM|apply St.rS|apply St.rN|apply St.ckA);assumption;(first|exact i0|exact i1|exact i2|exact i3|exact i4|exact i5|exact i6|exact i7|exact i8|exact i9|exact i10|exact i11|exact i12|exact i13|exact i14|exact i15);(first|rfl|exact Nat.le_of_ble_eq_true rfl)) | with_reducible refine der_of ?_ | ((with_reducible refine br_t ?_ ?_);rfl) | ((with_reducible refine br_f ?_ ?_);rfl) | ((with_reducible refine br_t ?_ ?_);assumption) | ((with_reducible refine br_f ?_ ?_);assumption) | ((with_reducible first|apply St.wrL|apply St.wr);assumption;(first|exact i0|exact i1|exact i2|exact i3|exact i4|exact i5|exact i6|exact i7|exact i8|exact i9|exact i10|exact i11|exact i12|exact i13|exact i14|exact i15);(first|exact Nat.le_of_ble_eq_true rfl|rfl);intro g_ S_;simp only [Ptr.add, List.set, splice, List.take, List.drop, List.nil_append, List.append_nil, List.cons_append, List.length_cons, List.length_nil, Nat.zero_add, Nat.add_zero, Nat.reduceAdd, Nat.reduceMul, Nat.mul_one, Int.toNat_zero, Int.toNat_one, Int.reduceToNat] at S_) | ((with_reducible refine ix_of ?_ ?_ ?_);exact of_decide_eq_true rfl;exact of_decide_eq_true rfl) | ((with_reducible first|refine nz_of ?_ ?_|refine nneg_of ?_ ?_);exact of_decide_eq_true rfl) | ((with_reducible refine chk_of ?_ ?_);rfl) | (with_reducible first|apply asI_of|apply asB_of|apply asP_of|apply asSl_of|apply asAggV_of|apply asTupV_of|apply asCons_of|apply asNil_of|apply isNil_n|apply isNil_i|apply nilC_i) | ((with_reducible refine And.intro ?_ ?_);rfl) | ((with_reducible apply exAnd);rfl))
  have M0 : MapAt g4 wq .i64 es := ⟨eb, ec, S_.obj (i := 7) rfl, eq⟩
  refine mapPut_of M0 (fun g5 M5 k5 => ?_)
  rw [iput_new _ hnew] at M5
  obtain ⟨eb', ec', ho5, eq5⟩ := M5
  have S6 := S_.put (i := 7) rfl ho5 k5
  simp only [List.set] at S6
  clear S_
  unfold backend_Block_submit.j7
  repeat (first | ((with_reducible first|apply St.rI|apply St.rB|apply St.rP|apply St.rSl|apply St.rV|apply St.rM|apply St.rS|apply St.rN|apply St.ckA);assumption;(first|exact i0|exact i1|exact i2|exact i3|exact i4|exact i5|exact i6|exact i7|exact i8|exact i9|exact i10|exact i11|exact i12|exact i13|exact i14|exact i15);(first|rfl|exact Nat.le_of_ble_eq_true rfl)) | with_reducible refine der_of ?_ | ((with_reducible refine br_t ?_ ?_);rfl) | ((with_reducible refine br_f ?_ ?_);rfl) | ((with_reducible refine br_t ?_ ?_);assumption) | ((with_reducible refine br_f ?_ ?_);assumption) | ((with_reducible first|apply St.wrL|apply St.wr);assumption;(first|exact i0|exact i1|exact i2|exact i3|exact i4|exact i5|exact i6|exact i7|exact i8|exact i9|exact i10|exact i11|exact i12|exact i13|exact i14|exact i15);(first|exact Nat.le_of_ble_eq_true rfl|rfl);intro g_ S_;simp only [Ptr.add, List.set, splice, List.take, List.drop, List.nil_append, List.append_nil, List.cons_append, List.length_cons, List.length_nil, Nat.zero_add, Nat.add_zero, Nat.reduceAdd, Nat.reduceMul, Nat.mul_one, Int.toNat_zero, Int.toNat_one, Int.reduceToNat] at S_) | ((with_reducible refine ix_of ?_ ?_ ?_);exact of_decide_eq_true rfl;exact of_decide_eq_true rfl) | ((with_reducible first|refine nz_of ?_ ?_|refine nneg_of ?_ ?_);exact of_decide_eq_true rfl) | ((with_reducible refine chk_of ?_ ?_);rfl) | (with_reducible first|apply asI_of|apply asB_of|apply asP_of|apply asSl_of|apply asAggV_of|apply asTupV_of|apply asCons_of|apply asNil_of|apply isNil_n|apply isNil_i|apply nilC_i) | ((with_reducible refine And.intro ?_ ?_);rfl) | ((with_reducible apply exAnd);rfl))
  unfold backend_Block_Kick.j11
  repeat (first | ((with_reducible first|apply St.rI|apply St.rB|apply St.rP|apply St.rSl|apply St.rV|apply St.rM|apply St.rS|apply St.rN|apply St.ckA);assumption;(first|exact i0|exact i1|exact i2|exact i3|exact i4|exact i5|exact i6|exact i7|exact i8|exact i9|exact i10|exact i11|exact i12|exact i13|exact i14|exact i15);(first|rfl|exact Nat.le_of_ble_eq_true rfl)) | with_reducible refine der_of ?_ | ((with_reducible refine br_t ?_ ?_);rfl) | ((with_reducible refine br_f ?_ ?_);rfl) | ((with_reducible refine br_t ?_ ?_);assumption) | ((with_reducible refine br_f ?_ ?_);assumption) | ((with_reducible first|apply St.wrL|apply St.wr);assumption;(first|exact i0|exact i1|exact i2|exact i3|exact i4|exact i5|exact i6|exact i7|exact i8|exact i9|exact i10|exact i11|exact i12|exact i13|exact i14|exact i15);(first|exact Nat.le_of_ble_eq_true rfl|rfl);intro g_ S_;simp only [Ptr.add, List.set, splice, List.take, List.drop, List.nil_append, List.append_nil, List.cons_append, List.length_cons, List.length_nil, Nat.zero_add, Nat.add_zero, Nat.reduceAdd, Nat.reduceMul, Nat.mul_one, Int.toNat_zero, Int.toNat_one, Int.reduceToNat] at S_) | ((with_reducible refine ix_of ?_ ?_ ?_);exact of_decide_eq_true rfl;exact of_decide_eq_true rfl) | ((with_reducible first|refine nz_of ?_ ?_|refine nneg_of ?_ ?_);exact of_decide_eq_true rfl) | ((with_reducible refine chk_of ?_ ?_);rfl) | (with_reducible first|apply asI_of|apply asB_of|apply asP_of|apply asSl_of|apply asAggV_of|apply asTupV_of|apply asCons_of|apply asNil_of|apply isNil_n|apply isNil_i|apply nilC_i) | ((with_reducible refine And.intro ?_ ?_);rfl) | ((with_reducible apply exAnd);rfl))
  have ew : IntKind.i64.wrap ((t : Int) + 1) = ((t + 1 : Nat) : Int) := by rw [wrap64] <;> omega
  rw [ew] at S_
  have B7 := (B6.step S_).pickR (A := [(fb, .cells (FS.cells ({ F with t := iput ((base : Int) + page) (.int .i64 (((1 + ws.length : Nat) : Int) + 1)) F.t }) tm wm) false), (tm, .map (.int .i64) (ikeys .i64 ({ F with t := iput ((base : Int) + page) (.int .i64 (((1 + ws.length : Nat) : Int) + 1)) F.t } : FS).t) bt' ct'), (wm, .map (.int .i64) (ikeys .i64 ({ F with t := iput ((base : Int) + page) (.int .i64 (((1 + ws.length : Nat) : Int) + 1)) F.t } : FS).w) bw' cw'), (c2, .cells [.int .i64 ((owner : Int) * 4294967296 + (t : Int)), .bool (kind == 1), .int .i64 (first + block), .int .i64 ((base : Int) + page)] false), (c1, .cells [.int .i64 0, .sl ⟨some ⟨cb, 0⟩, 3, c⟩] false), (cb, .cells (partsC 1024 16 (256 * page) 256 (kind == 0) 1100 1 ++ rest) mk'), (blk, .cells (blkC rg db fb wq first 4 (owner : Int) ((t + 1 : Nat) : Int)) false), (wq, .map (.int .i64) (ikeys .i64 (es ++ [((owner : Int) * 4294967296 + (t : Int), .agg [.int .i64 0, .sl ⟨some ⟨cb, 0⟩, 3, c⟩, .int .i64 ((base : Int) + page), .bool (!(kind == 1))])])) eb' ec'), (rg, .cells (ringC ((t + 1 : Nat) : Int) ((g0 : Nat) : Int) false) false), (gb, .cells (flatC pm (base : Int)) false), (pm, .cells (memC bm) false), (bm, .cells (strCells bs) mk)]) (A' := [(cb, .cells (partsC 1024 16 (256 * page) 256 (kind == 0) 1100 1 ++ rest) mk'), (fb, .cells (FS.cells ({ F with t := iput ((base : Int) + page) (.int .i64 (((1 + ws.length : Nat) : Int) + 1)) F.t }) tm wm) false), (tm, .map (.int .i64) (ikeys .i64 ({ F with t := iput ((base : Int) + page) (.int .i64 (((1 + ws.length : Nat) : Int) + 1)) F.t } : FS).t) bt' ct'), (wm, .map (.int .i64) (ikeys .i64 ({ F with t := iput ((base : Int) + page) (.int .i64 (((1 + ws.length : Nat) : Int) + 1)) F.t } : FS).w) bw' cw'), (blk, .cells (blkC rg db fb wq first 4 (owner : Int) ((t + 1 : Nat) : Int)) false), (wq, .map (.int .i64) (ikeys .i64 (es ++ [((owner : Int) * 4294967296 + (t : Int), .agg [.int .i64 0, .sl ⟨some ⟨cb, 0⟩, 3, c⟩, .int .i64 ((base : Int) + page), .bool (!(kind == 1))])])) eb' ec'), (rg, .cells (ringC ((t + 1 : Nat) : Int) ((g0 : Nat) : Int) false) false), (gb, .cells (flatC pm (base : Int)) false), (pm, .cells (memC bm) false), (bm, .cells (strCells bs) mk)]) [5, 0, 1, 2, 6, 7, 8, 9, 10, 11] (by decide) rfl
  refine hI ⟨t, cb, c, rest, mk'⟩ _ ⟨{ F with t := iput ((base : Int) + page) (.int .i64 (((1 + ws.length : Nat) : Int) + 1)) F.t }, bs, mk, bt', ct', bw', cw', eb', ec', y', { d with pend := d.pend ++ [⟨(owner : Int) * 4294967296 + (t : Int), kind == 1, first + block, (base : Int) + page⟩] }, M, ok', ⟨fn, ff, ?_, fw⟩, ?_, hn, ?_, row.snoc hgt.symm, by simp only [List.length_append, List.length_cons, List.length_nil]; omega, ?_⟩
  · show ifind _ (iput _ _ _) = _
    rw [ifind_iput]
    refine (if_pos rfl).trans ?_
    have : ((1 + (ws ++ [(⟨t, cb, c, rest, mk'⟩ : Wt)]).length : Nat) : Int) = ((1 + ws.length : Nat) : Int) + 1 := by simp only [List.length_append, List.length_cons, List.length_nil]; omega
    rw [this]
  · rw [List.map_append, ← hes]; exact eq5
  · show d.pend ++ [_] = _
    rw [hp, List.map_append]; rfl
  · have e : ([(fb, .cells (FS.cells ({ F with t := iput ((base : Int) + page) (.int .i64 (((1 + ws.length : Nat) : Int) + 1)) F.t }) tm wm) false), (tm, .map (.int .i64) (ikeys .i64 ({ F with t := iput ((base : Int) + page) (.int .i64 (((1 + ws.length : Nat) : Int) + 1)) F.t } : FS).t) bt' ct'), (wm, .map (.int .i64) (ikeys .i64 ({ F with t := iput ((base : Int) + page) (.int .i64 (((1 + ws.length : Nat) : Int) + 1)) F.t } : FS).w) bw' cw'), (blk, .cells (blkC rg db fb wq first 4 (owner : Int) ((t + 1 : Nat) : Int)) false), (wq, .map (.int .i64) (ikeys .i64 (es ++ [((owner : Int) * 4294967296 + (t : Int), .agg [.int .i64 0, .sl ⟨some ⟨cb, 0⟩, 3, c⟩, .int .i64 ((base : Int) + page), .bool (!(kind == 1))])])) eb' ec'), (rg, .cells (ringC ((t + 1 : Nat) : Int) ((g0 : Nat) : Int) false) false), (gb, .cells (flatC pm (base : Int)) false), (pm, .cells (memC bm) false), (bm, .cells (strCells bs) mk)] ++ R) ++ [(cb, .cells (partsC 1024 16 (256 * page) 256 (kind == 0) 1100 1 ++ rest) mk')] = Ad.L ⟨fb, tm, wm, blk, rg, db, wq, gb, pm, bm, base, first, owner, page, block, kind⟩ { F with t := iput ((base : Int) + page) (.int .i64 (((1 + ws.length : Nat) : Int) + 1)) F.t } bt' ct' bw' cw' ((t + 1 : Nat) : Int) ((ws ++ [(⟨t, cb, c, rest, mk'⟩ : Wt)]).map (Ad.ent ⟨fb, tm, wm, blk, rg, db, wq, gb, pm, bm, base, first, owner, page, block, kind⟩)) eb' ec' (t + 1) g0 bs mk ++ (X ++ (ws ++ [(⟨t, cb, c, rest, mk'⟩ : Wt)]).map (Ad.cl ⟨fb, tm, wm, blk, rg, db, wq, gb, pm, bm, base, first, owner, page, block, kind⟩)) := by
      rw [hR, hes]
      simp only [List.map_append, List.append_assoc]
      rfl
    rw [← e]
    exact B7.perm (List.perm_append_singleton _ _).symm

theorem waits_of {p : Ad} {X : List (Nat × HO)} {m : Nat → Int} {t g0 : Nat} {ws ps : List Wt} (Wl : Wld p h0 X m t g0 ws ps h) {Q : Int → Heap → Prop} (hq : Q (ws.length : Int) h) : backend_Block_Waits (some ⟨p.blk, 0⟩) Q h := by
  obtain ⟨F, bs, mk, bt, ct, bw, cw, eb, ec, y, d, M, a3, fr, eq, hn, hp, row, hgt, B⟩ := Wl
  simp only [Ad.L, List.cons_append, List.nil_append] at B
  have S_ := B.st.base
  unfold backend_Block_Waits
  repeat (first | ((with_reducible first|apply St.rI|apply St.rB|apply St.rP|apply St.rSl|apply St.rV|apply St.rM|apply St.rS|apply St.rN|apply St.ckA);assumption;(first|exact i0|exact i1|exact i2|exact i3|exact i4|exact i5|exact i6|exact i7|exact i8|exact i9|exact i10|exact i11|exact i12|exact i13|exact i14|exact i15);(first|rfl|exact Nat.le_of_ble_eq_true rfl)) | with_reducible refine der_of ?_ | ((with_reducible refine br_t ?_ ?_);rfl) | ((with_reducible refine br_f ?_ ?_);rfl) | ((with_reducible refine br_t ?_ ?_);assumption) | ((with_reducible refine br_f ?_ ?_);assumption) | ((with_reducible first|apply St.wrL|apply St.wr);assumption;(first|exact i0|exact i1|exact i2|exact i3|exact i4|exact i5|exact i6|exact i7|exact i8|exact i9|exact i10|exact i11|exact i12|exact i13|exact i14|exact i15);(first|exact Nat.le_of_ble_eq_true rfl|rfl);intro g_ S_;simp only [Ptr.add, List.set, splice, List.take, List.drop, List.nil_append, List.append_nil, List.cons_append, List.length_cons, List.length_nil, Nat.zero_add, Nat.add_zero, Nat.reduceAdd, Nat.reduceMul, Nat.mul_one, Int.toNat_zero, Int.toNat_one, Int.reduceToNat] at S_) | ((with_reducible refine ix_of ?_ ?_ ?_);exact of_decide_eq_true rfl;exact of_decide_eq_true rfl) | ((with_reducible first|refine nz_of ?_ ?_|refine nneg_of ?_ ?_);exact of_decide_eq_true rfl) | ((with_reducible refine chk_of ?_ ?_);rfl) | (with_reducible first|apply asI_of|apply asB_of|apply asP_of|apply asSl_of|apply asAggV_of|apply asTupV_of|apply asCons_of|apply asNil_of|apply isNil_n|apply isNil_i|apply nilC_i) | ((with_reducible refine And.intro ?_ ?_);rfl) | ((with_reducible apply exAnd);rfl))
  unfold mapLen
  refine ⟨_, _, _, _, S_.obj (i := 4) rfl, ?_⟩
  rw [ikeys_length, List.length_map]
  exact hq

theorem full {p : Ad} {X : List (Nat × HO)} {m : Nat → Int} {t g0 : Nat} {ws ps : List Wt} (Wl : Wld p h0 X m t g0 ws ps h) (hws : 8 ≤ ws.length) {I : Option Ptr → V → Int → Heap → Prop} {a2 : V} {n : Int} {Q : Int → Int → Heap → Prop}
    (hq : Q n 0 h) : backend_Block_Kick.b4 U I (some ⟨p.blk, 0⟩) a2 n Q h := by
  obtain ⟨F, bs, mk, bt, ct, bw, cw, eb, ec, y, d, M, a3, fr, eq, hn, hp, row, hgt, B⟩ := Wl
  simp only [Ad.L, List.cons_append, List.nil_append] at B
  have S_ := B.st.base
  unfold backend_Block_Kick.b4
  repeat (first | ((with_reducible first|apply St.rI|apply St.rB|apply St.rP|apply St.rSl|apply St.rV|apply St.rM|apply St.rS|apply St.rN|apply St.ckA);assumption;(first|exact i0|exact i1|exact i2|exact i3|exact i4|exact i5|exact i6|exact i7|exact i8|exact i9|exact i10|exact i11|exact i12|exact i13|exact i14|exact i15);(first|rfl|exact Nat.le_of_ble_eq_true rfl)) | with_reducible refine der_of ?_ | ((with_reducible refine br_t ?_ ?_);rfl) | ((with_reducible refine br_f ?_ ?_);rfl) | ((with_reducible refine br_t ?_ ?_);assumption) | ((with_reducible refine br_f ?_ ?_);assumption) | ((with_reducible first|apply St.wrL|apply St.wr);assumption;(first|exact i0|exact i1|exact i2|exact i3|exact i4|exact i5|exact i6|exact i7|exact i8|exact i9|exact i10|exact i11|exact i12|exact i13|exact i14|exact i15);(first|exact Nat.le_of_ble_eq_true rfl|rfl);intro g_ S_;simp only [Ptr.add, List.set, splice, List.take, List.drop, List.nil_append, List.append_nil, List.cons_append, List.length_cons, List.length_nil, Nat.zero_add, Nat.add_zero, Nat.reduceAdd, Nat.reduceMul, Nat.mul_one, Int.toNat_zero, Int.toNat_one, Int.reduceToNat] at S_) | ((with_reducible refine ix_of ?_ ?_ ?_);exact of_decide_eq_true rfl;exact of_decide_eq_true rfl) | ((with_reducible first|refine nz_of ?_ ?_|refine nneg_of ?_ ?_);exact of_decide_eq_true rfl) | ((with_reducible refine chk_of ?_ ?_);rfl) | (with_reducible first|apply asI_of|apply asB_of|apply asP_of|apply asSl_of|apply asAggV_of|apply asTupV_of|apply asCons_of|apply asNil_of|apply isNil_n|apply isNil_i|apply nilC_i) | ((with_reducible refine And.intro ?_ ?_);rfl) | ((with_reducible apply exAnd);rfl))
  unfold mapLen
  refine ⟨_, _, _, _, S_.obj (i := 4) rfl, ?_⟩
  rw [ikeys_length, List.length_map]
  exact br_f (decide_eq_false (by omega)) hq

/-- What is offered is asked, until eight wait. -/
theorem kicks (hu : GU U U') (u : Disk.DU U) (w : Wid U' h0 x) (hk8 : knownB x 8 = true) {p : Ad} (ok : p.Ok) {X : List (Nat × HO)} {m : Nat → Int} {g0 : Nat} {cnt : Int}
    (h128 : m 128 = p.kind) (h129 : m 129 = p.block) (hcnt : m 32 = cnt) (hhead : ∀ k, k < 8 → m (33 + k) = 0) (T : Three m 1024 16 (256 * p.page) 256 (p.kind == 0) 1100 1) {Q : Int → Int → Heap → Prop} {t0 : Nat} {ws0 : List Wt} (ht0 : t0 ≤ 800) (j0 : Nat) (hj : ws0.length + j0 = 8) (hc : (t0 : Int) + j0 ≤ cnt ∧ cnt ≤ t0 + 8)
    (Wl : Wld p h0 X m t0 g0 ws0 ws0 h) (hq : ∀ ws h', ws.length = 8 → Wld p h0 X m (t0 + j0) g0 ws ws h' → Q 0 0 h') :
    backend_Block_Kick U (some ⟨p.blk, 0⟩) (.iface 4 (.ptr (some ⟨p.gb, 0⟩))) Q h := by
  have key : ∀ I : Option Ptr → V → Int → Heap → Prop, (∀ a1 a2 a3 h, backend_Block_Kick.b4 U I a1 a2 a3 Q h → I a1 a2 a3 h) → ∀ (j t : Nat) (ws : List Wt) (h : Heap), ws.length + j = 8 → t + j = t0 + j0 → t0 ≤ t → Wld p h0 X m t g0 ws ws h → I (some ⟨p.blk, 0⟩) (.iface 4 (.ptr (some ⟨p.gb, 0⟩))) 0 h := by
    intro I HI j
    induction j with
    | zero =>
      intro t ws h hl ht hle Wl
      obtain rfl : t = t0 + j0 := by omega
      exact HI _ _ _ _ (full Wl (by omega) (hq ws h (by omega) Wl))
    | succ j ih =>
      intro t ws h hl ht hle Wl
      refine HI _ _ _ _ (round hu u w hk8 ok h128 h129 (by omega) (by omega) hcnt (by omega) (hhead _ (by omega)) T Wl (fun q h' Wl' => ?_))
      exact ih (t + 1) (ws ++ [q]) h' (by simp only [List.length_append, List.length_cons, List.length_nil]; omega) (by omega) (by omega) Wl'
  have Wl0 := Wl
  obtain ⟨F, bs, mk, bt, ct, bw, cw, eb, ec, y, d, M, a3, fr, eq, hn, hp, row, hgt, B⟩ := Wl
  simp only [Ad.L, List.cons_append, List.nil_append] at B
  have S_ := B.st.base
  unfold backend_Block_Kick backend_Block_none
  repeat (first | ((with_reducible first|apply St.rI|apply St.rB|apply St.rP|apply St.rSl|apply St.rV|apply St.rM|apply St.rS|apply St.rN|apply St.ckA);assumption;(first|exact i0|exact i1|exact i2|exact i3|exact i4|exact i5|exact i6|exact i7|exact i8|exact i9|exact i10|exact i11|exact i12|exact i13|exact i14|exact i15);(first|rfl|exact Nat.le_of_ble_eq_true rfl)) | with_reducible refine der_of ?_ | ((with_reducible refine br_t ?_ ?_);rfl) | ((with_reducible refine br_f ?_ ?_);rfl) | ((with_reducible refine br_t ?_ ?_);assumption) | ((with_reducible refine br_f ?_ ?_);assumption) | ((with_reducible first|apply St.wrL|apply St.wr);assumption;(first|exact i0|exact i1|exact i2|exact i3|exact i4|exact i5|exact i6|exact i7|exact i8|exact i9|exact i10|exact i11|exact i12|exact i13|exact i14|exact i15);(first|exact Nat.le_of_ble_eq_true rfl|rfl);intro g_ S_;simp only [Ptr.add, List.set, splice, List.take, List.drop, List.nil_append, List.append_nil, List.cons_append, List.length_cons, List.length_nil, Nat.zero_add, Nat.add_zero, Nat.reduceAdd, Nat.reduceMul, Nat.mul_one, Int.toNat_zero, Int.toNat_one, Int.reduceToNat] at S_) | ((with_reducible refine ix_of ?_ ?_ ?_);exact of_decide_eq_true rfl;exact of_decide_eq_true rfl) | ((with_reducible first|refine nz_of ?_ ?_|refine nneg_of ?_ ?_);exact of_decide_eq_true rfl) | ((with_reducible refine chk_of ?_ ?_);rfl) | (with_reducible first|apply asI_of|apply asB_of|apply asP_of|apply asSl_of|apply asAggV_of|apply asTupV_of|apply asCons_of|apply asNil_of|apply isNil_n|apply isNil_i|apply nilC_i) | ((with_reducible refine And.intro ?_ ?_);rfl) | ((with_reducible apply exAnd);rfl))
  unfold backend_Block_Kick.j4
  intro I HI
  exact key I HI j0 t0 ws0 h hj rfl (Nat.le_refl _) Wl0

end
end Go.Back

/- A request that the disk has done is given back, while others wait. -/
namespace Go.Back
open Go.Lift Go.Fn Go.Mem Go.Frames

section
variable {U U' : Ifc} {x : Nat → Int} {h0 h : Heap}

theorem done1 (hu : GU U U') (w : Wid U' h0 x) (hk8 : knownB x 8 = true) {p : Ad} (ok : p.Ok) {X : List (Nat × HO)} {m : Nat → Int} {t g0 : Nat} {q : Wt} {ws ps : List Wt} (ht0 : t ≤ 900) (hws : ws.length < 8)
    (Wl : Wld p h0 X m t g0 (q :: ws) ps h) {Q : Bool → Int → Heap → Prop}
    (hq : ∀ m' h', (∀ j, j < 41 → m' j = m j) → (∀ j, 60 ≤ j → j < 512 → j ≠ 137 → m' j = m j) → Wld p h0 X m' t (g0 + 1) ws ps h' → Q true 0 h') {a3 : Int} (ea : a3 = (p.req q).id) :
    backend_Block_Done U (some ⟨p.blk, 0⟩) (.iface 4 (.ptr (some ⟨p.gb, 0⟩))) a3 Q h := by
  subst ea
  have hw0 : ¬ none_ (U'.glob 1) := fun f => f
  obtain ⟨F, bs, mk, bt, ct, bw, cw, eb, ec, y, d, M, a3, fr, eq, hn, hp, row, hgt, B⟩ := Wl
  obtain ⟨n, cb, c, rest, mk'⟩ := q
  obtain ⟨es, hes⟩ : ∃ es, es = ws.map p.ent := ⟨_, rfl⟩
  obtain ⟨R, hR⟩ : ∃ R, R = X ++ ws.map p.cl := ⟨_, rfl⟩
  obtain ⟨fb, tm, wm, blk, rg, db, wq, gb, pm, bm, base, first, owner, page, block, kind⟩ := p
  obtain ⟨hb, hb4, hf, hown, hpg, hbl, hkd⟩ := ok
  obtain ⟨fn, ff, ft, fw⟩ := fr
  simp only [List.length_cons] at hgt
  have eC : Ad.L (⟨fb, tm, wm, blk, rg, db, wq, gb, pm, bm, base, first, owner, page, block, kind⟩ : Ad) F bt ct bw cw (t : Int) ((⟨n, cb, c, rest, mk'⟩ :: ws).map (⟨fb, tm, wm, blk, rg, db, wq, gb, pm, bm, base, first, owner, page, block, kind⟩ : Ad).ent) eb ec t g0 bs mk ++ (X ++ (⟨n, cb, c, rest, mk'⟩ :: ws).map (⟨fb, tm, wm, blk, rg, db, wq, gb, pm, bm, base, first, owner, page, block, kind⟩ : Ad).cl) = ([(fb, .cells (FS.cells (F) tm wm) false), (tm, .map (.int .i64) (ikeys .i64 (F : FS).t) bt ct), (wm, .map (.int .i64) (ikeys .i64 (F : FS).w) bw cw), (blk, .cells (blkC rg db fb wq first 4 (owner : Int) (t : Int)) false), (wq, .map (.int .i64) (ikeys .i64 (((owner : Int) * 4294967296 + (n : Int), .agg [.int .i64 0, .sl ⟨some ⟨cb, 0⟩, 3, c⟩, .int .i64 ((base : Int) + page), .bool (!(kind == 1))]) :: es)) eb ec), (rg, .cells (ringC ((t : Nat) : Int) ((g0 : Nat) : Int) false) false), (gb, .cells (flatC pm (base : Int)) false), (pm, .cells (memC bm) false), (bm, .cells (strCells bs) mk)] ++ X) ++ (cb, .cells (partsC 1024 16 (256 * page) 256 (kind == 0) 1100 1 ++ rest) mk') :: ws.map (⟨fb, tm, wm, blk, rg, db, wq, gb, pm, bm, base, first, owner, page, block, kind⟩ : Ad).cl := by
    rw [hes]; simp only [List.map_cons, List.append_assoc]; rfl
  rw [eC] at B
  have B := B.perm (List.perm_middle.trans (List.Perm.cons _ (by rw [List.append_assoc, ← hR])))
  clear eC
  simp only [Ad.fr, List.map_cons, ← hes, List.length_cons, List.cons_append, List.nil_append] at M fn ff ft fw eq B hb hb4 hf hown hpg hbl hkd ⊢
  have e1 : (⟨fb, tm, wm, blk, rg, db, wq, gb, pm, bm, base, first, owner, page, block, kind⟩ : Ad).req ⟨n, cb, c, rest, mk'⟩ = (⟨(owner : Int) * 4294967296 + (n : Int), kind == 1, first + block, (base : Int) + page⟩ : Disk.Req) := rfl
  rw [e1]
  unfold backend_Block_Done backend_Block_none
  have S_ := B.st.base
  repeat (first | ((with_reducible first|apply St.rI|apply St.rB|apply St.rP|apply St.rSl|apply St.rV|apply St.rM|apply St.rS|apply St.rN|apply St.ckA);assumption;(first|exact i0|exact i1|exact i2|exact i3|exact i4|exact i5|exact i6|exact i7|exact i8|exact i9|exact i10|exact i11|exact i12|exact i13|exact i14|exact i15);(first|rfl|exact Nat.le_of_ble_eq_true rfl)) | with_reducible refine der_of ?_ | ((with_reducible refine br_t ?_ ?_);rfl) | ((with_reducible refine br_f ?_ ?_);rfl) | ((with_reducible refine br_t ?_ ?_);assumption) | ((with_reducible refine br_f ?_ ?_);assumption) | ((with_reducible first|apply St.wrL|apply St.wr);assumption;(first|exact i0|exact i1|exact i2|exact i3|exact i4|exact i5|exact i6|exact i7|exact i8|exact i9|exact i10|exact i11|exact i12|exact i13|exact i14|exact i15);(first|exact Nat.le_of_ble_eq_true rfl|rfl);intro g_ S_;simp only [Ptr.add, List.set, splice, List.take, List.drop, List.nil_append, List.append_nil, List.cons_append, List.length_cons, List.length_nil, Nat.zero_add, Nat.add_zero, Nat.reduceAdd, Nat.reduceMul, Nat.mul_one, Int.toNat_zero, Int.toNat_one, Int.reduceToNat] at S_) | ((with_reducible refine ix_of ?_ ?_ ?_);exact of_decide_eq_true rfl;exact of_decide_eq_true rfl) | ((with_reducible first|refine nz_of ?_ ?_|refine nneg_of ?_ ?_);exact of_decide_eq_true rfl) | ((with_reducible refine chk_of ?_ ?_);rfl) | (with_reducible first|apply asI_of|apply asB_of|apply asP_of|apply asSl_of|apply asAggV_of|apply asTupV_of|apply asCons_of|apply asNil_of|apply isNil_n|apply isNil_i|apply nilC_i) | ((with_reducible refine And.intro ?_ ?_);rfl) | ((with_reducible apply exAnd);rfl))
  have M0 : MapAt h wq .i64 (((owner : Int) * 4294967296 + (n : Int), .agg [.int .i64 0, .sl ⟨some ⟨cb, 0⟩, 3, c⟩, .int .i64 ((base : Int) + page), .bool (!(kind == 1))]) :: es) := ⟨eb, ec, S_.obj (i := 5) rfl, eq⟩
  refine mapGet_of M0 ?_
  rw [show ifind ((owner : Int) * 4294967296 + (n : Int)) (((owner : Int) * 4294967296 + (n : Int), .agg [.int .i64 0, .sl ⟨some ⟨cb, 0⟩, 3, c⟩, .int .i64 ((base : Int) + page), .bool (!(kind == 1))]) :: es) = some _ from if_pos rfl]
  simp only [Option.getD_some]
  repeat (first | ((with_reducible first|apply St.rI|apply St.rB|apply St.rP|apply St.rSl|apply St.rV|apply St.rM|apply St.rS|apply St.rN|apply St.ckA);assumption;(first|exact i0|exact i1|exact i2|exact i3|exact i4|exact i5|exact i6|exact i7|exact i8|exact i9|exact i10|exact i11|exact i12|exact i13|exact i14|exact i15);(first|rfl|exact Nat.le_of_ble_eq_true rfl)) | with_reducible refine der_of ?_ | ((with_reducible refine br_t ?_ ?_);rfl) | ((with_reducible refine br_f ?_ ?_);rfl) | ((with_reducible refine br_t ?_ ?_);assumption) | ((with_reducible refine br_f ?_ ?_);assumption) | ((with_reducible first|apply St.wrL|apply St.wr);assumption;(first|exact i0|exact i1|exact i2|exact i3|exact i4|exact i5|exact i6|exact i7|exact i8|exact i9|exact i10|exact i11|exact i12|exact i13|exact i14|exact i15);(first|exact Nat.le_of_ble_eq_true rfl|rfl);intro g_ S_;simp only [Ptr.add, List.set, splice, List.take, List.drop, List.nil_append, List.append_nil, List.cons_append, List.length_cons, List.length_nil, Nat.zero_add, Nat.add_zero, Nat.reduceAdd, Nat.reduceMul, Nat.mul_one, Int.toNat_zero, Int.toNat_one, Int.reduceToNat] at S_) | ((with_reducible refine ix_of ?_ ?_ ?_);exact of_decide_eq_true rfl;exact of_decide_eq_true rfl) | ((with_reducible first|refine nz_of ?_ ?_|refine nneg_of ?_ ?_);exact of_decide_eq_true rfl) | ((with_reducible refine chk_of ?_ ?_);rfl) | (with_reducible first|apply asI_of|apply asB_of|apply asP_of|apply asSl_of|apply asAggV_of|apply asTupV_of|apply asCons_of|apply asNil_of|apply isNil_n|apply isNil_i|apply nilC_i) | ((with_reducible refine And.intro ?_ ?_);rfl) | ((with_reducible apply exAnd);rfl))
  ((with_reducible apply St.al); assumption; intro k1 g_ S_)
  repeat (first | ((with_reducible first|apply St.rI|apply St.rB|apply St.rP|apply St.rSl|apply St.rV|apply St.rM|apply St.rS|apply St.rN|apply St.ckA);assumption;(first|exact i0|exact i1|exact i2|exact i3|exact i4|exact i5|exact i6|exact i7|exact i8|exact i9|exact i10|exact i11|exact i12|exact i13|exact i14|exact i15);(first|rfl|exact Nat.le_of_ble_eq_true rfl)) | with_reducible refine der_of ?_ | ((with_reducible refine br_t ?_ ?_);rfl) | ((with_reducible refine br_f ?_ ?_);rfl) | ((with_reducible refine br_t ?_ ?_);assumption) | ((with_reducible refine br_f ?_ ?_);assumption) | ((with_reducible first|apply St.wrL|apply St.wr);assumption;(first|exact i0|exact i1|exact i2|exact i3|exact i4|exact i5|exact i6|exact i7|exact i8|exact i9|exact i10|exact i11|exact i12|exact i13|exact i14|exact i15);(first|exact Nat.le_of_ble_eq_true rfl|rfl);intro g_ S_;simp only [Ptr.add, List.set, splice, List.take, List.drop, List.nil_append, List.append_nil, List.cons_append, List.length_cons, List.length_nil, Nat.zero_add, Nat.add_zero, Nat.reduceAdd, Nat.reduceMul, Nat.mul_one, Int.toNat_zero, Int.toNat_one, Int.reduceToNat] at S_) | ((with_reducible refine ix_of ?_ ?_ ?_);exact of_decide_eq_true rfl;exact of_decide_eq_true rfl) | ((with_reducible first|refine nz_of ?_ ?_|refine nneg_of ?_ ?_);exact of_decide_eq_true rfl) | ((with_reducible refine chk_of ?_ ?_);rfl) | (with_reducible first|apply asI_of|apply asB_of|apply asP_of|apply asSl_of|apply asAggV_of|apply asTupV_of|apply asCons_of|apply asNil_of|apply isNil_n|apply isNil_i|apply nilC_i) | ((with_reducible refine And.intro ?_ ?_);rfl) | ((with_reducible apply exAnd);rfl))
  have M1 : MapAt g_ wq .i64 (((owner : Int) * 4294967296 + (n : Int), .agg [.int .i64 0, .sl ⟨some ⟨cb, 0⟩, 3, c⟩, .int .i64 ((base : Int) + page), .bool (!(kind == 1))]) :: es) := ⟨eb, ec, S_.obj (i := 6) rfl, eq⟩
  refine mapDel_of M1 (fun g1 M2 k2 => ?_)
  rw [show idel ((owner : Int) * 4294967296 + (n : Int)) (((owner : Int) * 4294967296 + (n : Int), .agg [.int .i64 0, .sl ⟨some ⟨cb, 0⟩, 3, c⟩, .int .i64 ((base : Int) + page), .bool (!(kind == 1))]) :: es) = es from if_pos rfl] at M2
  obtain ⟨eb', ec', ho2, eq2⟩ := M2
  have S1 := S_.put (i := 6) rfl ho2 k2
  simp only [List.set] at S1
  clear S_ M0 M1
  unfold backend_Block_Done.j7
  repeat (first | ((with_reducible first|apply St.rI|apply St.rB|apply St.rP|apply St.rSl|apply St.rV|apply St.rM|apply St.rS|apply St.rN|apply St.ckA);assumption;(first|exact i0|exact i1|exact i2|exact i3|exact i4|exact i5|exact i6|exact i7|exact i8|exact i9|exact i10|exact i11|exact i12|exact i13|exact i14|exact i15);(first|rfl|exact Nat.le_of_ble_eq_true rfl)) | with_reducible refine der_of ?_ | ((with_reducible refine br_t ?_ ?_);rfl) | ((with_reducible refine br_f ?_ ?_);rfl) | ((with_reducible refine br_t ?_ ?_);assumption) | ((with_reducible refine br_f ?_ ?_);assumption) | ((with_reducible first|apply St.wrL|apply St.wr);assumption;(first|exact i0|exact i1|exact i2|exact i3|exact i4|exact i5|exact i6|exact i7|exact i8|exact i9|exact i10|exact i11|exact i12|exact i13|exact i14|exact i15);(first|exact Nat.le_of_ble_eq_true rfl|rfl);intro g_ S_;simp only [Ptr.add, List.set, splice, List.take, List.drop, List.nil_append, List.append_nil, List.cons_append, List.length_cons, List.length_nil, Nat.zero_add, Nat.add_zero, Nat.reduceAdd, Nat.reduceMul, Nat.mul_one, Int.toNat_zero, Int.toNat_one, Int.reduceToNat] at S_) | ((with_reducible refine ix_of ?_ ?_ ?_);exact of_decide_eq_true rfl;exact of_decide_eq_true rfl) | ((with_reducible first|refine nz_of ?_ ?_|refine nneg_of ?_ ?_);exact of_decide_eq_true rfl) | ((with_reducible refine chk_of ?_ ?_);rfl) | (with_reducible first|apply asI_of|apply asB_of|apply asP_of|apply asSl_of|apply asAggV_of|apply asTupV_of|apply asCons_of|apply asNil_of|apply isNil_n|apply isNil_i|apply nilC_i) | ((with_reducible refine And.intro ?_ ?_);rfl) | ((with_reducible apply exAnd);rfl))
  have SQ : St h _ (A3 fb tm wm F bt ct bw cw ++ ([(k1, .cells [.int .i64 0, .sl ⟨some ⟨cb, 0⟩, 3, c⟩, .int .i64 ((base : Int) + page), .bool (!(kind == 1))] false), (cb, .cells (partsC 1024 16 (256 * page) 256 (kind == 0) 1100 1 ++ rest) mk'), (blk, .cells (blkC rg db fb wq first 4 (owner : Int) (t : Int)) false), (wq, .map (.int .i64) (ikeys .i64 es) eb' ec'), (rg, .cells (ringC ((t : Nat) : Int) ((g0 : Nat) : Int) false) false), (gb, .cells (flatC pm (base : Int)) false), (pm, .cells (memC bm) false), (bm, .cells (strCells bs) mk)] ++ R)) g1 := St.pickR (A := [(k1, .cells [.int .i64 0, .sl ⟨some ⟨cb, 0⟩, 3, c⟩, .int .i64 ((base : Int) + page), .bool (!(kind == 1))] false), (cb, .cells (partsC 1024 16 (256 * page) 256 (kind == 0) 1100 1 ++ rest) mk'), (fb, .cells (FS.cells (F) tm wm) false), (tm, .map (.int .i64) (ikeys .i64 (F : FS).t) bt ct), (wm, .map (.int .i64) (ikeys .i64 (F : FS).w) bw cw), (blk, .cells (blkC rg db fb wq first 4 (owner : Int) (t : Int)) false), (wq, .map (.int .i64) (ikeys .i64 es) eb' ec'), (rg, .cells (ringC ((t : Nat) : Int) ((g0 : Nat) : Int) false) false), (gb, .cells (flatC pm (base : Int)) false), (pm, .cells (memC bm) false), (bm, .cells (strCells bs) mk)]) (A' := [(fb, .cells (FS.cells (F) tm wm) false), (tm, .map (.int .i64) (ikeys .i64 (F : FS).t) bt ct), (wm, .map (.int .i64) (ikeys .i64 (F : FS).w) bw cw), (k1, .cells [.int .i64 0, .sl ⟨some ⟨cb, 0⟩, 3, c⟩, .int .i64 ((base : Int) + page), .bool (!(kind == 1))] false), (cb, .cells (partsC 1024 16 (256 * page) 256 (kind == 0) 1100 1 ++ rest) mk'), (blk, .cells (blkC rg db fb wq first 4 (owner : Int) (t : Int)) false), (wq, .map (.int .i64) (ikeys .i64 es) eb' ec'), (rg, .cells (ringC ((t : Nat) : Int) ((g0 : Nat) : Int) false) false), (gb, .cells (flatC pm (base : Int)) false), (pm, .cells (memC bm) false), (bm, .cells (strCells bs) mk)]) S1 [2, 3, 4, 0, 1, 5, 6, 7, 8, 9, 10] (by decide) rfl
  clear S1
  refine Free_more (rep_at (i := 0) (j := 1) (k := 2) SQ a3 rfl rfl rfl (by decide)) (by omega) (by rw [fn]; omega) (by rw [ff]; omega) ft (by omega) fw (fun g2 R2 k3 => ?_)
  obtain ⟨bt', ct', bw', cw', S2, ok'⟩ := three_st SQ R2 k3
  simp only [A3, List.cons_append, List.nil_append] at S2
  clear SQ R2
  repeat (first | ((with_reducible first|apply St.rI|apply St.rB|apply St.rP|apply St.rSl|apply St.rV|apply St.rM|apply St.rS|apply St.rN|apply St.ckA);assumption;(first|exact i0|exact i1|exact i2|exact i3|exact i4|exact i5|exact i6|exact i7|exact i8|exact i9|exact i10|exact i11|exact i12|exact i13|exact i14|exact i15);(first|rfl|exact Nat.le_of_ble_eq_true rfl)) | with_reducible refine der_of ?_ | ((with_reducible refine br_t ?_ ?_);rfl) | ((with_reducible refine br_f ?_ ?_);rfl) | ((with_reducible refine br_t ?_ ?_);assumption) | ((with_reducible refine br_f ?_ ?_);assumption) | ((with_reducible first|apply St.wrL|apply St.wr);assumption;(first|exact i0|exact i1|exact i2|exact i3|exact i4|exact i5|exact i6|exact i7|exact i8|exact i9|exact i10|exact i11|exact i12|exact i13|exact i14|exact i15);(first|exact Nat.le_of_ble_eq_true rfl|rfl);intro g_ S_;simp only [Ptr.add, List.set, splice, List.take, List.drop, List.nil_append, List.append_nil, List.cons_append, List.length_cons, List.length_nil, Nat.zero_add, Nat.add_zero, Nat.reduceAdd, Nat.reduceMul, Nat.mul_one, Int.toNat_zero, Int.toNat_one, Int.reduceToNat] at S_) | ((with_reducible refine ix_of ?_ ?_ ?_);exact of_decide_eq_true rfl;exact of_decide_eq_true rfl) | ((with_reducible first|refine nz_of ?_ ?_|refine nneg_of ?_ ?_);exact of_decide_eq_true rfl) | ((with_reducible refine chk_of ?_ ?_);rfl) | (with_reducible first|apply asI_of|apply asB_of|apply asP_of|apply asSl_of|apply asAggV_of|apply asTupV_of|apply asCons_of|apply asNil_of|apply isNil_n|apply isNil_i|apply nilC_i) | ((with_reducible refine And.intro ?_ ?_);rfl) | ((with_reducible apply exAnd);rfl))
  have SA : St h _ ([(cb, .cells (partsC 1024 16 (256 * page) 256 (kind == 0) 1100 1 ++ rest) mk'), (gb, .cells (flatC pm (base : Int)) false), (pm, .cells (memC bm) false), (bm, .cells (strCells bs) mk)] ++ ([(k1, .cells [.int .i64 0, .sl ⟨some ⟨cb, 0⟩, 3, c⟩, .int .i64 ((base : Int) + page), .bool (!(kind == 1))] false), (fb, .cells (FS.cells ({ F with t := iput ((base : Int) + page) (.int .i64 (((1 + (ws.length + 1) : Nat) : Int) - 1)) F.t }) tm wm) false), (tm, .map (.int .i64) (ikeys .i64 ({ F with t := iput ((base : Int) + page) (.int .i64 (((1 + (ws.length + 1) : Nat) : Int) - 1)) F.t } : FS).t) bt' ct'), (wm, .map (.int .i64) (ikeys .i64 ({ F with t := iput ((base : Int) + page) (.int .i64 (((1 + (ws.length + 1) : Nat) : Int) - 1)) F.t } : FS).w) bw' cw'), (blk, .cells (blkC rg db fb wq first 4 (owner : Int) (t : Int)) false), (wq, .map (.int .i64) (ikeys .i64 es) eb' ec'), (rg, .cells (ringC ((t : Nat) : Int) ((g0 : Nat) : Int) false) false)] ++ R)) g2 := St.pickR (A := [(fb, .cells (FS.cells ({ F with t := iput ((base : Int) + page) (.int .i64 (((1 + (ws.length + 1) : Nat) : Int) - 1)) F.t }) tm wm) false), (tm, .map (.int .i64) (ikeys .i64 ({ F with t := iput ((base : Int) + page) (.int .i64 (((1 + (ws.length + 1) : Nat) : Int) - 1)) F.t } : FS).t) bt' ct'), (wm, .map (.int .i64) (ikeys .i64 ({ F with t := iput ((base : Int) + page) (.int .i64 (((1 + (ws.length + 1) : Nat) : Int) - 1)) F.t } : FS).w) bw' cw'), (k1, .cells [.int .i64 0, .sl ⟨some ⟨cb, 0⟩, 3, c⟩, .int .i64 ((base : Int) + page), .bool (!(kind == 1))] false), (cb, .cells (partsC 1024 16 (256 * page) 256 (kind == 0) 1100 1 ++ rest) mk'), (blk, .cells (blkC rg db fb wq first 4 (owner : Int) (t : Int)) false), (wq, .map (.int .i64) (ikeys .i64 es) eb' ec'), (rg, .cells (ringC ((t : Nat) : Int) ((g0 : Nat) : Int) false) false), (gb, .cells (flatC pm (base : Int)) false), (pm, .cells (memC bm) false), (bm, .cells (strCells bs) mk)]) (A' := [(cb, .cells (partsC 1024 16 (256 * page) 256 (kind == 0) 1100 1 ++ rest) mk'), (gb, .cells (flatC pm (base : Int)) false), (pm, .cells (memC bm) false), (bm, .cells (strCells bs) mk), (k1, .cells [.int .i64 0, .sl ⟨some ⟨cb, 0⟩, 3, c⟩, .int .i64 ((base : Int) + page), .bool (!(kind == 1))] false), (fb, .cells (FS.cells ({ F with t := iput ((base : Int) + page) (.int .i64 (((1 + (ws.length + 1) : Nat) : Int) - 1)) F.t }) tm wm) false), (tm, .map (.int .i64) (ikeys .i64 ({ F with t := iput ((base : Int) + page) (.int .i64 (((1 + (ws.length + 1) : Nat) : Int) - 1)) F.t } : FS).t) bt' ct'), (wm, .map (.int .i64) (ikeys .i64 ({ F with t := iput ((base : Int) + page) (.int .i64 (((1 + (ws.length + 1) : Nat) : Int) - 1)) F.t } : FS).w) bw' cw'), (blk, .cells (blkC rg db fb wq first 4 (owner : Int) (t : Int)) false), (wq, .map (.int .i64) (ikeys .i64 es) eb' ec'), (rg, .cells (ringC ((t : Nat) : Int) ((g0 : Nat) : Int) false) false)]) S2 [4, 8, 9, 10, 3, 0, 1, 2, 5, 6, 7] (by decide) rfl
  clear S2
  refine tell_of hu M hb (by decide) SA.head (fun bs1 m1 mk1 g3 N1 hm1 S3 => ?_)
  have S4 := St.frame S3 SA
  simp only [List.cons_append, List.nil_append] at S4
  clear S3 SA
  repeat (first | ((with_reducible first|apply St.rI|apply St.rB|apply St.rP|apply St.rSl|apply St.rV|apply St.rM|apply St.rS|apply St.rN|apply St.ckA);assumption;(first|exact i0|exact i1|exact i2|exact i3|exact i4|exact i5|exact i6|exact i7|exact i8|exact i9|exact i10|exact i11|exact i12|exact i13|exact i14|exact i15);(first|rfl|exact Nat.le_of_ble_eq_true rfl)) | with_reducible refine der_of ?_ | ((with_reducible refine br_t ?_ ?_);rfl) | ((with_reducible refine br_f ?_ ?_);rfl) | ((with_reducible refine br_t ?_ ?_);assumption) | ((with_reducible refine br_f ?_ ?_);assumption) | ((with_reducible first|apply St.wrL|apply St.wr);assumption;(first|exact i0|exact i1|exact i2|exact i3|exact i4|exact i5|exact i6|exact i7|exact i8|exact i9|exact i10|exact i11|exact i12|exact i13|exact i14|exact i15);(first|exact Nat.le_of_ble_eq_true rfl|rfl);intro g_ S_;simp only [Ptr.add, List.set, splice, List.take, List.drop, List.nil_append, List.append_nil, List.cons_append, List.length_cons, List.length_nil, Nat.zero_add, Nat.add_zero, Nat.reduceAdd, Nat.reduceMul, Nat.mul_one, Int.toNat_zero, Int.toNat_one, Int.reduceToNat] at S_) | ((with_reducible refine ix_of ?_ ?_ ?_);exact of_decide_eq_true rfl;exact of_decide_eq_true rfl) | ((with_reducible first|refine nz_of ?_ ?_|refine nneg_of ?_ ?_);exact of_decide_eq_true rfl) | ((with_reducible refine chk_of ?_ ?_);rfl) | (with_reducible first|apply asI_of|apply asB_of|apply asP_of|apply asSl_of|apply asAggV_of|apply asTupV_of|apply asCons_of|apply asNil_of|apply isNil_n|apply isNil_i|apply nilC_i) | ((with_reducible refine And.intro ?_ ?_);rfl) | ((with_reducible apply exAnd);rfl))
  have fin : ∀ nn : Int, 0 ≤ nn ∧ nn ≤ 1000000 → ring_Ring_Push U (some ⟨rg, 0⟩) (.iface 4 (.ptr (some ⟨gb, 0⟩))) 0 nn (fun r19 h => Q true r19 h) g3 := by
    intro nn hnn
    have SP : St h _ ([(rg, .cells (ringC ((t : Nat) : Int) ((g0 : Nat) : Int) false) false), (gb, .cells (flatC pm (base : Int)) false), (pm, .cells (memC bm) false), (bm, .cells (strCells bs1) mk1)] ++ ([(cb, .cells (partsC 1024 16 (256 * page) 256 (kind == 0) 1100 1 ++ rest) mk'), (k1, .cells [.int .i64 0, .sl ⟨some ⟨cb, 0⟩, 3, c⟩, .int .i64 ((base : Int) + page), .bool (!(kind == 1))] false), (fb, .cells (FS.cells ({ F with t := iput ((base : Int) + page) (.int .i64 (((1 + (ws.length + 1) : Nat) : Int) - 1)) F.t }) tm wm) false), (tm, .map (.int .i64) (ikeys .i64 ({ F with t := iput ((base : Int) + page) (.int .i64 (((1 + (ws.length + 1) : Nat) : Int) - 1)) F.t } : FS).t) bt' ct'), (wm, .map (.int .i64) (ikeys .i64 ({ F with t := iput ((base : Int) + page) (.int .i64 (((1 + (ws.length + 1) : Nat) : Int) - 1)) F.t } : FS).w) bw' cw'), (blk, .cells (blkC rg db fb wq first 4 (owner : Int) (t : Int)) false), (wq, .map (.int .i64) (ikeys .i64 es) eb' ec')] ++ R)) g3 := St.pickR (A := [(cb, .cells (partsC 1024 16 (256 * page) 256 (kind == 0) 1100 1 ++ rest) mk'), (gb, .cells (flatC pm (base : Int)) false), (pm, .cells (memC bm) false), (bm, .cells (strCells bs1) mk1), (k1, .cells [.int .i64 0, .sl ⟨some ⟨cb, 0⟩, 3, c⟩, .int .i64 ((base : Int) + page), .bool (!(kind == 1))] false), (fb, .cells (FS.cells ({ F with t := iput ((base : Int) + page) (.int .i64 (((1 + (ws.length + 1) : Nat) : Int) - 1)) F.t }) tm wm) false), (tm, .map (.int .i64) (ikeys .i64 ({ F with t := iput ((base : Int) + page) (.int .i64 (((1 + (ws.length + 1) : Nat) : Int) - 1)) F.t } : FS).t) bt' ct'), (wm, .map (.int .i64) (ikeys .i64 ({ F with t := iput ((base : Int) + page) (.int .i64 (((1 + (ws.length + 1) : Nat) : Int) - 1)) F.t } : FS).w) bw' cw'), (blk, .cells (blkC rg db fb wq first 4 (owner : Int) (t : Int)) false), (wq, .map (.int .i64) (ikeys .i64 es) eb' ec'), (rg, .cells (ringC ((t : Nat) : Int) ((g0 : Nat) : Int) false) false)]) (A' := [(rg, .cells (ringC ((t : Nat) : Int) ((g0 : Nat) : Int) false) false), (gb, .cells (flatC pm (base : Int)) false), (pm, .cells (memC bm) false), (bm, .cells (strCells bs1) mk1), (cb, .cells (partsC 1024 16 (256 * page) 256 (kind == 0) 1100 1 ++ rest) mk'), (k1, .cells [.int .i64 0, .sl ⟨some ⟨cb, 0⟩, 3, c⟩, .int .i64 ((base : Int) + page), .bool (!(kind == 1))] false), (fb, .cells (FS.cells ({ F with t := iput ((base : Int) + page) (.int .i64 (((1 + (ws.length + 1) : Nat) : Int) - 1)) F.t }) tm wm) false), (tm, .map (.int .i64) (ikeys .i64 ({ F with t := iput ((base : Int) + page) (.int .i64 (((1 + (ws.length + 1) : Nat) : Int) - 1)) F.t } : FS).t) bt' ct'), (wm, .map (.int .i64) (ikeys .i64 ({ F with t := iput ((base : Int) + page) (.int .i64 (((1 + (ws.length + 1) : Nat) : Int) - 1)) F.t } : FS).w) bw' cw'), (blk, .cells (blkC rg db fb wq first 4 (owner : Int) (t : Int)) false), (wq, .map (.int .i64) (ikeys .i64 es) eb' ec')]) S4 [10, 1, 2, 3, 0, 4, 5, 6, 7, 8, 9] (by decide) rfl
    have wh : Wid U' h x := w.keeps B.st.keeps hw0
    refine push hu (wh.keeps SP.keeps (B.off w.known)) (SP.notA wh.known (B.off w.known)) hk8 N1 hb (by omega) (by omega) hnn SP.head (fun bs2 mk2 g4 N2 S5 => ?_)
    have S6 := St.frame S5 SP
    simp only [List.cons_append, List.nil_append] at S6
    clear S5 SP
    refine hq _ g4 (fun j hj => ?_) (fun j hj hj2 hne => ?_) ⟨{ F with t := iput ((base : Int) + page) (.int .i64 (((1 + (ws.length + 1) : Nat) : Int) - 1)) F.t }, bs2, mk2, bt', ct', bw', cw', eb', ec', y, d, N2, ok', ⟨fn, ff, ?_, fw⟩, ?_, hn, hp, ?_, ?_, ?_⟩
    · unfold upd
      rw [if_neg (by omega), if_neg (by omega), if_neg (by omega)]
      exact hm1 j (by omega) (by omega)
    · unfold upd
      rw [if_neg (by omega), if_neg (by omega), if_neg (by omega)]
      exact hm1 j hj2 hne
    · show ifind _ (iput _ _ _) = _
      rw [ifind_iput]
      refine (if_pos rfl).trans ?_
      have : ((1 + (ws.length + 1) : Nat) : Int) - 1 = ((1 + ws.length : Nat) : Int) := by omega
      rw [this]
    · rw [← hes]; exact eq2
    · have := row.2; rw [← row.1]; exact row.1 ▸ this
    · omega
    · have e : ([(fb, .cells (FS.cells ({ F with t := iput ((base : Int) + page) (.int .i64 (((1 + (ws.length + 1) : Nat) : Int) - 1)) F.t }) tm wm) false), (tm, .map (.int .i64) (ikeys .i64 ({ F with t := iput ((base : Int) + page) (.int .i64 (((1 + (ws.length + 1) : Nat) : Int) - 1)) F.t } : FS).t) bt' ct'), (wm, .map (.int .i64) (ikeys .i64 ({ F with t := iput ((base : Int) + page) (.int .i64 (((1 + (ws.length + 1) : Nat) : Int) - 1)) F.t } : FS).w) bw' cw'), (blk, .cells (blkC rg db fb wq first 4 (owner : Int) (t : Int)) false), (wq, .map (.int .i64) (ikeys .i64 es) eb' ec'), (rg, .cells (ringC ((t : Nat) : Int) ((g0 + 1 : Nat) : Int) false) false), (gb, .cells (flatC pm (base : Int)) false), (pm, .cells (memC bm) false), (bm, .cells (strCells bs2) mk2)] ++ R) = Ad.L (⟨fb, tm, wm, blk, rg, db, wq, gb, pm, bm, base, first, owner, page, block, kind⟩ : Ad) { F with t := iput ((base : Int) + page) (.int .i64 (((1 + (ws.length + 1) : Nat) : Int) - 1)) F.t } bt' ct' bw' cw' (t : Int) (ws.map (⟨fb, tm, wm, blk, rg, db, wq, gb, pm, bm, base, first, owner, page, block, kind⟩ : Ad).ent) eb' ec' t (g0 + 1) bs2 mk2 ++ (X ++ ws.map (⟨fb, tm, wm, blk, rg, db, wq, gb, pm, bm, base, first, owner, page, block, kind⟩ : Ad).cl) := by
        rw [hR, hes]; rfl
      rw [← e]
      exact (B.step S6).pickR (A := [(rg, .cells (ringC ((t : Nat) : Int) ((g0 + 1 : Nat) : Int) false) false), (gb, .cells (flatC pm (base : Int)) false), (pm, .cells (memC bm) false), (bm, .cells (strCells bs2) mk2), (cb, .cells (partsC 1024 16 (256 * page) 256 (kind == 0) 1100 1 ++ rest) mk'), (k1, .cells [.int .i64 0, .sl ⟨some ⟨cb, 0⟩, 3, c⟩, .int .i64 ((base : Int) + page), .bool (!(kind == 1))] false), (fb, .cells (FS.cells ({ F with t := iput ((base : Int) + page) (.int .i64 (((1 + (ws.length + 1) : Nat) : Int) - 1)) F.t }) tm wm) false), (tm, .map (.int .i64) (ikeys .i64 ({ F with t := iput ((base : Int) + page) (.int .i64 (((1 + (ws.length + 1) : Nat) : Int) - 1)) F.t } : FS).t) bt' ct'), (wm, .map (.int .i64) (ikeys .i64 ({ F with t := iput ((base : Int) + page) (.int .i64 (((1 + (ws.length + 1) : Nat) : Int) - 1)) F.t } : FS).w) bw' cw'), (blk, .cells (blkC rg db fb wq first 4 (owner : Int) (t : Int)) false), (wq, .map (.int .i64) (ikeys .i64 es) eb' ec')]) [6, 7, 8, 9, 10, 0, 1, 2, 3] (by decide) rfl
  rcases hkd with rfl | rfl
  · repeat (first | ((with_reducible first|apply St.rI|apply St.rB|apply St.rP|apply St.rSl|apply St.rV|apply St.rM|apply St.rS|apply St.rN|apply St.ckA);assumption;(first|exact i0|exact i1|exact i2|exact i3|exact i4|exact i5|exact i6|exact i7|exact i8|exact i9|exact i10|exact i11|exact i12|exact i13|exact i14|exact i15);(first|rfl|exact Nat.le_of_ble_eq_true rfl)) | with_reducible refine der_of ?_ | ((with_reducible refine br_t ?_ ?_);rfl) | ((with_reducible refine br_f ?_ ?_);rfl) | ((with_reducible refine br_t ?_ ?_);assumption) | ((with_reducible refine br_f ?_ ?_);assumption) | ((with_reducible first|apply St.wrL|apply St.wr);assumption;(first|exact i0|exact i1|exact i2|exact i3|exact i4|exact i5|exact i6|exact i7|exact i8|exact i9|exact i10|exact i11|exact i12|exact i13|exact i14|exact i15);(first|exact Nat.le_of_ble_eq_true rfl|rfl);intro g_ S_;simp only [Ptr.add, List.set, splice, List.take, List.drop, List.nil_append, List.append_nil, List.cons_append, List.length_cons, List.length_nil, Nat.zero_add, Nat.add_zero, Nat.reduceAdd, Nat.reduceMul, Nat.mul_one, Int.toNat_zero, Int.toNat_one, Int.reduceToNat] at S_) | ((with_reducible refine ix_of ?_ ?_ ?_);exact of_decide_eq_true rfl;exact of_decide_eq_true rfl) | ((with_reducible first|refine nz_of ?_ ?_|refine nneg_of ?_ ?_);exact of_decide_eq_true rfl) | ((with_reducible refine chk_of ?_ ?_);rfl) | (with_reducible first|apply asI_of|apply asB_of|apply asP_of|apply asSl_of|apply asAggV_of|apply asTupV_of|apply asCons_of|apply asNil_of|apply isNil_n|apply isNil_i|apply nilC_i) | ((with_reducible refine And.intro ?_ ?_);rfl) | ((with_reducible apply exAnd);rfl))
    exact fin 257 (by decide)
  · repeat (first | ((with_reducible first|apply St.rI|apply St.rB|apply St.rP|apply St.rSl|apply St.rV|apply St.rM|apply St.rS|apply St.rN|apply St.ckA);assumption;(first|exact i0|exact i1|exact i2|exact i3|exact i4|exact i5|exact i6|exact i7|exact i8|exact i9|exact i10|exact i11|exact i12|exact i13|exact i14|exact i15);(first|rfl|exact Nat.le_of_ble_eq_true rfl)) | with_reducible refine der_of ?_ | ((with_reducible refine br_t ?_ ?_);rfl) | ((with_reducible refine br_f ?_ ?_);rfl) | ((with_reducible refine br_t ?_ ?_);assumption) | ((with_reducible refine br_f ?_ ?_);assumption) | ((with_reducible first|apply St.wrL|apply St.wr);assumption;(first|exact i0|exact i1|exact i2|exact i3|exact i4|exact i5|exact i6|exact i7|exact i8|exact i9|exact i10|exact i11|exact i12|exact i13|exact i14|exact i15);(first|exact Nat.le_of_ble_eq_true rfl|rfl);intro g_ S_;simp only [Ptr.add, List.set, splice, List.take, List.drop, List.nil_append, List.append_nil, List.cons_append, List.length_cons, List.length_nil, Nat.zero_add, Nat.add_zero, Nat.reduceAdd, Nat.reduceMul, Nat.mul_one, Int.toNat_zero, Int.toNat_one, Int.reduceToNat] at S_) | ((with_reducible refine ix_of ?_ ?_ ?_);exact of_decide_eq_true rfl;exact of_decide_eq_true rfl) | ((with_reducible first|refine nz_of ?_ ?_|refine nneg_of ?_ ?_);exact of_decide_eq_true rfl) | ((with_reducible refine chk_of ?_ ?_);rfl) | (with_reducible first|apply asI_of|apply asB_of|apply asP_of|apply asSl_of|apply asAggV_of|apply asTupV_of|apply asCons_of|apply asNil_of|apply isNil_n|apply isNil_i|apply nilC_i) | ((with_reducible refine And.intro ?_ ?_);rfl) | ((with_reducible apply exAnd);rfl))
    exact fin 1 (by decide)

end
end Go.Back

/- What is read from the disk comes into the page; all requests are forgotten. -/
namespace Go.Lift

theorem St.headW {h0 h h' : Heap} {W T : Nat → Prop} {L : List (Nat × HO)} {b : Nat} {x z : HO} (S : St h0 W ((b, x) :: L) h) (hy : h'.obj b = some z) (k : Keeps (fun c => T c ∨ c = b) h h') (hT : ∀ c v, (c, v) ∈ (b, x) :: L → ¬ T c) (hW : ∀ c, T c → h0.obj c ≠ none → W c) : St h0 W ((b, z) :: L) h' := by
  have hnd := S.nodup
  simp only [List.map_cons, List.nodup_cons] at hnd
  refine ⟨by simp only [List.map_cons, List.nodup_cons]; exact hnd, fun c v hc => ?_, fun c v hc => ?_, ⟨fun c hz hn => ?_, fun c hz => k.known c (S.keeps.known c hz)⟩⟩
  · rcases List.mem_cons.1 hc with e | hc1
    · cases e; exact hy
    · refine k.obj (S.objs c v (List.mem_cons_of_mem _ hc1)) (fun hh => ?_)
      rcases hh with h1 | rfl
      · exact hT c v (List.mem_cons_of_mem _ hc1) h1
      · exact hnd.1 (List.mem_map.2 ⟨(c, v), hc1, rfl⟩)
  · rcases List.mem_cons.1 hc with e | hc1
    · cases e; exact S.new _ _ (List.mem_cons_self)
    · exact S.new c v (List.mem_cons_of_mem _ hc1)
  · refine (k.same c (S.keeps.known c hz) (fun hh => ?_)).trans (S.keeps.same c hz hn)
    rcases hh with h1 | rfl
    · exact hn (hW c h1 hz)
    · rcases S.new _ _ (List.mem_cons_self) with h2 | h2
      · exact hz h2
      · exact hn h2

theorem idel_at {a : Int} {v : V} : ∀ (l : List (Int × V)) (i : Nat), IKeys l → l[i]? = some (a, v) → idel a l = l.eraseIdx i
  | [], _, _, h => by simp at h
  | (a', v') :: l, 0, _, h => by
    simp at h
    simp [idel, h.1]
  | (a', v') :: l, i + 1, hn, h => by
    simp only [IKeys, List.map_cons, List.nodup_cons] at hn
    simp only [List.getElem?_cons_succ] at h
    have : a ≠ a' := fun e => hn.1 (List.mem_map.2 ⟨_, List.mem_of_getElem? h, e⟩)
    simp only [idel, List.eraseIdx_cons_succ]
    rw [if_neg this, idel_at l i hn.2 h]

theorem bdel_at {k : IntKind} {a : Int} {v : V} : ∀ (l : List (Int × V)) (bs : List Nat) (i : Nat), IKeys l → bs.length = l.length → l[i]? = some (a, v) → bdel (.int k a) (ikeys k l) bs = bs.eraseIdx i
  | [], _, _, _, _, h => by simp at h
  | _ :: _, [], _, _, h, _ => by simp at h
  | (a', v') :: l, b :: bs, 0, _, _, h => by
    simp at h
    simp [bdel, ikeys, keq, h.1]
  | (a', v') :: l, b :: bs, i + 1, hn, hl, h => by
    simp only [IKeys, List.map_cons, List.nodup_cons] at hn
    simp only [List.getElem?_cons_succ] at h
    have : a ≠ a' := fun e => hn.1 (List.mem_map.2 ⟨_, List.mem_of_getElem? h, e⟩)
    simp only [ikeys, List.map_cons, bdel, keq, List.eraseIdx_cons_succ, beq_eq_false_iff_ne.2 this, cond_false]
    have := bdel_at (k := k) l bs i hn.2 (by simpa using hl) h
    unfold ikeys at this
    rw [this]

theorem eraseIdx_notin {b : Nat} : ∀ (l : List Nat) (i : Nat), l.Nodup → l[i]? = some b → b ∉ l.eraseIdx i
  | [], _, _, h => by simp at h
  | c :: l, 0, hn, h => by
    simp at h; subst h
    simp only [List.nodup_cons] at hn
    exact hn.1
  | c :: l, i + 1, hn, h => by
    simp only [List.nodup_cons] at hn
    simp only [List.getElem?_cons_succ] at h
    simp only [List.eraseIdx_cons_succ, List.mem_cons, not_or]
    exact ⟨fun e => hn.1 (e ▸ List.mem_of_getElem? h), eraseIdx_notin l i hn.2 h⟩

end Go.Lift
namespace Go.Back
open Go.Lift Go.Fn Go.Mem Go.Frames

theorem Row.ge : ∀ {g : Nat} {ws : List Wt}, Row g ws → ∀ q, q ∈ ws → g ≤ q.n
  | g, p :: ws, h, q, hq => by
    rcases List.mem_cons.1 hq with rfl | hq
    · have := h.1; omega
    · have := Row.ge h.2 q hq; omega

theorem Row.keys {p : Ad} : ∀ {g : Nat} {ws : List Wt}, Row g ws → IKeys (ws.map p.ent)
  | _, [], _ => by simp [IKeys]
  | g, q :: ws, h => by
    have ih := Row.keys (p := p) h.2
    unfold IKeys at ih ⊢
    simp only [List.map_cons, List.nodup_cons]
    refine ⟨fun hm => ?_, ih⟩
    simp only [List.mem_map] at hm
    obtain ⟨e, ⟨q', hq', rfl⟩, he⟩ := hm
    have := h.2.ge q' hq'
    have h1 := h.1
    simp only [Ad.ent, Wt.ent] at he
    omega

section
variable {U U' : Ifc} {x : Nat → Int} {h0 h : Heap}

theorem complete_r (u : Disk.DU U) {p : Ad} (ok : p.Ok) (hk : p.kind = 0) {X : List (Nat × HO)} {m : Nat → Int} {t g0 : Nat} {q : Wt} {ws ps : List Wt}
    (Wl : Wld p h0 X m t g0 ws (q :: ps) h) {Q : Int → Bool → Int → Int → Int → Heap → Prop}
    (hq : ∀ m' h', (∀ j, j < 192 → m' j = m j) → Wld p h0 X m' t g0 ws ps h' → Q (p.req q).id (p.req q).write (p.req q).block (p.req q).frame 0 h') :
    disk_Disk_Complete U (some ⟨p.db, 0⟩) (some ⟨p.pm, 0⟩) 0 Q h := by
  obtain ⟨F, bs, mk, bt, ct, bw, cw, eb, ec, y, d, M, a3, fr, eq, hdn, hp, row, hgt, B⟩ := Wl
  obtain ⟨es, hes⟩ : ∃ es, es = ws.map p.ent := ⟨_, rfl⟩
  obtain ⟨R, hR⟩ : ∃ R, R = X ++ ws.map p.cl := ⟨_, rfl⟩
  rw [← hes, ← hR] at B
  rw [← hes] at eq
  obtain ⟨fb, tm, wm, blk, rg, db, wq, gb, pm, bm, base, first, owner, page, block, kind⟩ := p
  obtain ⟨hb, hb4, hf, hown, hpg, hbl, hkd⟩ := ok
  simp only [Ad.L, List.map_cons] at M eq B hp hb hb4 hf hown hpg hbl hkd hk ⊢
  subst hk
  obtain rfl := B.pbe
  have B1 := B.pickR (A' := [(bm, .cells (strCells bs) mk), (fb, .cells (FS.cells (F) tm wm) false), (tm, .map (.int .i64) (ikeys .i64 (F : FS).t) bt ct), (wm, .map (.int .i64) (ikeys .i64 (F : FS).w) bw cw), (blk, .cells (blkC rg y.pb fb wq first 4 (owner : Int) (t : Int)) false), (wq, .map (.int .i64) (ikeys .i64 es) eb ec), (rg, .cells (ringC ((t : Nat) : Int) ((g0 : Nat) : Int) false) false), (gb, .cells (flatC pm (base : Int)) false), (pm, .cells (memC bm) false)]) [8, 0, 1, 2, 3, 4, 5, 6, 7] (by decide) rfl
  have hl := M.len
  have MR : Mem.Rep pm bm bs h := mrep B1.st (i := 8) (j := 0) rfl rfl (by decide) M.len
  have h0r : ∀ (n : Nat) r', (0 : Int) = n → d.pend[n]? = some r' → n = 0 ∧ r' = (⟨(owner : Int) * 4294967296 + (q.n : Int), false, first + block, (base : Int) + page⟩ : Disk.Req) := by
    intro n r' hn hr
    obtain rfl : n = 0 := by omega
    rw [hp] at hr
    simp only [List.getElem?_cons_zero, Option.some.injEq] at hr
    exact ⟨rfl, hr.symm⟩
  refine Disk.Complete_of u B.R B.ok MR (by omega) (B1.out pm _ (List.mem_of_getElem? (i := 8) rfl)) (B1.out bm _ (List.mem_of_getElem? (i := 0) rfl)) (fun hk => ?_) (fun n r' hn hr hf2 => ?_) (fun n r' hn hr hf2 hw2 => ?_) (fun n r' hn hr hf2 hw2 y' h' R' M' hp' g k' => ?_)
  · exfalso
    rw [hp] at hk
    simp at hk
    omega
  · obtain ⟨rfl, rfl⟩ := h0r n r' hn hr
    exact absurd (by rw [hl]; simp only; omega) hf2
  · obtain ⟨rfl, rfl⟩ := h0r n r' hn hr
    cases hw2
  · obtain ⟨rfl, rfl⟩ := h0r n r' hn hr
    simp only at M' hf2
    have hbl2 : (d.blk (first + block)).length = 256 := B.ok.len _
    obtain ⟨m', M2, hm'⟩ := M.other (xs := d.blk (first + block)) (a := (((base : Int) + page) * 256).toNat) (by omega)
    obtain ⟨mk', harr⟩ := M'.arr
    have S1 := B1.st.headW harr k' B1.out (fun c hc hne => absurd (B.fresh c hc) hne)
    have B2 : BW h0 _ y.pb y' { d with pend := d.pend.eraseIdx 0 } h' := ⟨S1, R', B.ok.erase 0, hp', (fun b v hb hf => by
      rcases g b hf with h1 | h1
      · rcases List.mem_cons.1 hb with e | hb
        · cases e; exact B1.out bm _ (List.mem_cons_self) h1
        · exact B1.out b v (List.mem_cons_of_mem _ hb) h1
      · rcases List.mem_cons.1 hb with e | hb
        · cases e; rw [B1.st.obj i0] at h1; cases h1
        · rw [B1.st.objs b v (List.mem_cons_of_mem _ hb)] at h1; cases h1), (fun c hc => by
      rcases g c hc with h1 | h1
      · exact B.fresh c h1
      · exact fresh_of B1.st.keeps h1)⟩
    refine hq m' h' (fun j hj => hm' j (by omega) (by omega)) ⟨F, _, mk', bt, ct, bw, cw, eb, ec, y', { d with pend := d.pend.eraseIdx 0 }, M2, a3, fr, by rw [← hes]; exact eq, hdn, ?_, row, hgt, ?_⟩
    · show d.pend.eraseIdx 0 = _
      rw [hp]; rfl
    · rw [← hes, ← hR]
      exact B2.pickR (A := [(bm, .cells (strCells _) _), (fb, .cells (FS.cells (F) tm wm) false), (tm, .map (.int .i64) (ikeys .i64 (F : FS).t) bt ct), (wm, .map (.int .i64) (ikeys .i64 (F : FS).w) bw cw), (blk, .cells (blkC rg y.pb fb wq first 4 (owner : Int) (t : Int)) false), (wq, .map (.int .i64) (ikeys .i64 es) eb ec), (rg, .cells (ringC ((t : Nat) : Int) ((g0 : Nat) : Int) false) false), (gb, .cells (flatC pm (base : Int)) false), (pm, .cells (memC bm) false)]) [1, 2, 3, 4, 5, 6, 7, 8, 0] (by decide) rfl

end
end Go.Back

/- All requests are forgotten. -/
namespace Go.Back
open Go.Lift Go.Fn Go.Mem Go.Frames

theorem erase_keys : ∀ (l : List (Int × V)) (i : Nat), IKeys l → IKeys (l.eraseIdx i)
  | [], _, h => h
  | p :: l, 0, h => by unfold IKeys at h ⊢; simp only [List.map_cons, List.nodup_cons] at h; exact h.2
  | p :: l, i + 1, h => by
    unfold IKeys at h ⊢
    simp only [List.map_cons, List.nodup_cons] at h
    have := erase_keys l i h.2
    simp only [List.eraseIdx_cons_succ, List.map_cons, List.nodup_cons]
    refine ⟨fun hm => h.1 ?_, this⟩
    obtain ⟨e, he, h1⟩ := List.mem_map.1 hm
    exact List.mem_map.2 ⟨e, (List.eraseIdx_sublist _ _).subset he, h1⟩

section
variable {h0 h : Heap}

theorem drop_all {p : Ad} (ok : p.Ok) {X : List (Nat × HO)} {m : Nat → Int} {t g0 : Nat} {ws ps : List Wt} (hws : ws.length ≤ 8)
    (Wl : Wld p h0 X m t g0 ws ps h) {Q : Heap → Prop} (hq : ∀ F bs mk bt ct bw cw eb ec h', A3ok F bt ct bw cw → FrOk p F 1 → St h0 none_ (p.L F bt ct bw cw (t : Int) [] eb ec t g0 bs mk ++ X) h' → Q h') :
    backend_Block_Drop (some ⟨p.blk, 0⟩) Q h := by
  obtain ⟨F, bs, mk, bt, ct, bw, cw, eb, ec, y, d, M, a3, fr, eq, hdn, hp, row, hgt, B⟩ := Wl
  have hkeys := row.keys (p := p)
  have hent : ∀ e, e ∈ ws.map p.ent → ∃ sl rd, e.2 = .agg [.int .i64 0, .sl sl, .int .i64 p.fr, .bool rd] := by
    intro e he
    obtain ⟨q, _, rfl⟩ := List.mem_map.1 he
    exact ⟨_, _, rfl⟩
  obtain ⟨es, hes⟩ : ∃ es, es = ws.map p.ent := ⟨_, rfl⟩
  have hel : es.length = ws.length := by rw [hes]; simp
  have SX := B.st.sub (L' := p.L F bt ct bw cw (t : Int) (ws.map p.ent) eb ec t g0 bs mk ++ X) (List.Sublist.append (List.Sublist.refl _) (List.sublist_append_left _ _))
  clear B
  rw [← hes] at SX eq hkeys hent
  obtain ⟨fb, tm, wm, blk, rg, db, wq, gb, pm, bm, base, first, owner, page, block, kind⟩ := p
  obtain ⟨hb, hb4, hf, hown, hpg, hbl, hkd⟩ := ok
  obtain ⟨fn, ff, ft, fw⟩ := fr
  simp only [Ad.L, Ad.fr] at fn ff ft fw SX hq hb hb4 hf hown hpg hbl hkd hent ⊢
  have S_ := SX
  simp only [List.cons_append, List.nil_append] at S_
  unfold backend_Block_Drop
  repeat (first | ((with_reducible first|apply St.rI|apply St.rB|apply St.rP|apply St.rSl|apply St.rV|apply St.rM|apply St.rS|apply St.rN|apply St.ckA);assumption;(first|exact i0|exact i1|exact i2|exact i3|exact i4|exact i5|exact i6|exact i7|exact i8|exact i9|exact i10|exact i11|exact i12|exact i13|exact i14|exact i15);(first|rfl|exact Nat.le_of_ble_eq_true rfl)) | with_reducible refine der_of ?_ | ((with_reducible refine br_t ?_ ?_);rfl) | ((with_reducible refine br_f ?_ ?_);rfl) | ((with_reducible refine br_t ?_ ?_);assumption) | ((with_reducible refine br_f ?_ ?_);assumption) | ((with_reducible first|apply St.wrL|apply St.wr);assumption;(first|exact i0|exact i1|exact i2|exact i3|exact i4|exact i5|exact i6|exact i7|exact i8|exact i9|exact i10|exact i11|exact i12|exact i13|exact i14|exact i15);(first|exact Nat.le_of_ble_eq_true rfl|rfl);intro g_ S_;simp only [Ptr.add, List.set, splice, List.take, List.drop, List.nil_append, List.append_nil, List.cons_append, List.length_cons, List.length_nil, Nat.zero_add, Nat.add_zero, Nat.reduceAdd, Nat.reduceMul, Nat.mul_one, Int.toNat_zero, Int.toNat_one, Int.reduceToNat] at S_) | ((with_reducible refine ix_of ?_ ?_ ?_);exact of_decide_eq_true rfl;exact of_decide_eq_true rfl) | ((with_reducible first|refine nz_of ?_ ?_|refine nneg_of ?_ ?_);exact of_decide_eq_true rfl) | ((with_reducible refine chk_of ?_ ?_);rfl) | (with_reducible first|apply asI_of|apply asB_of|apply asP_of|apply asSl_of|apply asAggV_of|apply asTupV_of|apply asCons_of|apply asNil_of|apply isNil_n|apply isNil_i|apply nilC_i) | ((with_reducible refine And.intro ?_ ?_);rfl) | ((with_reducible apply exAnd);rfl))
  refine ⟨_, _, _, _, S_.obj (i := 4) rfl, fun it hit => ?_⟩
  have S1 := SX.more (x := .iter (some wq) ec [] ec) hit Heap.new_obj (Keeps.new hit _)
  clear S_
  generalize h.new it (.iter (some wq) ec [] ec) = g1 at *
  unfold backend_Block_Drop.j2
  intro I HI
  have key : ∀ (k : Nat) (F : FS) (es : List (Int × V)) (eb seen bt : List Nat) (ct : Nat) (bw : List Nat) (cw : Nat) (g : Heap), es.length = k → k ≤ 8 → eb.length = es.length → eb.Nodup → (∀ b, b ∈ eb → b < ec) → (∀ b, b ∈ seen → b ∉ eb) → IKeys es → (∀ e, e ∈ es → ∃ sl rd, e.2 = .agg [.int .i64 0, .sl sl, .int .i64 ((base : Int) + page), .bool rd]) → A3ok F bt ct bw cw → FrOk (⟨fb, tm, wm, blk, rg, db, wq, gb, pm, bm, base, first, owner, page, block, kind⟩ : Ad) F (1 + k) →
      St h0 none_ ([(fb, .cells (FS.cells (F) tm wm) false), (tm, .map (.int .i64) (ikeys .i64 (F : FS).t) bt ct), (wm, .map (.int .i64) (ikeys .i64 (F : FS).w) bw cw), (blk, .cells (blkC rg db fb wq first 4 (owner : Int) (t : Int)) false), (wq, .map (.int .i64) (ikeys .i64 es) eb ec), (it, .iter (some wq) ec seen ec), (rg, .cells (ringC ((t : Nat) : Int) ((g0 : Nat) : Int) false) false), (gb, .cells (flatC pm (base : Int)) false), (pm, .cells (memC bm) false), (bm, .cells (strCells bs) mk)] ++ X) g → I (some ⟨blk, 0⟩) ⟨it, 0⟩ g := by
    intro k
    induction k with
    | zero =>
      intro F es eb seen bt ct bw cw g hk hk8 hl hnd hlt hse hik hev a3 fr S
      have hes0 : es = [] := List.length_eq_zero_iff.1 hk
      subst hes0
      have heb0 : eb = [] := List.length_eq_zero_iff.1 hl
      subst heb0
      have S2 := S
      simp only [List.cons_append, List.nil_append] at S2
      refine HI _ _ _ ?_
      unfold backend_Block_Drop.b2
      refine ⟨rfl, ?_⟩
      refine ⟨some wq, ec, seen, ec, S2.obj (i := 5) rfl, _, _, _, _, S2.obj (i := 4) rfl, fun hc => hc.2.1 rfl, fun _ => ?_, fun i k v b hi => by simp [ikeys] at hi⟩
      exact hq F bs mk bt ct bw cw _ _ _ a3 fr (S.pickR (A' := [(fb, .cells (FS.cells (F) tm wm) false), (tm, .map (.int .i64) (ikeys .i64 (F : FS).t) bt ct), (wm, .map (.int .i64) (ikeys .i64 (F : FS).w) bw cw), (blk, .cells (blkC rg db fb wq first 4 (owner : Int) (t : Int)) false), (wq, .map (.int .i64) (ikeys .i64 []) [] ec), (rg, .cells (ringC ((t : Nat) : Int) ((g0 : Nat) : Int) false) false), (gb, .cells (flatC pm (base : Int)) false), (pm, .cells (memC bm) false), (bm, .cells (strCells bs) mk)]) [0, 1, 2, 3, 4, 6, 7, 8, 9] (by decide) rfl)
    | succ k ih =>
      intro F es eb seen bt ct bw cw g hk hk8 hl hnd hlt hse hik hev a3 fr S
      obtain ⟨fn, ff, ft, fw⟩ := fr
      simp only [Ad.fr] at fn ff ft fw
      simp only [List.cons_append, List.nil_append] at S
      have hne : eb ≠ [] := by intro e; rw [e] at hl; simp at hl; omega
      obtain ⟨b0, hb0⟩ := List.exists_mem_of_ne_nil _ hne
      refine HI _ _ _ ?_
      unfold backend_Block_Drop.b2
      refine ⟨rfl, ?_⟩
      refine ⟨some wq, ec, seen, ec, S.obj (i := 5) rfl, _, _, _, _, S.obj (i := 4) rfl, fun hc => absurd (hc.2.2 b0 hb0) (by have := hlt b0 hb0; omega), fun hall => absurd (hall b0 hb0 (fun hm => hse b0 hm hb0)) (by have := hlt b0 hb0; omega), fun i kk v b hi hb hns => ?_⟩
      have hli : ∃ a, es[i]? = some (a, v) ∧ kk = .int .i64 a := by
        simp only [ikeys, List.getElem?_map] at hi
        cases hl : es[i]? with
        | none => rw [hl] at hi; cases hi
        | some p => rw [hl] at hi; simp at hi; exact ⟨p.1, by rw [← hi.2], hi.1.symm⟩
      obtain ⟨a, hli, rfl⟩ := hli
      have hilt : i < es.length := by
        rcases Nat.lt_or_ge i es.length with h | h
        · exact h
        · rw [List.getElem?_eq_none h] at hli; cases hli
      obtain ⟨sl, rd, rfl⟩ := hev _ (List.mem_of_getElem? hli)
      have S2 := S.put (i := 5) (b := it) (y := .iter (some wq) ec (seen ++ [b]) ec) (h' := g.setO it (.iter (some wq) ec (seen ++ [b]) ec)) rfl (by simp [Heap.setO]) (Keeps.setO (S.obj (i := 5) rfl))
      simp only [List.set] at S2
      clear S
      dsimp only
      generalize g.setO it (.iter (some wq) ec (seen ++ [b]) ec) = g2 at *
      refine ⟨rfl, ?_⟩
      refine ⟨wq, ec, seen ++ [b], ec, S2.obj (i := 5) rfl, _, _, _, S2.obj (i := 4) rfl, i, _, _, b, by simp, hb, hi, ?_⟩
      repeat (first | ((with_reducible first|apply St.rI|apply St.rB|apply St.rP|apply St.rSl|apply St.rV|apply St.rM|apply St.rS|apply St.rN|apply St.ckA);assumption;(first|exact i0|exact i1|exact i2|exact i3|exact i4|exact i5|exact i6|exact i7|exact i8|exact i9|exact i10|exact i11|exact i12|exact i13|exact i14|exact i15);(first|rfl|exact Nat.le_of_ble_eq_true rfl)) | with_reducible refine der_of ?_ | ((with_reducible refine br_t ?_ ?_);rfl) | ((with_reducible refine br_f ?_ ?_);rfl) | ((with_reducible refine br_t ?_ ?_);assumption) | ((with_reducible refine br_f ?_ ?_);assumption) | ((with_reducible first|apply St.wrL|apply St.wr);assumption;(first|exact i0|exact i1|exact i2|exact i3|exact i4|exact i5|exact i6|exact i7|exact i8|exact i9|exact i10|exact i11|exact i12|exact i13|exact i14|exact i15);(first|exact Nat.le_of_ble_eq_true rfl|rfl);intro g_ S_;simp only [Ptr.add, List.set, splice, List.take, List.drop, List.nil_append, List.append_nil, List.cons_append, List.length_cons, List.length_nil, Nat.zero_add, Nat.add_zero, Nat.reduceAdd, Nat.reduceMul, Nat.mul_one, Int.toNat_zero, Int.toNat_one, Int.reduceToNat] at S_) | ((with_reducible refine ix_of ?_ ?_ ?_);exact of_decide_eq_true rfl;exact of_decide_eq_true rfl) | ((with_reducible first|refine nz_of ?_ ?_|refine nneg_of ?_ ?_);exact of_decide_eq_true rfl) | ((with_reducible refine chk_of ?_ ?_);rfl) | (with_reducible first|apply asI_of|apply asB_of|apply asP_of|apply asSl_of|apply asAggV_of|apply asTupV_of|apply asCons_of|apply asNil_of|apply isNil_n|apply isNil_i|apply nilC_i) | ((with_reducible refine And.intro ?_ ?_);rfl) | ((with_reducible apply exAnd);rfl))
      ((with_reducible apply St.al); assumption; intro k1 g_ S_)
      repeat (first | ((with_reducible first|apply St.rI|apply St.rB|apply St.rP|apply St.rSl|apply St.rV|apply St.rM|apply St.rS|apply St.rN|apply St.ckA);assumption;(first|exact i0|exact i1|exact i2|exact i3|exact i4|exact i5|exact i6|exact i7|exact i8|exact i9|exact i10|exact i11|exact i12|exact i13|exact i14|exact i15);(first|rfl|exact Nat.le_of_ble_eq_true rfl)) | with_reducible refine der_of ?_ | ((with_reducible refine br_t ?_ ?_);rfl) | ((with_reducible refine br_f ?_ ?_);rfl) | ((with_reducible refine br_t ?_ ?_);assumption) | ((with_reducible refine br_f ?_ ?_);assumption) | ((with_reducible first|apply St.wrL|apply St.wr);assumption;(first|exact i0|exact i1|exact i2|exact i3|exact i4|exact i5|exact i6|exact i7|exact i8|exact i9|exact i10|exact i11|exact i12|exact i13|exact i14|exact i15);(first|exact Nat.le_of_ble_eq_true rfl|rfl);intro g_ S_;simp only [Ptr.add, List.set, splice, List.take, List.drop, List.nil_append, List.append_nil, List.cons_append, List.length_cons, List.length_nil, Nat.zero_add, Nat.add_zero, Nat.reduceAdd, Nat.reduceMul, Nat.mul_one, Int.toNat_zero, Int.toNat_one, Int.reduceToNat] at S_) | ((with_reducible refine ix_of ?_ ?_ ?_);exact of_decide_eq_true rfl;exact of_decide_eq_true rfl) | ((with_reducible first|refine nz_of ?_ ?_|refine nneg_of ?_ ?_);exact of_decide_eq_true rfl) | ((with_reducible refine chk_of ?_ ?_);rfl) | (with_reducible first|apply asI_of|apply asB_of|apply asP_of|apply asSl_of|apply asAggV_of|apply asTupV_of|apply asCons_of|apply asNil_of|apply isNil_n|apply isNil_i|apply nilC_i) | ((with_reducible refine And.intro ?_ ?_);rfl) | ((with_reducible apply exAnd);rfl))
      refine mapDel_st S_ (i := 5) rfl (fun g3 S3 => ?_)
      rw [mdel_ikeys, idel_at es i hik hli, bdel_at es eb i hik hl hli] at S3
      simp only [List.set] at S3
      clear S_ S2
      repeat (first | ((with_reducible first|apply St.rI|apply St.rB|apply St.rP|apply St.rSl|apply St.rV|apply St.rM|apply St.rS|apply St.rN|apply St.ckA);assumption;(first|exact i0|exact i1|exact i2|exact i3|exact i4|exact i5|exact i6|exact i7|exact i8|exact i9|exact i10|exact i11|exact i12|exact i13|exact i14|exact i15);(first|rfl|exact Nat.le_of_ble_eq_true rfl)) | with_reducible refine der_of ?_ | ((with_reducible refine br_t ?_ ?_);rfl) | ((with_reducible refine br_f ?_ ?_);rfl) | ((with_reducible refine br_t ?_ ?_);assumption) | ((with_reducible refine br_f ?_ ?_);assumption) | ((with_reducible first|apply St.wrL|apply St.wr);assumption;(first|exact i0|exact i1|exact i2|exact i3|exact i4|exact i5|exact i6|exact i7|exact i8|exact i9|exact i10|exact i11|exact i12|exact i13|exact i14|exact i15);(first|exact Nat.le_of_ble_eq_true rfl|rfl);intro g_ S_;simp only [Ptr.add, List.set, splice, List.take, List.drop, List.nil_append, List.append_nil, List.cons_append, List.length_cons, List.length_nil, Nat.zero_add, Nat.add_zero, Nat.reduceAdd, Nat.reduceMul, Nat.mul_one, Int.toNat_zero, Int.toNat_one, Int.reduceToNat] at S_) | ((with_reducible refine ix_of ?_ ?_ ?_);exact of_decide_eq_true rfl;exact of_decide_eq_true rfl) | ((with_reducible first|refine nz_of ?_ ?_|refine nneg_of ?_ ?_);exact of_decide_eq_true rfl) | ((with_reducible refine chk_of ?_ ?_);rfl) | (with_reducible first|apply asI_of|apply asB_of|apply asP_of|apply asSl_of|apply asAggV_of|apply asTupV_of|apply asCons_of|apply asNil_of|apply isNil_n|apply isNil_i|apply nilC_i) | ((with_reducible refine And.intro ?_ ?_);rfl) | ((with_reducible apply exAnd);rfl))
      have SQ : St h0 none_ (A3 fb tm wm F bt ct bw cw ++ ([(blk, .cells (blkC rg db fb wq first 4 (owner : Int) (t : Int)) false), (wq, .map (.int .i64) (ikeys .i64 (es.eraseIdx i)) (eb.eraseIdx i) ec), (it, .iter (some wq) ec (seen ++ [b]) ec), (rg, .cells (ringC ((t : Nat) : Int) ((g0 : Nat) : Int) false) false), (gb, .cells (flatC pm (base : Int)) false), (pm, .cells (memC bm) false), (bm, .cells (strCells bs) mk)] ++ X)) g3 := St.pickR (A := [(k1, _), (fb, .cells (FS.cells (F) tm wm) false), (tm, .map (.int .i64) (ikeys .i64 (F : FS).t) bt ct), (wm, .map (.int .i64) (ikeys .i64 (F : FS).w) bw cw), (blk, .cells (blkC rg db fb wq first 4 (owner : Int) (t : Int)) false), (wq, .map (.int .i64) (ikeys .i64 (es.eraseIdx i)) (eb.eraseIdx i) ec), (it, .iter (some wq) ec (seen ++ [b]) ec), (rg, .cells (ringC ((t : Nat) : Int) ((g0 : Nat) : Int) false) false), (gb, .cells (flatC pm (base : Int)) false), (pm, .cells (memC bm) false), (bm, .cells (strCells bs) mk)]) (A' := [(fb, .cells (FS.cells (F) tm wm) false), (tm, .map (.int .i64) (ikeys .i64 (F : FS).t) bt ct), (wm, .map (.int .i64) (ikeys .i64 (F : FS).w) bw cw), (blk, .cells (blkC rg db fb wq first 4 (owner : Int) (t : Int)) false), (wq, .map (.int .i64) (ikeys .i64 (es.eraseIdx i)) (eb.eraseIdx i) ec), (it, .iter (some wq) ec (seen ++ [b]) ec), (rg, .cells (ringC ((t : Nat) : Int) ((g0 : Nat) : Int) false) false), (gb, .cells (flatC pm (base : Int)) false), (pm, .cells (memC bm) false), (bm, .cells (strCells bs) mk)]) S3 [1, 2, 3, 4, 5, 6, 7, 8, 9, 10] (by decide) rfl
      clear S3
      refine Free_more (rep_at (i := 0) (j := 1) (k := 2) SQ a3 rfl rfl rfl (by decide)) (by omega) (by rw [fn]; omega) (by rw [ff]; omega) ft (by omega) fw (fun g4 R2 k2 => ?_)
      obtain ⟨bt', ct', bw', cw', S4, ok'⟩ := three_st SQ R2 k2
      refine ih { F with t := iput ((base : Int) + page) (.int .i64 (((1 + (k + 1) : Nat) : Int) - 1)) F.t } (es.eraseIdx i) (eb.eraseIdx i) (seen ++ [b]) bt' ct' bw' cw' g4 (by rw [List.length_eraseIdx_of_lt hilt]; omega) (by omega) (by rw [List.length_eraseIdx_of_lt hilt, List.length_eraseIdx_of_lt (by omega)]; omega) (hnd.sublist (List.eraseIdx_sublist _ _)) (fun c hc => hlt c ((List.eraseIdx_sublist _ _).subset hc)) (fun c hc hm => ?_) (erase_keys es i hik) (fun e he => hev e ((List.eraseIdx_sublist _ _).subset he)) ok' ⟨fn, ff, ?_, fw⟩ S4
      · rcases List.mem_append.1 hc with h1 | h1
        · exact hse c h1 ((List.eraseIdx_sublist _ _).subset hm)
        · simp only [List.mem_singleton] at h1
          subst h1
          exact eraseIdx_notin eb i hnd hb hm
      · show ifind _ (iput _ _ _) = _
        rw [ifind_iput]
        refine (if_pos rfl).trans ?_
        have : ((1 + (k + 1) : Nat) : Int) - 1 = ((1 + k : Nat) : Int) := by omega
        rw [this]
  exact key ws.length F es eb [] bt ct bw cw g1 hel hws (by rw [hel]; exact eq.2.2.trans hel) eq.1 eq.2.1 (fun b hb => by cases hb) hkeys hent a3 ⟨fn, ff, ft, fw⟩ (St.pickR (A := [(it, .iter (some wq) ec [] ec), (fb, .cells (FS.cells (F) tm wm) false), (tm, .map (.int .i64) (ikeys .i64 (F : FS).t) bt ct), (wm, .map (.int .i64) (ikeys .i64 (F : FS).w) bw cw), (blk, .cells (blkC rg db fb wq first 4 (owner : Int) (t : Int)) false), (wq, .map (.int .i64) (ikeys .i64 es) eb ec), (rg, .cells (ringC ((t : Nat) : Int) ((g0 : Nat) : Int) false) false), (gb, .cells (flatC pm (base : Int)) false), (pm, .cells (memC bm) false), (bm, .cells (strCells bs) mk)]) (A' := [(fb, .cells (FS.cells (F) tm wm) false), (tm, .map (.int .i64) (ikeys .i64 (F : FS).t) bt ct), (wm, .map (.int .i64) (ikeys .i64 (F : FS).w) bw cw), (blk, .cells (blkC rg db fb wq first 4 (owner : Int) (t : Int)) false), (wq, .map (.int .i64) (ikeys .i64 es) eb ec), (it, .iter (some wq) ec [] ec), (rg, .cells (ringC ((t : Nat) : Int) ((g0 : Nat) : Int) false) false), (gb, .cells (flatC pm (base : Int)) false), (pm, .cells (memC bm) false), (bm, .cells (strCells bs) mk)]) S1 [1, 2, 3, 4, 5, 0, 6, 7, 8, 9] (by decide) rfl)

end
end Go.Back

/- BackendFull: the plain law. -/
namespace Go.Back
open Go.Lift Go.Fn Go.Mem Go.Frames

theorem BW.start {h0 h : Heap} {L : List (Nat × HO)} {db dm : Nat} (S : St h0 none_ ((db, .cells [.int .i64 12, .map (some dm), .sl ⟨none, 0, 0⟩] false) :: (dm, .map (.int .i64) [] [] 0) :: L) h) :
    BW h0 L db ⟨db, dm, ⟨none, 0, 0⟩, [], fun _ => False⟩ ⟨12, fun _ => Disk.zeros, []⟩ h := by
  have hfoot : ∀ z, Disk.Lay.Foot ⟨db, dm, ⟨none, 0, 0⟩, [], fun _ => False⟩ z → z = db ∨ z = dm := by
    intro z hz
    rcases hz with h1 | h1 | h1 | h1
    · exact .inl h1
    · exact .inr h1
    · obtain ⟨p, hp, _⟩ := h1; cases hp
    · exact h1.elim
  have hn := S.nodup
  simp only [List.map_cons, List.nodup_cons, List.mem_cons, not_or] at hn
  refine ⟨S.tail.tail, ⟨S.obj i0, ⟨[], 0, S.obj i1, by simp, by simp, rfl⟩, by simp [IKeys], fun i => rfl, .inl ⟨rfl, rfl⟩, fun x hx => hx.elim, fun x hx => ?_, fun e => hn.1.1 e.symm⟩, ⟨by decide, by decide, by simp, fun i => by simp [Disk.zeros], by simp, by simp⟩, rfl, fun b v hb hf => ?_, fun z hz => ?_⟩
  · obtain ⟨p, hp, _⟩ := hx; cases hp
  · have hm : b ∈ L.map (·.1) := List.mem_map.2 ⟨_, hb, rfl⟩
    rcases hfoot b hf with rfl | rfl
    · exact hn.1.2 hm
    · exact hn.2.1 hm
  · rcases hfoot z hz with rfl | rfl
    · rcases S.new _ _ (List.mem_cons_self) with h1 | h1
      · exact h1
      · exact h1.elim
    · rcases S.new _ _ (List.mem_cons_of_mem _ (List.mem_cons_self)) with h1 | h1
      · exact h1
      · exact h1.elim

theorem and7 (m : Int) : 0 ≤ ibits .and .i64 m 7 ∧ ibits .and .i64 m 7 ≤ 7 := by
  have hle : (BitVec.ofInt 64 m &&& BitVec.ofInt 64 7).toNat ≤ 7 := by
    rw [BitVec.toNat_and]; exact Nat.and_le_right
  have : ibits .and .i64 m 7 = IntKind.i64.wrap ((BitVec.ofInt 64 m &&& BitVec.ofInt 64 7).toNat : Int) := rfl
  rw [this, wrap64]; omega

/-- So many requests are offered. -/
structure Off (m : Nat → Int) (page : Int) (c : Nat) : Prop where
  cnt : 0 < c → m 32 = (c : Int)
  head : ∀ k, k < 8 → m (33 + k) = 0
  kind : m 128 = 0
  block : m 129 = 1
  three : 0 < c → Three m 1024 16 (256 * page) 256 ((0 : Int) == 0) 1100 1

theorem Off.next {m : Nat → Int} {page : Int} {c : Nat} (hp : 0 ≤ page ∧ page ≤ 15) (o : Off m page c) : Off (offM m c 1024 16 (256 * page) 256 ((0 : Int) == 0) 1100 1) page (c + 1) :=
  ⟨fun _ => off_cnt, fun k hk => off_head (by omega) (o.head k hk), (off_high (by decide)).trans o.kind, (off_high (by decide)).trans o.block, fun _ => off_three (by decide) (by decide) (by decide) (by decide) (by omega) (by decide)⟩

theorem Off.same {m m' : Nat → Int} {page : Int} {c : Nat} (o : Off m page c) (h1 : ∀ j, j < 41 → m' j = m j) (h2 : m' 128 = m 128) (h3 : m' 129 = m 129) : Off m' page c :=
  ⟨fun hc => (h1 32 (by decide)).trans (o.cnt hc), fun k hk => (h1 _ (by omega)).trans (o.head k hk), h2.trans o.kind, h3.trans o.block, fun hc => by
    have T := o.three hc
    obtain ⟨f, hf, hf2⟩ := T.q6
    exact ⟨(h1 0 (by decide)).trans T.q0, (h1 1 (by decide)).trans T.q1, (h1 2 (by decide)).trans T.q2, (h1 3 (by decide)).trans T.q3, (h1 4 (by decide)).trans T.q4, (h1 5 (by decide)).trans T.q5, ⟨f, (h1 6 (by decide)).trans hf, hf2⟩, (h1 7 (by decide)).trans T.q7, (h1 8 (by decide)).trans T.q8, (h1 9 (by decide)).trans T.q9, (h1 10 (by decide)).trans T.q10, T.rl0, T.rl1, T.rl2, T.ra0, T.ra1, T.ra2⟩⟩

section
variable {U U' : Ifc} {x : Nat → Int} {h0 h : Heap} {p : Ad} {X : List (Nat × HO)} {m : Nat → Int} {t g0 : Nat} {ws ps : List Wt}

theorem Wld.tl {e : Nat × HO} (Wl : Wld p h0 (e :: X) m t g0 ws ps h) : Wld p h0 X m t g0 ws ps h := by
  obtain ⟨F, bs, mk, bt, ct, bw, cw, eb, ec, y, d, M, a3, fr, eq, hdn, hp, row, hgt, B⟩ := Wl
  exact ⟨F, bs, mk, bt, ct, bw, cw, eb, ec, y, d, M, a3, fr, eq, hdn, hp, row, hgt, B.mono (B.st.sub (List.Sublist.append (List.Sublist.refl _) (List.sublist_cons_self _ _))) (fun q hq => (List.Sublist.append (List.Sublist.refl _) (List.sublist_cons_self _ _)).subset hq)⟩

theorem Wld.al {z : List V} {κ : Nat → Heap → Prop} (Wl : Wld p h0 X m t g0 ws ps h) (hk : ∀ b h', Wld p h0 ((b, .cells z false) :: X) m t g0 ws ps h' → κ b h') : al z κ h := by
  obtain ⟨F, bs, mk, bt, ct, bw, cw, eb, ec, y, d, M, a3, fr, eq, hdn, hp, row, hgt, B⟩ := Wl
  refine St.al B.st.base (fun b h' S => hk b h' ⟨F, bs, mk, bt, ct, bw, cw, eb, ec, y, d, M, a3, fr, eq, hdn, hp, row, hgt, ?_⟩)
  exact (B.step S).perm List.perm_middle.symm

theorem Wld.wrL {b : Nat} {l vs : List V} {κ : Heap → Prop} (Wl : Wld p h0 ((b, .cells l false) :: X) m t g0 ws ps h) (hl : vs.length = l.length) (hk : ∀ h', Wld p h0 ((b, .cells vs false) :: X) m t g0 ws ps h' → κ h') : Go.Lift.wrL vs ⟨b, 0⟩ 0 κ h := by
  obtain ⟨F, bs, mk, bt, ct, bw, cw, eb, ec, y, d, M, a3, fr, eq, hdn, hp, row, hgt, B⟩ := Wl
  have B1 := B.perm List.perm_middle
  refine St.wrL (i := 0) B1.st.base i0 (by show 0 + vs.length ≤ l.length; omega) (fun h' S => hk h' ⟨F, bs, mk, bt, ct, bw, cw, eb, ec, y, d, M, a3, fr, eq, hdn, hp, row, hgt, ?_⟩)
  have e : splice l 0 vs = vs := by simp [splice, hl]
  simp only [List.set] at S
  rw [e] at S
  exact (B1.step S).perm List.perm_middle.symm

theorem offer_w (w : Wid U h0 x) (hk8 : knownB x 8 = true) (ok : p.Ok) {pb c : Nat} (hc : c ≤ 1000) (Wl : Wld p h0 ((pb, .cells (partsC 1024 16 (256 * p.page) 256 (p.kind == 0) 1100 1) false) :: X) m t g0 ws ps h) {Q : Heap → Prop}
    (hq : ∀ h', Wld p h0 ((pb, .cells (partsC 1024 16 (256 * p.page) 256 (p.kind == 0) 1100 1) false) :: X) (offM m c 1024 16 (256 * p.page) 256 (p.kind == 0) 1100 1) t g0 ws ps h' → Q h') {a2 : Int} (ec : a2 = (c : Int)) : palisadelaw24_offer U (some ⟨p.gb, 0⟩) a2 ⟨some ⟨pb, 0⟩, 3, 3⟩ Q h := by
  have hw0 : ¬ none_ (U.glob 1) := fun f => f
  obtain ⟨F, bs, mk, bt, ct, bw, cw, eb, ecl, y, d, M, a3, fr, eq, hdn, hp, row, hgt, B⟩ := Wl
  obtain ⟨R, hR⟩ : ∃ R, R = X ++ ws.map p.cl := ⟨_, rfl⟩
  rw [List.cons_append, ← hR] at B
  obtain ⟨es, hes⟩ : ∃ es, es = ws.map p.ent := ⟨_, rfl⟩
  rw [← hes] at B eq
  obtain ⟨fb, tm, wm, blk, rg, db, wq, gb, pm, bm, base, first, owner, page, block, kind⟩ := p
  obtain ⟨hb, hb4, hf, hown, hpg, hbl, hkd⟩ := ok
  simp only [Ad.L, List.cons_append, List.nil_append] at M eq B hb hb4 hf hown hpg hbl hkd hq ⊢
  have SP : St h _ ([(pb, .cells (partsC 1024 16 (256 * page) 256 (kind == 0) 1100 1) false), (gb, .cells (flatC pm (base : Int)) false), (pm, .cells (memC bm) false), (bm, .cells (strCells bs) mk)] ++ ([(fb, .cells (FS.cells (F) tm wm) false), (tm, .map (.int .i64) (ikeys .i64 (F : FS).t) bt ct), (wm, .map (.int .i64) (ikeys .i64 (F : FS).w) bw cw), (blk, .cells (blkC rg db fb wq first 4 (owner : Int) (t : Int)) false), (wq, .map (.int .i64) (ikeys .i64 es) eb ecl), (rg, .cells (ringC ((t : Nat) : Int) ((g0 : Nat) : Int) false) false)] ++ R)) h := St.pickR (A := [(fb, .cells (FS.cells (F) tm wm) false), (tm, .map (.int .i64) (ikeys .i64 (F : FS).t) bt ct), (wm, .map (.int .i64) (ikeys .i64 (F : FS).w) bw cw), (blk, .cells (blkC rg db fb wq first 4 (owner : Int) (t : Int)) false), (wq, .map (.int .i64) (ikeys .i64 es) eb ecl), (rg, .cells (ringC ((t : Nat) : Int) ((g0 : Nat) : Int) false) false), (gb, .cells (flatC pm (base : Int)) false), (pm, .cells (memC bm) false), (bm, .cells (strCells bs) mk), (pb, .cells (partsC 1024 16 (256 * page) 256 (kind == 0) 1100 1) false)]) (A' := [(pb, .cells (partsC 1024 16 (256 * page) 256 (kind == 0) 1100 1) false), (gb, .cells (flatC pm (base : Int)) false), (pm, .cells (memC bm) false), (bm, .cells (strCells bs) mk), (fb, .cells (FS.cells (F) tm wm) false), (tm, .map (.int .i64) (ikeys .i64 (F : FS).t) bt ct), (wm, .map (.int .i64) (ikeys .i64 (F : FS).w) bw cw), (blk, .cells (blkC rg db fb wq first 4 (owner : Int) (t : Int)) false), (wq, .map (.int .i64) (ikeys .i64 es) eb ecl), (rg, .cells (ringC ((t : Nat) : Int) ((g0 : Nat) : Int) false) false)]) B.st.base [9, 6, 7, 8, 0, 1, 2, 3, 4, 5] (by decide) rfl
  have wh : Wid U h x := w.keeps B.st.keeps hw0
  refine offer_of (c := c) (wh.keeps SP.keeps (B.off w.known)) (SP.notA wh.known (B.off w.known)) hk8 M hb hc (by decide) (by omega) (by decide) (by decide) (by decide) (by decide) SP.head (fun bs2 mk2 g3 M2 S3 => ?_) ec
  have S4 := St.frame S3 SP
  simp only [List.cons_append, List.nil_append] at S4
  refine hq g3 ⟨F, bs2, mk2, bt, ct, bw, cw, eb, ecl, y, d, M2, a3, fr, by rw [← hes]; exact eq, hdn, hp, row, hgt, ?_⟩
  rw [List.cons_append, ← hR, ← hes]
  exact (B.step S4).pickR (A := [(pb, .cells (partsC 1024 16 (256 * page) 256 (kind == 0) 1100 1) false), (gb, .cells (flatC pm (base : Int)) false), (pm, .cells (memC bm) false), (bm, .cells (strCells bs2) mk2), (fb, .cells (FS.cells (F) tm wm) false), (tm, .map (.int .i64) (ikeys .i64 (F : FS).t) bt ct), (wm, .map (.int .i64) (ikeys .i64 (F : FS).w) bw cw), (blk, .cells (blkC rg db fb wq first 4 (owner : Int) (t : Int)) false), (wq, .map (.int .i64) (ikeys .i64 es) eb ecl), (rg, .cells (ringC ((t : Nat) : Int) ((g0 : Nat) : Int) false) false)]) (A' := [(fb, .cells (FS.cells (F) tm wm) false), (tm, .map (.int .i64) (ikeys .i64 (F : FS).t) bt ct), (wm, .map (.int .i64) (ikeys .i64 (F : FS).w) bw cw), (blk, .cells (blkC rg db fb wq first 4 (owner : Int) (t : Int)) false), (wq, .map (.int .i64) (ikeys .i64 es) eb ecl), (rg, .cells (ringC ((t : Nat) : Int) ((g0 : Nat) : Int) false) false), (gb, .cells (flatC pm (base : Int)) false), (pm, .cells (memC bm) false), (bm, .cells (strCells bs2) mk2), (pb, .cells (partsC 1024 16 (256 * page) 256 (kind == 0) 1100 1) false)]) [4, 5, 6, 7, 8, 9, 1, 2, 3, 0] (by decide) rfl

end
end Go.Back

/- BackendFull: the plain law, joined. -/
namespace Go.Back
open Go.Lift Go.Fn Go.Mem Go.Frames

section
variable {U U' : Ifc} {x : Nat → Int} {h0 : Heap}

theorem fullLaw (hu : GU U U') (u : Disk.DU U) (w : Wid U h0 x) (hk8 : knownB x 8 = true) (a1 a2 : Int) {Q : Bool → Heap → Prop} (hQ : ∀ h, Q true h) : palisadelaw24_BackendFull U a1 a2 Q h0 := by
  have hw0 : ∀ z : Nat, ¬ none_ z := fun _ f => f
  have w' : Wid U' h0 x := by intro i hi; rw [← hu.glob]; exact w i hi
  unfold palisadelaw24_BackendFull
  refine begin_of (fun wb g0 g1 r0 r1 b0 b1 w0 w1 db dm pm bm fb tm wm mk bt ct bw cw g S ok => ?_)
  obtain ⟨p0, p7⟩ := and7 a1
  obtain ⟨page, hpage, q6, q13⟩ : ∃ page : Int, IntKind.i64.wrap (6 + ibits .and .i64 a1 7) = page ∧ 6 ≤ page ∧ page ≤ 13 := ⟨_, by rw [wrap64] <;> omega, by omega, by omega⟩
  rw [hpage]
  clear hpage p0 p7
  obtain ⟨p0, p7⟩ := and7 a2
  obtain ⟨n, hnn, n1, n8⟩ : ∃ n : Nat, IntKind.i64.wrap (1 + ibits .and .i64 a2 7) = (n : Int) ∧ 1 ≤ n ∧ n ≤ 8 := ⟨(1 + ibits .and .i64 a2 7).toNat, by rw [wrap64] <;> omega, by omega, by omega⟩
  rw [hnn]
  clear hnn p0 p7
  have S1 : St h0 none_ ((db, .cells [.int .i64 12, .map (some dm), .sl ⟨none, 0, 0⟩] false) :: (dm, .map (.int .i64) [] [] 0) :: (Ad.L (⟨fb, tm, wm, b0, r0, db, w0, g0, pm, bm, 4, 0, 1, page, 1, 0⟩ : Ad) (Fc 32) bt ct bw cw 0 [] [] 0 0 0 (List.replicate 10240 0) mk ++ [(wb, .cells [.ptr (some ⟨pm, 0⟩), .ptr (some ⟨fb, 0⟩), .ptr (some ⟨db, 0⟩), .ptr (some ⟨g0, 0⟩), .ptr (some ⟨g1, 0⟩), .ptr (some ⟨r0, 0⟩), .ptr (some ⟨r1, 0⟩), .ptr (some ⟨b0, 0⟩), .ptr (some ⟨b1, 0⟩)] false)])) g := St.pick S [12, 13, 0, 1, 2, 8, 10, 6, 4, 14, 15, 3] (by decide) rfl
  have B := BW.start S1
  clear S S1
  have S_ := B.st.base
  simp only [Ad.L, List.cons_append, List.nil_append] at S_
  refine br_f rfl ?_
  repeat (first | ((with_reducible first|apply St.rI|apply St.rB|apply St.rP|apply St.rSl|apply St.rV|apply St.rM|apply St.rS|apply St.rN|apply St.ckA);assumption;(first|exact i0|exact i1|exact i2|exact i3|exact i4|exact i5|exact i6|exact i7|exact i8|exact i9|exact i10|exact i11|exact i12|exact i13|exact i14|exact i15);(first|rfl|exact Nat.le_of_ble_eq_true rfl)) | with_reducible refine der_of ?_ | ((with_reducible refine br_t ?_ ?_);rfl) | ((with_reducible refine br_f ?_ ?_);rfl) | ((with_reducible refine br_t ?_ ?_);assumption) | ((with_reducible refine br_f ?_ ?_);assumption) | ((with_reducible first|apply St.wrL|apply St.wr);assumption;(first|exact i0|exact i1|exact i2|exact i3|exact i4|exact i5|exact i6|exact i7|exact i8|exact i9|exact i10|exact i11|exact i12|exact i13|exact i14|exact i15);(first|exact Nat.le_of_ble_eq_true rfl|rfl);intro g_ S_;simp only [Ptr.add, List.set, splice, List.take, List.drop, List.nil_append, List.append_nil, List.cons_append, List.length_cons, List.length_nil, Nat.zero_add, Nat.add_zero, Nat.reduceAdd, Nat.reduceMul, Nat.mul_one, Int.toNat_zero, Int.toNat_one, Int.reduceToNat] at S_) | ((with_reducible refine ix_of ?_ ?_ ?_);exact of_decide_eq_true rfl;exact of_decide_eq_true rfl) | ((with_reducible first|refine nz_of ?_ ?_|refine nneg_of ?_ ?_);exact of_decide_eq_true rfl) | ((with_reducible refine chk_of ?_ ?_);rfl) | (with_reducible first|apply asI_of|apply asB_of|apply asP_of|apply asSl_of|apply asAggV_of|apply asTupV_of|apply asCons_of|apply asNil_of|apply isNil_n|apply isNil_i|apply nilC_i) | ((with_reducible refine And.intro ?_ ?_);rfl) | ((with_reducible apply exAnd);rfl))
  have wg : Wid U g x := w.keeps B.st.keeps (hw0 _)
  have ng : ¬ keysOf _ (U.glob 1) := B.off w.known
  have SR : St g _ ([(g0, .cells (flatC pm ((4 : Nat) : Int)) false), (pm, .cells (memC bm) false), (bm, .cells (strCells (List.replicate 10240 0)) mk)] ++ [(fb, .cells (FS.cells (Fc 32) tm wm) false), (tm, .map (.int .i64) (ikeys .i64 ((Fc 32)).t) bt ct), (wm, .map (.int .i64) (ikeys .i64 ((Fc 32)).w) bw cw), (b0, .cells (blkC r0 db fb w0 0 4 1 0) false), (w0, .map (.int .i64) [] [] 0), (r0, .cells (ringC ((0 : Nat) : Int) ((0 : Nat) : Int) false) false), (wb, .cells [.ptr (some ⟨pm, 0⟩), .ptr (some ⟨fb, 0⟩), .ptr (some ⟨db, 0⟩), .ptr (some ⟨g0, 0⟩), .ptr (some ⟨g1, 0⟩), .ptr (some ⟨r0, 0⟩), .ptr (some ⟨r1, 0⟩), .ptr (some ⟨b0, 0⟩), .ptr (some ⟨b1, 0⟩)] false)]) g := St.pick S_ [6, 7, 8, 0, 1, 2, 3, 4, 5, 9] (by decide) rfl
  clear S_
  refine request_of (wg.keeps SR.keeps ng) (SR.notA wg.known ng) hk8 (MemIs.zero (by decide)) (by decide) (kind := 0) (block := 1) (by decide) (by decide) (by omega) SR.head (fun pb bs1 mk1 g2 M1 S1 => ?_)
  have S2 := St.frame S1 SR
  clear S1 SR
  have hf1 : ifind (((4 : Nat) : Int) + page) (Fc 32).t = some (.int .i64 1) := by
    show ifind _ (tfill 36) = _
    rw [ifind_tfill, if_pos (by omega)]
  have hf2 : ifind (((4 : Nat) : Int) + page) (Fc 32).w = some (.int .i64 1) := by
    show ifind _ (wfill 32) = _
    rw [ifind_wfill, if_pos (by omega)]
    congr 2
    have : (1 + ((((4 : Nat) : Int) + page).toNat - 4) / 16 : Nat) = 1 := by omega
    rw [this]; rfl
  have pok : Ad.Ok (⟨fb, tm, wm, b0, r0, db, w0, g0, pm, bm, 4, 0, 1, page, 1, 0⟩ : Ad) := ⟨by show 4 + 16 ≤ 40; decide, by show 4 ≤ 4; decide, by show (0 : Int) ≤ 0 ∧ (0 : Int) ≤ 8; decide, .inl rfl, ⟨q6, by show page < 16; omega⟩, by show (0 : Int) ≤ 1 ∧ (1 : Int) < 4; decide, .inl rfl⟩
  have W1 : Wld (⟨fb, tm, wm, b0, r0, db, w0, g0, pm, bm, 4, 0, 1, page, 1, 0⟩ : Ad) h0 [(pb, .cells (partsC 1024 16 (256 * page) 256 ((0 : Int) == 0) 1100 1) false), (wb, .cells [.ptr (some ⟨pm, 0⟩), .ptr (some ⟨fb, 0⟩), .ptr (some ⟨db, 0⟩), .ptr (some ⟨g0, 0⟩), .ptr (some ⟨g1, 0⟩), .ptr (some ⟨r0, 0⟩), .ptr (some ⟨r1, 0⟩), .ptr (some ⟨b0, 0⟩), .ptr (some ⟨b1, 0⟩)] false)] (reqM (fun _ => 0) 0 1) 0 0 [] [] g2 :=
    ⟨Fc 32, bs1, mk1, bt, ct, bw, cw, [], 0, _, _, M1, ok, ⟨rfl, rfl, hf1, hf2⟩, ⟨List.nodup_nil, by simp, rfl⟩, rfl, rfl, trivial, rfl, (B.step S2).pick [4, 5, 6, 7, 8, 9, 1, 2, 3, 0, 10] (by decide) rfl⟩
  have O1 : Off (reqM (fun _ => 0) 0 1) page 0 := ⟨fun h => absurd h (by decide), fun k hk => by unfold reqM upd; rw [if_neg (by omega), if_neg (by omega), if_neg (by omega)], rfl, rfl, fun h => absurd h (by decide)⟩
  clear B S2 M1
  generalize reqM (fun _ => 0) 0 1 = m at W1 O1
  clear hf1 hf2
  -- what the disk does, is given back, and one more is asked
  have loop3 : ∀ I : Int → Option Ptr → Option Ptr → Int → Int → Heap → Prop, (∀ a1 a2 a3 a4 a5 h, palisadelaw24_BackendFull.b23 U I a1 a2 a3 a4 a5 Q h → I a1 a2 a3 a4 a5 h) → ∀ (j i : Nat) (m : Nat → Int) (ws : List Wt) (h : Heap), ws.length = 8 → i + j = n → i ≤ n → Off m page (8 + n) → Wld (⟨fb, tm, wm, b0, r0, db, w0, g0, pm, bm, 4, 0, 1, page, 1, 0⟩ : Ad) h0 [(pb, .cells (partsC 1024 16 (256 * page) 256 ((0 : Int) == 0) 1100 1) false), (wb, .cells [.ptr (some ⟨pm, 0⟩), .ptr (some ⟨fb, 0⟩), .ptr (some ⟨db, 0⟩), .ptr (some ⟨g0, 0⟩), .ptr (some ⟨g1, 0⟩), .ptr (some ⟨r0, 0⟩), .ptr (some ⟨r1, 0⟩), .ptr (some ⟨b0, 0⟩), .ptr (some ⟨b1, 0⟩)] false)] m (8 + i) i ws ws h → I page (some ⟨wb, 0⟩) (some ⟨g0, 0⟩) (n : Int) (i : Int) h := by
    intro I HI j
    induction j with
    | zero =>
      intro i m ws h hl hij hin O Wl
      obtain rfl : i = n := by omega
      refine HI _ _ _ _ _ _ ?_
      unfold palisadelaw24_BackendFull.b23
      refine br_f (decide_eq_false (by omega)) ?_
      obtain ⟨F, bs, mk, bt, ct, bw, cw, eb, ec, y, d, M, a3, fr, eq, hdn, hp, row, hgt, B⟩ := id Wl
      simp only [Ad.L, List.cons_append, List.nil_append] at B
      have S_ := B.st.base
      repeat (first | ((with_reducible first|apply St.rI|apply St.rB|apply St.rP|apply St.rSl|apply St.rV|apply St.rM|apply St.rS|apply St.rN|apply St.ckA);assumption;(first|exact i0|exact i1|exact i2|exact i3|exact i4|exact i5|exact i6|exact i7|exact i8|exact i9|exact i10|exact i11|exact i12|exact i13|exact i14|exact i15);(first|rfl|exact Nat.le_of_ble_eq_true rfl)) | with_reducible refine der_of ?_ | ((with_reducible refine br_t ?_ ?_);rfl) | ((with_reducible refine br_f ?_ ?_);rfl) | ((with_reducible refine br_t ?_ ?_);assumption) | ((with_reducible refine br_f ?_ ?_);assumption) | ((with_reducible first|apply St.wrL|apply St.wr);assumption;(first|exact i0|exact i1|exact i2|exact i3|exact i4|exact i5|exact i6|exact i7|exact i8|exact i9|exact i10|exact i11|exact i12|exact i13|exact i14|exact i15);(first|exact Nat.le_of_ble_eq_true rfl|rfl);intro g_ S_;simp only [Ptr.add, List.set, splice, List.take, List.drop, List.nil_append, List.append_nil, List.cons_append, List.length_cons, List.length_nil, Nat.zero_add, Nat.add_zero, Nat.reduceAdd, Nat.reduceMul, Nat.mul_one, Int.toNat_zero, Int.toNat_one, Int.reduceToNat] at S_) | ((with_reducible refine ix_of ?_ ?_ ?_);exact of_decide_eq_true rfl;exact of_decide_eq_true rfl) | ((with_reducible first|refine nz_of ?_ ?_|refine nneg_of ?_ ?_);exact of_decide_eq_true rfl) | ((with_reducible refine chk_of ?_ ?_);rfl) | (with_reducible first|apply asI_of|apply asB_of|apply asP_of|apply asSl_of|apply asAggV_of|apply asTupV_of|apply asCons_of|apply asNil_of|apply isNil_n|apply isNil_i|apply nilC_i) | ((with_reducible refine And.intro ?_ ?_);rfl) | ((with_reducible apply exAnd);rfl))
      have efr : IntKind.i64.wrap (((4 : Nat) : Int) + page) = (((4 : Nat) : Int) + page) := by rw [wrap64] <;> omega
      rw [efr]
      refine Owner_of (rep_at (i := 0) (j := 1) (k := 2) S_ a3 rfl rfl rfl (by decide)) fr.t (by omega) fr.w ?_
      repeat (first | ((with_reducible first|apply St.rI|apply St.rB|apply St.rP|apply St.rSl|apply St.rV|apply St.rM|apply St.rS|apply St.rN|apply St.ckA);assumption;(first|exact i0|exact i1|exact i2|exact i3|exact i4|exact i5|exact i6|exact i7|exact i8|exact i9|exact i10|exact i11|exact i12|exact i13|exact i14|exact i15);(first|rfl|exact Nat.le_of_ble_eq_true rfl)) | with_reducible refine der_of ?_ | ((with_reducible refine br_t ?_ ?_);rfl) | ((with_reducible refine br_f ?_ ?_);rfl) | ((with_reducible refine br_t ?_ ?_);assumption) | ((with_reducible refine br_f ?_ ?_);assumption) | ((with_reducible first|apply St.wrL|apply St.wr);assumption;(first|exact i0|exact i1|exact i2|exact i3|exact i4|exact i5|exact i6|exact i7|exact i8|exact i9|exact i10|exact i11|exact i12|exact i13|exact i14|exact i15);(first|exact Nat.le_of_ble_eq_true rfl|rfl);intro g_ S_;simp only [Ptr.add, List.set, splice, List.take, List.drop, List.nil_append, List.append_nil, List.cons_append, List.length_cons, List.length_nil, Nat.zero_add, Nat.add_zero, Nat.reduceAdd, Nat.reduceMul, Nat.mul_one, Int.toNat_zero, Int.toNat_one, Int.reduceToNat] at S_) | ((with_reducible refine ix_of ?_ ?_ ?_);exact of_decide_eq_true rfl;exact of_decide_eq_true rfl) | ((with_reducible first|refine nz_of ?_ ?_|refine nneg_of ?_ ?_);exact of_decide_eq_true rfl) | ((with_reducible refine chk_of ?_ ?_);rfl) | (with_reducible first|apply asI_of|apply asB_of|apply asP_of|apply asSl_of|apply asAggV_of|apply asTupV_of|apply asCons_of|apply asNil_of|apply isNil_n|apply isNil_i|apply nilC_i) | ((with_reducible refine And.intro ?_ ?_);rfl) | ((with_reducible apply exAnd);rfl))
      clear S_ B M a3 fr eq hp row hgt hdn
      refine drop_all pok (by omega) Wl (fun F bs mk bt ct bw cw eb ec h2 a3 fr S2 => ?_)
      unfold palisadelaw24_BackendFull.j32
      have S_ := S2
      simp only [Ad.L, List.cons_append, List.nil_append] at S_
      repeat (first | ((with_reducible first|apply St.rI|apply St.rB|apply St.rP|apply St.rSl|apply St.rV|apply St.rM|apply St.rS|apply St.rN|apply St.ckA);assumption;(first|exact i0|exact i1|exact i2|exact i3|exact i4|exact i5|exact i6|exact i7|exact i8|exact i9|exact i10|exact i11|exact i12|exact i13|exact i14|exact i15);(first|rfl|exact Nat.le_of_ble_eq_true rfl)) | with_reducible refine der_of ?_ | ((with_reducible refine br_t ?_ ?_);rfl) | ((with_reducible refine br_f ?_ ?_);rfl) | ((with_reducible refine br_t ?_ ?_);assumption) | ((with_reducible refine br_f ?_ ?_);assumption) | ((with_reducible first|apply St.wrL|apply St.wr);assumption;(first|exact i0|exact i1|exact i2|exact i3|exact i4|exact i5|exact i6|exact i7|exact i8|exact i9|exact i10|exact i11|exact i12|exact i13|exact i14|exact i15);(first|exact Nat.le_of_ble_eq_true rfl|rfl);intro g_ S_;simp only [Ptr.add, List.set, splice, List.take, List.drop, List.nil_append, List.append_nil, List.cons_append, List.length_cons, List.length_nil, Nat.zero_add, Nat.add_zero, Nat.reduceAdd, Nat.reduceMul, Nat.mul_one, Int.toNat_zero, Int.toNat_one, Int.reduceToNat] at S_) | ((with_reducible refine ix_of ?_ ?_ ?_);exact of_decide_eq_true rfl;exact of_decide_eq_true rfl) | ((with_reducible first|refine nz_of ?_ ?_|refine nneg_of ?_ ?_);exact of_decide_eq_true rfl) | ((with_reducible refine chk_of ?_ ?_);rfl) | (with_reducible first|apply asI_of|apply asB_of|apply asP_of|apply asSl_of|apply asAggV_of|apply asTupV_of|apply asCons_of|apply asNil_of|apply isNil_n|apply isNil_i|apply nilC_i) | ((with_reducible refine And.intro ?_ ?_);rfl) | ((with_reducible apply exAnd);rfl))
      rw [efr]
      refine Owner_of (rep_at (i := 0) (j := 1) (k := 2) S_ a3 rfl rfl rfl (by decide)) fr.t (by decide) fr.w ?_
      refine br_t (by rw [hl]; rfl) (br_t rfl ?_)
      repeat (first | ((with_reducible first|apply St.rI|apply St.rB|apply St.rP|apply St.rSl|apply St.rV|apply St.rM|apply St.rS|apply St.rN|apply St.ckA);assumption;(first|exact i0|exact i1|exact i2|exact i3|exact i4|exact i5|exact i6|exact i7|exact i8|exact i9|exact i10|exact i11|exact i12|exact i13|exact i14|exact i15);(first|rfl|exact Nat.le_of_ble_eq_true rfl)) | with_reducible refine der_of ?_ | ((with_reducible refine br_t ?_ ?_);rfl) | ((with_reducible refine br_f ?_ ?_);rfl) | ((with_reducible refine br_t ?_ ?_);assumption) | ((with_reducible refine br_f ?_ ?_);assumption) | ((with_reducible first|apply St.wrL|apply St.wr);assumption;(first|exact i0|exact i1|exact i2|exact i3|exact i4|exact i5|exact i6|exact i7|exact i8|exact i9|exact i10|exact i11|exact i12|exact i13|exact i14|exact i15);(first|exact Nat.le_of_ble_eq_true rfl|rfl);intro g_ S_;simp only [Ptr.add, List.set, splice, List.take, List.drop, List.nil_append, List.append_nil, List.cons_append, List.length_cons, List.length_nil, Nat.zero_add, Nat.add_zero, Nat.reduceAdd, Nat.reduceMul, Nat.mul_one, Int.toNat_zero, Int.toNat_one, Int.reduceToNat] at S_) | ((with_reducible refine ix_of ?_ ?_ ?_);exact of_decide_eq_true rfl;exact of_decide_eq_true rfl) | ((with_reducible first|refine nz_of ?_ ?_|refine nneg_of ?_ ?_);exact of_decide_eq_true rfl) | ((with_reducible refine chk_of ?_ ?_);rfl) | (with_reducible first|apply asI_of|apply asB_of|apply asP_of|apply asSl_of|apply asAggV_of|apply asTupV_of|apply asCons_of|apply asNil_of|apply isNil_n|apply isNil_i|apply nilC_i) | ((with_reducible refine And.intro ?_ ?_);rfl) | ((with_reducible apply exAnd);rfl) | unfold backend_Block_Waits)
      unfold mapLen
      refine ⟨_, _, _, _, S_.obj (i := 4) rfl, ?_⟩
      exact hQ _
    | succ j ih =>
      intro i m ws h hl hij hin O Wl
      obtain ⟨q, ws, rfl⟩ : ∃ q ws', ws = q :: ws' := by
        cases ws with
        | nil => simp at hl
        | cons q ws => exact ⟨q, ws, rfl⟩
      simp only [List.length_cons] at hl
      refine HI _ _ _ _ _ _ ?_
      unfold palisadelaw24_BackendFull.b23
      refine br_t (decide_eq_true (by omega)) ?_
      have fin : ∀ (b : Nat) (m' : Nat → Int) (h : Heap), (∀ j, j < 192 → m' j = m j) → Wld (⟨fb, tm, wm, b0, r0, db, w0, g0, pm, bm, 4, 0, 1, page, 1, 0⟩ : Ad) h0 [(b, .cells [.int .i64 ((⟨fb, tm, wm, b0, r0, db, w0, g0, pm, bm, 4, 0, 1, page, 1, 0⟩ : Ad).req q).id, .bool ((⟨fb, tm, wm, b0, r0, db, w0, g0, pm, bm, 4, 0, 1, page, 1, 0⟩ : Ad).req q).write, .int .i64 ((⟨fb, tm, wm, b0, r0, db, w0, g0, pm, bm, 4, 0, 1, page, 1, 0⟩ : Ad).req q).block, .int .i64 ((⟨fb, tm, wm, b0, r0, db, w0, g0, pm, bm, 4, 0, 1, page, 1, 0⟩ : Ad).req q).frame] false), (pb, .cells (partsC 1024 16 (256 * page) 256 ((0 : Int) == 0) 1100 1) false), (wb, .cells [.ptr (some ⟨pm, 0⟩), .ptr (some ⟨fb, 0⟩), .ptr (some ⟨db, 0⟩), .ptr (some ⟨g0, 0⟩), .ptr (some ⟨g1, 0⟩), .ptr (some ⟨r0, 0⟩), .ptr (some ⟨r1, 0⟩), .ptr (some ⟨b0, 0⟩), .ptr (some ⟨b1, 0⟩)] false)] m' (8 + i) i (q :: ws) ws h → palisadelaw24_BackendFull.j26 U I page (some ⟨wb, 0⟩) (some ⟨g0, 0⟩) (n : Int) (i : Int) ⟨b, 0⟩ 0 Q h := by
        intro b m' h hm Wl
        unfold palisadelaw24_BackendFull.j26
        obtain ⟨F, bs, mk, bt, ct, bw, cw, eb, ec, y, d, M, a3, fr, eq, hdn, hp, row, hgt, B⟩ := id Wl
        simp only [Ad.L, List.cons_append, List.nil_append] at B
        have S_ := B.st.base
        repeat (first | ((with_reducible first|apply St.rI|apply St.rB|apply St.rP|apply St.rSl|apply St.rV|apply St.rM|apply St.rS|apply St.rN|apply St.ckA);assumption;(first|exact i0|exact i1|exact i2|exact i3|exact i4|exact i5|exact i6|exact i7|exact i8|exact i9|exact i10|exact i11|exact i12|exact i13|exact i14|exact i15);(first|rfl|exact Nat.le_of_ble_eq_true rfl)) | with_reducible refine der_of ?_ | ((with_reducible refine br_t ?_ ?_);rfl) | ((with_reducible refine br_f ?_ ?_);rfl) | ((with_reducible refine br_t ?_ ?_);assumption) | ((with_reducible refine br_f ?_ ?_);assumption) | ((with_reducible first|apply St.wrL|apply St.wr);assumption;(first|exact i0|exact i1|exact i2|exact i3|exact i4|exact i5|exact i6|exact i7|exact i8|exact i9|exact i10|exact i11|exact i12|exact i13|exact i14|exact i15);(first|exact Nat.le_of_ble_eq_true rfl|rfl);intro g_ S_;simp only [Ptr.add, List.set, splice, List.take, List.drop, List.nil_append, List.append_nil, List.cons_append, List.length_cons, List.length_nil, Nat.zero_add, Nat.add_zero, Nat.reduceAdd, Nat.reduceMul, Nat.mul_one, Int.toNat_zero, Int.toNat_one, Int.reduceToNat] at S_) | ((with_reducible refine ix_of ?_ ?_ ?_);exact of_decide_eq_true rfl;exact of_decide_eq_true rfl) | ((with_reducible first|refine nz_of ?_ ?_|refine nneg_of ?_ ?_);exact of_decide_eq_true rfl) | ((with_reducible refine chk_of ?_ ?_);rfl) | (with_reducible first|apply asI_of|apply asB_of|apply asP_of|apply asSl_of|apply asAggV_of|apply asTupV_of|apply asCons_of|apply asNil_of|apply isNil_n|apply isNil_i|apply nilC_i) | ((with_reducible refine And.intro ?_ ?_);rfl) | ((with_reducible apply exAnd);rfl))
        clear S_ B M a3 fr eq hp row hgt hdn
        refine done1 hu w' hk8 pok (by omega) (by omega) Wl.tl (fun m2 h2 hm1 hm2 W2 => ?_) rfl
        have O2 : Off m2 page (8 + n) := O.same (fun j hj => (hm1 j hj).trans (hm j (by omega))) ((hm2 128 (by decide) (by decide) (by decide)).trans (hm 128 (by decide))) ((hm2 129 (by decide) (by decide) (by decide)).trans (hm 129 (by decide)))
        obtain ⟨F, bs, mk, bt, ct, bw, cw, eb, ec, y, d, M, a3, fr, eq, hdn, hp, row, hgt, B⟩ := id W2
        simp only [Ad.L, List.cons_append, List.nil_append] at B
        have S_ := B.st.base
        repeat (first | ((with_reducible first|apply St.rI|apply St.rB|apply St.rP|apply St.rSl|apply St.rV|apply St.rM|apply St.rS|apply St.rN|apply St.ckA);assumption;(first|exact i0|exact i1|exact i2|exact i3|exact i4|exact i5|exact i6|exact i7|exact i8|exact i9|exact i10|exact i11|exact i12|exact i13|exact i14|exact i15);(first|rfl|exact Nat.le_of_ble_eq_true rfl)) | with_reducible refine der_of ?_ | ((with_reducible refine br_t ?_ ?_);rfl) | ((with_reducible refine br_f ?_ ?_);rfl) | ((with_reducible refine br_t ?_ ?_);assumption) | ((with_reducible refine br_f ?_ ?_);assumption) | ((with_reducible first|apply St.wrL|apply St.wr);assumption;(first|exact i0|exact i1|exact i2|exact i3|exact i4|exact i5|exact i6|exact i7|exact i8|exact i9|exact i10|exact i11|exact i12|exact i13|exact i14|exact i15);(first|exact Nat.le_of_ble_eq_true rfl|rfl);intro g_ S_;simp only [Ptr.add, List.set, splice, List.take, List.drop, List.nil_append, List.append_nil, List.cons_append, List.length_cons, List.length_nil, Nat.zero_add, Nat.add_zero, Nat.reduceAdd, Nat.reduceMul, Nat.mul_one, Int.toNat_zero, Int.toNat_one, Int.reduceToNat] at S_) | ((with_reducible refine ix_of ?_ ?_ ?_);exact of_decide_eq_true rfl;exact of_decide_eq_true rfl) | ((with_reducible first|refine nz_of ?_ ?_|refine nneg_of ?_ ?_);exact of_decide_eq_true rfl) | ((with_reducible refine chk_of ?_ ?_);rfl) | (with_reducible first|apply asI_of|apply asB_of|apply asP_of|apply asSl_of|apply asAggV_of|apply asTupV_of|apply asCons_of|apply asNil_of|apply isNil_n|apply isNil_i|apply nilC_i) | ((with_reducible refine And.intro ?_ ?_);rfl) | ((with_reducible apply exAnd);rfl))
        clear S_ B M a3 fr eq hp row hgt hdn
        refine kicks hu u w' hk8 pok O2.kind O2.block (O2.cnt (by omega)) O2.head (O2.three (by omega)) (t0 := 8 + i) (ws0 := ws) (by omega) 1 (by omega) (by omega) W2 (fun ws3 h3 hl3 W3 => ?_)
        unfold palisadelaw24_BackendFull.j28
        refine br_f rfl (br_f rfl (br_f rfl (br_f rfl (br_f rfl ?_))))
        obtain ⟨F, bs, mk, bt, ct, bw, cw, eb, ec, y, d, M, a3, fr, eq, hdn, hp, row, hgt, B⟩ := id W3
        simp only [Ad.L, List.cons_append, List.nil_append] at B
        have S_ := B.st.base
        repeat (first | ((with_reducible first|apply St.rI|apply St.rB|apply St.rP|apply St.rSl|apply St.rV|apply St.rM|apply St.rS|apply St.rN|apply St.ckA);assumption;(first|exact i0|exact i1|exact i2|exact i3|exact i4|exact i5|exact i6|exact i7|exact i8|exact i9|exact i10|exact i11|exact i12|exact i13|exact i14|exact i15);(first|rfl|exact Nat.le_of_ble_eq_true rfl)) | with_reducible refine der_of ?_ | ((with_reducible refine br_t ?_ ?_);rfl) | ((with_reducible refine br_f ?_ ?_);rfl) | ((with_reducible refine br_t ?_ ?_);assumption) | ((with_reducible refine br_f ?_ ?_);assumption) | ((with_reducible first|apply St.wrL|apply St.wr);assumption;(first|exact i0|exact i1|exact i2|exact i3|exact i4|exact i5|exact i6|exact i7|exact i8|exact i9|exact i10|exact i11|exact i12|exact i13|exact i14|exact i15);(first|exact Nat.le_of_ble_eq_true rfl|rfl);intro g_ S_;simp only [Ptr.add, List.set, splice, List.take, List.drop, List.nil_append, List.append_nil, List.cons_append, List.length_cons, List.length_nil, Nat.zero_add, Nat.add_zero, Nat.reduceAdd, Nat.reduceMul, Nat.mul_one, Int.toNat_zero, Int.toNat_one, Int.reduceToNat] at S_) | ((with_reducible refine ix_of ?_ ?_ ?_);exact of_decide_eq_true rfl;exact of_decide_eq_true rfl) | ((with_reducible first|refine nz_of ?_ ?_|refine nneg_of ?_ ?_);exact of_decide_eq_true rfl) | ((with_reducible refine chk_of ?_ ?_);rfl) | (with_reducible first|apply asI_of|apply asB_of|apply asP_of|apply asSl_of|apply asAggV_of|apply asTupV_of|apply asCons_of|apply asNil_of|apply isNil_n|apply isNil_i|apply nilC_i) | ((with_reducible refine And.intro ?_ ?_);rfl) | ((with_reducible apply exAnd);rfl))
        clear S_ B M a3 fr eq hp row hgt hdn
        refine waits_of W3 (br_f (by rw [hl3]; rfl) ?_)
        unfold palisadelaw24_BackendFull.j24
        rw [show IntKind.i64.wrap ((i : Int) + 1) = ((i + 1 : Nat) : Int) by rw [wrap64] <;> omega]
        exact ih (i + 1) m2 ws3 h3 hl3 (by omega) (by omega) O2 W3
      obtain ⟨F, bs, mk, bt, ct, bw, cw, eb, ec, y, d, M, a3, fr, eq, hdn, hp, row, hgt, B⟩ := id Wl
      simp only [Ad.L, List.cons_append, List.nil_append] at B
      have S_ := B.st.base
      repeat (first | ((with_reducible first|apply St.rI|apply St.rB|apply St.rP|apply St.rSl|apply St.rV|apply St.rM|apply St.rS|apply St.rN|apply St.ckA);assumption;(first|exact i0|exact i1|exact i2|exact i3|exact i4|exact i5|exact i6|exact i7|exact i8|exact i9|exact i10|exact i11|exact i12|exact i13|exact i14|exact i15);(first|rfl|exact Nat.le_of_ble_eq_true rfl)) | with_reducible refine der_of ?_ | ((with_reducible refine br_t ?_ ?_);rfl) | ((with_reducible refine br_f ?_ ?_);rfl) | ((with_reducible refine br_t ?_ ?_);assumption) | ((with_reducible refine br_f ?_ ?_);assumption) | ((with_reducible first|apply St.wrL|apply St.wr);assumption;(first|exact i0|exact i1|exact i2|exact i3|exact i4|exact i5|exact i6|exact i7|exact i8|exact i9|exact i10|exact i11|exact i12|exact i13|exact i14|exact i15);(first|exact Nat.le_of_ble_eq_true rfl|rfl);intro g_ S_;simp only [Ptr.add, List.set, splice, List.take, List.drop, List.nil_append, List.append_nil, List.cons_append, List.length_cons, List.length_nil, Nat.zero_add, Nat.add_zero, Nat.reduceAdd, Nat.reduceMul, Nat.mul_one, Int.toNat_zero, Int.toNat_one, Int.reduceToNat] at S_) | ((with_reducible refine ix_of ?_ ?_ ?_);exact of_decide_eq_true rfl;exact of_decide_eq_true rfl) | ((with_reducible first|refine nz_of ?_ ?_|refine nneg_of ?_ ?_);exact of_decide_eq_true rfl) | ((with_reducible refine chk_of ?_ ?_);rfl) | (with_reducible first|apply asI_of|apply asB_of|apply asP_of|apply asSl_of|apply asAggV_of|apply asTupV_of|apply asCons_of|apply asNil_of|apply isNil_n|apply isNil_i|apply nilC_i) | ((with_reducible refine And.intro ?_ ?_);rfl) | ((with_reducible apply exAnd);rfl))
      clear S_ M a3 fr eq hp row hgt hdn
      refine ⟨?_, ?_⟩
      · refine complete_r u pok rfl Wl (fun m' h' hm W2 => ?_)
        refine W2.al (fun b h2 W3 => W3.wrL rfl (fun h3 W4 => ?_))
        exact fin b m' h3 hm W4
      · refine Wl.al (fun b h2 W3 => ?_)
        clear B
        obtain ⟨F, bs, mk, bt, ct, bw, cw, eb, ec, y, d, M, a3, fr, eq, hdn, hp, row, hgt, B⟩ := id W3
        simp only [Ad.L, List.cons_append, List.nil_append] at B
        have S_ := B.st.base
        repeat (first | ((with_reducible first|apply St.rI|apply St.rB|apply St.rP|apply St.rSl|apply St.rV|apply St.rM|apply St.rS|apply St.rN|apply St.ckA);assumption;(first|exact i0|exact i1|exact i2|exact i3|exact i4|exact i5|exact i6|exact i7|exact i8|exact i9|exact i10|exact i11|exact i12|exact i13|exact i14|exact i15);(first|rfl|exact Nat.le_of_ble_eq_true rfl)) | with_reducible refine der_of ?_ | ((with_reducible refine br_t ?_ ?_);rfl) | ((with_reducible refine br_f ?_ ?_);rfl) | ((with_reducible refine br_t ?_ ?_);assumption) | ((with_reducible refine br_f ?_ ?_);assumption) | ((with_reducible first|apply St.wrL|apply St.wr);assumption;(first|exact i0|exact i1|exact i2|exact i3|exact i4|exact i5|exact i6|exact i7|exact i8|exact i9|exact i10|exact i11|exact i12|exact i13|exact i14|exact i15);(first|exact Nat.le_of_ble_eq_true rfl|rfl);intro g_ S_;simp only [Ptr.add, List.set, splice, List.take, List.drop, List.nil_append, List.append_nil, List.cons_append, List.length_cons, List.length_nil, Nat.zero_add, Nat.add_zero, Nat.reduceAdd, Nat.reduceMul, Nat.mul_one, Int.toNat_zero, Int.toNat_one, Int.reduceToNat] at S_) | ((with_reducible refine ix_of ?_ ?_ ?_);exact of_decide_eq_true rfl;exact of_decide_eq_true rfl) | ((with_reducible first|refine nz_of ?_ ?_|refine nneg_of ?_ ?_);exact of_decide_eq_true rfl) | ((with_reducible refine chk_of ?_ ?_);rfl) | (with_reducible first|apply asI_of|apply asB_of|apply asP_of|apply asSl_of|apply asAggV_of|apply asTupV_of|apply asCons_of|apply asNil_of|apply isNil_n|apply isNil_i|apply nilC_i) | ((with_reducible refine And.intro ?_ ?_);rfl) | ((with_reducible apply exAnd);rfl))
        refine complete_r u pok rfl W3 (fun m' h' hm W4 => ?_)
        refine W4.wrL rfl (fun h3 W5 => ?_)
        exact fin b m' h3 hm W5
  -- the first offers
  unfold palisadelaw24_BackendFull.j9
  intro I HI
  have loop1 : ∀ (j i : Nat) (m : Nat → Int) (h : Heap), i + j = 8 → Off m page i → Wld (⟨fb, tm, wm, b0, r0, db, w0, g0, pm, bm, 4, 0, 1, page, 1, 0⟩ : Ad) h0 [(pb, .cells (partsC 1024 16 (256 * page) 256 ((0 : Int) == 0) 1100 1) false), (wb, .cells [.ptr (some ⟨pm, 0⟩), .ptr (some ⟨fb, 0⟩), .ptr (some ⟨db, 0⟩), .ptr (some ⟨g0, 0⟩), .ptr (some ⟨g1, 0⟩), .ptr (some ⟨r0, 0⟩), .ptr (some ⟨r1, 0⟩), .ptr (some ⟨b0, 0⟩), .ptr (some ⟨b1, 0⟩)] false)] m 0 0 [] [] h → I page (some ⟨wb, 0⟩) (some ⟨g0, 0⟩) ⟨some ⟨pb, 0⟩, 3, 3⟩ (n : Int) (i : Int) h := by
    intro j
    induction j with
    | succ j ih =>
      intro i m h hij O Wl
      refine HI _ _ _ _ _ _ _ ?_
      unfold palisadelaw24_BackendFull.b9
      refine br_t (decide_eq_true (by omega)) ?_
      refine offer_w w hk8 pok (c := i) (by omega) Wl (fun h' Wl' => ?_) rfl
      rw [show IntKind.i64.wrap ((i : Int) + 1) = ((i + 1 : Nat) : Int) by rw [wrap64] <;> omega]
      exact ih (i + 1) _ h' (by omega) (O.next (by omega)) Wl'
    | zero =>
      intro i m h hij O Wl
      obtain rfl : i = 8 := by omega
      refine HI _ _ _ _ _ _ _ ?_
      unfold palisadelaw24_BackendFull.b9
      refine br_f rfl ?_
      obtain ⟨F, bs, mk, bt, ct, bw, cw, eb, ec, y, d, M, a3, fr, eq, hdn, hp, row, hgt, B⟩ := id Wl
      simp only [Ad.L, List.cons_append, List.nil_append] at B
      have S_ := B.st.base
      repeat (first | ((with_reducible first|apply St.rI|apply St.rB|apply St.rP|apply St.rSl|apply St.rV|apply St.rM|apply St.rS|apply St.rN|apply St.ckA);assumption;(first|exact i0|exact i1|exact i2|exact i3|exact i4|exact i5|exact i6|exact i7|exact i8|exact i9|exact i10|exact i11|exact i12|exact i13|exact i14|exact i15);(first|rfl|exact Nat.le_of_ble_eq_true rfl)) | with_reducible refine der_of ?_ | ((with_reducible refine br_t ?_ ?_);rfl) | ((with_reducible refine br_f ?_ ?_);rfl) | ((with_reducible refine br_t ?_ ?_);assumption) | ((with_reducible refine br_f ?_ ?_);assumption) | ((with_reducible first|apply St.wrL|apply St.wr);assumption;(first|exact i0|exact i1|exact i2|exact i3|exact i4|exact i5|exact i6|exact i7|exact i8|exact i9|exact i10|exact i11|exact i12|exact i13|exact i14|exact i15);(first|exact Nat.le_of_ble_eq_true rfl|rfl);intro g_ S_;simp only [Ptr.add, List.set, splice, List.take, List.drop, List.nil_append, List.append_nil, List.cons_append, List.length_cons, List.length_nil, Nat.zero_add, Nat.add_zero, Nat.reduceAdd, Nat.reduceMul, Nat.mul_one, Int.toNat_zero, Int.toNat_one, Int.reduceToNat] at S_) | ((with_reducible refine ix_of ?_ ?_ ?_);exact of_decide_eq_true rfl;exact of_decide_eq_true rfl) | ((with_reducible first|refine nz_of ?_ ?_|refine nneg_of ?_ ?_);exact of_decide_eq_true rfl) | ((with_reducible refine chk_of ?_ ?_);rfl) | (with_reducible first|apply asI_of|apply asB_of|apply asP_of|apply asSl_of|apply asAggV_of|apply asTupV_of|apply asCons_of|apply asNil_of|apply isNil_n|apply isNil_i|apply nilC_i) | ((with_reducible refine And.intro ?_ ?_);rfl) | ((with_reducible apply exAnd);rfl))
      clear S_ B
      refine kicks hu u w' hk8 pok O.kind O.block (O.cnt (by decide)) O.head (O.three (by decide)) (t0 := 0) (ws0 := []) (by decide) 8 rfl (by decide) Wl (fun ws h2 hl W2 => ?_)
      refine br_f rfl (br_f rfl ?_)
      clear Wl M a3 fr eq hp row hgt hdn
      obtain ⟨F, bs, mk, bt, ct, bw, cw, eb, ec, y, d, M, a3, fr, eq, hdn, hp, row, hgt, B⟩ := id W2
      simp only [Ad.L, List.cons_append, List.nil_append] at B
      have S_ := B.st.base
      repeat (first | ((with_reducible first|apply St.rI|apply St.rB|apply St.rP|apply St.rSl|apply St.rV|apply St.rM|apply St.rS|apply St.rN|apply St.ckA);assumption;(first|exact i0|exact i1|exact i2|exact i3|exact i4|exact i5|exact i6|exact i7|exact i8|exact i9|exact i10|exact i11|exact i12|exact i13|exact i14|exact i15);(first|rfl|exact Nat.le_of_ble_eq_true rfl)) | with_reducible refine der_of ?_ | ((with_reducible refine br_t ?_ ?_);rfl) | ((with_reducible refine br_f ?_ ?_);rfl) | ((with_reducible refine br_t ?_ ?_);assumption) | ((with_reducible refine br_f ?_ ?_);assumption) | ((with_reducible first|apply St.wrL|apply St.wr);assumption;(first|exact i0|exact i1|exact i2|exact i3|exact i4|exact i5|exact i6|exact i7|exact i8|exact i9|exact i10|exact i11|exact i12|exact i13|exact i14|exact i15);(first|exact Nat.le_of_ble_eq_true rfl|rfl);intro g_ S_;simp only [Ptr.add, List.set, splice, List.take, List.drop, List.nil_append, List.append_nil, List.cons_append, List.length_cons, List.length_nil, Nat.zero_add, Nat.add_zero, Nat.reduceAdd, Nat.reduceMul, Nat.mul_one, Int.toNat_zero, Int.toNat_one, Int.reduceToNat] at S_) | ((with_reducible refine ix_of ?_ ?_ ?_);exact of_decide_eq_true rfl;exact of_decide_eq_true rfl) | ((with_reducible first|refine nz_of ?_ ?_|refine nneg_of ?_ ?_);exact of_decide_eq_true rfl) | ((with_reducible refine chk_of ?_ ?_);rfl) | (with_reducible first|apply asI_of|apply asB_of|apply asP_of|apply asSl_of|apply asAggV_of|apply asTupV_of|apply asCons_of|apply asNil_of|apply isNil_n|apply isNil_i|apply nilC_i) | ((with_reducible refine And.intro ?_ ?_);rfl) | ((with_reducible apply exAnd);rfl))
      clear S_ B M a3 fr eq hp row hgt hdn
      refine waits_of W2 (br_f (by rw [hl]; rfl) ?_)
      -- more offers
      unfold palisadelaw24_BackendFull.j15 palisadelaw24_BackendFull.j16
      clear HI I
      intro I HI
      have loop2 : ∀ (j i : Nat) (m : Nat → Int) (h : Heap), i + j = n → Off m page (8 + i) → Wld (⟨fb, tm, wm, b0, r0, db, w0, g0, pm, bm, 4, 0, 1, page, 1, 0⟩ : Ad) h0 [(pb, .cells (partsC 1024 16 (256 * page) 256 ((0 : Int) == 0) 1100 1) false), (wb, .cells [.ptr (some ⟨pm, 0⟩), .ptr (some ⟨fb, 0⟩), .ptr (some ⟨db, 0⟩), .ptr (some ⟨g0, 0⟩), .ptr (some ⟨g1, 0⟩), .ptr (some ⟨r0, 0⟩), .ptr (some ⟨r1, 0⟩), .ptr (some ⟨b0, 0⟩), .ptr (some ⟨b1, 0⟩)] false)] m 8 0 ws ws h → I page (some ⟨wb, 0⟩) (some ⟨g0, 0⟩) ⟨some ⟨pb, 0⟩, 3, 3⟩ (n : Int) (i : Int) h := by
        skip
        intro j
        induction j with
        | succ j ih =>
          intro i m h hij O Wl
          refine HI _ _ _ _ _ _ _ ?_
          unfold palisadelaw24_BackendFull.b16
          refine br_t (decide_eq_true (by omega)) ?_
          refine offer_w w hk8 pok (c := 8 + i) (by omega) Wl (fun h' Wl' => ?_) (by rw [wrap64] <;> omega)
          rw [show IntKind.i64.wrap ((i : Int) + 1) = ((i + 1 : Nat) : Int) by rw [wrap64] <;> omega]
          exact ih (i + 1) _ h' (by omega) (O.next (by omega)) Wl'
        | zero =>
          intro i m h hij O Wl
          obtain rfl : i = n := by omega
          refine HI _ _ _ _ _ _ _ ?_
          unfold palisadelaw24_BackendFull.b16
          refine br_f (decide_eq_false (by omega)) ?_
          obtain ⟨F, bs, mk, bt, ct, bw, cw, eb, ec, y, d, M, a3, fr, eq, hdn, hp, row, hgt, B⟩ := id Wl
          simp only [Ad.L, List.cons_append, List.nil_append] at B
          have S_ := B.st.base
          repeat (first | ((with_reducible first|apply St.rI|apply St.rB|apply St.rP|apply St.rSl|apply St.rV|apply St.rM|apply St.rS|apply St.rN|apply St.ckA);assumption;(first|exact i0|exact i1|exact i2|exact i3|exact i4|exact i5|exact i6|exact i7|exact i8|exact i9|exact i10|exact i11|exact i12|exact i13|exact i14|exact i15);(first|rfl|exact Nat.le_of_ble_eq_true rfl)) | with_reducible refine der_of ?_ | ((with_reducible refine br_t ?_ ?_);rfl) | ((with_reducible refine br_f ?_ ?_);rfl) | ((with_reducible refine br_t ?_ ?_);assumption) | ((with_reducible refine br_f ?_ ?_);assumption) | ((with_reducible first|apply St.wrL|apply St.wr);assumption;(first|exact i0|exact i1|exact i2|exact i3|exact i4|exact i5|exact i6|exact i7|exact i8|exact i9|exact i10|exact i11|exact i12|exact i13|exact i14|exact i15);(first|exact Nat.le_of_ble_eq_true rfl|rfl);intro g_ S_;simp only [Ptr.add, List.set, splice, List.take, List.drop, List.nil_append, List.append_nil, List.cons_append, List.length_cons, List.length_nil, Nat.zero_add, Nat.add_zero, Nat.reduceAdd, Nat.reduceMul, Nat.mul_one, Int.toNat_zero, Int.toNat_one, Int.reduceToNat] at S_) | ((with_reducible refine ix_of ?_ ?_ ?_);exact of_decide_eq_true rfl;exact of_decide_eq_true rfl) | ((with_reducible first|refine nz_of ?_ ?_|refine nneg_of ?_ ?_);exact of_decide_eq_true rfl) | ((with_reducible refine chk_of ?_ ?_);rfl) | (with_reducible first|apply asI_of|apply asB_of|apply asP_of|apply asSl_of|apply asAggV_of|apply asTupV_of|apply asCons_of|apply asNil_of|apply isNil_n|apply isNil_i|apply nilC_i) | ((with_reducible refine And.intro ?_ ?_);rfl) | ((with_reducible apply exAnd);rfl))
          clear S_ B M a3 fr eq hp row hgt hdn
          refine kicks hu u w' hk8 pok O.kind O.block (O.cnt (by omega)) O.head (O.three (by omega)) (t0 := 8) (ws0 := ws) (by decide) 0 hl (by omega) Wl (fun ws h2 hl W2 => ?_)
          refine br_f rfl (br_f rfl ?_)
          obtain ⟨F, bs, mk, bt, ct, bw, cw, eb, ec, y, d, M, a3, fr, eq, hdn, hp, row, hgt, B⟩ := id W2
          simp only [Ad.L, List.cons_append, List.nil_append] at B
          have S_ := B.st.base
          repeat (first | ((with_reducible first|apply St.rI|apply St.rB|apply St.rP|apply St.rSl|apply St.rV|apply St.rM|apply St.rS|apply St.rN|apply St.ckA);assumption;(first|exact i0|exact i1|exact i2|exact i3|exact i4|exact i5|exact i6|exact i7|exact i8|exact i9|exact i10|exact i11|exact i12|exact i13|exact i14|exact i15);(first|rfl|exact Nat.le_of_ble_eq_true rfl)) | with_reducible refine der_of ?_ | ((with_reducible refine br_t ?_ ?_);rfl) | ((with_reducible refine br_f ?_ ?_);rfl) | ((with_reducible refine br_t ?_ ?_);assumption) | ((with_reducible refine br_f ?_ ?_);assumption) | ((with_reducible first|apply St.wrL|apply St.wr);assumption;(first|exact i0|exact i1|exact i2|exact i3|exact i4|exact i5|exact i6|exact i7|exact i8|exact i9|exact i10|exact i11|exact i12|exact i13|exact i14|exact i15);(first|exact Nat.le_of_ble_eq_true rfl|rfl);intro g_ S_;simp only [Ptr.add, List.set, splice, List.take, List.drop, List.nil_append, List.append_nil, List.cons_append, List.length_cons, List.length_nil, Nat.zero_add, Nat.add_zero, Nat.reduceAdd, Nat.reduceMul, Nat.mul_one, Int.toNat_zero, Int.toNat_one, Int.reduceToNat] at S_) | ((with_reducible refine ix_of ?_ ?_ ?_);exact of_decide_eq_true rfl;exact of_decide_eq_true rfl) | ((with_reducible first|refine nz_of ?_ ?_|refine nneg_of ?_ ?_);exact of_decide_eq_true rfl) | ((with_reducible refine chk_of ?_ ?_);rfl) | (with_reducible first|apply asI_of|apply asB_of|apply asP_of|apply asSl_of|apply asAggV_of|apply asTupV_of|apply asCons_of|apply asNil_of|apply isNil_n|apply isNil_i|apply nilC_i) | ((with_reducible refine And.intro ?_ ?_);rfl) | ((with_reducible apply exAnd);rfl))
          clear S_ B M a3 fr eq hp row hgt hdn
          refine waits_of W2 (br_f (by rw [hl]; rfl) ?_)
          unfold palisadelaw24_BackendFull.j22 palisadelaw24_BackendFull.j23
          clear HI I Wl
          intro I HI
          exact loop3 I HI i 0 m ws h2 hl (by omega) (by omega) O W2
      exact loop2 n 0 m h2 (by omega) O W2
  exact loop1 8 0 m g2 rfl O1 W1

end
end Go.Back
