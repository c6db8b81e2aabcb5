/- What the program shows of a word. -/
import Derived.Test.YtgigbjieppllgaaDoorShJ
set_option linter.unusedSimpArgs false
set_option linter.unusedVariables false
set_option maxRecDepth 100000
namespace Go.Insn
open Go.Lift Go.Fn

theorem rune_ascii {s : List UInt8} {i : Nat} (hi : i < s.length) (ha : (s.getD i 0).toNat < 128) : runeAt s i = ((s.getD i 0).toNat, 1) := by
  unfold runeAt Utf8.decode
  have e : ((⟨s.toArray⟩ : ByteArray).get! (i + 0)).toNat = (s.getD i 0).toNat := by
    show ((s.toArray)[i]!).toNat = _
    rw [List.getD_eq_getElem?_getD, List.getElem?_eq_getElem hi]
    simp [hi]
  simp only [e]
  rw [if_pos ha]

section
variable {h0 h : Heap} {W : Nat → Prop} {L : List (Nat × HO)}

theorem app_one {n c cb bytes : Nat} {z vs rest new : List V} {mk : Bool} {κ : Sl → Heap → Prop} (S : St h0 W ((cb, .cells (vs ++ rest) mk) :: L) h) (hvs : vs.length = n) (hc : n ≤ c) (hr : rest.length = (c - n) * 1) (hnew : new.length = 1) (hz : z.length = 1) (hb : bytes ≤ 1000) (hn : n ≤ 1000)
    (hk : ∀ cb' c' rest' mk' h', St h0 W ((cb', .cells (vs ++ new ++ rest') mk') :: L) h' → n + 1 ≤ c' → rest'.length = (c' - (n + 1)) * 1 → κ ⟨some ⟨cb', 0⟩, n + 1, c'⟩ h') : appS 1 bytes z ⟨some ⟨cb, 0⟩, n, c⟩ new 1 κ h := by
  have O : Own h ⟨some ⟨cb, 0⟩, n, c⟩ 1 vs cb := ⟨rfl, hc, by rw [hvs]; simp, rest, mk, S.obj i0, hr⟩
  refine appS_own O (by omega) hz (by show (n + 1) * bytes ≤ _; have := Nat.mul_le_mul (show n + 1 ≤ 1001 by omega) hb; omega) (by show n + 1 ≤ _; omega) (fun s h1 cb' O1 hl hbb k1 => ?_)
  obtain ⟨rest', mk', ho, hr'⟩ := O1.obj
  have hp := O1.p
  have hc' := O1.cap
  obtain ⟨sp, sl, sc⟩ := s
  simp only at hp hl hc' hr'
  subst hp hl
  rcases hbb with rfl | hf
  · exact hk cb' sc rest' mk' h1 (S.put i0 ho k1) hc' hr'
  · have S1 : St h0 W L h1 := S.tail.keepW k1 (fun b y hb e => by
      have := S.nodup
      simp only [List.map_cons, List.nodup_cons] at this
      exact this.1 (List.mem_map.2 ⟨(b, y), hb, e⟩)) (fun zz e hz => by
        rcases S.new cb _ (List.mem_cons_self) with h2 | h2
        · exact absurd h2 (by rw [← e]; exact hz)
        · rw [e]; exact h2)
    have hn0 : h0.obj cb' = none := by
      cases hh : h0.obj cb' with
      | none => rfl
      | some z => exact absurd hf (S.keeps.known cb' (by rw [hh]; simp))
    exact hk cb' sc rest' mk' h1 (S1.add ho (.inl hn0) (S.tail.fresh (x := .cells [] false) hf)) hc' hr'

end

section
variable {U : Ifc} {h0 h : Heap}

theorem itoa_of (ht : (3, Lib.pow10Tab.map (V.int .u64)) ∈ U.tabs) {v : Int} (h1 : -9223372036854775808 ≤ v) (h2 : v ≤ 9223372036854775807) {Q : List UInt8 → Heap → Prop} (hq : Q (Lib.itoa v) h) : strconv_Itoa U v Q h := by
  unfold strconv_Itoa
  exact ⟨h1, h2, ht, hq⟩

theorem loop_asm (ht : (3, Lib.pow10Tab.map (V.int .u64)) ∈ U.tabs) {d : Dec} (D : DecIs d) {b it : Nat} {nm ord : List UInt8} {Q : List UInt8 → Heap → Prop} (ho : ord.length ≤ 10) (hnm : nm.length ≤ 10) (hasc : ∀ i, i < ord.length → (ord.getD i 0).toNat < 128) {I : Ptr → Sl → Ptr → Heap → Prop} (HI : ∀ a1 a2 a3 h, asm_Show.b6 U I a1 a2 a3 Q h → I a1 a2 a3 h) :
    ∀ k i : Nat, i + k = ord.length → ∀ (sb c : Nat) (rest : List V) (mk : Bool) (h : Heap), St h0 none_ [(sb, .cells ((nm :: (ord.take i).map (part d)).map V.str ++ rest) mk), (it, .siter ord i), (b, .cells [.int .i64 d.op, .int .i64 d.rd, .int .i64 d.rs1, .int .i64 d.rs2, .int .i64 d.imm] false)] h → i + 1 ≤ c → rest.length = (c - (i + 1)) * 1 → (∀ h', Keeps none_ h0 h' → Q (Lib.join (nm :: ord.map (part d)) [32]) h') → I ⟨b, 0⟩ ⟨some ⟨sb, 0⟩, i + 1, c⟩ ⟨it, 0⟩ h := by
  intro k
  induction k with
  | zero =>
    intro i hi sb c rest mk h S hc hr hq
    refine HI _ _ _ _ ?_
    unfold asm_Show.b6
    refine ⟨rfl, ord, i, S.obj i1, ?_⟩
    rw [if_neg (by omega)]
    unfold strings_Join
    rw [List.take_of_length_le (by omega)] at S
    refine ⟨⟨sb, 0⟩, nm :: ord.map (part d), rfl, by simp; omega, hc, fun j x hj => ?_, by rw [S.obj i0]; simp, by simp; omega, ?_, hq h S.keeps⟩
    · rw [get_cells (S.obj i0), Nat.zero_add, List.getElem?_append_left (by
        rcases Nat.lt_or_ge j (nm :: ord.map (part d)).length with h1 | h1
        · rw [List.length_map]; exact h1
        · rw [List.getElem?_eq_none h1] at hj; cases hj), List.getElem?_map, hj]
      rfl
    · rw [Lib.join_cons]
      unfold Lib.joinTail
      have hl : ∀ l : List UInt8, (((l.map (part d)).map ([32] ++ ·)).flatten).length ≤ 13 * l.length := by
        intro l
        induction l with
        | nil => simp
        | cons x l ih =>
          have := part_len D x
          simp only [List.map_cons, List.flatten_cons, List.length_append, List.length_cons, List.length_nil] at ih ⊢
          omega
      have := hl ord
      rw [List.length_append]
      omega
  | succ k ih =>
    intro i hi sb c rest mk h S hc hr hq
    refine HI _ _ _ _ ?_
    unfold asm_Show.b6
    refine ⟨rfl, ord, i, S.obj i1, ?_⟩
    rw [if_pos (by omega), rune_ascii (by omega) (hasc i (by omega))]
    have S1 : St h0 none_ [(sb, .cells ((nm :: (ord.take i).map (part d)).map V.str ++ rest) mk), (it, .siter ord (i + 1)), (b, .cells [.int .i64 d.op, .int .i64 d.rd, .int .i64 d.rs1, .int .i64 d.rs2, .int .i64 d.imm] false)] (h.setO it (.siter ord (i + 1))) := S.put i1 (by simp [Heap.setO]) (Keeps.setO (S.obj i1))
    have et : ord.take (i + 1) = ord.take i ++ [ord.getD i 0] := by
      rw [List.take_add_one, List.getElem?_eq_getElem (by omega), List.getD_eq_getElem?_getD, List.getElem?_eq_getElem (by omega)]; rfl
    have ih := fun sb c rest mk h S hc hr => ih (i + 1) (by omega) sb c rest mk h S hc hr hq
    rw [et] at ih
    generalize h.setO it (.siter ord (i + 1)) = g1 at S1 ⊢
    generalize ord.getD i 0 = cc at ih ⊢
    refine S1.alM (fun m g2 S2 => ?_)
    refine S2.rI (i := 3) rfl rfl (S2.mapPut i0 (fun g3 S3 => ?_))
    refine S3.rI (i := 3) rfl rfl (S3.mapPut i0 (fun g4 S4 => ?_))
    refine S4.rI (i := 3) rfl rfl (S4.mapPut i0 (fun g5 S5 => ?_))
    have S6 : St h0 none_ [(m, .map (.int .i32) [(.int .i32 100, .int .i64 d.rd), (.int .i32 97, .int .i64 d.rs1), (.int .i32 98, .int .i64 d.rs2)] [0, 1, 2] 3), (sb, .cells ((nm :: (ord.take i).map (part d)).map V.str ++ rest) mk), (it, .siter ord (i + 1)), (b, .cells [.int .i64 d.op, .int .i64 d.rd, .int .i64 d.rs1, .int .i64 d.rs2, .int .i64 d.imm] false)] g5 := S5
    refine S6.mapGet i0 ?_
    have S7 := S6.tail
    clear S1 S2 S3 S4 S5 S6
    have D' := D
    obtain ⟨_, a, r1, r2, im, _⟩ := D'
    have fin : ∀ (s : List UInt8) (g : Heap), s = part d cc → Keeps none_ g5 g → ∀ b3 g', g.obj b3 = none → g'.obj b3 = some (.cells [.str s] false) → Keeps none_ g g' → appS 1 16 [.str []] ⟨some ⟨sb, 0⟩, i + 1, c⟩ [.str s] 1 (fun s4 h => I ⟨b, 0⟩ s4 ⟨it, 0⟩ h) g' := by
      intro s g hs k1 b3 g' hb3 ho3 k2
      subst hs
      have S8 := (S7.keep k1).keep k2
      refine app_one S8 (by simp; omega) hc hr rfl rfl (by decide) (by omega) (fun cb' c' rest' mk' g3 S9 hc' hr' => ?_)
      refine ih cb' c' rest' mk' g3 ?_ hc' hr'
      rw [List.map_append, List.map_cons, List.map_append]
      exact S9
    have rdn : ∀ (s : List UInt8) (b3 : Nat) (g' : Heap) {κ : List V → Prop}, g'.obj b3 = some (.cells [.str s] false) → κ [.str s] → rdN (1 * 1) (⟨b3, 0⟩ : Ptr) κ g' := fun s b3 g' κ ho hk => rdN_held rfl (fun j v hj => by rw [get_cells ho, Nat.zero_add]; exact hj) hk
    have regs : ∀ v : Int, 0 ≤ v ∧ v < 16 → (120 :: Lib.itoa v) = part d cc → asm_Show.j11 U I ⟨b, 0⟩ ⟨some ⟨sb, 0⟩, i + 1, c⟩ v ⟨it, 0⟩ Q g5 := by
      intro v hv hp
      unfold asm_Show.j11
      have := itoa_len (v := v) (by omega)
      refine itoa_of ht (by omega) (by omega) ⟨by simp; omega, al_of (fun b3 g' hb ho k => rdn _ b3 g' ho (fin _ g5 hp (Keeps.refl _ _) b3 g' hb ho k))⟩
    have cu : ∀ m : UInt8, ((cc.toNat : Nat) : Int) = ((m.toNat : Nat) : Int) ↔ cc = m := fun m => ⟨fun hh => UInt8.toNat_inj.1 (by omega), fun hh => by rw [hh]⟩
    have mf : mfind (.int .i32 ((cc.toNat : Nat) : Int)) [(.int .i32 100, .int .i64 d.rd), (.int .i32 97, .int .i64 d.rs1), (.int .i32 98, .int .i64 d.rs2)] = if cc = 100 then some (.int .i64 d.rd) else if cc = 97 then some (.int .i64 d.rs1) else if cc = 98 then some (.int .i64 d.rs2) else none := by
      simp only [mfind, keq]
      have q : ∀ m : UInt8, (((cc.toNat : Nat) : Int) == ((m.toNat : Nat) : Int)) = decide (cc = m) := fun m => by
        by_cases e : cc = m
        · rw [decide_eq_true e, e]; simp
        · rw [decide_eq_false e]; exact beq_false_of_ne (fun hh => e ((cu m).1 hh))
      rw [show (((cc.toNat : Nat) : Int) == 100) = decide (cc = 100) from q 100, show (((cc.toNat : Nat) : Int) == 97) = decide (cc = 97) from q 97, show (((cc.toNat : Nat) : Int) == 98) = decide (cc = 98) from q 98]
      by_cases e1 : cc = 100
      · rw [if_pos e1, decide_eq_true e1]; rfl
      rw [if_neg e1, decide_eq_false e1]
      by_cases e2 : cc = 97
      · rw [if_pos e2, decide_eq_true e2]; rfl
      rw [if_neg e2, decide_eq_false e2]
      by_cases e3 : cc = 98
      · rw [if_pos e3, decide_eq_true e3]; rfl
      rw [if_neg e3, decide_eq_false e3]; rfl
    rw [mf]
    by_cases e1 : cc = 100
    · rw [if_pos e1]
      exact regs d.rd a (by unfold part; rw [if_pos e1])
    rw [if_neg e1]
    by_cases e2 : cc = 97
    · rw [if_pos e2]
      exact regs d.rs1 r1 (by unfold part; rw [if_neg e1, if_pos e2])
    rw [if_neg e2]
    by_cases e3 : cc = 98
    · rw [if_pos e3]
      exact regs d.rs2 r2 (by unfold part; rw [if_neg e1, if_neg e2, if_pos e3])
    rw [if_neg e3]
    show asm_Show.j12 U I ⟨b, 0⟩ ⟨some ⟨sb, 0⟩, i + 1, c⟩ ⟨it, 0⟩ Q g5
    unfold asm_Show.j12
    refine S7.rI (i := 2) rfl rfl (itoa_of ht (by omega) (by omega) (al_of (fun b3 g' hb ho k => rdn _ b3 g' ho (fin _ g5 ?_ (Keeps.refl _ _) b3 g' hb ho k))))
    unfold part; rw [if_neg e1, if_neg e2, if_neg e3]

end
end Go.Insn
