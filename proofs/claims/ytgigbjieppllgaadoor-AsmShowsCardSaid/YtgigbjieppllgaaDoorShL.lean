/- AsmShows: the plain law. -/
import Derived.Test.YtgigbjieppllgaaDoorShK
set_option linter.unusedSimpArgs false
set_option linter.unusedVariables false
set_option maxRecDepth 100000
namespace Go.Insn
open Go.Lift Go.Fn

def namesTxt : List UInt8 := ([97, 100, 100, 32, 115, 117, 98, 32, 97, 110, 100, 32, 111, 114, 32, 120, 111, 114, 32, 115, 108, 108, 32, 115, 114, 108, 32, 115, 114, 97, 32, 115, 108, 116, 32, 115, 108, 116, 117, 32, 109, 117, 108, 32, 100, 105, 118, 117, 32, 114, 101, 109, 117, 32, 97, 100, 100, 105, 32, 97, 110, 100, 105, 32, 111, 114, 105, 32, 120, 111, 114, 105, 32, 115, 108, 108, 105, 32, 115, 114, 108, 105, 32, 115, 114, 97, 105, 32, 115, 108, 116, 105, 32, 108, 117, 105, 32, 108, 100, 32, 108, 119, 32, 108, 98, 32, 115, 100, 32, 115, 119, 32, 115, 98, 32, 98, 101, 113, 32, 98, 110, 101, 32, 98, 108, 116, 32, 98, 103, 101, 32, 98, 108, 116, 117, 32, 98, 103, 101, 117, 32, 106, 97, 108, 32, 106, 97, 108, 114, 32, 108, 114, 32, 115, 99, 32, 97, 109, 111, 97, 100, 100, 32, 97, 109, 111, 115, 119, 112, 32, 102, 101, 110, 99, 101, 32, 101, 99, 97, 108, 108, 32, 115, 114, 101, 116, 32, 119, 102, 105, 32, 115, 102, 101, 110, 99, 101, 32, 99, 115, 114, 114, 119, 32, 99, 115, 114, 114, 115, 32, 99, 115, 114, 114, 99] : List UInt8)

theorem fields_names : Lib.fields namesTxt = namesL := by kernel_rfl
theorem names_ascii : ∀ b ∈ namesTxt, b.toNat < 128 := by
  have : (namesTxt.all fun b => decide (b.toNat < 128)) = true := by kernel_rfl
  intro b hb
  simpa using List.all_eq_true.1 this b hb
theorem namesTxt_len : namesTxt.length < 4294967281 := by
  have : namesTxt.length = 215 := by kernel_rfl
  omega

theorem ord_ascii {n : Nat} (hn : n < 64) : ∀ i, i < (ordOf (n : Int)).length → ((ordOf (n : Int)).getD i 0).toNat < 128 := by
  have key : ∀ n : Fin 64, ((ordOf ((n.val : Nat) : Int)).all fun b => decide (b.toNat < 128)) = true := by decide +kernel
  have key := key ⟨n, hn⟩
  intro i hi
  have := List.all_eq_true.1 key _ (List.getElem_mem hi)
  rw [List.getD_eq_getElem?_getD, List.getElem?_eq_getElem hi]
  simpa using this

theorem fold_join (d : Dec) : ∀ (l acc : List UInt8), l.foldl (fun acc c => acc ++ [32] ++ part d c) acc = acc ++ Lib.joinTail [32] (l.map (part d))
  | [], acc => by simp [Lib.joinTail]
  | c :: l, acc => by
    rw [List.foldl_cons, fold_join d l]
    simp [Lib.joinTail]

section
variable {U : Ifc} {h : Heap}

/-- What is known of the library's tables. -/
structure AU (U : Ifc) (h : Heap) : Prop where
  pow : (3, Lib.pow10Tab.map (V.int .u64)) ∈ U.tabs
  asc : ∀ c : Nat, c < 256 → h.get (U.glob 4) c = some (.int .u8 (if Lib.isSp (UInt8.ofNat c) then 1 else 0))

theorem Show_asm (au : AU U h) {w : Nat} (hw : w < 2 ^ 32) {Q : List UInt8 → Heap → Prop} (hq : ∀ h', Keeps none_ h h' → Q (textW (w : Int)) h') : asm_Show U (w : Int) Q h := by
  unfold asm_Show
  refine Decode_of (fun g1 k1 => ?_)
  have S_ := (St.start h none_).keep k1
  have hd := dec_is hw
  unfold textW at hq
  generalize decOf (w : Int) = d at hq hd ⊢
  ((with_reducible apply St.al); assumption; intro b g_ S_)
  refine S_.wrL i0 (Nat.le_refl 5) (fun g2 S2 => ?_)
  have S3 : St h none_ [(b, .cells [.int .i64 d.op, .int .i64 d.rd, .int .i64 d.rs1, .int .i64 d.rs2, .int .i64 d.imm] false)] g2 := S2
  clear S2 S_
  rcases hd with e | D
  · rw [if_pos (by rw [e]; decide)] at hq
    refine br_t (by rw [e]; rfl) ?_
    rw [wrap64 (x := (w : Int)) (by omega) (by omega)]
    have := itoa_len (v := (w : Int)) (by omega)
    exact itoa_of au.pow (by omega) (by omega) ⟨by simp; omega, hq g2 S3.keeps⟩
  · rw [if_neg (fun hh => hh D.e)] at hq
    refine br_f (by rw [D.e]; rfl) (S3.rI i0 rfl ?_)
    unfold strings_Fields
    refine ⟨namesTxt_len, names_ascii, fun c hc => ?_, fun nb hb => ?_⟩
    · have hg := au.asc c hc
      have hn : h.obj (U.glob 4) ≠ none := by intro hn; unfold Heap.get at hg; rw [hn] at hg; cases hg
      rw [Heap.get_obj (S3.keeps.same _ hn (fun f => f))]; exact hg
    · have fe : Lib.fields ([97, 100, 100, 32, 115, 117, 98, 32, 97, 110, 100, 32, 111, 114, 32, 120, 111, 114, 32, 115, 108, 108, 32, 115, 114, 108, 32, 115, 114, 97, 32, 115, 108, 116, 32, 115, 108, 116, 117, 32, 109, 117, 108, 32, 100, 105, 118, 117, 32, 114, 101, 109, 117, 32, 97, 100, 100, 105, 32, 97, 110, 100, 105, 32, 111, 114, 105, 32, 120, 111, 114, 105, 32, 115, 108, 108, 105, 32, 115, 114, 108, 105, 32, 115, 114, 97, 105, 32, 115, 108, 116, 105, 32, 108, 117, 105, 32, 108, 100, 32, 108, 119, 32, 108, 98, 32, 115, 100, 32, 115, 119, 32, 115, 98, 32, 98, 101, 113, 32, 98, 110, 101, 32, 98, 108, 116, 32, 98, 103, 101, 32, 98, 108, 116, 117, 32, 98, 103, 101, 117, 32, 106, 97, 108, 32, 106, 97, 108, 114, 32, 108, 114, 32, 115, 99, 32, 97, 109, 111, 97, 100, 100, 32, 97, 109, 111, 115, 119, 112, 32, 102, 101, 110, 99, 101, 32, 101, 99, 97, 108, 108, 32, 115, 114, 101, 116, 32, 119, 102, 105, 32, 115, 102, 101, 110, 99, 101, 32, 99, 115, 114, 114, 119, 32, 99, 115, 114, 114, 115, 32, 99, 115, 114, 114, 99] : List UInt8) = namesL := fields_names
      rw [fe, names_len]
      have kb : Keeps none_ g2 (g2.new nb (.cells (namesL.map V.str) false)) := Keeps.new hb _
      have ho : (g2.new nb (.cells (namesL.map V.str) false)).obj nb = some (.cells (namesL.map V.str) false) := Heap.new_obj
      have S4 := S3.keep kb
      generalize g2.new nb (.cells (namesL.map V.str) false) = g3 at ho S4 ⊢
      obtain ⟨n, hn⟩ : ∃ n : Nat, d.op = (n : Int) := ⟨d.op.toNat, by have := D.op; omega⟩
      have hop := D.op
      refine ⟨S4.ck1 i0 rfl, ?_⟩
      have ew : IntKind.i64.wrap (d.op - 1) = ((n - 1 : Nat) : Int) := by rw [wrap64] <;> omega
      rw [ew]
      refine ix_of (by omega) (by show ((n - 1 : Nat) : Int) < 48; omega) ?_
      rw [der_some, Int.toNat_natCast]
      have hnm : g3.get nb (0 + (n - 1) * 1) = some (.str (namesL.getD (n - 1) [])) := by
        rw [get_cells ho, Nat.zero_add, Nat.mul_one, List.getElem?_map, List.getD_eq_getElem?_getD, List.getElem?_eq_getElem (by rw [names_len]; omega)]
        rfl
      refine rdStr_of hnm ?_
      have nl := name_len (n := n - 1) (by omega)
      unfold textOf at hq
      rw [hn, show (((n : Int) - 1).toNat) = n - 1 by omega, fold_join, ← Lib.join_cons] at hq
      generalize namesL.getD (n - 1) [] = nm at hq nl ⊢
      refine S4.al (fun sb g4 S5 => ?_)
      refine S5.rI i1 rfl ?_
      have hrs : rshape (n : Int) ≠ -1 := by
        have key : ∀ n : Fin 64, 1 ≤ n.val → n.val ≤ 48 → rshape ((n.val : Nat) : Int) ≠ -1 := by decide +kernel
        exact key ⟨n, by omega⟩ (by show 1 ≤ n; omega) (by show n ≤ 48; omega)
      rw [show (d.op : Int) = (n : Int) from hn]
      refine Order_asm (by omega) hrs (fun g5 k5 => ?_)
      have S6 := S5.keep k5
      intro it hit
      have S7 := S6.more hit (h' := g5.new it (.siter (ordOf (n : Int)) 0)) Heap.new_obj (Keeps.new hit _)
      unfold asm_Show.j6
      intro I HI
      have ol := ord_len (n := n) (by omega)
      rw [← hn] at S7
      have S8 : St h none_ [(sb, .cells ((nm :: ((ordOf (n : Int)).take 0).map (part d)).map V.str ++ []) false), (it, .siter (ordOf (n : Int)) 0), (b, .cells [.int .i64 d.op, .int .i64 d.rd, .int .i64 d.rs1, .int .i64 d.rs2, .int .i64 d.imm] false)] (g5.new it (.siter (ordOf (n : Int)) 0)) := by
        rw [hn] at S7
        refine St.pick (L' := [(sb, .cells ((nm :: ((ordOf (n : Int)).take 0).map (part d)).map V.str ++ []) false), (it, .siter (ordOf (n : Int)) 0), (b, .cells [.int .i64 d.op, .int .i64 d.rd, .int .i64 d.rs1, .int .i64 d.rs2, .int .i64 d.imm] false)]) S7 [1, 0, 2] (by decide) ?_
        rw [hn]; rfl
      exact loop_asm au.pow D (by omega) nl (ord_ascii (by omega)) HI (ordOf (n : Int)).length 0 (by omega) sb 1 [] false _ S8 (Nat.le_refl 1) rfl hq

theorem shows (au : AU U h) (du : DecAt 10 U) {w : Nat} (hw : w < 2 ^ 32) {Q : Bool → Heap → Prop} (hQ : ∀ h, Q true h) : palisadelaw03_AsmShows U (w : Int) Q h := by
  unfold palisadelaw03_AsmShows
  refine Show_asm au hw (fun g1 k1 => Show_ref du hw (fun g2 k2 => ?_))
  rw [beq_self_eq_true]
  exact hQ g2

end
end Go.Insn
