/- Words for functions of the library that are met by the kit's contracts. -/
import Derived.Test.YtcaeaolgijjjnaaGreatDoorLa
import Derived.Lib.LaidTab
import Derived.Lib.FieldsLaws
import Derived.Lib.Join
import Derived.Shelf.Strconv.Itoa1
import Derived.Lib.Split
import Derived.Lib.IndexMore
import Derived.Lib.SlTrimSet
import Derived.Lib.Atoi
import Derived.Lib.FieldsP
import Derived.Test.YtcaeaolgijjjnaaGreatDoorLb
import Derived.Shelf.Strconv.Itoa3
import Derived.Shelf.Strings.Fields
import Derived.Shelf.Strings.OnBuilder
import Derived.Shelf.Strings.Split
import Derived.Shelf.Strings.Cut
import Derived.Shelf.Strings.SlTrimAscii
import Derived.Shelf.Strings.FieldsFuncGrows
import Derived.Shelf.Strconv.Atoi
set_option linter.unusedSimpArgs false
set_option linter.unusedVariables false

set_option linter.unusedSimpArgs false
set_option linter.unusedVariables false
set_option maxRecDepth 100000
namespace Go.Lift

/-- strings.Fields of ASCII bytes; tab: where the table of blanks stands. -/
def fieldsI (tab : Nat) (s : List UInt8) (κ : Sl → Heap → Prop) (h : Heap) : Prop :=
  s.length < 4294967281 ∧ (∀ b ∈ s, b.toNat < 128) ∧ (∀ c : Nat, c < 256 → h.get tab c = some (.int .u8 (if Lib.isSp (UInt8.ofNat c) then 1 else 0))) ∧
    ∀ b, h.obj b = none → κ ⟨some ⟨b, 0⟩, (Lib.fields s).length, (Lib.fields s).length⟩ (h.new b (.cells ((Lib.fields s).map V.str) false))

/-- strconv.Itoa; c: the table of powers. -/
def itoaI (U : Ifc) (c : Nat) (n : Int) (κ : List UInt8 → Heap → Prop) (h : Heap) : Prop :=
  -9223372036854775808 ≤ n ∧ n ≤ 9223372036854775807 ∧ (c, Lib.pow10Tab.map (V.int .u64)) ∈ U.tabs ∧ κ (Lib.itoa n) h

/-- strings.Join. -/
def joinI (s : Sl) (sep : List UInt8) (κ : List UInt8 → Heap → Prop) (h : Heap) : Prop :=
  ∃ (p : Ptr) (xs : List (List UInt8)), s.p = some p ∧ s.len = xs.length ∧ s.len ≤ s.cap ∧ (∀ (j : Nat) x, xs[j]? = some x → h.get p.b (p.o + j) = some (.str x)) ∧ h.obj p.b ≠ none ∧ xs.length ≤ 140737488355328 ∧ (Lib.join xs sep).length ≤ 140737488355328 ∧ κ (Lib.join xs sep) h

/-- The pieces between separators. -/
def splitL (s sep : List UInt8) : List (List UInt8) := (Lib.splitB ⟨sep.toArray⟩ 0 (Lib.countB ⟨s.toArray⟩ ⟨sep.toArray⟩) ⟨s.toArray⟩).map (·.data.toList)

/-- A variable of the library that holds one number. -/
def oneTab (U : Ifc) (c : Nat) : Prop := ∃ m : Int, (c, [V.int .i64 m]) ∈ U.tabs

/-- strings.Split; c: bytealg.MaxLen. -/
def splitI (U : Ifc) (c : Nat) (s sep : List UInt8) (κ : Sl → Heap → Prop) (h : Heap) : Prop :=
  s.length < 4294967281 ∧ 1 ≤ sep.length ∧ oneTab U c ∧ ∀ b, h.obj b = none → κ ⟨some ⟨b, 0⟩, (splitL s sep).length, (splitL s sep).length⟩ (h.new b (.cells ((splitL s sep).map V.str) false))

/-- strings.Cut. -/
def cutI (U : Ifc) (c : Nat) (s sep : List UInt8) (κ : List UInt8 → List UInt8 → Bool → Heap → Prop) (h : Heap) : Prop :=
  s.length < 4294967281 ∧ oneTab U c ∧ κ (Lib.cut s sep).1 (Lib.cut s sep).2.1 (Lib.cut s sep).2.2 h

/-- strings.IndexByte. -/
def indexByteI (s : List UInt8) (c : Int) (κ : Int → Heap → Prop) (h : Heap) : Prop := κ (Lib.indexByte s c.toNat.toUInt8) h

/-- strings.Trim, of ASCII bytes. -/
def trimI (s cs : List UInt8) (κ : List UInt8 → Heap → Prop) (h : Heap) : Prop :=
  s.length ≤ 9223372036854775807 ∧ cs.length < 4294967281 ∧ (∀ b ∈ cs, b.toNat < 128) ∧ κ (Lib.trimS s cs) h

/-- strconv.Atoi of a short number. -/
def atoiI (s : List UInt8) (κ : Int → V → Heap → Prop) (h : Heap) : Prop :=
  s.length ≤ 18 ∧ ∃ n, Lib.atoi s = some n ∧ κ n .nilif h

/-- strings.FieldsFunc, of the function f, which tells p. -/
def fieldsFuncI (f : Nat) (p : Nat → Bool) (s : List UInt8) (v : V) (κ : Sl → Heap → Prop) (h : Heap) : Prop :=
  s.length ≤ 4294967296 ∧ (match v with | .fn g [] => g = f | _ => False) ∧
    ∀ b, h.obj b = none → κ ⟨some ⟨b, 0⟩, (Lib.goFieldsP p ⟨s.toArray⟩).length, (Lib.goFieldsP p ⟨s.toArray⟩).length⟩ (h.new b (.cells (((Lib.goFieldsP p ⟨s.toArray⟩).map (·.data.toList)).map V.str) false))

/-- The runes that part a line's words. -/
def sepR (x : Nat) : Bool := x == 32 || (x == 44 || (x == 9 || (x == 40 || x == 41)))

/-- errors.As of an error of one of two types (F: a number in a struct, E: a number) at a variable of one of them; c: errors.errorType; rt: the type of type handles. -/
def asErrI (U : Ifc) (c F E pF pE rt : Nat) (err tgt : V) (κ : Bool → Heap → Prop) (h : Heap) : Prop :=
  (c, [V.iface rt (.agg [.ptr (some ⟨24, 40⟩)])]) ∈ U.tabs ∧
  match err, tgt with
  | .iface t v, .iface pt (.ptr (some p)) =>
    if t = F ∧ pt = pF then ∃ k, v = .agg [.int .i64 k] ∧ wr p (.int .i64 k) (κ true) h
    else if t = E ∧ pt = pE then ∃ k, v = .int .i64 k ∧ wr p (.int .i64 k) (κ true) h
    else if t = E ∧ pt = pF then (∃ k, v = .int .i64 k) ∧ κ false h
    else False
  | _, _ => False

end Go.Lift

namespace Go.Lift
open Go.RowKit Go.Shelf Go.Sort Go.Proofs

section
variable {σ : Seat} {W0 : World} {h : Heap} {w w' : World}

theorem calls_val {P : Program} {f : FuncId} {n : Nat} {rets : List ResultVar} {code : Code} {args : Array Value} {R : Ending → World → Prop} (hf : Fun P f n rets code) (hc : Calls P f args w R) : CallsVal P (.func (.func f) #[] #[]) args w R := by
  obtain ⟨fn, hfn, hb, hnt, hres, hname⟩ := hf.ex
  refine ⟨f, args, ?_, hc⟩
  have : (callFunc f args).run P w = .ok (.enter f args) w := by
    unfold callFunc
    simp only [Sem.run_bind, run_program, Result.andThen_ok, hfn, hname, hb]
    rfl
  simpa [Deferred.ofValue, invoke] using this


theorem Sim.lt (s : Sim σ W0 h w) {b : Nat} {x : HO} (hx : h.obj b = some x) : b < 2 * w.heap.size := by
  obtain ⟨k, o, ek, ho, _⟩ := s.known b x hx
  rcases Nat.lt_or_ge k w.heap.size with h1 | h1
  · omega
  · rw [Array.getElem?_eq_none h1] at ho; cases ho

/-- What leaves the old memory as it was, leaves what is known of it. -/
theorem Sim.belowW (s : Sim σ W0 h w) (hb : Below w.heap.size w w') : Sim σ W0 h w' := by
  refine ⟨hb.os.trans s.os, hb.output.trans s.output, hb.tape.trans s.tape, Nat.le_trans s.size hb.size, fun b x hx => ?_, fun b hlt => ?_, s.own⟩
  · obtain ⟨k, o, ek, ho, hs⟩ := s.known b x hx
    exact ⟨k, o, ek, by rw [hb.block k (by have := s.lt hx; omega)]; exact ho, hs⟩
  · rw [hb.block b (Nat.lt_of_lt_of_le hlt s.size)]; exact s.old b hlt

theorem grow_below (k : Nat) (os : Array Obj) : Below w.heap.size w (grow (w.drewN k) os) := by
  refine ⟨rfl, rfl, rfl, ?_, fun i hi => ?_⟩
  · show w.heap.size ≤ (w.heap ++ os).size
    simp
  · show (w.heap ++ os)[i]? = w.heap[i]?
    rw [Array.getElem?_append_left hi]

end
end Go.Lift

namespace Go.Lift
open Go.RowKit Go.Shelf Go.Sort Go.Proofs

section
variable {σ : Seat} {W0 : World} {h : Heap} {w w' : World}

theorem vals_str (l : List (List UInt8)) : V.vals σ (l.map V.str) = l.map fun x => Value.string ⟨x.toArray⟩ := by rw [vals_map, List.map_map]; rfl
theorem vals_ints (k : IntKind) (l : List Int) : V.vals σ (l.map (V.int k)) = l.map fun z => Value.int k z := by rw [vals_map, List.map_map]; rfl

theorem tab_is (s : Sim σ W0 h w) {gls : List (Nat × Nat)} {U : Ifc} (hU : IfcOK σ W0 gls U) {name : String} {g c : Nat} {k : IntKind} {zs : List Int} (hg : σ.P.globalNamed name = some g) (hl : looks gls g = some c) (ht : (c, zs.map (V.int k)) ∈ U.tabs) : Lib.TabIs σ.P w name k zs := by
  obtain ⟨el, fz, h0⟩ := hU.tabs _ _ ht
  rw [looks_pair2 hU.gl hl, Nat.mul_div_cancel_left g (by omega)] at h0
  have hlt : g < W0.heap.size := by
    rcases Nat.lt_or_ge g W0.heap.size with h1 | h1
    · exact h1
    · rw [Array.getElem?_eq_none h1] at h0; cases h0
  unfold Lib.TabIs World.var?
  rw [hg]
  simp only [Option.bind_some]
  rw [s.old g hlt, h0, vals_ints]

def fieldsC (tab : Nat) (vs : List V) (κ : V → Heap → Prop) (h : Heap) : Prop :=
  match vs with
  | [.str a1] => fieldsI tab a1 (fun s h => κ (.sl s) h) h
  | _ => False

theorem fields_S {n : Nat} {rets : List ResultVar} {code : Code} {ρ : Ren} {g c : Nat} {gls : List (Nat × Nat)} {U : Ifc} (hU : IfcOK σ W0 gls U) (L : Lays.n157 σ.P ρ) (hi9 : (σ.P.info? (ρ.t 9)).map (fun i => (i.zero, i.size, i.bytes)) = some (some (.string ByteArray.empty), 1, 16)) (hl : looks gls (ρ.g 0) = some c) (hg : ρ.f 157 = σ.fn g) (hf : Fun σ.P (σ.fn g) n rets code) : FnS σ W0 g (fieldsC (U.glob c)) := by
  intro vs κ h wv hx w s
  unfold fieldsC at hx
  split at hx
  case h_2 => exact hx.elim
  case h_1 a1 =>
    obtain ⟨h1, h2, h3, hk⟩ := hx
    rw [show (V.vals σ [V.str a1]).toArray = #[Value.string ⟨a1.toArray⟩] from rfl]
    refine calls_val hf ?_
    rw [← hg]
    have hT : ∀ c' : Nat, c' < 256 → w.cell? ⟨ρ.g 0, c', none⟩ = some (.int .u8 (if Lib.isSp (UInt8.ofNat c') then 1 else 0)) := by
      intro c' hc'
      have := h3 c' hc'
      rw [looks_pair2 hU.gl hl] at this
      have h4 := (s.get (p := ⟨2 * ρ.g 0, c'⟩) this).1
      rw [addr_vb] at h4
      exact h4
    refine (Any.strings_Fields_core L hi9 ⟨a1.toArray⟩ w (by simpa [ByteArray.size] using h1) (fun j b hb => h2 b (List.mem_of_getElem? (by simpa using hb))) hT).mono (fun e w' ⟨he, hw⟩ => ?_)
    subst hw
    have hn := s.new (x := .cells ((Lib.fields a1).map V.str) false) (o := .cells ((Lib.fields a1).map fun l => Value.string ⟨l.toArray⟩).toArray (ρ.t 9)) ⟨by rw [vals_str], fun v hv => by obtain ⟨x, _, rfl⟩ := List.mem_map.1 hv; rfl, rfl⟩
    exact ⟨.sl ⟨some ⟨2 * w.heap.size, 0⟩, (Lib.fields a1).length, (Lib.fields a1).length⟩, _, by rw [he]; simp only [V.val, Option.map_some, addr_vb], V.wf_one rfl, hn, hk _ s.size_none⟩

def itoaC (U : Ifc) (c : Nat) (vs : List V) (κ : V → Heap → Prop) (h : Heap) : Prop :=
  match vs with
  | [.int .i64 a1] => itoaI U c a1 (fun s h => κ (.str s) h) h
  | _ => False

theorem itoa_S {n : Nat} {rets : List ResultVar} {code : Code} {ρ : Ren} {g c gn : Nat} {gls : List (Nat × Nat)} {U : Ifc} (hU : IfcOK σ W0 gls U) (L : LaysM.n171 σ.P ρ) (hgn : σ.P.globalNamed "internal/strconv.uint64pow10" = some gn) (hl : looks gls gn = some c) (hg : ρ.f 171 = σ.fn g) (hf : Fun σ.P (σ.fn g) n rets code) : FnS σ W0 g (itoaC U c) := by
  intro vs κ h wv hx w s
  unfold itoaC at hx
  split at hx
  case h_2 => exact hx.elim
  case h_1 a1 =>
    obtain ⟨h1, h2, h3, hk⟩ := hx
    rw [show (V.vals σ [V.int .i64 a1]).toArray = #[Value.int .i64 a1] from rfl]
    refine calls_val hf ?_
    rw [← hg]
    refine (Any.strconv_Itoa L a1 h1 h2 w (tab_is s hU hgn hl h3)).mono (fun e w' ⟨he, k, os, hw⟩ => ?_)
    subst hw
    exact ⟨.str (Lib.itoa a1), h, he, V.wf_one rfl, s.belowW (grow_below k os), hk⟩

def joinC (vs : List V) (κ : V → Heap → Prop) (h : Heap) : Prop :=
  match vs with
  | [.sl a1, .str a2] => joinI a1 a2 (fun s h => κ (.str s) h) h
  | _ => False

theorem join_S {n : Nat} {rets : List ResultVar} {code : Code} {ρ : Ren} {g : Nat} (L : Lays.n156 σ.P ρ) (X : Builder.Extra σ.P ρ) (hg : ρ.f 156 = σ.fn g) (hf : Fun σ.P (σ.fn g) n rets code) : FnS σ W0 g joinC := by
  intro vs κ h wv hx w s
  unfold joinC at hx
  split at hx
  case h_2 => exact hx.elim
  case h_1 a1 a2 =>
    obtain ⟨p, xs, hp, hlen, hcap, hc, hb, hN, hJ, hk⟩ := hx
    rw [show (V.vals σ [V.sl a1, V.str a2]).toArray = #[Value.slice (a1.p.map Ptr.addr) a1.len a1.cap, Value.string ⟨a2.toArray⟩] from rfl]
    refine calls_val hf ?_
    obtain ⟨kb, ek, hbw⟩ : ∃ kb, p.b = 2 * kb ∧ kb < w.heap.size := by
      cases hx : h.obj p.b with
      | none => exact absurd hx hb
      | some x =>
        obtain ⟨k, o, ek, _⟩ := s.known p.b x hx
        have := s.lt hx
        exact ⟨k, ek, by omega⟩
    rw [← hg, hp, hlen, Option.map_some, addr_of ek]
    let ys : List ByteArray := xs.map fun x => ⟨x.toArray⟩
    have hys : ys.map (·.data.toList) = xs := by
      show (xs.map fun x => (⟨x.toArray⟩ : ByteArray)).map (·.data.toList) = xs
      rw [List.map_map]
      exact (List.map_congr_left (fun x _ => rfl)).trans (List.map_id _)
    have hyl : ys.length = xs.length := by simp [ys]
    have hcells : ∀ (j : Nat) x, ys[j]? = some x → w.cell? ⟨kb, p.o + j, none⟩ = some (.string x) := by
      intro j x hj
      rw [List.getElem?_map] at hj
      cases hxj : xs[j]? with
      | none => rw [hxj] at hj; cases hj
      | some y =>
        rw [hxj] at hj
        cases hj
        have h4 := (s.get (p := ⟨p.b, p.o + j⟩) (hc j y hxj)).1
        rw [addr_of (p := ⟨p.b, p.o + j⟩) ek] at h4
        exact h4
    rw [← hyl]
    refine (Any.strings_Join L X kb p.o a1.cap ys ⟨a2.toArray⟩ w hcells hbw (by rw [hyl]; exact hN) (by rw [hyl]; omega) (by rw [hys]; exact hJ)).mono (fun e w' ⟨he, hw⟩ => ?_)
    rw [hys] at he
    exact ⟨.str (Lib.join xs a2), h, he, V.wf_one rfl, s.belowW hw, hk⟩

end
end Go.Lift

namespace Go.Lift
open Go.RowKit Go.Shelf Go.Sort Go.Proofs

section
variable {σ : Seat} {W0 : World} {h : Heap} {w w' : World}

theorem one_tab (s : Sim σ W0 h w) {gls : List (Nat × Nat)} {U : Ifc} (hU : IfcOK σ W0 gls U) {g c : Nat} (hl : looks gls g = some c) (ht : oneTab U c) : ∃ m : Int, w.cell? ⟨g, 0, none⟩ = some (.int .i64 m) := by
  obtain ⟨m, ht⟩ := ht
  obtain ⟨el, fz, h0⟩ := hU.tabs _ _ ht
  rw [looks_pair2 hU.gl hl, Nat.mul_div_cancel_left g (by omega)] at h0
  have hlt : g < W0.heap.size := by
    rcases Nat.lt_or_ge g W0.heap.size with h1 | h1
    · exact h1
    · rw [Array.getElem?_eq_none h1] at h0; cases h0
  refine ⟨m, ?_⟩
  unfold World.cell?
  rw [s.old g hlt, h0]
  rfl

def splitC (U : Ifc) (c : Nat) (vs : List V) (κ : V → Heap → Prop) (h : Heap) : Prop :=
  match vs with
  | [.str a1, .str a2] => splitI U c a1 a2 (fun s h => κ (.sl s) h) h
  | _ => False

theorem split_S {n : Nat} {rets : List ResultVar} {code : Code} {ρ : Ren} {g c gn : Nat} {gls : List (Nat × Nat)} {U : Ifc} (hU : IfcOK σ W0 gls U) (L : Lays.n146 σ.P ρ) (hi9 : (σ.P.info? (ρ.t 9)).map (fun i => (i.zero, i.size, i.bytes)) = some (some (.string ByteArray.empty), 1, 16)) (hl : looks gls (ρ.g 1) = some c) (hg : ρ.f 146 = σ.fn g) (hf : Fun σ.P (σ.fn g) n rets code) : FnS σ W0 g (splitC U c) := by
  intro vs κ h wv hx w s
  unfold splitC at hx
  split at hx
  case h_2 => exact hx.elim
  case h_1 a1 a2 =>
    obtain ⟨h1, h2, h3, hk⟩ := hx
    obtain ⟨m, hm⟩ := one_tab s hU hl h3
    rw [show (V.vals σ [V.str a1, V.str a2]).toArray = #[Value.string ⟨a1.toArray⟩, Value.string ⟨a2.toArray⟩] from rfl]
    refine calls_val hf ?_
    rw [← hg]
    have hle := Lib.splitB_all ⟨a2.toArray⟩ (by simpa [ByteArray.size] using h2) 0 _ ⟨a1.toArray⟩ rfl
    refine (Any.strings_Split L hi9 ⟨a1.toArray⟩ ⟨a2.toArray⟩ m w (by simpa [ByteArray.size] using h1) hm (by simpa [ByteArray.size] using h2)).mono (fun e w' ⟨he, hw⟩ => ?_)
    subst hw
    have hlen : (splitL a1 a2).length = Lib.countB ⟨a1.toArray⟩ ⟨a2.toArray⟩ + 1 := by unfold splitL; rw [List.length_map]; exact hle
    have hn := s.new (x := .cells ((splitL a1 a2).map V.str) false) (o := .cells ((Lib.splitB ⟨a2.toArray⟩ 0 (Lib.countB ⟨a1.toArray⟩ ⟨a2.toArray⟩) ⟨a1.toArray⟩).map Value.string).toArray (ρ.t 9)) ⟨by
      rw [vals_str]; unfold splitL; rw [List.map_map]; exact List.map_congr_left (fun x _ => rfl), fun v hv => by obtain ⟨x, _, rfl⟩ := List.mem_map.1 hv; rfl, rfl⟩
    exact ⟨.sl ⟨some ⟨2 * w.heap.size, 0⟩, (splitL a1 a2).length, (splitL a1 a2).length⟩, _, by rw [he, hlen]; simp only [V.val, Option.map_some, addr_vb], V.wf_one rfl, hn, hk _ s.size_none⟩

def cutC (U : Ifc) (c : Nat) (vs : List V) (κ : V → Heap → Prop) (h : Heap) : Prop :=
  match vs with
  | [.str a1, .str a2] => cutI U c a1 a2 (fun x y z h => κ (.tup [.str x, .str y, .bool z]) h) h
  | _ => False

theorem drewN_below (w : World) : ∀ n, Below w.heap.size w (w.drewN n)
  | 0 => Below.refl _ _
  | n + 1 => (drewN_below w n).drew

theorem cut_S {n : Nat} {rets : List ResultVar} {code : Code} {ρ : Ren} {g c : Nat} {gls : List (Nat × Nat)} {U : Ifc} (hU : IfcOK σ W0 gls U) (L : Lays.n145 σ.P ρ) (hl : looks gls (ρ.g 1) = some c) (hg : ρ.f 145 = σ.fn g) (hf : Fun σ.P (σ.fn g) n rets code) : FnS σ W0 g (cutC U c) := by
  intro vs κ h wv hx w s
  unfold cutC at hx
  split at hx
  case h_2 => exact hx.elim
  case h_1 a1 a2 =>
    obtain ⟨h1, h3, hk⟩ := hx
    obtain ⟨m, hm⟩ := one_tab s hU hl h3
    rw [show (V.vals σ [V.str a1, V.str a2]).toArray = #[Value.string ⟨a1.toArray⟩, Value.string ⟨a2.toArray⟩] from rfl]
    refine calls_val hf ?_
    rw [← hg]
    refine (Any.strings_Cut L ⟨a1.toArray⟩ ⟨a2.toArray⟩ m w (by simpa [ByteArray.size] using h1) hm).mono (fun e w' ⟨he, k, hw⟩ => ?_)
    subst hw
    exact ⟨.tup [.str (Lib.cut a1 a2).1, .str (Lib.cut a1 a2).2.1, .bool (Lib.cut a1 a2).2.2], h, he, fun v hv => by
      simp only [List.mem_cons, List.not_mem_nil, or_false] at hv
      rcases hv with rfl | rfl | rfl <;> exact V.wf_nt rfl (V.wf_one rfl), s.belowW (drewN_below w k), hk⟩

def indexByteC (vs : List V) (κ : V → Heap → Prop) (h : Heap) : Prop :=
  match vs with
  | [.str a1, .int .u8 a2] => indexByteI a1 a2 (fun x h => κ (.int .i64 x) h) h
  | _ => False

theorem indexByte_S {n : Nat} {rets : List ResultVar} {code : Code} {ρ : Ren} {g : Nat} (L : Lays.n137 σ.P ρ) (hg : ρ.f 137 = σ.fn g) (hf : Fun σ.P (σ.fn g) n rets code) : FnS σ W0 g indexByteC := by
  intro vs κ h wv hx w s
  unfold indexByteC at hx
  split at hx
  case h_2 => exact hx.elim
  case h_1 a1 a2 =>
    rw [show (V.vals σ [V.str a1, V.int .u8 a2]).toArray = #[Value.string ⟨a1.toArray⟩, Value.int .u8 a2] from rfl]
    refine calls_val hf ?_
    rw [← hg]
    refine (Any.strings_IndexByte L ⟨a1.toArray⟩ a2 w).mono (fun e w' ⟨he, hw⟩ => ?_)
    subst hw
    exact ⟨.int .i64 (Lib.indexByte a1 a2.toNat.toUInt8), h, he, V.wf_one rfl, s, hx⟩

def trimC (vs : List V) (κ : V → Heap → Prop) (h : Heap) : Prop :=
  match vs with
  | [.str a1, .str a2] => trimI a1 a2 (fun x h => κ (.str x) h) h
  | _ => False

theorem trim_S {n : Nat} {rets : List ResultVar} {code : Code} {ρ : Ren} {g : Nat} (L : Lays.n160 σ.P ρ) (h116 : (σ.P.info? (ρ.t 116)).map (fun i => (i.zero, i.size)) = some (some (.agg (Array.replicate 256 (.bool false))), 256)) (hg : ρ.f 160 = σ.fn g) (hf : Fun σ.P (σ.fn g) n rets code) : FnS σ W0 g trimC := by
  intro vs κ h wv hx w s
  unfold trimC at hx
  split at hx
  case h_2 => exact hx.elim
  case h_1 a1 a2 =>
    obtain ⟨h1, h2, h3, hk⟩ := hx
    rw [show (V.vals σ [V.str a1, V.str a2]).toArray = #[Value.string ⟨a1.toArray⟩, Value.string ⟨a2.toArray⟩] from rfl]
    refine calls_val hf ?_
    rw [← hg]
    refine (Any.strings_Trim_laid L h116 ⟨a1.toArray⟩ ⟨a2.toArray⟩ w (by simpa [ByteArray.size] using h1) (by simpa [ByteArray.size] using h2) (fun j b hb => h3 b (List.mem_of_getElem? (by simpa using hb)))).mono (fun e w' ⟨he, hw⟩ => ?_)
    exact ⟨.str (Lib.trimS a1 a2), h, he, V.wf_one rfl, s.belowW hw, hk⟩

def atoiC (vs : List V) (κ : V → Heap → Prop) (h : Heap) : Prop :=
  match vs with
  | [.str a1] => atoiI a1 (fun x e h => κ (.tup [.int .i64 x, e]) h) h
  | _ => False

theorem bytesWorld_below (w : World) (t : TypeId) (s : ByteArray) : Below w.heap.size w (Lib.bytesWorld w t s) :=
  ⟨rfl, rfl, rfl, by rw [Lib.bytesWorld_size]; omega, fun i hi => Lib.bytesWorld_at_old w t s i hi⟩

theorem atoi_S {n : Nat} {rets : List ResultVar} {code : Code} {ρ : Ren} {g : Nat} (L : Lays.n172 σ.P ρ) (hg : ρ.f 172 = σ.fn g) (hf : Fun σ.P (σ.fn g) n rets code) : FnS σ W0 g atoiC := by
  intro vs κ h wv hx w s
  unfold atoiC at hx
  split at hx
  case h_2 => exact hx.elim
  case h_1 a1 =>
    obtain ⟨h1, v, h2, hk⟩ := hx
    rw [show (V.vals σ [V.str a1]).toArray = #[Value.string ⟨a1.toArray⟩] from rfl]
    refine calls_val hf ?_
    rw [← hg]
    refine (Any.strconv_Atoi L ⟨a1.toArray⟩ v (by simpa [ByteArray.size] using h1) h2 w).mono (fun e w' ⟨he, t, hw⟩ => ?_)
    subst hw
    exact ⟨.tup [.int .i64 v, .nilif], h, he, fun v hv => by
      simp only [List.mem_cons, List.not_mem_nil, or_false] at hv
      rcases hv with rfl | rfl <;> exact V.wf_nt rfl (V.wf_one rfl), s.belowW (bytesWorld_below w _ _), hk⟩

def fieldsFuncC (f : Nat) (p : Nat → Bool) (vs : List V) (κ : V → Heap → Prop) (h : Heap) : Prop :=
  match vs with
  | [.str a1, a2] => fieldsFuncI f p a1 a2 (fun s h => κ (.sl s) h) h
  | _ => False

/-- A block that stands behind the old memory becomes known. -/
theorem Sim.learn (s : Sim σ W0 h w) {A : Nat} {x : HO} {o : Obj} (hA : W0.heap.size ≤ A) (ho : w.heap[A]? = some o) (hx : simO σ x o) : Sim σ W0 (h.new (2 * A) x) w := by
  refine ⟨s.os, s.output, s.tape, s.size, fun b y hy => ?_, s.old, fun b y hy hr => ?_⟩
  · by_cases e : b = 2 * A
    · subst e
      simp only [Heap.new, if_true, Option.some.injEq] at hy
      subst hy
      exact ⟨A, o, rfl, ho, hx⟩
    · simp only [Heap.new, if_neg e] at hy
      exact s.known b y hy
  · by_cases e : b = 2 * A
    · subst e; omega
    · simp only [Heap.new, if_neg e] at hy
      exact s.own b y hy hr

theorem calls_of_val {P : Program} {f : FuncId} {n : Nat} {rets : List ResultVar} {code : Code} {args : Array Value} {R : Ending → World → Prop} (hf : Fun P f n rets code) (hc : CallsVal P (.func (.func f) #[] #[]) args w R) : Calls P f args w R := by
  obtain ⟨fn, hfn, hb, hnt, hres, hname⟩ := hf.ex
  obtain ⟨f', args', hr, hc⟩ := hc
  have : (callFunc f args).run P w = .ok (.enter f args) w := by
    unfold callFunc
    simp only [Sem.run_bind, run_program, Result.andThen_ok, hfn, hname, hb]
    rfl
  have h2 : (do let d ← Deferred.ofValue (.func (.func f) #[] #[]) args; invoke d.target d.args : Sem Next).run P w = .ok (.enter f args) w := by
    simpa [Deferred.ofValue, invoke] using this
  rw [h2] at hr
  cases hr
  exact hc

theorem enters_fun {P : Program} {f : FuncId} {n : Nat} {rets : List ResultVar} {code : Code} (hf : Fun P f n rets code) : ∀ args w, (callFunc f args).run P w = .ok (.enter f args) w := by
  obtain ⟨fn, hfn, hb, hnt, hres, hname⟩ := hf.ex
  intro args w
  unfold callFunc
  simp only [Sem.run_bind, run_program, Result.andThen_ok, hfn, hname, hb]
  rfl

/-- A function that tells whether p holds. -/
def TellsP (σ : Seat) (f : Nat) (p : Nat → Bool) : Prop := ∀ (W : World) (x : Nat), x ≤ 1114111 → ∃ C, FnS σ W f C ∧ ∀ h, C [.int .i32 x] (fun v _ => v = .bool (p x)) h

theorem fieldsFunc_S {n n' : Nat} {rets rets' : List ResultVar} {code code' : Code} {ρ : Ren} {g f : Nat} {p : Nat → Bool} (L : Lays.n229 σ.P ρ) (hff : Fun σ.P (σ.fn f) n' rets' code') (hp : TellsP σ f p)
    (hi154 : (σ.P.info? (ρ.t 154)).map (fun i => (i.zero, i.size, i.bytes)) = some (some (.agg #[.int .i64 0, .int .i64 0]), 2, 16))
    (hi9 : (σ.P.info? (ρ.t 9)).map (fun i => (i.zero, i.size, i.bytes)) = some (some (.string ⟨#[]⟩), 1, 16)) (hg : ρ.f 229 = σ.fn g) (hf : Fun σ.P (σ.fn g) n rets code) : FnS σ W0 g (fieldsFuncC f p) := by
  intro vs κ h wv hx w s
  unfold fieldsFuncC at hx
  split at hx
  case h_2 => exact hx.elim
  case h_1 a1 a2 =>
    obtain ⟨h1, h2, hk⟩ := hx
    split at h2
    case h_2 => exact h2.elim
    case h_1 g' =>
      subst h2
      rw [show (V.vals σ [V.str a1, V.fn g' []]).toArray = #[Value.string ⟨a1.toArray⟩, .func (.func (σ.fn g')) #[] #[]] from rfl]
      refine calls_val hf ?_
      rw [← hg]
      have hpg : PredGrows σ.P (σ.fn g') #[] p w := by
        intro W x hx hb
        obtain ⟨C, hS, hC⟩ := hp W x hx
        have h0 : Sim σ W ⟨fun _ => none⟩ W := ⟨rfl, rfl, rfl, Nat.le_refl _, (fun b y hy => by cases hy), fun _ _ => rfl, (fun b y hy => by cases hy)⟩
        have := hS [.int .i32 x] _ ⟨fun _ => none⟩ (fun v hv => by cases List.mem_singleton.1 hv; exact V.wf_one rfl) (hC _) W h0
        refine (calls_of_val hff this).mono (fun e w' hpost => ?_)
        obtain ⟨v, h', he, _, hs, hv⟩ := hpost
        subst hv
        exact ⟨he, hs.below⟩
      refine (Any.strings_FieldsFunc_grows L (σ.fn g') #[] (enters_fun hff) p ⟨a1.toArray⟩ w (by simpa [ByteArray.size] using h1) hpg hi154 hi9).mono (fun e w' ⟨A, he, hA, hrow, hb⟩ => ?_)
      obtain ⟨hxl, hr⟩ := hrow
      rcases hr with ⟨hr, _⟩ | ⟨b', cap, cur, hr, _, hobj, _, _, hsz, htk⟩
      · cases hr
      · cases hr
        have hcur : cur.toList = (Lib.goFieldsP p ⟨a1.toArray⟩).map Value.string := by
          rw [← htk, List.take_of_length_le]
          simp only [Array.length_toList, Nat.mul_one] at hsz ⊢
          omega
        have s1 := s.belowW hb
        have hn := s1.learn (A := A) (x := .cells (((Lib.goFieldsP p ⟨a1.toArray⟩).map (·.data.toList)).map V.str) false) (o := .cells cur (ρ.t 9) (0, 0)) (by have := s.size; omega) hobj ⟨by
          rw [hcur, vals_str, List.map_map]; exact List.map_congr_left (fun x _ => rfl), fun v hv => by obtain ⟨x, _, rfl⟩ := List.mem_map.1 hv; rfl, rfl⟩
        have hnone : h.obj (2 * A) = none := by
          cases hh : h.obj (2 * A) with
          | none => rfl
          | some y => have := s.lt hh; omega
        exact ⟨.sl ⟨some ⟨2 * A, 0⟩, (Lib.goFieldsP p ⟨a1.toArray⟩).length, (Lib.goFieldsP p ⟨a1.toArray⟩).length⟩, _, by rw [he]; simp only [V.val, Option.map_some, addr_vb], V.wf_one rfl, hn, hk _ hnone⟩

end
end Go.Lift
