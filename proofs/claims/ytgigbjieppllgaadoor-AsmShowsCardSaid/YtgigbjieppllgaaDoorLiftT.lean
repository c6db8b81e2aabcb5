/- Functions of the library whose contracts the kit has: strings.Fields, strings.Join, strconv.Itoa. -/
import Derived.Test.YtgigbjieppllgaaDoorLiftS
import Derived.Shelf.Strings.Fields
import Derived.Shelf.Strings.OnBuilder
import Derived.Shelf.Strconv.Itoa3
namespace Go.Lift
open Go.RowKit Go.Shelf Go.Sort Go.Proofs

section
variable {σ : Seat} {W0 : World} {h : Heap} {w w' : World}

theorem Sim.lt (s : Sim σ W0 h w) {b : Nat} {x : HO} (hx : h.obj b = some x) : b < 2 * w.heap.size := by
  obtain ⟨k, o, ek, ho, _⟩ := s.known b x hx
  rcases Nat.lt_or_ge k w.heap.size with h1 | h1
  · omega
  · rw [Array.getElem?_eq_none h1] at ho; cases ho

/-- What leaves the old memory as it was, leaves what is known of it. -/
theorem Sim.belowW (s : Sim σ W0 h w) (hb : Below w.heap.size w w') : Sim σ W0 h w' := by
  refine ⟨hb.os.trans s.os, hb.output.trans s.output, hb.tape.trans s.tape, Nat.le_trans s.size hb.size, fun b x hx => ?_, fun b hlt => ?_, s.own⟩
  · obtain ⟨k, o, ek, ho, hs⟩ := s.known b x hx
    exact ⟨k, o, ek, by rw [hb.block k (by have := s.lt hx; omega)]; exact ho, hs⟩
  · rw [hb.block b (Nat.lt_of_lt_of_le hlt s.size)]; exact s.old b hlt

theorem grow_below (k : Nat) (os : Array Obj) : Below w.heap.size w (grow (w.drewN k) os) := by
  refine ⟨rfl, rfl, rfl, ?_, fun i hi => ?_⟩
  · show w.heap.size ≤ (w.heap ++ os).size
    simp
  · show (w.heap ++ os)[i]? = w.heap[i]?
    rw [Array.getElem?_append_left hi]

theorem vals_str (l : List (List UInt8)) : V.vals σ (l.map V.str) = l.map fun x => Value.string ⟨x.toArray⟩ := by rw [vals_map, List.map_map]; rfl
theorem vals_ints (k : IntKind) (l : List Int) : V.vals σ (l.map (V.int k)) = l.map fun z => Value.int k z := by rw [vals_map, List.map_map]; rfl

theorem tab_is (s : Sim σ W0 h w) {gls : List (Nat × Nat)} {U : Ifc} (hU : IfcOK σ W0 gls U) {name : String} {g c : Nat} {k : IntKind} {zs : List Int} (hg : σ.P.globalNamed name = some g) (hl : looks gls g = some c) (ht : (c, zs.map (V.int k)) ∈ U.tabs) : Lib.TabIs σ.P w name k zs := by
  obtain ⟨el, fz, h0⟩ := hU.tabs _ _ ht
  rw [looks_pair2 hU.gl hl, Nat.mul_div_cancel_left g (by omega)] at h0
  have hlt : g < W0.heap.size := by
    rcases Nat.lt_or_ge g W0.heap.size with h1 | h1
    · exact h1
    · rw [Array.getElem?_eq_none h1] at h0; cases h0
  unfold Lib.TabIs World.var?
  rw [hg]
  simp only [Option.bind_some]
  rw [s.old g hlt, h0, vals_ints]

def fieldsC (tab : Nat) (vs : List V) (κ : V → Heap → Prop) (h : Heap) : Prop :=
  match vs with
  | [.str a1] => fieldsI tab a1 (fun s h => κ (.sl s) h) h
  | _ => False

theorem fields_S {n : Nat} {rets : List ResultVar} {code : Code} {ρ : Ren} {g c : Nat} {gls : List (Nat × Nat)} {U : Ifc} (hU : IfcOK σ W0 gls U) (L : Lays.n157 σ.P ρ) (hi9 : (σ.P.info? (ρ.t 9)).map (fun i => (i.zero, i.size, i.bytes)) = some (some (.string ByteArray.empty), 1, 16)) (hl : looks gls (ρ.g 0) = some c) (hg : ρ.f 157 = σ.fn g) (hf : Fun σ.P (σ.fn g) n rets code) : FnS σ W0 g (fieldsC (U.glob c)) := by
  intro vs κ h wv hx w s
  unfold fieldsC at hx
  split at hx
  case h_2 => exact hx.elim
  case h_1 a1 =>
    obtain ⟨h1, h2, h3, hk⟩ := hx
    rw [show (V.vals σ [V.str a1]).toArray = #[Value.string ⟨a1.toArray⟩] from rfl]
    refine calls_val hf ?_
    rw [← hg]
    have hT : ∀ c' : Nat, c' < 256 → w.cell? ⟨ρ.g 0, c', none⟩ = some (.int .u8 (if Lib.isSp (UInt8.ofNat c') then 1 else 0)) := by
      intro c' hc'
      have := h3 c' hc'
      rw [looks_pair2 hU.gl hl] at this
      have h4 := (s.get (p := ⟨2 * ρ.g 0, c'⟩) this).1
      rw [addr_vb] at h4
      exact h4
    refine (Any.strings_Fields_core L hi9 ⟨a1.toArray⟩ w (by simpa [ByteArray.size] using h1) (fun j b hb => h2 b (List.mem_of_getElem? (by simpa using hb))) hT).mono (fun e w' ⟨he, hw⟩ => ?_)
    subst hw
    have hn := s.new (x := .cells ((Lib.fields a1).map V.str) false) (o := .cells ((Lib.fields a1).map fun l => Value.string ⟨l.toArray⟩).toArray (ρ.t 9)) ⟨by rw [vals_str], fun v hv => by obtain ⟨x, _, rfl⟩ := List.mem_map.1 hv; rfl, rfl⟩
    exact ⟨.sl ⟨some ⟨2 * w.heap.size, 0⟩, (Lib.fields a1).length, (Lib.fields a1).length⟩, _, by rw [he]; simp only [V.val, Option.map_some, addr_vb], V.wf_one rfl, hn, hk _ s.size_none⟩

def itoaC (U : Ifc) (c : Nat) (vs : List V) (κ : V → Heap → Prop) (h : Heap) : Prop :=
  match vs with
  | [.int .i64 a1] => itoaI U c a1 (fun s h => κ (.str s) h) h
  | _ => False

theorem itoa_S {n : Nat} {rets : List ResultVar} {code : Code} {ρ : Ren} {g c gn : Nat} {gls : List (Nat × Nat)} {U : Ifc} (hU : IfcOK σ W0 gls U) (L : LaysM.n171 σ.P ρ) (hgn : σ.P.globalNamed "internal/strconv.uint64pow10" = some gn) (hl : looks gls gn = some c) (hg : ρ.f 171 = σ.fn g) (hf : Fun σ.P (σ.fn g) n rets code) : FnS σ W0 g (itoaC U c) := by
  intro vs κ h wv hx w s
  unfold itoaC at hx
  split at hx
  case h_2 => exact hx.elim
  case h_1 a1 =>
    obtain ⟨h1, h2, h3, hk⟩ := hx
    rw [show (V.vals σ [V.int .i64 a1]).toArray = #[Value.int .i64 a1] from rfl]
    refine calls_val hf ?_
    rw [← hg]
    refine (Any.strconv_Itoa L a1 h1 h2 w (tab_is s hU hgn hl h3)).mono (fun e w' ⟨he, k, os, hw⟩ => ?_)
    subst hw
    exact ⟨.str (Lib.itoa a1), h, he, V.wf_one rfl, s.belowW (grow_below k os), hk⟩

def joinC (vs : List V) (κ : V → Heap → Prop) (h : Heap) : Prop :=
  match vs with
  | [.sl a1, .str a2] => joinI a1 a2 (fun s h => κ (.str s) h) h
  | _ => False

theorem join_S {n : Nat} {rets : List ResultVar} {code : Code} {ρ : Ren} {g : Nat} (L : Lays.n156 σ.P ρ) (X : Builder.Extra σ.P ρ) (hg : ρ.f 156 = σ.fn g) (hf : Fun σ.P (σ.fn g) n rets code) : FnS σ W0 g joinC := by
  intro vs κ h wv hx w s
  unfold joinC at hx
  split at hx
  case h_2 => exact hx.elim
  case h_1 a1 a2 =>
    obtain ⟨p, xs, hp, hlen, hcap, hc, hb, hN, hJ, hk⟩ := hx
    rw [show (V.vals σ [V.sl a1, V.str a2]).toArray = #[Value.slice (a1.p.map Ptr.addr) a1.len a1.cap, Value.string ⟨a2.toArray⟩] from rfl]
    refine calls_val hf ?_
    obtain ⟨kb, ek, hbw⟩ : ∃ kb, p.b = 2 * kb ∧ kb < w.heap.size := by
      cases hx : h.obj p.b with
      | none => exact absurd hx hb
      | some x =>
        obtain ⟨k, o, ek, _⟩ := s.known p.b x hx
        have := s.lt hx
        exact ⟨k, ek, by omega⟩
    rw [← hg, hp, hlen, Option.map_some, addr_of ek]
    let ys : List ByteArray := xs.map fun x => ⟨x.toArray⟩
    have hys : ys.map (·.data.toList) = xs := by
      show (xs.map fun x => (⟨x.toArray⟩ : ByteArray)).map (·.data.toList) = xs
      rw [List.map_map]
      exact (List.map_congr_left (fun x _ => rfl)).trans (List.map_id _)
    have hyl : ys.length = xs.length := by simp [ys]
    have hcells : ∀ (j : Nat) x, ys[j]? = some x → w.cell? ⟨kb, p.o + j, none⟩ = some (.string x) := by
      intro j x hj
      rw [List.getElem?_map] at hj
      cases hxj : xs[j]? with
      | none => rw [hxj] at hj; cases hj
      | some y =>
        rw [hxj] at hj
        cases hj
        have h4 := (s.get (p := ⟨p.b, p.o + j⟩) (hc j y hxj)).1
        rw [addr_of (p := ⟨p.b, p.o + j⟩) ek] at h4
        exact h4
    rw [← hyl]
    refine (Any.strings_Join L X kb p.o a1.cap ys ⟨a2.toArray⟩ w hcells hbw (by rw [hyl]; exact hN) (by rw [hyl]; omega) (by rw [hys]; exact hJ)).mono (fun e w' ⟨he, hw⟩ => ?_)
    rw [hys] at he
    exact ⟨.str (Lib.join xs a2), h, he, V.wf_one rfl, s.belowW hw, hk⟩

end
end Go.Lift
