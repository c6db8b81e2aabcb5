/- Functions of the library whose contracts the kit has: a sort of ints. -/
import Derived.Test.YtgigbjieppllgaaDoorLiftY
import Derived.Test.YtgigbjieppllgaaDoorLiftN
import Derived.Shelf.Sort.Plain
import Derived.Shelf.Slices.In.SortNone
namespace Go.Lift
open Go.RowKit Go.Shelf Go.Sort Go.Proofs

section
variable {σ : Seat} {W0 : World} {h : Heap} {w : World}

theorem calls_val {P : Program} {f : FuncId} {n : Nat} {rets : List ResultVar} {code : Code} {args : Array Value} {R : Ending → World → Prop} (hf : Fun P f n rets code) (hc : Calls P f args w R) : CallsVal P (.func (.func f) #[] #[]) args w R := by
  obtain ⟨fn, hfn, hb, hnt, hres, hname⟩ := hf.ex
  refine ⟨f, args, ?_, hc⟩
  have : (callFunc f args).run P w = .ok (.enter f args) w := by
    unfold callFunc
    simp only [Sem.run_bind, run_program, Result.andThen_ok, hfn, hname, hb]
    rfl
  simpa [Deferred.ofValue, invoke] using this

theorem putCells_vals {l : List V} {o : Nat} {zs : List Int} {c : Array Value} (hc : c.toList = V.vals σ l) (hl : o + zs.length ≤ l.length) :
    (Go.Sort.putCells (Value.int .i64) o zs.toArray c).toList = V.vals σ (spl l o (zs.map (V.int .i64))) := by
  have hsz : c.size = l.length := by have := congrArg List.length hc; simpa [vals_map] using this
  refine List.ext_getElem? (fun i => ?_)
  unfold Go.Sort.putCells
  rw [Array.getElem?_toList, Array.getElem?_mapIdx, vals_map, List.getElem?_map, spl_get (by simpa using hl), List.length_map]
  have hci : c[i]? = (l[i]?).map (V.val σ) := by rw [← Array.getElem?_toList, hc, vals_map, List.getElem?_map]
  rw [hci]
  by_cases hi : o ≤ i ∧ i < o + zs.length
  · rw [if_pos hi, List.getElem?_map]
    have h1 : i - o < zs.length := by omega
    have h2 : i < l.length := by omega
    rw [List.getElem?_eq_getElem h1, List.getElem?_eq_getElem h2]
    simp only [Option.map_some, List.size_toArray, if_pos hi, V.val]
    rw [getElem!_pos _ _ (by simpa using h1)]
    simp
  · rw [if_neg hi]
    cases l[i]? with
    | none => rfl
    | some v => simp only [Option.map_some, List.size_toArray, if_neg hi]

theorem simSort (s : Sim σ W0 h w) {b kb o : Nat} (ek : b = 2 * kb) {l : List V} {zs : List Int} (hb : h.obj b = some (.cells l false)) (hl : o + zs.length ≤ l.length) (n : Nat) (os : Array Obj) :
    Sim σ W0 (h.setO b (.cells (spl l o (zs.map (V.int .i64))) false)) (grow (putRow (Value.int .i64) (Sort.ahead w n) kb o zs.toArray) os) := by
  obtain ⟨kb', ob, ek', hob, hs⟩ := s.known b _ hb
  obtain rfl : kb = kb' := by omega
  have hown := s.own b _ hb rfl
  have hbw : kb < w.heap.size := by
    rcases Nat.lt_or_ge kb w.heap.size with h1 | h1
    · exact h1
    · rw [Array.getElem?_eq_none h1] at hob; cases hob
  have hget : ∀ c : Nat, c < w.heap.size → (grow (putRow (Value.int .i64) (Sort.ahead w n) kb o zs.toArray) os).heap[c]? = if kb = c then (w.heap[c]?).map (onCells (Go.Sort.putCells (Value.int .i64) o zs.toArray)) else w.heap[c]? := by
    intro c hc
    show ((w.heap.modify kb (onCells (Go.Sort.putCells (Value.int .i64) o zs.toArray))) ++ os)[c]? = _
    rw [Array.getElem?_append_left (by simpa using hc), Array.getElem?_modify]
  refine ⟨s.os, s.output, s.tape, ?_, fun c x hx => ?_, fun c hc => ?_, fun c x hx hr => ?_⟩
  · have : (grow (putRow (Value.int .i64) (Sort.ahead w n) kb o zs.toArray) os).heap.size = w.heap.size + os.size := by rw [size_grow, size_putRow]; rfl
    rw [this]; have := s.size; omega
  · by_cases hcb : c = b
    · subst hcb
      have hx : x = .cells (spl l o (zs.map (V.int .i64))) false := by
        have : (h.setO c (.cells (spl l o (zs.map (V.int .i64))) false)).obj c = some (.cells (spl l o (zs.map (V.int .i64))) false) := by simp [Heap.setO]
        rw [this] at hx; exact (Option.some.inj hx).symm
      subst hx
      cases ob with
      | cells cc t fz =>
        obtain ⟨h1, h2, h3⟩ := hs
        refine ⟨kb, .cells (Go.Sort.putCells (Value.int .i64) o zs.toArray cc) t fz, ek, (by rw [hget kb hbw, if_pos rfl, hob]; rfl), putCells_vals h1 hl, fun v hv => ?_, h3⟩
        unfold spl at hv
        rcases List.mem_append.1 hv with hv | hv
        · rcases List.mem_append.1 hv with hv | hv
          · exact h2 v (List.mem_of_mem_take hv)
          · obtain ⟨z, _, rfl⟩ := List.mem_map.1 hv; rfl
        · exact h2 v (List.mem_of_mem_drop hv)
      | _ => exact hs.elim
    · have hx' : h.obj c = some x := by
        have : (h.setO b (.cells (spl l o (zs.map (V.int .i64))) false)).obj c = h.obj c := by simp [Heap.setO, hcb]
        rw [this] at hx; exact hx
      obtain ⟨kc, oc, ec, hoc, hsc⟩ := s.known c x hx'
      have hcw : kc < w.heap.size := by
        rcases Nat.lt_or_ge kc w.heap.size with h1 | h1
        · exact h1
        · rw [Array.getElem?_eq_none h1] at hoc; cases hoc
      exact ⟨kc, oc, ec, by rw [hget kc hcw, if_neg (by omega)]; exact hoc, hsc⟩
  · rw [hget c (by have := s.size; omega), if_neg (by omega)]
    exact s.old c hc
  · by_cases hcb : c = b
    · subst hcb; exact hown
    · have : (h.setO b (.cells (spl l o (zs.map (V.int .i64))) false)).obj c = h.obj c := by simp [Heap.setO, hcb]
      rw [this] at hx; exact s.own c x hx hr

def sortC (vs : List V) (κ : V → Heap → Prop) (h : Heap) : Prop :=
  match vs with
  | [.sl a1] => sortI a1 (fun h => κ (.tup []) h) h
  | _ => False

theorem sort_S {n : Nat} {rets : List ResultVar} {code : Code} {ρ : Ren} {g : Nat} (Ly : Lays.n189 σ.P ρ) (hg : ρ.f 189 = σ.fn g) (hf : Fun σ.P (σ.fn g) n rets code) : FnS σ W0 g sortC := by
  intro vs κ h wv hx w s
  unfold sortC at hx
  split at hx
  case h_2 => exact hx.elim
  case h_1 a1 =>
    unfold sortI at hx
    rw [show (V.vals σ [V.sl a1]).toArray = #[Value.slice (a1.p.map Ptr.addr) a1.len a1.cap] from rfl]
    refine calls_val hf ?_
    rw [← hg]
    by_cases h0 : a1.len = 0
    · rw [if_pos h0] at hx
      rw [h0]
      refine (Any.slices_Sort_int_none Ly _ _ w).mono (fun e w' ⟨he, hw⟩ => ?_)
      subst hw
      exact ⟨.tup [], h, he, fun v hv => (by cases hv), s, hx⟩
    · rw [if_neg h0] at hx
      obtain ⟨p, l, hp, ho, zs, hz, hlen, hl, hz2, hk⟩ := hx
      obtain ⟨kb, ob, ek, hob, _⟩ := s.known p.b _ ho
      rw [hp, Option.map_some, addr_of ek]
      rw [← hz]
      have hHz : ∀ j, j < zs.length → h.getW p.b (p.o + j) = some (.int .i64 zs[j]!) := by
        intro j hj
        have h1 : (zs.map (V.int .i64))[j]? = some (.int .i64 zs[j]!) := by rw [List.getElem?_map, List.getElem?_eq_getElem hj, getElem!_pos zs j hj]; rfl
        rw [← hz2, List.getElem?_take_of_lt (by omega), List.getElem?_drop] at h1
        unfold Heap.getW
        rw [ho]
        exact h1
      have hHolds : Holds (Value.int .i64) w kb p.o zs.toArray := by
        intro j hj
        have hj : j < zs.length := by simpa using hj
        obtain ⟨q1, q2, -⟩ := s.getW (p := ⟨p.b, p.o + j⟩) (hHz j hj)
        rw [addr_of (p := ⟨p.b, p.o + j⟩) ek] at q1 q2
        refine ⟨?_, q2⟩
        rw [show (zs.toArray[j]! : Int) = zs[j]! by simp]
        exact q1
      have hbw : kb < w.heap.size := by
        rcases Nat.lt_or_ge kb w.heap.size with h1 | h1
        · exact h1
        · rw [Array.getElem?_eq_none h1] at hob; cases hob
      refine (Any.slices_Sort_int Ly kb p.o a1.cap zs w hHolds hbw (by omega)).mono (fun e w' ⟨he, m, os, hw⟩ => ?_)
      subst hw
      refine ⟨.tup [], _, he, fun v hv => (by cases hv), simSort s ek ho (zs := zs.mergeSort fun x y => decide (x ≤ y)) (by simpa using (by omega : p.o + zs.length ≤ l.length)) m os, hk⟩

end
end Go.Lift
