/- A ring over a memory that is told word by word. -/
import Derived.Test.YtpebofbnkfpakaaDoorRingD
set_option linter.unusedSimpArgs false
set_option linter.unusedVariables false
set_option maxRecDepth 100000
namespace Go.Ring
open Go.Lift Go.Fn Go.Mem

def upd (m : Nat → Int) (k : Nat) (v : Int) : Nat → Int := fun j => if j = k then v else m j

/-- A ring, and the memory's words. -/
def SM (U' : Ifc) (x : Nat → Int) (pm bm rg N ka n t g : Nat) (b : Bool) (m : Nat → Int) (h : Heap) : Prop :=
  ∃ bs : List UInt8, bs.length = N ∧ St U' x pm bm rg bs ka n t g b h ∧ ∀ j, 8 * j + 8 ≤ N → wd x bs j = m j

section
variable {U U' W : Ifc} {h h' : Heap} {x : Nat → Int} {pm bm rg N ka n t g : Nat} {b : Bool} {m : Nat → Int} {bs : List UInt8}

theorem St.conv (e : W.glob 1 = U'.glob 1) (S : St U' x pm bm rg bs ka n t g b h) : St W x pm bm rg bs ka n t g b h :=
  { S with w := fun i hi => by rw [e]; exact S.w i hi, gg := by rw [e]; exact S.gg, wb := by rw [e]; exact S.wb }

theorem SM.conv (e : W.glob 1 = U'.glob 1) (S : SM U' x pm bm rg N ka n t g b m h) : SM W x pm bm rg N ka n t g b m h := by
  obtain ⟨bs, hl, S, hm⟩ := S
  exact ⟨bs, hl, S.conv e, hm⟩

theorem SM.keep0 (S : SM U' x pm bm rg N ka n t g b m h) (k : Keeps none_ h h') : SM U' x pm bm rg N ka n t g b m h' := by
  obtain ⟨bs, hl, S, hm⟩ := S
  exact ⟨bs, hl, S.keep0 k, hm⟩

theorem SM.as {m' : Nat → Int} (S : SM U' x pm bm rg N ka n t g b m h) (e : ∀ j, 8 * j + 8 ≤ N → m j = m' j) : SM U' x pm bm rg N ka n t g b m' h := by
  obtain ⟨bs, hl, S, hm⟩ := S
  exact ⟨bs, hl, S, fun j hj => (hm j hj).trans (e j hj)⟩

theorem sm_store (e : W.glob 1 = U'.glob 1) (S : SM U' x pm bm rg N ka n t g b m h) (hk8 : knownB x 8 = true) {k : Nat} {v a : Int} (ea : a = ((8 * k : Nat) : Int)) (hk : 8 * k + 8 ≤ N) (h0 : 0 ≤ v) (h1 : v ≤ 18446744073709551615) {Q : Int → Heap → Prop}
    (hq : ∀ h', SM U' x pm bm rg N ka n t g b (upd m k v) h' → Keeps (· = bm) h h' → Q 0 h') : mem_Memory_Store W (some ⟨pm, 0⟩) a 8 v Q h := by
  obtain ⟨bs, hl, S, hm⟩ := S
  refine st_store (S.conv e) hk8 ea (by omega) h0 h1 (fun bs' h' S' P k' => ?_)
  refine hq h' ⟨bs', by rw [P.1]; exact hl, S'.conv e.symm, fun j hj => ?_⟩ k'
  rw [P.2 j (by omega)]
  unfold upd
  split
  · rfl
  · exact hm j hj

theorem sm_load (e : W.glob 1 = U'.glob 1) (S : SM U' x pm bm rg N ka n t g b m h) {k : Nat} {a : Int} (ea : a = ((8 * k : Nat) : Int)) (hk : 8 * k + 8 ≤ N) {Q : Int → Int → Heap → Prop}
    (hq : ∀ h', SM U' x pm bm rg N ka n t g b m h' → Keeps none_ h h' → Q (m k) 0 h') : mem_Memory_Load W (some ⟨pm, 0⟩) a 8 Q h := by
  obtain ⟨bs, hl, S, hm⟩ := S
  refine st_load (S.conv e) ea (by omega) (fun h' S' k' => ?_)
  rw [hm k hk]
  exact hq h' ⟨bs, hl, S'.conv e.symm, hm⟩ k'

theorem desc_of (hl : bs.length = N) (hm : ∀ j, 8 * j + 8 ≤ N → wd x bs j = m j) {K : Nat} {p : Part} {nx : Int} {more : Bool} (hK : 8 * (K + 4) ≤ N) (e0 : m K = p.at_) (e1 : m (K + 1) = p.len) (e2 : m (K + 2) = fl p.write more) (e3 : m (K + 3) = nx)
    (l1 : 1 ≤ p.len ∧ p.len ≤ 4096) (a1 : 0 ≤ p.at_ ∧ p.at_ ≤ 1099511627776 - p.len) : Desc x bs K p nx more :=
  ⟨(hm _ (by omega)).trans e0, (hm _ (by omega)).trans e1, (hm _ (by omega)).trans e2, (hm _ (by omega)).trans e3, l1, a1, by omega⟩

theorem sm_next (u : RU U U') (S : SM U' x pm bm rg N ka n t g false m h) {R : List Part} {cnt : Int} (hcnt : m (ka + 4 * n) = cnt) (hN : 8 * (ka + 7 * n + 2) ≤ N)
    (hL : ∀ bs, bs.length = N → (∀ j, 8 * j + 8 ≤ N → wd x bs j = m j) → cnt ≠ t → IntKind.u64.wrap (cnt - t) ≤ n → Link x bs ka n R (m (ka + 4 * n + 1 + t % n)) [] ∧ R.length ≤ n)
    {Q : Int → Sl → Bool → Int → Heap → Prop}
    (hA : cnt = t → ∀ h', SM U' x pm bm rg N ka n t g false m h' → Keeps none_ h h' → Q 0 ⟨none, 0, 0⟩ false 0 h')
    (hB : cnt ≠ t → ¬ IntKind.u64.wrap (cnt - t) ≤ n → ∀ h', SM U' x pm bm rg N ka n t g true m h' → Keeps (· = rg) h h' → Q 0 ⟨none, 0, 0⟩ false 22 h')
    (hC : cnt ≠ t → IntKind.u64.wrap (cnt - t) ≤ n → ∀ s h', Held h' s 3 (parts R) → SM U' x pm bm rg N ka n (t + 1) g false m h' → Keeps (· = rg) h h' → Q (m (ka + 4 * n + 1 + t % n)) s true 0 h') (ht : t + 1 ≤ 1000) :
    ring_Ring_Next U (some ⟨rg, 0⟩) (gst pm) Q h := by
  obtain ⟨bs, hl, S, hm⟩ := S
  have htn : t % n < n := Nat.mod_lt _ S.n1
  refine next_ex u S (R := R) (cnt := cnt) (head := m (ka + 4 * n + 1 + t % n)) ((hm _ (by omega)).trans hcnt) (hm _ (by omega)) (hL bs hl hm) (fun c h' S' k => ?_) (fun c d h' S' k => ?_) (fun c d _ s h' H S' k => ?_) ht
  · exact hA c h' ⟨bs, hl, S', hm⟩ k
  · exact hB c d h' ⟨bs, hl, S', hm⟩ k
  · exact hC c d s h' H ⟨bs, hl, S', hm⟩ k

theorem sm_told (S : SM U' x pm bm rg N ka n t g b m h) {Q : Int → Int → Bool → Heap → Prop} (hq : Q t g b h) : ring_Ring_Told (some ⟨rg, 0⟩) Q h := by
  obtain ⟨bs, hl, S, hm⟩ := S
  exact st_told S hq

theorem sm_push_none (S : SM U' x pm bm rg N ka n t g false m h) (hgt : g = t) {head len : Int} (hd : 0 ≤ head ∧ head < n) (hlen : 0 ≤ len) {Q : Int → Heap → Prop} (hq : Q 21 h) : ring_Ring_Push U (some ⟨rg, 0⟩) (gst pm) head len Q h := by
  obtain ⟨bs, hl, S, hm⟩ := S
  exact push_none S hgt hd hlen hq

theorem sm_push (u : RU U U') (S : SM U' x pm bm rg N ka n t g false m h) (hk8 : knownB x 8 = true) (hgt : g ≠ t) {head len : Int} (hd : 0 ≤ head ∧ head < n) (hlen : 0 ≤ len ∧ len ≤ 9223372036854775807) (hg : g + 1 ≤ 1000) (hN : 8 * (ka + 7 * n + 2) ≤ N) {Q : Int → Heap → Prop}
    (hq : ∀ h', SM U' x pm bm rg N ka n t (g + 1) false (upd (upd (upd m (ka + 5 * n + 2 + 2 * (g % n)) head) (ka + 5 * n + 2 + 2 * (g % n) + 1) len) (ka + 5 * n + 1) ((g + 1 : Nat) : Int)) h' → Keeps (fun z => z = rg ∨ z = bm) h h' → Q 0 h') : ring_Ring_Push U (some ⟨rg, 0⟩) (gst pm) head len Q h := by
  obtain ⟨bs, hl, S, hm⟩ := S
  refine push_ex u S hk8 hgt hd hlen hg (fun bs1 bs2 bs3 h' P1 P2 P3 S' k => ?_)
  refine hq h' ⟨bs3, by rw [P3.1, P2.1, P1.1]; exact hl, S', fun j hj => ?_⟩ k
  have l1 := P1.1
  have l2 := P2.1
  have l3 := P3.1
  rw [P3.2 j (by omega), P2.2 j (by omega), P1.2 j (by omega), hm j hj]
  simp only [upd]

theorem right_of {m : Nat} (hm : m < 7) {Q : Bool → Heap → Prop} {h : Heap} (hq : Q true h) : ring_right ((2 ^ m : Nat) : Int) Q h := by
  unfold ring_right
  have : m = 0 ∨ m = 1 ∨ m = 2 ∨ m = 3 ∨ m = 4 ∨ m = 5 ∨ m = 6 := by omega
  rcases this with rfl | rfl | rfl | rfl | rfl | rfl | rfl <;> exact hq

theorem new_of {a : Int} {e : Nat} (he : e < 7) (a0 : 0 ≤ a) (a1 : a ≤ 4088) (a8 : a.tmod 8 = 0) {Q : Option Ptr → Int → Heap → Prop}
    (hq : ∀ rg h', h.obj rg = none → h'.obj rg = some (.cells (rng a ((2 ^ e : Nat) : Int) 0 0 false) false) → Keeps none_ h h' → Q (some ⟨rg, 0⟩) 0 h') : ring_New a ((2 ^ e : Nat) : Int) Q h := by
  have hn64 : 2 ^ e ≤ 64 := by
    have := Nat.pow_le_pow_right (n := 2) (by omega) (show e ≤ 6 by omega)
    simpa using this
  have hn1 : 1 ≤ 2 ^ e := Nat.one_le_two_pow
  unfold ring_New
  refine right_of he (br_f rfl (nz_of (by decide) (br_f (by simp [a8]) (br_f (by simp; omega) ?_))))
  have ew : IntKind.u64.wrap ((2 ^ e : Nat) : Int) = ((2 ^ e : Nat) : Int) := wrapu64
  rw [ew]
  exact al_of (fun rg h2 hb2 ho2 k2 => hq rg h2 hb2 ho2 k2)

theorem shl_cases3 (k : Int) : ∃ m : Nat, m < 4 ∧ shlI .i64 1 (IntKind.u64.wrap (ibits .and .i64 k 3)) = ((2 ^ m : Nat) : Int) := by
  obtain ⟨h0, h1⟩ := and64_le k 3 (by omega) (by omega)
  generalize ibits .and .i64 k 3 = j at *
  have : j = 0 ∨ j = 1 ∨ j = 2 ∨ j = 3 := by omega
  rcases this with rfl | rfl | rfl | rfl
  · exact ⟨0, by omega, by decide⟩
  · exact ⟨1, by omega, by decide⟩
  · exact ⟨2, by omega, by decide⟩
  · exact ⟨3, by omega, by decide⟩

/-- A new memory, and a new ring in it. -/
theorem sm_new (w : Wid U' h x) {pm bm rg F e ka : Nat} {h1 h2 : Heap} (he : e < 4) (M : Mem.Rep pm bm (List.replicate ((F : Int) * 256).toNat 0) h1) (hp : h.obj pm = none) (hb : h.obj bm = none) (k1 : Keeps none_ h h1) (hr : h1.obj rg = none)
    (ho : h2.obj rg = some (.cells (rng ((8 * ka : Nat) : Int) ((2 ^ e : Nat) : Int) 0 0 false) false)) (k2 : Keeps none_ h1 h2) (hN : 8 * (ka + 7 * 2 ^ e + 2) ≤ F * 256) : SM U' x pm bm rg (F * 256) ka (2 ^ e) 0 0 false (fun _ => 0) h2 := by
  have hn8 : 2 ^ e ≤ 8 := by
    have := Nat.pow_le_pow_right (n := 2) (by omega) (show e ≤ 3 by omega)
    simpa using this
  have eF : ((F : Int) * 256).toNat = F * 256 := by omega
  rw [eF] at M
  have w1 := w.keep0 k1
  refine ⟨List.replicate (F * 256) 0, by simp, ⟨w1.keep0 k2, M.keep0 k2, by simpa using ho, fun e => M.known1 (e ▸ hr), fun e => M.known2 (e ▸ hr), fun e => w1.known (e ▸ hr), fun e => w.known (e ▸ hb), Nat.one_le_two_pow, by omega, by omega, by omega, by simp; omega⟩, fun j hj => wd_zero hj⟩

end
end Go.Ring
