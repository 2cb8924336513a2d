/- The contracts of the functions that the law reaches, joined into one text. -/
import Derived.Test.YtkjcbneanaeleaaBaseB35E
import Derived.OpenShut
import Derived.Deep.Slices
import Derived.Deep.Strs
import Derived.SizedLaws
import Derived.Deep.OwnRows
set_option linter.unusedVariables false
set_option linter.unusedSimpArgs false

/- the text Row2 -/
section
/- How the arguments of a law read: slices of integers, of strings, of arrays of integers, with the form's own reach. No program. -/
namespace Go.Dx
open Go.RowKit Go.WideShapes Go.ChangeShapes Go.Deep

/-- no part is longer than the form lets it be -/
def Sized {H : Type} (P : Program) (t : TypeId) (d : DataW H) : Prop := ∀ n ∈ d.weights P t, n ≤ reachBytes
section
variable {H : Type} {enc : TypeId × Value → H} {P : Program} {w : World}
theorem sized_at {ts : List TypeId} {ds : List (DataW H)} (hwt : (DataW.weightsEach P ts ds).all (· ≤ reachBytes) = true) (j : Nat) {t : TypeId} {d : DataW H} (ht : ts[j]? = some t) (hd : ds[j]? = some d) : Sized P t d :=
  fun n hn => by simpa using List.all_eq_true.1 hwt _ (DataW.weights_mem_each ht hd n hn)
theorem sized_all {e : TypeId} : ∀ {l : List (DataW H)} {d : DataW H}, d ∈ l → ∀ n ∈ d.weights P e, n ∈ DataW.weightsAll P e l
  | x :: l, d, hd, n, hn => by
    simp only [DataW.weightsAll, List.mem_append]
    rcases List.mem_cons.1 hd with rfl | h
    · exact .inl hn
    · exact .inr (sized_all h n hn)
theorem Sized.slice {t e : TypeId} {elems spare : List (DataW H)} (h : Sized P t (.slice elems spare)) (hu : P.underlying t = some (.slice e)) :
    (elems.length + spare.length) * P.bytesOf e ≤ reachBytes ∧ (∀ d ∈ elems, Sized P e d) :=
  ⟨h _ (by simp [DataW.weights, hu]), fun d hd n hn => h n (by simp only [DataW.weights, hu, List.mem_cons, List.mem_append]; exact .inr (.inl (sized_all hd n hn)))⟩
theorem Sized.string {t : TypeId} {b : List UInt8} (h : Sized P t (DataW.lit (H := H) (.string b))) : b.length ≤ reachBytes := h _ (by simp [DataW.weights])

theorem add_cells {a : Addr} {n : Nat} : a.add n = a.add n := rfl

theorem trod_ints {t e : TypeId} {k : IntKind} (ht : P.underlying t = some (.slice e)) (he : P.underlying e = some (.int k)) (hc : P.cellsOf e = 1) (hb : 0 < P.bytesOf e) {a : Option Addr} {len cap : Nat} {d : DataW H} {p : List MemPlace}
    (hs : Sized P t d) (h : DataW.Trod enc P w 0 (fun _ => true) true t (.slice a len cap) d p) :
    ∃ zs : List Int, Sl w 1 a len cap (zs.map (Value.int k)) ∧ (∀ n ∈ zs, (Lit.int k n).wf = true) ∧ len ≤ reachBytes := by
  obtain ⟨fuel, hf⟩ := h
  rcases open_ints ht he hc hf with ⟨hcs, _⟩ | ⟨x, l, c, zs, hcs, _, hl, hm, hz, hx, hcell, hwz⟩
  · simp [Value.cells] at hcs
    obtain ⟨rfl, rfl, rfl⟩ := hcs
    exact ⟨[], Sl.empty w 1, by simp, Nat.zero_le _⟩
  · simp [Value.cells] at hcs
    obtain ⟨rfl, rfl, rfl⟩ := hcs
    have hz2 : zs.length = cap := by simpa using hz
    have hd := congrArg Prod.fst hx
    simp only at hd
    subst hd
    refine ⟨zs.take len, ⟨by simp; omega, hl, hm, (fun h => by cases h), ?_⟩, fun n hn => hwz n (List.mem_of_mem_take hn), ?_⟩
    · intro q hq j u hj
      cases hq
      rw [List.getElem?_map, List.getElem?_take] at hj
      by_cases hlt : j < len
      · rw [if_pos hlt] at hj
        have hjz : j < zs.length := by omega
        rw [List.getElem?_eq_getElem hjz] at hj
        simp at hj
        rw [hcell j hjz, ← hj, List.getD_eq_getElem?_getD, List.getElem?_eq_getElem hjz]
        rfl
      · rw [if_neg hlt] at hj; cases hj
    · have hsz := (hs.slice ht).1
      rw [show ∀ (k : IntKind) (l : List Int), (lits (H := H) k l).length = l.length from fun k l => by simp [lits], List.length_take, show min len zs.length = len by omega] at hsz
      exact Nat.le_trans (Nat.le_trans (Nat.le_add_right _ _) (Nat.le_mul_of_pos_right _ hb)) hsz

theorem trod_bytes {t e : TypeId} (ht : P.underlying t = some (.slice e)) (he : P.underlying e = some (.int .u8)) (hc : P.cellsOf e = 1) (hb : 0 < P.bytesOf e) {a : Option Addr} {len cap : Nat} {d : DataW H} {p : List MemPlace}
    (hs : Sized P t d) (h : DataW.Trod enc P w 0 (fun _ => true) true t (.slice a len cap) d p) :
    ∃ l : List UInt8, Sl w 1 a len cap (l.map B8) ∧ len ≤ reachBytes := by
  obtain ⟨zs, h1, h2, h3⟩ := trod_ints ht he hc hb hs h
  refine ⟨zs.map fun n => UInt8.ofNat n.toNat, ?_, h3⟩
  have e : (zs.map fun n => UInt8.ofNat n.toNat).map B8 = zs.map (Value.int .u8) := by
    rw [List.map_map]
    apply List.map_congr_left
    intro n hn
    have hb : 0 ≤ n ∧ n ≤ 255 := bounds_u8 (h2 n hn)
    show Value.int .u8 ((UInt8.ofNat n.toNat).toNat : Int) = _
    rw [UInt8.toNat_ofNat']
    congr 1
    omega
  rw [e]
  exact h1
theorem trod_i64s {t e : TypeId} (ht : P.underlying t = some (.slice e)) (he : P.underlying e = some (.int .i64)) (hc : P.cellsOf e = 1) (hb : 0 < P.bytesOf e) {a : Option Addr} {len cap : Nat} {d : DataW H} {p : List MemPlace}
    (hs : Sized P t d) (h : DataW.Trod enc P w 0 (fun _ => true) true t (.slice a len cap) d p) :
    ∃ l : List Int, Sl w 1 a len cap (l.map I64) ∧ (∀ n ∈ l, -9223372036854775808 ≤ n ∧ n ≤ 9223372036854775807) ∧ len ≤ reachBytes := by
  obtain ⟨zs, h1, h2, h3⟩ := trod_ints ht he hc hb hs h
  exact ⟨zs, h1, fun n hn => bounds_i64 (h2 n hn), h3⟩

theorem trod_strs {t e : TypeId} (ht : P.underlying t = some (.slice e)) (he : P.underlying e = some .string) (hc : P.cellsOf e = 1) (hb : 0 < P.bytesOf e) {a : Option Addr} {len cap : Nat} {d : DataW H} {p : List MemPlace}
    (hs : Sized P t d) (h : DataW.Trod enc P w 0 (fun _ => true) true t (.slice a len cap) d p) :
    ∃ l : List ByteArray, Sl w 1 a len cap (l.map Value.string) ∧ (∀ s ∈ l, s.size ≤ reachBytes) ∧ len ≤ reachBytes ∧ (l = [] ∨ ∃ sp, d = .slice (l.map fun s => .lit (.string s.data.toList)) sp) := by
  obtain ⟨fuel, hf⟩ := h
  rcases open_strs ht he hc hf with ⟨hcs, _⟩ | ⟨x, l, c, m, Sx, hcs, _, hl, hm, hmm, hx, hcell⟩
  · simp [Value.cells] at hcs
    obtain ⟨rfl, rfl, rfl⟩ := hcs
    exact ⟨[], Sl.empty w 1, by simp, Nat.zero_le _, .inl rfl⟩
  · simp [Value.cells] at hcs
    obtain ⟨rfl, rfl, rfl⟩ := hcs
    simp only [if_true] at hmm
    subst hmm
    have hd := congrArg Prod.fst hx
    simp only at hd
    subst hd
    obtain ⟨z1, z2⟩ := hs.slice ht
    refine ⟨(List.range len).map Sx, ⟨by simp, hl, hm, (fun h => by cases h), ?_⟩, ?_, ?_, .inr ⟨_, by rw [List.map_map]; rfl⟩⟩
    · intro q hq j u hj
      cases hq
      have hlt : j < len := by have := (List.getElem?_eq_some_iff.1 hj).1; simpa using this
      rw [(hcell j (by omega)).1]
      simp [hlt] at hj
      rw [hj]
    · intro s hs
      obtain ⟨i, hi, rfl⟩ := List.mem_map.1 hs
      have := Sized.string (z2 _ (List.mem_map.2 ⟨i, hi, rfl⟩))
      rwa [show (Sx i).data.toList.length = (Sx i).size from Array.length_toList] at this
    · simp only [List.length_map, List.length_range] at z1
      exact Nat.le_trans (Nat.le_trans (Nat.le_add_right _ _) (Nat.le_mul_of_pos_right _ hb)) z1

theorem trod_arr {t e n : Nat} {k : IntKind} {base : Nat} {spare : Nat → Bool} {held : Bool} {fuel : Nat} {cs : List Value} {x : DataW H × List MemPlace} (ht : P.underlying t = some (.array n e)) (he : P.underlying e = some (.int k)) (hc : P.cellsOf e = 1) (hct : P.cellsOf t = n)
    (h : DataW.trod enc P w base spare held fuel t cs = some x) : cs.length = n ∧ ∀ i, i < n → ∃ z, cs[i]? = some (.int k z) ∧ (Lit.int k z).wf = true := by
  obtain ⟨xs, m, _, _, hl, hxl, hi⟩ := DataW.trod_array ht h
  rw [hct] at hl
  refine ⟨hl, fun i hin => ?_⟩
  have h1 := hi i hin
  rw [hc, Nat.mul_one, List.getElem?_eq_getElem (by omega)] at h1
  obtain ⟨z, hz, _, hw⟩ := DataW.trod_int he h1
  refine ⟨z, ?_, hw⟩
  have := congrArg (·[0]?) hz
  simpa [List.getElem?_take, List.getElem?_drop] using this

theorem trod_arrs {t e q n : Nat} {k : IntKind} (ht : P.underlying t = some (.slice e)) (he : P.underlying e = some (.array n q)) (hq : P.underlying q = some (.int k)) (hc : P.cellsOf q = 1) (hce : P.cellsOf e = n) (hb : 0 < P.bytesOf e) (hn0 : 0 < n)
    {a : Option Addr} {len cap : Nat} {d : DataW H} {p : List MemPlace} (hs : Sized P t d) (h : DataW.Trod enc P w 0 (fun _ => true) true t (.slice a len cap) d p) :
    ∃ zs : List Int, Sl w n a len cap (zs.map (Value.int k)) ∧ (∀ n ∈ zs, (Lit.int k n).wf = true) ∧ len ≤ reachBytes := by
  obtain ⟨fuel, hf⟩ := h
  rcases open_slice ht hf with ⟨hcs, _⟩ | ⟨x, l, c, m, g, D, Pl, hcs, _, hl, hm, hmm, hx, hel⟩
  · simp [Value.cells] at hcs
    obtain ⟨rfl, rfl, rfl⟩ := hcs
    exact ⟨[], Sl.empty w n, by simp, Nat.zero_le _⟩
  · simp [Value.cells] at hcs
    obtain ⟨rfl, rfl, rfl⟩ := hcs
    simp only [if_true] at hmm
    subst hmm
    have hd := congrArg Prod.fst hx
    simp only at hd
    subst hd
    obtain ⟨z1, z2⟩ := hs.slice ht
    have each : ∀ j, j < len * n → ∃ z, w.cell? (x.add j) = some (.int k z) ∧ (Lit.int k z).wf = true := by
      intro j hj
      have hi : j / n < len := (Nat.div_lt_iff_lt_mul hn0).2 hj
      obtain ⟨cs', h1, h2⟩ := hel (j / n) (by omega)
      rw [hce] at h1
      obtain ⟨_, hcl, hat⟩ := World.cells?_some h1
      have hr : j % n < n := Nat.mod_lt _ hn0
      obtain ⟨z, hz, hwz⟩ := (trod_arr he hq hc hce h2).2 (j % n) hr
      refine ⟨z, ?_, hwz⟩
      have := hat (j % n) hr
      rw [sl_add, Nat.div_add_mod'] at this
      rw [this, hz]
    obtain ⟨Z, hZ⟩ := choose_lt each
    refine ⟨(List.range (len * n)).map Z, ⟨by simp, hl, hm, (fun h => by cases h), ?_⟩, ?_, ?_⟩
    · intro q hq j u hj
      cases hq
      have hlt : j < len * n := by have := (List.getElem?_eq_some_iff.1 hj).1; simpa using this
      rw [(hZ j hlt).1]
      simp [hlt] at hj
      rw [hj]
    · intro z hz
      obtain ⟨i, hi, rfl⟩ := List.mem_map.1 hz
      exact (hZ i (List.mem_range.1 hi)).2
    · simp only [List.length_map, List.length_range] at z1
      exact Nat.le_trans (Nat.le_trans (Nat.le_add_right _ _) (Nat.le_mul_of_pos_right _ hb)) z1
theorem bytes_of_wf {zs : List Int} (h : ∀ n ∈ zs, (Lit.int .u8 n).wf = true) : ∃ l : List UInt8, l.map B8 = zs.map (Value.int .u8) := by
  refine ⟨zs.map fun n => UInt8.ofNat n.toNat, ?_⟩
  rw [List.map_map]
  apply List.map_congr_left
  intro n hn
  have hb : 0 ≤ n ∧ n ≤ 255 := bounds_u8 (h n hn)
  show Value.int .u8 ((UInt8.ofNat n.toNat).toNat : Int) = _
  rw [UInt8.toNat_ofNat']
  congr 1
  omega
end
end Go.Dx
end

/- the text B38 -/
section
/- Chapter 06: rules that a call owns, with cells that lie below or that the call owns; what later stores leave. -/
namespace Go.Dx
open Go.RowKit
/-- the blocks from B on that were there are still as they were -/
def KeepAbove (B : Nat) (w w' : World) : Prop := ∀ k, B ≤ k → k < w.heap.size → w'.heap[k]? = w.heap[k]?
theorem KeepAbove.refl (B : Nat) (w : World) : KeepAbove B w w := fun _ _ _ => rfl
theorem KeepAbove.grown {B : Nat} {w w1 w2 : World} (h : KeepAbove B w w1) (hs : w.heap.size ≤ w1.heap.size) {g : Nat} (hg : w1.grownBy w2 (some g)) (hB : g < B) : KeepAbove B w w2 :=
  fun k h1 h2 => (hg.block k (Nat.lt_of_lt_of_le h2 hs) (fun e => by cases e; omega)).trans (h k h1 h2)
theorem KeepAbove.bel {B : Nat} {w w1 w2 : World} (h : KeepAbove B w w1) (hs : w.heap.size ≤ w1.heap.size) (hb : Below w1.heap.size w1 w2) : KeepAbove B w w2 :=
  fun k h1 h2 => (hb.block k (Nat.lt_of_lt_of_le h2 hs)).trans (h k h1 h2)
theorem Own.keep {w w' : World} {B B' : Nat} {e : TypeId} {sz : Nat} {a : Option Addr} {n c : Nat} {cs : List Value} (h : Own w B e sz a n c cs) (hB : B' ≤ B) (hk : KeepAbove B' w w') : Own w' B e sz a n c cs := by
  refine ⟨h.1, ?_⟩
  rcases h.2 with h2 | ⟨g, cap, cur, h1, h2, h3, r⟩
  · exact .inl h2
  · exact .inr ⟨g, cap, cur, h1, h2, (hk g (by omega) (Array.getElem?_eq_some_iff.1 h3).1).trans h3, r⟩
theorem Own.pre {w : World} {B : Nat} {e : TypeId} {sz : Nat} {a : Option Addr} {n c : Nat} {xs : List Value} (h : Own w B e sz a n c xs) (k : Nat) (hk : k ≤ n) : Own w B e sz a k c (xs.take (k * sz)) := by
  refine ⟨by rw [List.length_take, h.1]; exact Nat.min_eq_left (Nat.mul_le_mul_right _ hk), ?_⟩
  rcases h.2 with ⟨h1, h0⟩ | ⟨g, cap, cur, h1, h2, h3, h4, h5, h6, h7⟩
  · left
    injection h1 with e1 e2 e3
    subst e1; subst e3
    obtain rfl : k = 0 := by omega
    exact ⟨rfl, rfl⟩
  · injection h1 with e1 e2 e3
    subst e1; subst e3
    refine .inr ⟨g, c, cur, rfl, h2, h3, by omega, h5, h6, ?_⟩
    rw [← h7, List.take_take, Nat.min_eq_left (Nat.mul_le_mul_right _ hk)]
theorem Own.putn {w : World} {B : Nat} {e : TypeId} {sz : Nat} {p : Addr} {n c : Nat} {xs : List Value} (h : Own w B e sz (some p) n c xs) {i : Nat} (v : Value) : Own (w.setCell ⟨p.block, i, none⟩ v) B e sz (some p) n c (xs.set i v) := by
  refine ⟨by rw [List.length_set]; exact h.1, ?_⟩
  rcases h.2 with ⟨h1, _⟩ | ⟨g, cap, cur, h1, h2, h3, h4, h5, h6, h7⟩
  · cases h1
  · injection h1 with h1 hn hc
    injection h1 with h1
    subst h1
    refine .inr ⟨g, cap, cur.setIfInBounds i v, by rw [hc], h2, ?_, h4, h5, by simpa using h6, ?_⟩
    · simp [World.setCell, Array.getElem?_modify, h3]
    · rw [Array.toList_setIfInBounds, ← h7, List.take_set]
theorem Own.zero3 {w : World} {B : Nat} {e : TypeId} {p : Addr} {n c : Nat} {sz : Nat} {xs : List Value} (h : Own w B e sz (some p) n c xs) : p = ⟨p.block, 0, none⟩ := by
  rcases h.2 with ⟨h1, _⟩ | ⟨g, cap, cur, h1, _⟩
  · cases h1
  · injection h1 with h1 hn hc
    injection h1 with h1
    subst h1; rfl
theorem Own.free3 {w : World} {B : Nat} {e : TypeId} {p : Addr} {n c : Nat} {sz : Nat} {xs : List Value} (h : Own w B e sz (some p) n c xs) (j : Nat) : w.frozen? ⟨p.block, j, none⟩ = false := by
  rcases h.2 with ⟨h1, _⟩ | ⟨g, cap, cur, h1, h2, h3, _⟩
  · cases h1
  · injection h1 with h1 hn hc
    injection h1 with h1
    subst h1
    simp [World.frozen?, h3]
theorem Own.other3 {w : World} {B : Nat} {e : TypeId} {a : Option Addr} {n c : Nat} {sz : Nat} {xs : List Value} (h : Own w B e sz a n c xs) {p : Addr} (hp : ∀ q, a = some q → q.block ≠ p.block) (v : Value) : Own (w.setCell p v) B e sz a n c xs := by
  refine ⟨h.1, ?_⟩
  rcases h.2 with h1 | ⟨g, cap, cur, h1, h2, h3, r⟩
  · exact .inl h1
  · refine .inr ⟨g, cap, cur, h1, h2, ?_, r⟩
    injection h1 with h1
    rw [Below.heap_setCell w p v g (hp _ h1)]
    exact h3
theorem flat_set {α : Type} {f : α → List Value} {sz : Nat} (hf : ∀ x, (f x).length = sz) {x y : α} {j : Nat} (hj : j < sz) {v : Value} (hy : f y = (f x).set j v) : ∀ (l : List α) (i : Nat), l[i]? = some x → (l.flatMap f).set (i * sz + j) v = (l.set i y).flatMap f
  | [], i, h => by simp at h
  | z :: l, 0, h => by
    have e : z = x := by simpa using h
    subst e
    rw [List.flatMap_cons, List.set_cons_zero, List.flatMap_cons, hy, Nat.zero_mul, Nat.zero_add, List.set_append_left _ _ (by rw [hf]; exact hj)]
  | z :: l, i + 1, h => by
    have h' : l[i]? = some x := by simpa using h
    rw [List.flatMap_cons, List.set_cons_succ, List.flatMap_cons, ← flat_set hf hj hy l i h', List.set_append_right _ _ (by rw [hf, Nat.succ_mul]; omega), hf, show (i + 1) * sz + j - sz = i * sz + j by rw [Nat.succ_mul]; omega]
theorem valid_some {t : Ta} (h : validE t = 0) : ∀ k, k < 2 → (langK t k).length ≠ 0 ∧ (langK t k).length ≤ 96 := by
  have hp := valid_parts h
  have key : ∀ l : List Ru, missB l = false → l.length ≠ 0 := by
    intro l hl h0
    have := own_small hl (c := 97) (by decide)
    rw [List.length_eq_zero_iff.1 h0] at this
    simp [ownB] at this
  refine two_cases ⟨?_, ?_⟩ ⟨?_, ?_⟩
  · exact key _ hp.2.2.2.2.2.1
  · exact hp.1
  · exact key _ hp.2.2.2.2.2.2
  · exact hp.2.1
/-- Rules that the call owns: the slice of element type E; the cells of each lie in the old world, or the call owns them. -/
structure OL (w0 w : World) (E U : TypeId) (B : Nat) (a : Option Addr) (c : Nat) (ps : List RH) : Prop where
  top : Own w B E 3 a ps.length c (ps.flatMap rc)
  row : ∀ p ∈ ps, (Sl w0 1 p.2.1 p.2.2.1 p.2.2.2 (p.1.cells.map B8) ∨ Own w B U 1 p.2.1 p.2.2.1 p.2.2.2 (p.1.cells.map B8)) ∧ p.1.text.size ≤ 1000
section
variable {w0 w w' : World} {E U : TypeId} {B : Nat} {a : Option Addr} {c : Nat} {ps : List RH}
theorem OL.rul (h : OL w0 w E U B a c ps) (hb : Below w0.heap.size w0 w') (hk : KeepAbove B w w') : Rul w' a ps.length c ps :=
  ⟨(h.top.keep (Nat.le_refl _) hk).sl, fun p hp => ⟨by
    rcases (h.row p hp).1 with h1 | h1
    · exact h1.below hb
    · exact (h1.keep (Nat.le_refl _) hk).sl, (h.row p hp).2⟩⟩
theorem OL.below (h : OL w0 w E U B a c ps) (hb : Below w.heap.size w w') : OL w0 w' E U B a c ps :=
  ⟨h.top.below hb, fun p hp => ⟨(h.row p hp).1.imp id (fun h => h.below hb), (h.row p hp).2⟩⟩
theorem OL.rows {a' : Option Addr} {n' c' : Nat} {cs' : List Value} (h : OL w0 w E U B a c ps) (ht : Own w' B E 3 a' n' c' cs') (hg : w.grownBy w' (a.map (·.block))) (hE : E ≠ U) : ∀ p ∈ ps, (Sl w0 1 p.2.1 p.2.2.1 p.2.2.2 (p.1.cells.map B8) ∨ Own w' B U 1 p.2.1 p.2.2.1 p.2.2.2 (p.1.cells.map B8)) ∧ p.1.text.size ≤ 1000 := by
  intro p hp
  refine ⟨?_, (h.row p hp).2⟩
  rcases (h.row p hp).1 with h1 | h1
  · exact .inl h1
  · refine .inr (h1.kept hg fun r hr => ?_)
    cases a with
    | none => simp
    | some t =>
      have ho := h.top
      rw [hr] at h1
      have := own_far h1 ho (fun e => hE e.symm)
      simpa using this
theorem OL.push {a' : Option Addr} {c' : Nat} {p : RH} (h : OL w0 w E U B a c ps) (hx : Sl w0 1 p.2.1 p.2.2.1 p.2.2.2 (p.1.cells.map B8) ∨ Own w B U 1 p.2.1 p.2.2.1 p.2.2.2 (p.1.cells.map B8)) (hz : p.1.text.size ≤ 1000)
    (ht : Own w' B E 3 a' (ps.length + 1) c' (ps.flatMap rc ++ rc p)) (hg : w.grownBy w' (a.map (·.block))) (hE : E ≠ U) : OL w0 w' E U B a' c' (ps ++ [p]) := by
  refine ⟨by rw [List.length_append, List.flatMap_append, List.flatMap_singleton]; exact ht, fun q hq => ?_⟩
  rcases List.mem_append.1 hq with hq | hq
  · exact h.rows ht hg hE q hq
  · rw [List.mem_singleton] at hq
    subst hq
    refine ⟨?_, hz⟩
    rcases hx with h1 | h1
    · exact .inl h1
    · refine .inr (h1.kept hg fun r hr => ?_)
      cases a with
      | none => simp
      | some t =>
        have ho := h.top
        rw [hr] at h1
        have := own_far h1 ho (fun e => hE e.symm)
        simpa using this
theorem OL.take (h : OL w0 w E U B a c ps) (k : Nat) (hk : k ≤ ps.length) : OL w0 w E U B a c (ps.take k) := by
  have := h.top.pre k hk
  rw [flat_take rc_len] at this
  exact ⟨by rw [List.length_take, Nat.min_eq_left hk]; exact this, fun p hp => h.row p (List.mem_of_mem_take hp)⟩
/-- one of the rules is changed in one field -/
theorem OL.put {q : Addr} {x y : RH} {i j : Nat} {v : Value} (h : OL w0 w E U B (some q) c ps) (hx : ps[i]? = some x) (hj : j < 3) (hy : rc y = (rc x).set j v) (hw : w' = w.setCell ⟨q.block, i * 3 + j, none⟩ v) (hE : E ≠ U)
    (hr : Sl w0 1 y.2.1 y.2.2.1 y.2.2.2 (y.1.cells.map B8) ∨ Own w B U 1 y.2.1 y.2.2.1 y.2.2.2 (y.1.cells.map B8)) (hz : y.1.text.size ≤ 1000) : OL w0 w' E U B (some q) c (ps.set i y) := by
  subst hw
  have key : ∀ p : RH, Own w B U 1 p.2.1 p.2.2.1 p.2.2.2 (p.1.cells.map B8) → Own (w.setCell ⟨q.block, i * 3 + j, none⟩ v) B U 1 p.2.1 p.2.2.1 p.2.2.2 (p.1.cells.map B8) := by
    intro p hp
    refine hp.other3 (fun r hr => ?_) v
    rw [hr] at hp
    show r.block ≠ q.block
    exact own_far hp h.top (fun e => hE e.symm)
  refine ⟨?_, fun p hp => ?_⟩
  · rw [List.length_set, ← flat_set rc_len hj hy ps i hx]
    exact h.top.putn v
  · rcases List.mem_or_eq_of_mem_set hp with hp | hp
    · exact ⟨(h.row p hp).1.imp id (key p), (h.row p hp).2⟩
    · subst hp
      exact ⟨hr.imp id (key _), hz⟩
theorem OL.some (h : OL w0 w E U B a c ps) (h0 : ps.length ≠ 0) : ∃ g, a = Option.some ⟨g, 0, none⟩ ∧ B ≤ g ∧ g < w.heap.size := by
  cases a with
  | none =>
    have := h.top.sl.nil rfl
    have h2 := h.top.sl.le
    omega
  | some p =>
    have hz := h.top.zero3
    exact ⟨p.block, by rw [← hz], h.top.base.1, h.top.base.2⟩
end
section
variable {P : Program} {w : World} {ops : Array Oper} {rest : List Oper} {act : Act} {Q : Exit → Act → World → Prop} {ty : TypeId} {pos : String} {after : Array Edge}
/-- 's[n:]', whatever the world and the size are -/
theorem cut_lo_g (d : Nat) (t : TypeId) (x lo : Operand) (e : TypeId) (ht : P.underlying t = some (.slice e)) (sz : Nat) (hsz : (P.info? e).map (·.size) = some sz)
    (a : Option Addr) (n c : Nat) (hx : act.eval x = .slice a n c) (kl : IntKind) (l : Nat) (hl : act.eval lo = .int kl (l : Int)) (hln : l ≤ n)
    (hK : wpList P ops Q rest (act.put (some d) (.slice (if c = l then a else a.map (·.add (l * sz))) (n - l) (c - l))) w) :
    wpList P ops Q ({ dst := some d, op := .slice t x (some lo) none none, type := ty, pos := pos, after := after, guard := none } :: rest) act w := by
  refine wpList_plain rfl fun K hK' => ?_
  obtain ⟨i0, hi0, hs0⟩ := Option.map_eq_some_iff.1 hsz
  have hrun : (Instr.sliceAt t (.slice a n c) (some (.int kl (l : Int))) none none).run P w = .ok (.slice (if c = l then a else a.map (·.add (l * sz))) (n - l) (c - l)) w := by
    have h2 : (0 : Int) ≤ l ∧ (l : Int) ≤ n := by omega
    simp [Instr.sliceAt, Instr.slice, Instr.sliceBounds, Instr.sliceBound, asIntOf, run_underlying ht, sizeOf, typeInfo, hi0, hs0, h2, hln]
  unfold Oper.wp
  simp only [execOp, Option.map_some, Option.map_none, hx, hl, Sem.run_bind, hrun, Result.andThen, Sem.run_pure]
  exact hK' _ _ hK
/-- 's[:n]', whatever the world is -/
theorem cut_hi_g (d : Nat) (t : TypeId) (x hi : Operand) (e : TypeId) (ht : P.underlying t = some (.slice e)) (sz : Nat) (hsz : (P.info? e).map (·.size) = some sz)
    (a : Option Addr) (n c : Nat) (hx : act.eval x = .slice a n c) (ku : IntKind) (u : Nat) (hu : act.eval hi = .int ku (u : Int)) (hun : u ≤ c)
    (hK : wpList P ops Q rest (act.put (some d) (.slice a u c)) w) :
    wpList P ops Q ({ dst := some d, op := .slice t x none (some hi) none, type := ty, pos := pos, after := after, guard := none } :: rest) act w := by
  refine wpList_plain rfl fun K hK' => ?_
  obtain ⟨i0, hi0, hs0⟩ := Option.map_eq_some_iff.1 hsz
  have hrun : (Instr.sliceAt t (.slice a n c) none (some (.int ku (u : Int))) none).run P w = .ok (.slice a u c) w := by
    have h3 : (0 : Int) ≤ u ∧ (u : Int) ≤ c := by omega
    simp [Instr.sliceAt, Instr.slice, Instr.sliceBounds, Instr.sliceBound, asIntOf, run_underlying ht, sizeOf, typeInfo, hi0, h3, hun]
    intro _
    cases a with
    | none => rfl
    | some p => simp [Addr.add]
  unfold Oper.wp
  simp [execOp, hx, hu, hrun, Result.andThen]
  exact hK' _ _ hK
end
end Go.Dx
end

/- the text B39 -/
section
/- Chapter 06: what Bent's switch leaves. -/
namespace Go.Dx
open Go.RowKit
/-- sizes of tables that may be changed again -/
def BSz (m : Nat) (t : Ta) : Prop := (1 ≤ t.dig.length ∧ t.dig.length ≤ 1000) ∧ t.l0.length ≤ m ∧ t.l1.length ≤ m
theorem BSz.mono {m m' : Nat} {t : Ta} (h : BSz m t) (hm : m ≤ m') : BSz m' t := ⟨h.1, Nat.le_trans h.2.1 hm, Nat.le_trans h.2.2 hm⟩
/-- an owned row is a block known whole -/
theorem Own.box {w : World} {B : Nat} {e : TypeId} {sz : Nat} {q : Addr} {n c : Nat} {cs : List Value} (h : Own w B e sz (some q) n c cs) :
    ∃ cur : List Value, q = ⟨q.block, 0, none⟩ ∧ Box w q.block e cur ∧ n * sz ≤ cur.length ∧ ∀ (w' : World) (i : Nat) (v : Value), i < n * sz → Box w' q.block e (cur.set i v) → Own w' B e sz (some q) n c (cs.set i v) := by
  obtain ⟨hl, h2⟩ := h
  rcases h2 with ⟨h1, _⟩ | ⟨g, cap, cur, h1, h2, h3, h4, h5, h6, h7⟩
  · cases h1
  · injection h1 with h1 hn hc
    injection h1 with h1
    subst h1
    subst hc
    have hm : n * sz ≤ c * sz := Nat.mul_le_mul_right _ h4
    refine ⟨cur.toList, rfl, (by unfold Box; simpa using h3), by rw [Array.length_toList]; omega, fun w' i v hi hx => ⟨by rw [List.length_set]; exact hl, .inr ⟨g, c, (cur.toList.set i v).toArray, rfl, h2, hx, h4, h5, by simpa using h6, ?_⟩⟩⟩
    rw [List.toList_toArray, List.take_set, h7]
/-- what the switch leaves -/
def RBt (w0 : World) (T : TypeId) (B g4 g8 m : Nat) (v : Value) (w : World) : Prop :=
  ∃ (H : TH) (t : Ta) (a : Option Addr) (c : Nat) (ps : List RH), v = .slice a ps.length c ∧ Hid (∀ w', Below w0.heap.size w0 w' → KeepAbove B w w' → TaIs w' H t ∧ Rul w' a ps.length c ps) ∧ Box w g4 T (tcells H) ∧ (∃ z, Box w g8 T z ∧ z.length = 7) ∧ Below w0.heap.size w0 w ∧ BSz m t ∧ ps.length ≤ m + 100
section
variable {w0 w w' : World} {T E U : TypeId} {B g4 g8 m : Nat} {a : Option Addr} {c : Nat} {ps : List RH} {H : TH} {t : Ta}
theorem RBt.rules (hT : TaIs w0 H t) (hO : OL w0 w E U B a c ps) (b4 : Box w g4 T (tcells H)) (b8 : ∃ z, Box w g8 T z ∧ z.length = 7) (hb : Below w0.heap.size w0 w) (hm : BSz m t) (hl : ps.length ≤ m + 100) : RBt w0 T B g4 g8 m (.slice a ps.length c) w :=
  ⟨H, t, a, c, ps, rfl, hide fun _ h1 h2 => ⟨hT.below h1, hO.rul h1 h2⟩, b4, b8, hb, hm, hl⟩
theorem ol_put2 {q : Addr} {x y : RH} {i j : Nat} {v : Value} (h : OL w0 w E U B (some q) c ps) (hx : ps[i]? = some x) (hj : j < 3) (hy : rc y = (rc x).set j v) (ht : Own w' B E 3 (some q) ps.length c ((ps.flatMap rc).set (i * 3 + j) v)) (hg : w.grownBy w' (some q.block)) (hE : E ≠ U)
    (hr : Sl w0 1 y.2.1 y.2.2.1 y.2.2.2 (y.1.cells.map B8) ∨ Own w B U 1 y.2.1 y.2.2.1 y.2.2.2 (y.1.cells.map B8)) (hz : y.1.text.size ≤ 1000) : OL w0 w' E U B (some q) c (ps.set i y) := by
  have key : ∀ p : RH, Own w B U 1 p.2.1 p.2.2.1 p.2.2.2 (p.1.cells.map B8) → Own w' B U 1 p.2.1 p.2.2.1 p.2.2.2 (p.1.cells.map B8) := by
    intro p hp
    refine hp.kept hg (fun r hr => ?_)
    rw [hr] at hp
    simpa using own_far hp h.top (fun e => hE e.symm)
  refine ⟨?_, fun p hp => ?_⟩
  · rw [List.length_set, ← flat_set rc_len hj hy ps i hx]
    exact ht
  · rcases List.mem_or_eq_of_mem_set hp with hp | hp
    · exact ⟨(h.row p hp).1.imp id (key p), (h.row p hp).2⟩
    · subst hp
      exact ⟨hr.imp id (key _), hz⟩
theorem Own.row3 {w : World} {e : TypeId} {c0 B : Nat} {ps : List RH} (h : Own w B e 3 a ps.length c0 (ps.flatMap rc)) {k : Nat} {p : RH} (hx : ps[k]? = some p) :
    ∃ g, a = some ⟨g, 0, none⟩ ∧ B ≤ g ∧ g < w.heap.size ∧ w.cell? ⟨g, k * 3, none⟩ = some (.string p.1.text) ∧ w.cell? ⟨g, k * 3 + 1, none⟩ = some (.int .i64 p.1.whr) ∧ w.cell? ⟨g, k * 3 + 2, none⟩ = some (.slice p.2.1 p.2.2.1 p.2.2.2) := by
  obtain ⟨b, o, rfl, h1, h2, h3, h4⟩ := ru_cells h.sl hx
  have hz := h.zero3
  have hb := h.base
  have : o = 0 := by injection hz
  subst this
  simp only [Nat.zero_add] at h2 h3 h4
  exact ⟨b, rfl, hb.1, hb.2, h2, h3, h4⟩
theorem rus_len (ps : List RH) : (rus ps).length = ps.length := by unfold rus; rw [List.length_map]
theorem KeepAbove.box {g : Nat} {us : List Value} (h : KeepAbove B w w') (hx : Box w g T us) (hg : B ≤ g) : Box w' g T us := (h g hg hx.lt).trans hx
theorem ol_far (h : OL w0 w E U B a c ps) {g : Nat} (hg : w.grownBy w' (some g)) (hB : g < B) : OL w0 w' E U B a c ps := by
  refine ⟨h.top.kept hg fun p hp => ?_, fun p hp => ⟨(h.row p hp).1.imp id fun h1 => h1.kept hg fun q hq => ?_, (h.row p hp).2⟩⟩
  · have ht := h.top
    rw [hp] at ht
    have := ht.base.1
    simp; omega
  · rw [hq] at h1
    have := h1.base.1
    simp; omega
theorem rb_put {g i j : Nat} {x y : RH} {v : Value} {cur : List Value} (hT : TaIs w0 H t) (hO : OL w0 w E U B (some ⟨g, 0, none⟩) c ps) (hE : E ≠ U) (hx : ps[i]? = some x)
    (hp : ∀ (w' : World) (i : Nat) (v : Value), i < ps.length * 3 → Box w' g E (cur.set i v) → Own w' B E 3 (some ⟨g, 0, none⟩) ps.length c ((ps.flatMap rc).set i v)) (hj : j < 3) (hy : rc y = (rc x).set j v)
    (h8 : Box w' g E (cur.set (i * 3 + j) v)) (hg : w.grownBy w' (some g)) (hr : Own w B U 1 y.2.1 y.2.2.1 y.2.2.2 (y.1.cells.map B8) ∨ y.2 = x.2 ∧ y.1.cells = x.1.cells) (hz : y.1.text.size ≤ 1000)
    (b4 : Box w g4 T (tcells H)) (h4 : g4 < B) (b8 : ∃ z, Box w g8 T z ∧ z.length = 7) (h88 : g8 < B) (hb : Below w0.heap.size w0 w) (hB0 : w0.heap.size ≤ B) (hm : BSz m t) (hl : ps.length ≤ m + 100) : RBt w0 T B g4 g8 m (.slice (some ⟨g, 0, none⟩) ps.length c) w' := by
  have hgB : B ≤ g := hO.top.base.1
  have hi := (List.getElem?_eq_some_iff.1 hx).1
  have hrow := hO.row x (List.mem_of_getElem? hx)
  have hr' : Sl w0 1 y.2.1 y.2.2.1 y.2.2.2 (y.1.cells.map B8) ∨ Own w B U 1 y.2.1 y.2.2.1 y.2.2.2 (y.1.cells.map B8) := by
    rcases hr with h1 | ⟨h1, h2⟩
    · exact .inr h1
    · rw [h1, h2]; exact hrow.1
  have key := ol_put2 hO hx hj hy (hp w' (i * 3 + j) v (by omega) h8) hg hE hr' hz
  obtain ⟨z, hz1, hz2⟩ := b8
  have := RBt.rules (g4 := g4) (g8 := g8) (m := m) hT key (b4.grown hg (by simp; omega)) ⟨z, hz1.grown hg (by simp; omega), hz2⟩ (hb.grown hg hb.size (fun q hq => by cases hq; omega)) hm (by rw [List.length_set]; exact hl)
  rwa [List.length_set] at this
theorem ta_cap {n : Nat} {cs : List UInt8} (hT : TaIs w H t) (h : Sl w 1 a n c (cs.map B8)) : TaIs w { H with c := (a, n, c) } { t with cap := cs } := ⟨hT.l0, hT.l1, hT.e0, hT.e1, hT.d, h, hT.n, hT.f, hT.s⟩
theorem ta_sw {n : Nat} {cs : List UInt8} (hT : TaIs w H t) (h : Sl w 1 a n c (cs.map B8)) : TaIs w { H with s := (a, n, c) } { t with sw := cs } := ⟨hT.l0, hT.l1, hT.e0, hT.e1, hT.d, hT.c, hT.n, hT.f, h⟩
theorem ta_dig {n : Nat} {cs : List UInt8} (hT : TaIs w H t) (h : Sl w 1 a n c (cs.map B8)) : TaIs w { H with d := (a, n, c) } { t with dig := cs } := ⟨hT.l0, hT.l1, hT.e0, hT.e1, h, hT.c, hT.n, hT.f, hT.s⟩
theorem rb_cell {a' : Option Addr} {n' c' : Nat} {cs : List UInt8} {H' : TH} {t' : Ta} (hT : TaIs w0 H t) (hO : OL w0 w E U B a c ps) (hu : Own w' B U 1 a' n' c' (cs.map B8)) (hg : w.grownBy w' (some g4)) (h4 : g4 < B)
    (hK : ∀ w'', TaIs w'' H t → Sl w'' 1 a' n' c' (cs.map B8) → TaIs w'' H' t') (b4 : Box w' g4 T (tcells H')) (b8 : ∃ z, Box w g8 T z ∧ z.length = 7) (h88 : g8 ≠ g4) (hb : Below w0.heap.size w0 w) (h40 : w0.heap.size ≤ g4) (hm : BSz m t') (hl : ps.length ≤ m + 100) : RBt w0 T B g4 g8 m (.slice a ps.length c) w' := by
  obtain ⟨z, hz1, hz2⟩ := b8
  have hO' := ol_far hO hg h4
  exact ⟨H', t', a, c, ps, rfl, hide fun w'' h1 h2 => ⟨hK w'' (hT.below h1) (hu.keep (Nat.le_refl _) h2).sl, hO'.rul h1 h2⟩, b4, ⟨z, hz1.grown hg (by simpa using h88), hz2⟩, hb.grown hg hb.size (fun q hq => by cases hq; exact h40), hm, hl⟩
theorem text_at (l : List ByteArray) (hl : (l.all fun s => decide (s.size ≤ 1000)) = true) (r : Nat) (hr : r < l.length) : ∃ s, (l.map Value.string)[r]? = some (.string s) ∧ s.size ≤ 1000 := by
  refine ⟨l[r], by simp [hr], ?_⟩
  have := List.all_eq_true.1 hl l[r] (List.getElem_mem hr)
  simpa using this
/-- how far an append in place is -/
def GDel (w0 : World) (B : Nat) (E : TypeId) (sz g k : Nat) (ys : List Value) : Nat → List Value → World → Prop
  | 0, _, w => Below w0.heap.size w0 w
  | _ + 1, vs, w => (∃ a' c', vs = [.slice a' k c'] ∧ Own w B E sz a' k c' ys) ∧ w0.grownBy w (some g)
theorem GDel.mono {w0 : World} {B : Nat} {E : TypeId} {sz g k : Nat} {ys : List Value} : ∀ j vs w w', Below w.heap.size w w' → GDel w0 B E sz g k ys j vs w → GDel w0 B E sz g k ys j vs w'
  | 0, _, _, _, hb, h => Below.trans h (hb.mono (Below.size h))
  | _ + 1, _, _, _, hb, ⟨⟨a', c', h1, h2⟩, h3⟩ => ⟨⟨a', c', h1, h2.below hb⟩, grown_below h3 (hb.mono h3.size)⟩
theorem OL.sub {qs : List RH} {a' : Option Addr} {n' c' : Nat} (h : OL w0 w E U B a c ps) (hq : ∀ p ∈ qs, p ∈ ps) (hl : qs.length = n') (ht : Own w' B E 3 a' n' c' (qs.flatMap rc)) (hg : w.grownBy w' (a.map (·.block))) (hE : E ≠ U) : OL w0 w' E U B a' c' qs :=
  ⟨by rw [hl]; exact ht, fun p hp => h.rows ht hg hE p (hq p hp)⟩
theorem OL.cut_lo {g k : Nat} (h : OL w0 w E U B (Option.some ⟨g, 0, none⟩) c ps) (hk : k ≤ ps.length) : ∃ aW : Option Addr, (if c = k then Option.some ⟨g, 0, none⟩ else (Option.some (⟨g, 0, none⟩ : Addr)).map (·.add (k * 3))) = aW ∧ Sl w 3 aW (ps.length - k) (c - k) ((ps.drop k).flatMap rc) := by
  refine ⟨_, rfl, ?_⟩
  have := h.top.sl.cut k ps.length hk (Nat.le_refl _)
  rw [flat_drop rc_len, flat_take rc_len, List.take_of_length_le (by rw [List.length_drop]; exact Nat.le_refl _)] at this
  exact this
theorem own_some {w : World} {B : Nat} {e : TypeId} {sz : Nat} {a : Option Addr} {n c : Nat} {cs : List Value} (h : Own w B e sz a n c cs) (h0 : n ≠ 0) : ∃ g, a = Option.some ⟨g, 0, none⟩ ∧ B ≤ g ∧ g < w.heap.size := by
  cases a with
  | none =>
    have := h.sl.nil rfl
    have h2 := h.sl.le
    omega
  | some p =>
    have hz := h.zero3
    exact ⟨p.block, by rw [← hz], h.base.1, h.base.2⟩
theorem own_empty8 {w : World} {B b : Nat} {e : TypeId} {sz : Nat} (h : Box w b e []) (hB : B ≤ b) : Own w B e sz (Option.some ⟨b, 0, none⟩) 0 0 [] := ⟨by simp, .inr ⟨b, 0, #[], rfl, hB, h, Nat.le_refl _, by unfold maxLen; omega, by simp, by simp⟩⟩
theorem grown_high {a b c : World} {row : Option Nat} {g : Nat} (h : a.grownBy b row) (k : b.grownBy c (Option.some g)) (hg : a.heap.size ≤ g) : a.grownBy c row :=
  ⟨k.os.trans h.os, k.tape.trans h.tape, k.output.trans h.output, Nat.le_trans h.size k.size, fun i hi hr => (k.block i (Nat.lt_of_lt_of_le hi h.size) (by simp; omega)).trans (h.block i hi hr)⟩
end
theorem GDel.box2 {w0 w : World} {B : Nat} {E T : TypeId} {sz g k g4 : Nat} {ys us : List Value} {j : Nat} {vs : List Value} (h : GDel w0 B E sz g k ys j vs w) (hx : Box w0 g4 T us) (hne : g4 ≠ g) : Box w g4 T us := by
  cases j with
  | zero => exact hx.under h
  | succ j => exact hx.grown h.2 (by simpa using hne)
theorem GDel.size6 {w0 w : World} {B : Nat} {E : TypeId} {sz g k : Nat} {ys : List Value} {j : Nat} {vs : List Value} (h : GDel w0 B E sz g k ys j vs w) : w0.heap.size ≤ w.heap.size := by
  cases j with
  | zero => exact Below.size h
  | succ j => exact h.2.size
end Go.Dx
end

/- the text B40 -/
section
/- Chapter 06: the reference's Bent: tables with something changed; what they are does not matter. -/
namespace Go.Proofs.Ytkjcbneanaeleaa
open Go.RowKit Go.Dx
set_option maxRecDepth 100000 in
set_option maxHeartbeats 4000000 in
theorem ref_Bent (H : TH) (t : Ta) (m : Nat) (hm : m ≤ 10000) (at_ how by_ : Int) (hat : -9223372036854775808 ≤ at_ ∧ at_ ≤ 9223372036854775807) (hhow : -9223372036854775808 ≤ how ∧ how ≤ 9223372036854775807) (hby : -9223372036854775808 ≤ by_ ∧ by_ ≤ 9223372036854775807)
    (w : World) (hT : TaIs w H t) (hz : BSz m t) :
    Calls Try.prog 9 #[H.v, .int .i64 at_, .int .i64 how, .int .i64 by_] w fun e w' => ∃ H' t', e = .returned (TH.v H') ∧ TaIs w' H' t' ∧ BSz (m + 100) t' ∧ Below w.heap.size w w' := by
  obtain ⟨r1, hr1, hA1⟩ := around_any at_ 2 2 w rfl hat.1 hat.2 (by decide) (by decide)
  obtain ⟨r66, hr66, hA66⟩ := around_any by_ 66 66 w rfl hby.1 hby.2 (by decide) (by decide)
  obtain ⟨rh, hrh, hAh⟩ := around_any how 11 11 w rfl hhow.1 hhow.2 (by decide) (by decide)
  have HA1 := hide hA1
  have HA66 := hide hA66
  have HAh := hide hAh
  have hat2 := tdiv_in hat.1 hat.2 (d := 2) (by decide)
  have HAT := hide hat
  have HAT2 := hide hat2
  have HHOW := hide hhow
  have HBY := hide hby
  clear hA1 hA66 hAh hat hhow hby hat2
  have X0 := (Box.new w 28 (tcells H).toArray).alloc (.cells #[.slice none 0 0, .slice none 0 0, .slice none 0 0, .slice none 0 0, .slice none 0 0, .slice none 0 0, .slice none 0 0] 28)
  have X1 := Box.new (w.alloc (.cells (tcells H).toArray 28)) 28 #[.slice none 0 0, .slice none 0 0, .slice none 0 0, .slice none 0 0, .slice none 0 0, .slice none 0 0, .slice none 0 0]
  rw [show (w.alloc (.cells (tcells H).toArray 28)).heap.size = w.heap.size + 1 by simp] at X1
  have hb0 : Below w.heap.size w ((w.alloc (.cells (tcells H).toArray 28)).alloc (.cells #[.slice none 0 0, .slice none 0 0, .slice none 0 0, .slice none 0 0, .slice none 0 0, .slice none 0 0, .slice none 0 0] 28)) := (blo w _).trans ((blo _ _).mono (by simp))
  have hsz2 : w.heap.size + 2 ≤ ((w.alloc (.cells (tcells H).toArray 28)).alloc (.cells #[.slice none 0 0, .slice none 0 0, .slice none 0 0, .slice none 0 0, .slice none 0 0, .slice none 0 0, .slice none 0 0] 28)).heap.size := by simp
  obtain ⟨g8, hg8⟩ : ∃ g8, g8 = w.heap.size + 1 := ⟨_, rfl⟩
  obtain ⟨an, nn, cn, psn, hcn, hRn, hen⟩ := sel_lang hT r1 (by omega)
  have hlen : psn.length ≤ m := by
    have h1 := congrArg List.length hen
    rw [rus_len] at h1
    rw [h1]
    have h2 := hz.2
    unfold langK
    split
    · exact h2.1
    · exact h2.2
  obtain rfl : nn = psn.length := hRn.n_eq
  have hcT : (tcells H)[r1]? = some (.slice an psn.length cn) := by
    rcases r1 with _ | _ | r1
    · exact hcn
    · exact hcn
    · omega
  have HT := hide hT
  have HEN := hide hen
  have HZ := hide hz
  have hcnB := X0.at_ hcT
  clear hT hen hz hcn hcT
  obtain ⟨⟨a0, n0, c0⟩, ⟨a1, n1, c1⟩, ps0, ps1, ⟨ad, nd, cd⟩, ⟨ac, nc, cc⟩, ⟨au, nu, cu⟩, ⟨af, nf, cf⟩, ⟨aw, nw, cw⟩⟩ := H
  unfold TH.v
  unfold tcells at X0 X1 hb0 hsz2 hcnB
  simp only [hdv] at X0 X1 hb0 hsz2 hcnB ⊢
  go_enter Try.func9, Try.ntmps9
  go_wp2_with fail
  rw [← hg8] at X1 ⊢
  generalize hgen : (w.alloc (.cells _ 28)).alloc (.cells _ 28) = w2 at *
  clear hgen
  have hsz2' : g8 < w2.heap.size := by omega
  have hg8w : w.heap.size < g8 := by omega
  clear hg8
  refine (HA1.out _).mono ?_
  rintro e wz ⟨rfl, rfl⟩
  obtain ⟨B, hB⟩ : ∃ B, B = w2.heap.size := ⟨_, rfl⟩
  have hSn := hRn.top.below hb0
  have h48 : (0 + psn.length) * 48 ≤ 140737488355328 := by omega
  have h49 : 0 + psn.length ≤ maxLen := by unfold maxLen; omega
  go_wp2_with (at_builtin; refine append_own rfl _ _ 22 rfl 74 zeroRule 3 48 Try.underlying22 info_rule rfl w2 w2.heap.size none 0 0 [] rfl (Own.nil _ _ _ _) an psn.length cn (psn.flatMap rc) rfl hSn (one_flat rc_one psn) h48 h49 (Nat.le_refl _) (Below.refl _ _) ?_; intro a3 c3 w3 hO3 hg3 hb3; rw [Nat.zero_add, List.nil_append, ← hB] at hO3; refine hold ?_)
  refine hide ?_
  have hbw3 := hb0.trans (hb3.mono hb0.size)
  have hX4 := X0.under hb3
  have hX8 := X1.under hb3
  have hOL : OL w w3 74 5 B a3 c3 psn := ⟨hO3, fun p hp => ⟨.inl (hRn.row p hp).1, (hRn.row p hp).2⟩⟩
  have hB2 : w.heap.size < B ∧ g8 < B := by omega
  have hB3 : B ≤ w3.heap.size := by rw [hB]; exact hb3.size
  clear hO3 hg3 hb3 hSn X0 X1 hb0 hsz2 hsz2' hB hcnB h48 h49 hRn
  by_cases hn0 : psn.length = 0
  · have d0 : ((psn.length : Int) == 0) = true := by rw [hn0]; rfl
    have hone : ∀ u ∈ ([.slice a0 n0 c0, .slice a1 n1 c1, .slice ad nd cd, .slice ac nc cc, .slice au nu cu, .slice af nf cf, .slice aw nw cw] : List Value), u.oneCell' = true := by simp [Value.oneCell']
    go_wp2_with (first
      | (with_reducible refine load_struct 26 28 _ 7 size_tables _ Try.underlying28 ⟨w.heap.size, 0, none⟩ rfl [.slice a0 n0 c0, .slice a1 n1 c1, .slice ad nd cd, .slice ac nc cc, .slice au nu cu, .slice af nf cf, .slice aw nw cw] rfl (fun j u hj => by rw [Addr.add_lit, Nat.zero_add]; exact hX4.at_ hj) ?_)
      | (with_reducible refine store_all 28 _ _ 28 g8 [.slice none 0 0, .slice none 0 0, .slice none 0 0, .slice none 0 0, .slice none 0 0, .slice none 0 0, .slice none 0 0] [.slice a0 n0 c0, .slice a1 n1 c1, .slice ad nd cd, .slice ac nc cc, .slice au nu cu, .slice af nf cf, .slice aw nw cw] _ (size7 _ _ _ _ _ _ _) hX8 rfl rfl rfl (Eq.refl 7) hone ?_; intro w12 hx12 hg12 hs12))
    have hbw12 := hbw3.grown hg12 hbw3.size (fun q hq => by cases hq; omega)
    have hT := HT.out.below hbw12
    refine bodyPost_ret (run_results_cell rfl rfl agg_tables (size7 _ _ _ _ _ _ _) hx12) rfl ⟨_, t, rfl, hT, HZ.out.mono (by omega), hbw12⟩
  · have d0 : ((psn.length : Int) == 0) = false := beq_eq_false_iff_ne.2 (by omega)
    have hpm := hlen
    go_wp2_with fail
    refine (around_ex psn.length (wrap64 (at_.tdiv 2)) (psn.length : Int) _ rfl (wrap_in _) (by omega) (by omega)).mono ?_
    rintro e wa ⟨i, hi, rfl, rfl⟩
    go_wp2_with fail
    refine (HA66.out _).mono ?_
    rintro e wa ⟨rfl, rfl⟩
    obtain ⟨bb, hbb⟩ : ∃ bb : UInt8, (r66 : Int) = (bb.toNat : Int) := ⟨UInt8.ofNat r66, by rw [UInt8.toNat_ofNat']; omega⟩
    rw [hbb]
    have hb256 : ((bb.toNat : Int) % 256) = (bb.toNat : Int) := by have := bb.toNat_lt; omega
    clear hbb
    go_wp2_with fail
    refine (HAh.out _).mono ?_
    rintro e wa ⟨rfl, rfl⟩
    clear HA1 HA66 HAh hb256
    go_upto_block 0 with fail
    go_cut [10, 13] from 37 to 172 (fun v u w' => RBt w 28 B w.heap.size g8 m v w')
    case first =>
      obtain ⟨y0, hy0⟩ : ∃ y, psn[i]? = some y := ⟨_, List.getElem?_eq_getElem hi⟩
      obtain ⟨g, ha3, hBg, hgl, k0, k1, k2⟩ := hOL.top.row3 hy0
      subst ha3
      obtain ⟨cur, _, hxg, hcl, hput⟩ := hOL.top.box
      have hxg : Box w3 g 74 cur := hxg
      have HPUT : Hid (∀ (w' : World) (i : Nat) (v : Value), i < psn.length * 3 → Box w' g 74 (cur.set i v) → Own w' B 74 3 (some ⟨g, 0, none⟩) psn.length c3 ((psn.flatMap rc).set i v)) := hide hput
      have hln0 : i * 3 < cur.length := by omega
      have hln1 : i * 3 + 1 < cur.length := by omega
      have hln2 : i * 3 + 2 < cur.length := by omega
      have hBw : w.heap.size ≤ B := by omega
      have hlm : psn.length ≤ m + 100 := by omega
      have HY0S := hide ((hOL.row y0 (List.mem_of_getElem? hy0)).2)
      have HY0 := hide hy0
      have i0 : decide ((i : Int) < (psn.length : Int)) = true := decide_eq_true (by omega)
      have i0' : decide (i < psn.length) = true := decide_eq_true hi
      clear hput hy0
      obtain rfl | rfl | rfl | rfl | rfl | rfl | rfl | rfl | rfl | rfl | rfl : rh = 0 ∨ rh = 1 ∨ rh = 2 ∨ rh = 3 ∨ rh = 4 ∨ rh = 5 ∨ rh = 6 ∨ rh = 7 ∨ rh = 8 ∨ rh = 9 ∨ rh = 10 := by omega
      · clear k0 k1 k2
        have hOL1 := hOL
        have hX41 := hX4
        have hX81 := hX8
        have hbw1 := hbw3
        have hxg1 := hxg
        have HTX := HY0S
        go_wp2_with fail
        refine (around_ex 6 _ _ _ rfl HBY.out (by decide) (by decide)).mono ?_
        rintro e wa ⟨r, hr, rfl, rfl⟩
        go_wp2_with (with_reducible refine store_cell 3 _ _ 74 g (i * 3 + 1) cur (.int .i64 ((r : Int) - 1)) size_int hxg1 rfl rfl rfl rfl hln1 ?_; intro w8 hx8 hg8 hs8)
        go_meet
        exact rb_put HT.out hOL1 (by decide) HY0.out HPUT.out (y := (⟨y0.1.text, (r : Int) - 1, y0.1.cells⟩, y0.2)) (j := 1) (by decide) rfl hx8 hg8 (.inr ⟨rfl, rfl⟩) (HTX.out) hX41 hB2.1 ⟨_, hX81, rfl⟩ hB2.2 hbw1 hBw HZ.out hlm
      · have hal := blo w3 (.cells #[.int .u8 (bb.toNat : Int)] 5)
        have hOL1 := hOL.below hal
        have hX41 := hX4.under hal
        have hX81 := hX8.under hal
        have hbw1 := hbw3.trans (hal.mono hbw3.size)
        have hxg1 := hxg.under hal
        have HTX := HY0S
        have hown := Own.built w3 B 5 1 1 #[.int .u8 (bb.toNat : Int)] hB3 rfl (by decide)
        go_wp2_with (with_reducible refine store_cell 26 _ _ 74 g (i * 3 + 2) cur (.slice (some ⟨w3.heap.size, 0, none⟩) 1 1) size_row hxg1 rfl rfl rfl rfl hln2 ?_; intro w8 hx8 hg8 hs8)
        go_meet
        exact rb_put HT.out hOL1 (by decide) HY0.out HPUT.out (y := (⟨y0.1.text, y0.1.whr, [bb]⟩, (some ⟨w3.heap.size, 0, none⟩, 1, 1))) (j := 2) (by decide) rfl hx8 hg8 (.inl hown) (HTX.out) hX41 hB2.1 ⟨_, hX81, rfl⟩ hB2.2 hbw1 hBw HZ.out hlm
      · have hal := blo w3 (.cells #[.int .u8 (bb.toNat : Int), .int .u8 (bb.toNat : Int), .int .u8 1, .int .u8 2, .int .u8 3] 5)
        have hOL1 := hOL.below hal
        have hX41 := hX4.under hal
        have hX81 := hX8.under hal
        have hbw1 := hbw3.trans (hal.mono hbw3.size)
        have hxg1 := hxg.under hal
        have HTX := HY0S
        have hown := Own.built w3 B 5 1 5 #[.int .u8 (bb.toNat : Int), .int .u8 (bb.toNat : Int), .int .u8 1, .int .u8 2, .int .u8 3] hB3 rfl (by decide)
        go_wp2_with fail
        refine (around_ex 6 (wrap64 (by_.tdiv 66)) _ _ rfl (wrap_in _) (by decide) (by decide)).mono ?_
        rintro e wa ⟨r, hr, rfl, rfl⟩
        generalize w3.alloc (.cells _ _) = w4 at *
        have hown2 := hown.pre r (by omega)
        rw [Nat.mul_one] at hown2
        go_wp2_with (first
          | (with_reducible refine cut_hi_g 73 _ _ _ _ Try.underlying26 1 size_u8 (some ⟨w3.heap.size, 0, none⟩) 5 5 rfl .i64 r rfl (by omega) ?_)
          | (with_reducible refine store_cell 26 _ _ 74 g (i * 3 + 2) cur (.slice (some ⟨w3.heap.size, 0, none⟩) r 5) size_row hxg1 rfl rfl rfl rfl hln2 ?_; intro w8 hx8 hg8 hs8))
        go_meet
        exact rb_put HT.out hOL1 (by decide) HY0.out HPUT.out (y := (⟨y0.1.text, y0.1.whr, [bb, bb, 1, 2, 3].take r⟩, (some ⟨w3.heap.size, 0, none⟩, r, 5))) (j := 2) (by decide) rfl hx8 hg8 (.inl (by rw [List.map_take]; exact hown2)) (HTX.out) hX41 hB2.1 ⟨_, hX81, rfl⟩ hB2.2 hbw1 hBw HZ.out hlm
      · have hal := blo w3 (.cells #[.string ⟨#[]⟩, .string ⟨#[65]⟩, .string ⟨#[55]⟩, .string ⟨#[97, 46]⟩, .string ⟨#[46, 46]⟩, .string ⟨#[97, 98, 99, 100, 101, 102, 103, 104]⟩, .string ⟨#[97, 98, 99, 100, 101, 102, 103, 104, 105]⟩, .string ⟨#[33]⟩, .string ⟨#[97]⟩] 9)
        have hOL1 := hOL.below hal
        have hX41 := hX4.under hal
        have hX81 := hX8.under hal
        have hbw1 := hbw3.trans (hal.mono hbw3.size)
        have hxg1 := hxg.under hal
        have hbs := Box.new w3 9 #[.string ⟨#[]⟩, .string ⟨#[65]⟩, .string ⟨#[55]⟩, .string ⟨#[97, 46]⟩, .string ⟨#[46, 46]⟩, .string ⟨#[97, 98, 99, 100, 101, 102, 103, 104]⟩, .string ⟨#[97, 98, 99, 100, 101, 102, 103, 104, 105]⟩, .string ⟨#[33]⟩, .string ⟨#[97]⟩]
        go_wp2_with fail
        refine (around_ex 9 _ _ _ rfl HBY.out (by decide) (by decide)).mono ?_
        rintro e wa ⟨r, hr, rfl, rfl⟩
        generalize w3.alloc (.cells _ _) = w4 at *
        obtain ⟨sx, hsx, hsl⟩ := text_at ([⟨#[]⟩, ⟨#[65]⟩, ⟨#[55]⟩, ⟨#[97, 46]⟩, ⟨#[46, 46]⟩, ⟨#[97, 98, 99, 100, 101, 102, 103, 104]⟩, ⟨#[97, 98, 99, 100, 101, 102, 103, 104, 105]⟩, ⟨#[33]⟩, ⟨#[97]⟩] : List ByteArray) (by decide) r (by simpa using hr)
        have HTX := hide hsl
        have hcs := hbs.at_ (j := r) (u := .string sx) (by simpa using hsx)
        clear hsx hsl
        go_wp2_with (with_reducible refine store_cell 9 _ _ 74 g (i * 3) cur (.string sx) size_str hxg1 rfl rfl rfl rfl hln0 ?_; intro w8 hx8 hg8 hs8)
        go_meet
        exact rb_put HT.out hOL1 (by decide) HY0.out HPUT.out (y := (⟨sx, y0.1.whr, y0.1.cells⟩, y0.2)) (j := 0) (by decide) rfl hx8 hg8 (.inr ⟨rfl, rfl⟩) (HTX.out) hX41 hB2.1 ⟨_, hX81, rfl⟩ hB2.2 hbw1 hBw HZ.out hlm
      · have HI1 : Hid ((i : Int) + 1 = ((i + 1 : Nat) : Int)) := hide (by omega)
        have hic : i ≤ c3 := by have := hOL.top.sl.le; omega
        obtain ⟨aW, hAW, hSW⟩ := hOL.cut_lo (k := i + 1) hi
        have HAW := hide hAW
        have HSW := hide hSW
        have HKL : Hid ((psn.take i ++ psn.drop (i + 1)).length = i + (psn.length - (i + 1))) := hide (by rw [List.length_append, List.length_take, List.length_drop]; omega)
        clear hAW hSW
        have hpl : psn.length ≤ 10000 := by omega
        go_wp2_with fail
        refine wp_region_chain4 8 (fun w w' => w.grownBy w' (some g)) (GDel w3 B 74 3 g (i + (psn.length - (i + 1))) ((psn.take i ++ psn.drop (i + 1)).flatMap rc)) [⟨7, 96, [], fun _ _ => True⟩] [⟨0, 89, [89], fun vs _ => vs = [.slice (some ⟨g, 0, none⟩) psn.length c3]⟩, ⟨1, 90, [90], fun vs _ => vs = [.int .i64 (i : Int)]⟩, ⟨2, 91, [91], fun vs _ => vs = [.slice (some ⟨g, 0, none⟩) i c3]⟩, ⟨3, 92, [92], fun vs _ => vs = [.slice (some ⟨g, 0, none⟩) psn.length c3]⟩, ⟨4, 93, [93], fun vs _ => vs = [.int .i64 (i : Int)]⟩, ⟨5, 94, [94], fun vs _ => vs = [.int .i64 ((i : Int) + 1)]⟩, ⟨6, 95, [95], fun vs _ => vs = [.slice aW (psn.length - (i + 1)) (c3 - (i + 1))]⟩] (by kernel_rfl) (by kernel_rfl) ?_ (fun _ _ h => grown_of_below h _) GDel.mono ?_ ?_ ?_ ?_
        · exact (Still.below 1 : Below w3.heap.size w3 (w3.drewN 1))
        · simp only [All]
          refine ⟨(fun _ _ _ _ h => h), (fun _ _ _ _ h => h), (fun _ _ _ _ h => h), (fun _ _ _ _ h => h), (fun _ _ _ _ h => h), (fun _ _ _ _ h => h), (fun _ _ _ _ h => h), trivial⟩
        · intro m c hc o ho a' w' hG hfr hdep
          rcases m with _ | m
          · cases hc
            obtain rfl := Option.some.inj ho
            have hb : Below w3.heap.size w3 w' := hG
            have g91 : a'.tmps[91]?.getD undef = .slice (some ⟨g, 0, none⟩) i c3 := by have h := hdep 2 _ rfl (by kernel_rfl); simpa using h
            have g95 : a'.tmps[95]?.getD undef = .slice aW (psn.length - (i + 1)) (c3 - (i + 1)) := by have h := hdep 6 _ rfl (by kernel_rfl); simpa using h
            clear hfr hdep hG
            have hO1 := (hOL.top.pre i (Nat.le_of_lt hi)).below hb
            rw [flat_take rc_len] at hO1
            refine append_own rfl _ _ 22 rfl 74 zeroRule 3 48 Try.underlying22 info_rule rfl w' B (some ⟨g, 0, none⟩) i c3 _ (by show a'.tmps.getD 91 undef = _; simpa using g91) hO1 aW (psn.length - (i + 1)) (c3 - (i + 1)) _ (by show a'.tmps.getD 95 undef = _; simpa using g95) (HSW.out.below hb) (one_flat rc_one _) (by omega) (by unfold maxLen; omega) (Nat.le_trans hB3 hb.size) (Below.refl _ _) ?_
            intro a9 c9 w9 ho9 hg9 hb9
            have hg39 := grown_trans (grown_of_below hb (some g)) hg9
            go_wp2
            exact ⟨rfl, _, rfl, hg9, ⟨a9, c9, rfl, ho9⟩, hg39⟩
          · cases hc
        · simp only [All]
          refine ⟨?_, ?_, ?_, ?_, ?_, ?_, ?_, trivial⟩
          · intro o ho a' w' hfr hdep hst
            obtain rfl := Option.some.inj ho
            have g10 : a'.tmps[10]?.getD undef = .slice (some ⟨g, 0, none⟩) psn.length c3 := by have h := hfr 10 (by kernel_rfl); simpa using h
            clear ho hfr hdep hst
            go_wp2_with fail
            exact ⟨rfl, _, rfl, Below.refl _ _, rfl⟩
          · intro o ho a' w' hfr hdep hst
            obtain rfl := Option.some.inj ho
            have g11 : a'.tmps[11]?.getD undef = .int .i64 (i : Int) := by have h := hfr 11 (by kernel_rfl); simpa using h
            clear ho hfr hdep hst
            go_wp2_with fail
            exact ⟨rfl, _, rfl, Below.refl _ _, rfl⟩
          · intro o ho a' w' hfr hdep hst
            obtain rfl := Option.some.inj ho
            have g89 : a'.tmps[89]?.getD undef = .slice (some ⟨g, 0, none⟩) psn.length c3 := by have h := hdep 0 _ rfl (by kernel_rfl); simpa using h
            have g90 : a'.tmps[90]?.getD undef = .int .i64 (i : Int) := by have h := hdep 1 _ rfl (by kernel_rfl); simpa using h
            clear ho hfr hdep hst
            refine cut_hi_g 91 _ _ _ _ Try.underlying22 3 size_rule (some ⟨g, 0, none⟩) psn.length c3 (by show a'.tmps.getD 89 undef = _; simpa using g89) .i64 i (by show a'.tmps.getD 90 undef = _; simpa using g90) hic ?_
            go_wp2_with fail
            exact ⟨rfl, _, rfl, Below.refl _ _, rfl⟩
          · intro o ho a' w' hfr hdep hst
            obtain rfl := Option.some.inj ho
            have g10 : a'.tmps[10]?.getD undef = .slice (some ⟨g, 0, none⟩) psn.length c3 := by have h := hfr 10 (by kernel_rfl); simpa using h
            clear ho hfr hdep hst
            go_wp2_with fail
            exact ⟨rfl, _, rfl, Below.refl _ _, rfl⟩
          · intro o ho a' w' hfr hdep hst
            obtain rfl := Option.some.inj ho
            have g11 : a'.tmps[11]?.getD undef = .int .i64 (i : Int) := by have h := hfr 11 (by kernel_rfl); simpa using h
            clear ho hfr hdep hst
            go_wp2_with fail
            exact ⟨rfl, _, rfl, Below.refl _ _, rfl⟩
          · intro o ho a' w' hfr hdep hst
            obtain rfl := Option.some.inj ho
            have g93 : a'.tmps[93]?.getD undef = .int .i64 (i : Int) := by have h := hdep 4 _ rfl (by kernel_rfl); simpa using h
            clear ho hfr hdep hst
            go_wp2_with fail
            exact ⟨rfl, _, rfl, Below.refl _ _, rfl⟩
          · intro o ho a' w' hfr hdep hst
            obtain rfl := Option.some.inj ho
            have g92 : a'.tmps[92]?.getD undef = .slice (some ⟨g, 0, none⟩) psn.length c3 := by have h := hdep 3 _ rfl (by kernel_rfl); simpa using h
            have g94 : a'.tmps[94]?.getD undef = .int .i64 ((i : Int) + 1) := by have h := hdep 5 _ rfl (by kernel_rfl); simpa using h
            clear ho hfr hdep hst
            refine cut_lo_g 95 _ _ _ _ Try.underlying22 3 size_rule (some ⟨g, 0, none⟩) psn.length c3 (by show a'.tmps.getD 92 undef = _; simpa using g92) .i64 (i + 1) (by show a'.tmps.getD 94 undef = .int .i64 ((i + 1 : Nat) : Int); rw [← HI1.out]; simpa using g94) hi ?_
            rw [HAW.out]
            go_wp2_with fail
            exact ⟨rfl, _, rfl, Below.refl _ _, rfl⟩
        · intro gg w8 hG hp
          obtain ⟨⟨a7, c7, p96, ho7⟩, hg7⟩ := hG
          clear hp
          simp at p96
          rw [← HKL.out] at p96
          simp only [List.drop_succ_cons, List.drop_zero, List.map_cons, List.map_nil, putAll, Act.put, List.setIfInBounds_toArray, List.set_cons_succ, List.set_cons_zero, List.cons_append, List.nil_append, p96]
          have hO8 := hOL.sub (qs := psn.take i ++ psn.drop (i + 1)) (fun p hp => by rcases List.mem_append.1 hp with h | h; exact List.mem_of_mem_take h; exact List.mem_of_mem_drop h) HKL.out ho7 hg7 (by decide)
          have hX48 := hX4.grown hg7 (by simp; omega)
          have hX88 := hX8.grown hg7 (by simp; omega)
          have hb8 := hbw3.grown hg7 hbw3.size (fun q hq => by cases hq; omega)
          go_wp2_with fail
          go_meet
          exact RBt.rules HT.out hO8 hX48 ⟨_, hX88, rfl⟩ hb8 HZ.out (by rw [HKL.out]; omega)
      · have HC : Hid (∀ (j : Nat) (u : Value), ([.string y0.1.text, .int .i64 y0.1.whr, .slice y0.2.1 y0.2.2.1 y0.2.2.2] : List Value)[j]? = some u → w3.cell? ⟨g, i * 3 + j, none⟩ = some u) := hide (by
          intro j u hj
          rcases j with _ | _ | _ | j
          · cases hj; exact k0
          · cases hj; exact k1
          · cases hj; exact k2
          · cases hj)
        have h48 : (psn.length + 1) * 48 ≤ 140737488355328 := by omega
        have h49 : psn.length + 1 ≤ maxLen := by unfold maxLen; omega
        have hrow := hOL.row y0 (List.mem_of_getElem? HY0.out)
        have HROW := hide hrow
        clear hrow
        go_wp2_with (first
          | (with_reducible refine load_struct 103 74 _ 3 size_rule _ Try.underlying74 ⟨g, i * 3, none⟩ rfl [.string y0.1.text, .int .i64 y0.1.whr, .slice y0.2.1 y0.2.2.1 y0.2.2.2] rfl (fun j u hj => by rw [Addr.add_lit]; exact HC.out j u hj) ?_)
          | (at_builtin; refine append_lit rfl _ _ 22 rfl 74 zeroRule 3 48 Try.underlying22 info_rule rfl w3 B (some ⟨g, 0, none⟩) psn.length c3 _ rfl hOL.top 1 [.string y0.1.text, .int .i64 y0.1.whr, .slice y0.2.1 y0.2.2.1 y0.2.2.2] rfl rfl (rc_one y0) h48 h49 hB3 (Below.refl _ _) ?_; intro a9 c9 w9 ho9 hg9 hb9))
        have hO8 := hOL.push (p := y0) HROW.out.1 HROW.out.2 ho9 hg9 (by decide)
        have hg9 : w3.grownBy w9 (some g) := hg9
        have hX48 := hX4.grown hg9 (by simp; omega)
        have hX88 := hX8.grown hg9 (by simp; omega)
        have hb8 := hbw3.grown hg9 hbw3.size (fun q hq => by cases hq; omega)
        go_meet
        have hfin : RBt w 28 B w.heap.size g8 m (.slice a9 (psn ++ [y0]).length c9) w9 := RBt.rules HT.out hO8 hX48 ⟨_, hX88, rfl⟩ hb8 HZ.out (by rw [List.length_append]; show psn.length + 1 ≤ _; omega)
        rw [List.length_append] at hfin
        exact hfin
      · clear k0 k1 k2
        have hpl : psn.length ≤ 10000 := by omega
        have HOL := hide hOL
        clear hOL
        go_wp2_with fail
        go_loopg [10, 13] 97 (fun gh l v w' => ∃ (k c : Nat) (a : Option Addr) (ps : List RH), k ≤ 97 ∧ gh = 97 - k ∧ l = .slice a ps.length c ∧ v = .int .i64 (k : Int) ∧ Hid (ps.length = psn.length + k) ∧ OL w w' 74 5 B a c ps ∧ Below B w3 w')
        case atStart => exact ⟨0, _, _, psn, by omega, by omega, rfl, rfl, hide rfl, HOL.out, Below.refl _ _⟩
        case round =>
          obtain ⟨k, c, a, ps, hk, hgk, rfl, rfl, HL, hO, hb⟩ := hrel
          have HGK := hide hgk
          have hlk := HL.out
          have hpl2 : ps.length ≤ 10097 := by omega
          clear hgk hlk
          by_cases hkl : k < 97
          · have d1 : decide ((k : Int) < 97) = true := decide_eq_true (by omega)
            obtain ⟨u1, hu1⟩ : ∃ u1 : UInt8, 97 + (k : Int) % 26 = (u1.toNat : Int) := ⟨UInt8.ofNat (97 + k % 26), by rw [UInt8.toNat_ofNat']; omega⟩
            obtain ⟨u2, hu2⟩ : ∃ u2 : UInt8, 97 + (k : Int) / 26 = (u2.toNat : Int) := ⟨UInt8.ofNat (97 + k / 26), by rw [UInt8.toNat_ofNat']; omega⟩
            have HU1 := hide hu1
            have HU2 := hide hu2
            have hsz := hb.size
            have hBr : B ≤ wr.heap.size := Nat.le_trans hB3 hsz
            clear hu1 hu2 hsz
            have ho3 := Own.built wr B 5 1 3 #[.int .u8 (97 + (k : Int) % 26), .int .u8 (97 + (k : Int) / 26), .int .u8 113] hBr rfl (by decide)
            have hs3 := ho3.sl
            have h3e : (#[.int .u8 (97 + (k : Int) % 26), .int .u8 (97 + (k : Int) / 26), .int .u8 113] : Array Value).toList = ([u1, u2, 113] : List UInt8).map B8 := by rw [HU1.out, HU2.out]; rfl
            rw [h3e] at hs3
            have hal := blo wr (.cells #[.int .u8 (97 + (k : Int) % 26), .int .u8 (97 + (k : Int) / 26), .int .u8 113] 5)
            clear ho3 h3e
            go_wp2_with (with_reducible refine to_str 122 _ (some ⟨wr.heap.size, 0, none⟩) 3 3 [u1, u2, 113] rfl hs3 ?_; refine hold ?_)
            refine hide ?_
            generalize wr.alloc (.cells _ 5) = w4 at *
            have hO4 := hO.below hal
            have hb4 := hb.trans (hal.mono hBr)
            have hB4 := Nat.le_trans hBr hal.size
            clear hO hb hal hBr
            have ho7 := Own.built w4 B 5 1 1 #[.int .u8 7] hB4 rfl (by decide)
            have e7 : (w4.alloc (.cells #[.int .u8 7] 5)).heap.size = w4.heap.size + 1 := by simp
            have hfr := Sl.fresh (w4.alloc (.cells #[.int .u8 7] 5)) 74 3 1 (rc ((⟨⟨#[u1, u2, 113]⟩, 0, [7]⟩ : Ru), (some ⟨w4.heap.size, 0, none⟩, 1, 1))) rfl (by decide)
            rw [e7] at hfr
            have hb6 : Below w4.heap.size w4 ((w4.alloc (.cells #[.int .u8 7] 5)).alloc (.cells (rc ((⟨⟨#[u1, u2, 113]⟩, 0, [7]⟩ : Ru), (some ⟨w4.heap.size, 0, none⟩, 1, 1))).toArray 74)) := (blo _ _).trans ((blo _ _).mono (by simp))
            have hO6 := hO4.below hb6
            have ho76 := ho7.alloc (.cells (rc ((⟨⟨#[u1, u2, 113]⟩, 0, [7]⟩ : Ru), (some ⟨w4.heap.size, 0, none⟩, 1, 1))).toArray 74)
            have hB6 := Nat.le_trans hB4 hb6.size
            have hb36 := hb4.trans (hb6.mono hB4)
            have h48 : (ps.length + 1) * 48 ≤ 140737488355328 := by omega
            have h49 : ps.length + 1 ≤ maxLen := by unfold maxLen; omega
            have HF := hide hfr
            have HE7 := hide e7
            clear hb4 hO4 hb6 e7 hfr ho7
            go_wp2_with (at_builtin; refine append_own rfl _ _ 22 rfl 74 zeroRule 3 48 Try.underlying22 info_rule rfl w3 B a ps.length c _ rfl hO6.top (some ⟨w4.heap.size + 1, 0, none⟩) 1 1 (rc ((⟨⟨#[u1, u2, 113]⟩, 0, [7]⟩ : Ru), (some ⟨w4.heap.size, 0, none⟩, 1, 1))) rfl HF.out (rc_one _) h48 h49 hB6 hb36 ?_; intro a9 c9 w9 ho9 hg9 hb9)
            have hO9 := hO6.push (p := ((⟨⟨#[u1, u2, 113]⟩, 0, [7]⟩ : Ru), (some ⟨w4.heap.size, 0, none⟩, 1, 1))) (.inr ho76) (show (3 : Nat) ≤ 1000 by decide) ho9 hg9 (by decide)
            go_roundg (97 - (k + 1))
            case measure => have := HGK.out; omega
            case rel => exact ⟨k + 1, c9, a9, ps ++ [((⟨⟨#[u1, u2, 113]⟩, 0, [7]⟩ : Ru), (some ⟨w4.heap.size, 0, none⟩, 1, 1))], by omega, rfl, by rw [List.length_append]; rfl, by go_num, hide (by rw [List.length_append, HL.out]; show _ + 1 = _; omega), hO9, hb9⟩
          · obtain rfl : k = 97 := by omega
            have d1 : decide (((97 : Nat) : Int) < 97) = false := by decide
            go_wp2_with fail
            refine (around_ex 4 _ _ _ rfl HBY.out (by decide) (by decide)).mono ?_
            rintro e wa ⟨r, hr, rfl, rfl⟩
            have hcap := hO.top.sl.le
            have hlq : ps.length ≤ psn.length + 97 := by rw [HL.out]; exact Nat.le_refl _
            have hX48 := hX4.below hb hB2.1
            have hX88 := hX8.below hb hB2.2
            have hb8 := hbw3.trans (hb.mono hBw)
            clear hb
            by_cases hc : ps.length ≤ 95 + r
            · go_wp2_with fail
              go_meet
              exact RBt.rules HT.out hO hX48 ⟨_, hX88, rfl⟩ hb8 HZ.out (by omega)
            · have hO2 := hO.take (95 + r) (by omega)
              go_wp2_with fail
              go_meet
              have hfin : RBt w 28 B w.heap.size g8 m (.slice a (ps.take (95 + r)).length c) wr := RBt.rules HT.out hO2 hX48 ⟨_, hX88, rfl⟩ hb8 HZ.out (by rw [List.length_take]; omega)
              rw [List.length_take, Nat.min_eq_left (by omega)] at hfin
              exact hfin
      · clear k0 k1 k2
        have hnd : nd = t.dig.length := HT.out.d.n_eq
        have hd1 := HZ.out.1
        have hnd1 : 1 ≤ nd ∧ nd ≤ 1000 := by omega
        have HND := hide hnd
        have hal := blo w3 (.cells #[] 5)
        have hown : Own (w3.alloc (.cells #[] 5)) w3.heap.size 5 1 (some ⟨w3.heap.size, 0, none⟩) 0 0 [] := own_empty8 (Box.new w3 5 #[]) (Nat.le_refl w3.heap.size)
        have hD4 : Sl (w3.alloc (.cells #[] 5)) 1 ad nd cd (t.dig.map B8) := (HT.out.d.below hbw3).below hal
        have hX44 := hX4.under hal
        have hcl : (w3.alloc (.cells #[] 5)).cell? ⟨w.heap.size, 2, none⟩ = some (.slice ad nd cd) := hX44.at_ rfl
        have h48 : (0 + nd) * 1 ≤ 140737488355328 := by omega
        have h49 : 0 + nd ≤ maxLen := by unfold maxLen; omega
        have hsz4 := hal.size
        clear hnd hd1 hX44
        go_wp2_with (at_builtin; refine append_own rfl _ _ 26 rfl 5 (.int .u8 0) 1 1 Try.underlying26 info_u8 rfl (w3.alloc (.cells #[] 5)) w3.heap.size (some ⟨w3.heap.size, 0, none⟩) 0 0 [] rfl hown ad nd cd (t.dig.map B8) rfl hD4 (one_map _ (fun _ => rfl) _) h48 h49 hsz4 (Below.refl _ _) ?_; intro aD cD w5 ho5 hg5 hb5; refine hold ?_)
        refine hide ?_
        rw [Nat.zero_add, List.nil_append] at ho5
        have hb35 := hal.trans hb5
        obtain ⟨gD, rfl, hgD, _⟩ := own_some ho5 (by omega)
        have hX45 := hX4.under hb35
        have hlx : 2 < ([.slice a0 n0 c0, .slice a1 n1 c1, .slice ad nd cd, .slice ac nc cc, .slice au nu cu, .slice af nf cf, .slice aw nw cw] : List Value).length := by simp
        have hly : 2 < ([.slice a0 n0 c0, .slice a1 n1 c1, .slice (some ⟨gD, 0, none⟩) nd cD, .slice ac nc cc, .slice au nu cu, .slice af nf cf, .slice aw nw cw] : List Value).length := by simp
        clear hal hown hD4 hcl h48 h49 hsz4 hg5 hb5
        go_wp2_with (with_reducible refine store_cell 26 _ _ 28 w.heap.size 2 [.slice a0 n0 c0, .slice a1 n1 c1, .slice ad nd cd, .slice ac nc cc, .slice au nu cu, .slice af nf cf, .slice aw nw cw] (.slice (some ⟨gD, 0, none⟩) nd cD) size_row hX45 rfl rfl rfl rfl hlx ?_; intro w6 hx6 hg6 hs6)
        have hx6 : Box w6 w.heap.size 28 [.slice a0 n0 c0, .slice a1 n1 c1, .slice (some ⟨gD, 0, none⟩) nd cD, .slice ac nc cc, .slice au nu cu, .slice af nf cf, .slice aw nw cw] := hx6
        have hg36 := grown_trans (grown_of_below hb35 (some w.heap.size)) hg6
        have ho6 := ho5.kept hg6 (fun p hp => by cases hp; simp; omega)
        have h36 := hg36.size
        have hgDl := ho6.base.2
        have hgDl : gD < w6.heap.size := hgDl
        have hqc0 := ho6.sl.le
        obtain ⟨rk, hrk, hAk⟩ := around_any (wrap64 (by_.tdiv 66)) 11 11 w rfl (wrap_in _).1 (wrap_in _).2 (by decide) (by decide)
        have HAK := hide hAk
        obtain ⟨q, hq⟩ : ∃ q, q = rk % nd := ⟨_, rfl⟩
        have hqn : q < nd := by rw [hq]; exact Nat.mod_lt _ (by omega)
        have hqc : q ≤ cD := by omega
        have HQ1 : Hid ((rk : Int) % (nd : Int) = (q : Int)) := hide (by rw [hq]; omega)
        have HQ2 : Hid ((rk : Int).tmod (nd : Int) = (q : Int)) := hide (by rw [Int.tmod_eq_emod_of_nonneg (by omega)]; exact HQ1.out)
        have HNZ : Hid (((nd : Int) == 0) = false) := hide (beq_eq_false_iff_ne.2 (by omega))
        have HC2 : Hid (([.slice a0 n0 c0, .slice a1 n1 c1, .slice (some ⟨gD, 0, none⟩) nd cD, .slice ac nc cc, .slice au nu cu, .slice af nf cf, .slice aw nw cw] : List Value)[2]? = some (.slice (some ⟨gD, 0, none⟩) nd cD)) := hide rfl
        have HG6 : Hid (w.heap.size < w6.heap.size) := hide (by omega)
        have hgDne : w.heap.size ≠ gD := by omega
        clear hAk hq hX45 hb35 ho5 hs6
        refine wp_region_chain4 14 (fun w w' => w.grownBy w' (some gD)) (GDel w6 w3.heap.size 5 1 gD (q + 1) ((t.dig.map B8).take q ++ [.int .u8 (bb.toNat : Int)])) [⟨12, 154, [], fun _ _ => True⟩] [⟨0, 142, [142], fun vs _ => vs = [.pointer (some ⟨w.heap.size, 2, none⟩)]⟩, ⟨1, 143, [143], fun vs _ => vs = [.slice (some ⟨gD, 0, none⟩) nd cD]⟩, ⟨2, 144, [144], fun vs _ => vs = [.int .i64 by_]⟩, ⟨3, 145, [145], fun vs _ => vs = [.int .i64 (wrap64 (by_.tdiv 66))]⟩, ⟨4, 146, [146], fun vs _ => vs = [.int .i64 (rk : Int)]⟩, ⟨5, 147, [147], fun vs _ => vs = [.pointer (some ⟨w.heap.size, 2, none⟩)]⟩, ⟨6, 148, [148], fun vs _ => vs = [.slice (some ⟨gD, 0, none⟩) nd cD]⟩, ⟨7, 149, [149], fun vs _ => vs = [.int .i64 (nd : Int)]⟩, ⟨8, 150, [150], fun vs _ => vs = [.int .i64 (q : Int)]⟩, ⟨9, 151, [151], fun vs _ => vs = [.slice (some ⟨gD, 0, none⟩) q cD]⟩, ⟨10, 152, [152], fun vs _ => vs = [.int .u8 (bb.toNat : Int)]⟩, ⟨11, 153, [153], fun vs w' => ∃ b, vs = [.slice (some ⟨b, 0, none⟩) 1 1] ∧ gD < b ∧ Sl w' 1 (some ⟨b, 0, none⟩) 1 1 [.int .u8 (bb.toNat : Int)]⟩, ⟨13, 155, [155], fun vs _ => vs = [.pointer (some ⟨w.heap.size, 2, none⟩)]⟩] (by kernel_rfl) (by kernel_rfl) ?_ (fun _ _ h => grown_of_below h _) GDel.mono ?_ ?_ ?_ ?_
        · exact (Still.below 1 : Below w6.heap.size w6 (w6.drewN 1))
        · simp only [All]
          refine ⟨(fun _ _ _ _ h => h), (fun _ _ _ _ h => h), (fun _ _ _ _ h => h), (fun _ _ _ _ h => h), (fun _ _ _ _ h => h), (fun _ _ _ _ h => h), (fun _ _ _ _ h => h), (fun _ _ _ _ h => h), (fun _ _ _ _ h => h), (fun _ _ _ _ h => h), (fun _ _ _ _ h => h), (fun vs w1 w2 hr ⟨b, h1, h0, h2⟩ => ⟨b, h1, h0, h2.grown hr (fun q hq => by cases hq; simp; omega)⟩), (fun _ _ _ _ h => h), trivial⟩
        · intro m c hc o ho a' w' hG hfr hdep
          rcases m with _ | m
          · cases hc
            obtain rfl := Option.some.inj ho
            have hb : Below w6.heap.size w6 w' := hG
            have g151 : a'.tmps[151]?.getD undef = .slice (some ⟨gD, 0, none⟩) q cD := by have h := hdep 9 _ rfl (by kernel_rfl); simpa using h
            obtain ⟨b2, g153, hb2, hs2⟩ := hdep 11 _ rfl (by kernel_rfl)
            simp at g153
            clear hfr hdep hG
            have hO1 := (ho6.pre q (Nat.le_of_lt hqn)).below hb
            rw [Nat.mul_one] at hO1
            refine append_own rfl _ _ 26 rfl 5 (.int .u8 0) 1 1 Try.underlying26 info_u8 rfl w' w3.heap.size (some ⟨gD, 0, none⟩) q cD _ (by show a'.tmps.getD 151 undef = _; simpa using g151) hO1 (some ⟨b2, 0, none⟩) 1 1 [.int .u8 (bb.toNat : Int)] (by show a'.tmps.getD 153 undef = _; simpa using g153) hs2 (by simp [Value.oneCell']) (by omega) (by unfold maxLen; omega) (Nat.le_trans h36 hb.size) (Below.refl _ _) ?_
            intro a9 c9 w9 ho9 hg9 hb9
            have hg69 := grown_trans (grown_of_below hb (some gD)) hg9
            go_wp2
            exact ⟨rfl, _, rfl, hg9, ⟨a9, c9, rfl, ho9⟩, hg69⟩
          · cases hc
        · simp only [All]
          refine ⟨?_, ?_, ?_, ?_, ?_, ?_, ?_, ?_, ?_, ?_, ?_, ?_, ?_, trivial⟩
          · intro o ho a' w' hfr hdep hst
            obtain rfl := Option.some.inj ho
            have g4 : a'.tmps[4]?.getD undef = .pointer (some ⟨w.heap.size, 0, none⟩) := by have h := hfr 4 (by kernel_rfl); simpa using h
            clear ho hfr hdep hst
            go_wp2_with fail
            exact ⟨rfl, _, rfl, Below.refl _ _, rfl⟩
          · intro o ho a' w' hfr hdep hst
            obtain rfl := Option.some.inj ho
            have g142 : a'.tmps[142]?.getD undef = .pointer (some ⟨w.heap.size, 2, none⟩) := by have h := hdep 0 _ rfl (by kernel_rfl); simpa using h
            obtain ⟨j, _, _, hG⟩ := hst
            clear ho hfr hdep
            have hcl := (hG.box2 hx6 hgDne).at_ HC2.out
            clear hG
            go_wp2_with fail
            exact ⟨rfl, _, rfl, Below.refl _ _, rfl⟩
          · intro o ho a' w' hfr hdep hst
            obtain rfl := Option.some.inj ho
            have g3 : a'.tmps[3]?.getD undef = .int .i64 by_ := by have h := hfr 3 (by kernel_rfl); simpa using h
            clear ho hfr hdep hst
            go_wp2_with fail
            exact ⟨rfl, _, rfl, Below.refl _ _, rfl⟩
          · intro o ho a' w' hfr hdep hst
            obtain rfl := Option.some.inj ho
            have g144 : a'.tmps[144]?.getD undef = .int .i64 by_ := by have h := hdep 2 _ rfl (by kernel_rfl); simpa using h
            clear ho hfr hdep hst
            go_wp2_with fail
            exact ⟨rfl, _, rfl, Below.refl _ _, rfl⟩
          · intro o ho a' w' hfr hdep hst
            obtain rfl := Option.some.inj ho
            have g145 : a'.tmps[145]?.getD undef = .int .i64 (wrap64 (by_.tdiv 66)) := by have h := hdep 3 _ rfl (by kernel_rfl); simpa using h
            clear ho hfr hdep hst
            go_wp2_with fail
            refine (HAK.out _).mono ?_
            rintro e w2 ⟨rfl, rfl⟩
            go_wp2_with fail
            exact ⟨rfl, _, rfl, Below.refl _ _, rfl⟩
          · intro o ho a' w' hfr hdep hst
            obtain rfl := Option.some.inj ho
            have g4 : a'.tmps[4]?.getD undef = .pointer (some ⟨w.heap.size, 0, none⟩) := by have h := hfr 4 (by kernel_rfl); simpa using h
            clear ho hfr hdep hst
            go_wp2_with fail
            exact ⟨rfl, _, rfl, Below.refl _ _, rfl⟩
          · intro o ho a' w' hfr hdep hst
            obtain rfl := Option.some.inj ho
            have g147 : a'.tmps[147]?.getD undef = .pointer (some ⟨w.heap.size, 2, none⟩) := by have h := hdep 5 _ rfl (by kernel_rfl); simpa using h
            obtain ⟨j, _, _, hG⟩ := hst
            clear ho hfr hdep
            have hcl := (hG.box2 hx6 hgDne).at_ HC2.out
            clear hG
            go_wp2_with fail
            exact ⟨rfl, _, rfl, Below.refl _ _, rfl⟩
          · intro o ho a' w' hfr hdep hst
            obtain rfl := Option.some.inj ho
            have g148 : a'.tmps[148]?.getD undef = .slice (some ⟨gD, 0, none⟩) nd cD := by have h := hdep 6 _ rfl (by kernel_rfl); simpa using h
            clear ho hfr hdep hst
            go_wp2_with fail
            exact ⟨rfl, _, rfl, Below.refl _ _, rfl⟩
          · intro o ho a' w' hfr hdep hst
            obtain rfl := Option.some.inj ho
            have g146 : a'.tmps[146]?.getD undef = .int .i64 (rk : Int) := by have h := hdep 4 _ rfl (by kernel_rfl); simpa using h
            have g149 : a'.tmps[149]?.getD undef = .int .i64 (nd : Int) := by have h := hdep 7 _ rfl (by kernel_rfl); simpa using h
            clear ho hfr hdep hst
            have hq1 := HQ1.out
            have hq2 := HQ2.out
            have hnz : ((nd : Int) == 0) = false := HNZ.out
            go_wp2_with fail
            exact ⟨rfl, _, rfl, Below.refl _ _, rfl⟩
          · intro o ho a' w' hfr hdep hst
            obtain rfl := Option.some.inj ho
            have g143 : a'.tmps[143]?.getD undef = .slice (some ⟨gD, 0, none⟩) nd cD := by have h := hdep 1 _ rfl (by kernel_rfl); simpa using h
            have g150 : a'.tmps[150]?.getD undef = .int .i64 (q : Int) := by have h := hdep 8 _ rfl (by kernel_rfl); simpa using h
            clear ho hfr hdep hst
            refine cut_hi_g 151 _ _ _ _ Try.underlying26 1 size_u8 (some ⟨gD, 0, none⟩) nd cD (by show a'.tmps.getD 143 undef = _; simpa using g143) .i64 q (by show a'.tmps.getD 150 undef = _; simpa using g150) hqc ?_
            go_wp2_with fail
            exact ⟨rfl, _, rfl, Below.refl _ _, rfl⟩
          · intro o ho a' w' hfr hdep hst
            obtain rfl := Option.some.inj ho
            have g12 : a'.tmps[12]?.getD undef = .int .u8 (bb.toNat : Int) := by have h := hfr 12 (by kernel_rfl); simpa using h
            clear ho hfr hdep hst
            go_wp2_with fail
            exact ⟨rfl, _, rfl, Below.refl _ _, rfl⟩
          · intro o ho a' w' hfr hdep hst
            obtain rfl := Option.some.inj ho
            have g152 : a'.tmps[152]?.getD undef = .int .u8 (bb.toNat : Int) := by have h := hdep 10 _ rfl (by kernel_rfl); simpa using h
            obtain ⟨j, _, _, hG⟩ := hst
            clear ho hfr hdep
            have hsz := hG.size6
            clear hG
            go_wp2_with fail
            exact ⟨rfl, _, rfl, blo _ _, _, rfl, by omega, Sl.fresh _ _ 1 1 [.int .u8 (bb.toNat : Int)] rfl (by decide)⟩
          · intro o ho a' w' hfr hdep hst
            obtain rfl := Option.some.inj ho
            have g4 : a'.tmps[4]?.getD undef = .pointer (some ⟨w.heap.size, 0, none⟩) := by have h := hfr 4 (by kernel_rfl); simpa using h
            clear ho hfr hdep hst
            go_wp2_with fail
            exact ⟨rfl, _, rfl, Below.refl _ _, rfl⟩
        · intro gg w7 hG hp
          obtain ⟨⟨a7, c7, p154, ho7⟩, hg67⟩ := hG
          have p155 := hp 12 _ rfl
          clear hp
          simp at p154 p155
          simp only [List.drop_succ_cons, List.drop_zero, List.map_cons, List.map_nil, putAll, Act.put, List.setIfInBounds_toArray, List.set_cons_succ, List.set_cons_zero, List.cons_append, List.nil_append, p154, p155]
          have hx7 := hx6.grown hg67 (by simp; omega)
          have hg37 := grown_high hg36 hg67 hgD
          clear hg67 hg36 hx6 hg6
          go_wp2_with (with_reducible refine store_cell 26 _ _ 28 w.heap.size 2 [.slice a0 n0 c0, .slice a1 n1 c1, .slice (some ⟨gD, 0, none⟩) nd cD, .slice ac nc cc, .slice au nu cu, .slice af nf cf, .slice aw nw cw] (.slice a7 (q + 1) c7) size_row hx7 rfl rfl rfl rfl hly ?_; intro w8 hx8 hg8 hs8)
          have hu8 := (ho7.mono hB3).kept hg8 (fun p hp => by subst hp; have := ho7.base.1; simp; omega)
          go_meet
          exact rb_cell (cs := t.dig.take q ++ [bb]) HT.out hOL (by rw [List.map_append, List.map_take]; exact hu8) (grown_trans hg37 hg8) hB2.1 (fun w'' h1 h2 => ta_dig h1 h2) hx8 ⟨_, hX8, rfl⟩ (by omega) hbw3 (Nat.le_refl _) ⟨⟨by show 1 ≤ (t.dig.take q ++ [bb]).length; rw [List.length_append]; exact Nat.le_add_left _ _, by show (t.dig.take q ++ [bb]).length ≤ 1000; rw [List.length_append, List.length_take]; have := HND.out; show _ + 1 ≤ _; omega⟩, HZ.out.2⟩ hlm
      · have hal := blo w3 (.cells #[.int .u8 (bb.toNat : Int), .int .u8 (bb.toNat : Int)] 5)
        have hOL1 := hOL.below hal
        have hX41 := hX4.under hal
        have hX81 := hX8.under hal
        have hbw1 := hbw3.trans (hal.mono hbw3.size)
        have hxg1 := hxg.under hal
        have hown := Own.built w3 B 5 1 2 #[.int .u8 (bb.toNat : Int), .int .u8 (bb.toNat : Int)] hB3 rfl (by decide)
        go_wp2_with fail
        refine (around_ex 3 (wrap64 (by_.tdiv 66)) _ _ rfl (wrap_in _) (by decide) (by decide)).mono ?_
        rintro e wa ⟨r, hr, rfl, rfl⟩
        generalize w3.alloc (.cells _ _) = w4 at *
        have hown2 := hown.pre r (by omega)
        rw [Nat.mul_one] at hown2
        have hlx : 3 < ([.slice a0 n0 c0, .slice a1 n1 c1, .slice ad nd cd, .slice ac nc cc, .slice au nu cu, .slice af nf cf, .slice aw nw cw] : List Value).length := by simp
        go_wp2_with (first
          | (with_reducible refine cut_hi_g 164 _ _ _ _ Try.underlying26 1 size_u8 (some ⟨w3.heap.size, 0, none⟩) 2 2 rfl .i64 r rfl (by omega) ?_)
          | (with_reducible refine store_cell 26 _ _ 28 w.heap.size 3 [.slice a0 n0 c0, .slice a1 n1 c1, .slice ad nd cd, .slice ac nc cc, .slice au nu cu, .slice af nf cf, .slice aw nw cw] (.slice (some ⟨w3.heap.size, 0, none⟩) r 2) size_row hX41 rfl rfl rfl rfl hlx ?_; intro w8 hx8 hg8 hs8))
        go_meet
        have hown3 := hown2.kept hg8 (fun p hp => by cases hp; simp; omega)
        exact rb_cell (cs := [bb, bb].take r) HT.out hOL1 (by rw [List.map_take]; exact hown3) hg8 hB2.1 (fun w'' h1 h2 => ta_cap h1 h2) hx8 ⟨_, hX81, rfl⟩ (by omega) hbw1 (Nat.le_refl _) HZ.out hlm
      · have hal := blo w3 (.cells #[.int .u8 1, .int .u8 2, .int .u8 3, .int .u8 4, .int .u8 5] 5)
        have hOL1 := hOL.below hal
        have hX41 := hX4.under hal
        have hX81 := hX8.under hal
        have hbw1 := hbw3.trans (hal.mono hbw3.size)
        have hxg1 := hxg.under hal
        have hown := Own.built w3 B 5 1 5 #[.int .u8 1, .int .u8 2, .int .u8 3, .int .u8 4, .int .u8 5] hB3 rfl (by decide)
        go_wp2_with fail
        refine (around_ex 6 _ _ _ rfl HBY.out (by decide) (by decide)).mono ?_
        rintro e wa ⟨r, hr, rfl, rfl⟩
        generalize w3.alloc (.cells _ _) = w4 at *
        have hown2 := hown.pre r (by omega)
        rw [Nat.mul_one] at hown2
        have hlx : 6 < ([.slice a0 n0 c0, .slice a1 n1 c1, .slice ad nd cd, .slice ac nc cc, .slice au nu cu, .slice af nf cf, .slice aw nw cw] : List Value).length := by simp
        go_wp2_with (first
          | (with_reducible refine cut_hi_g 171 _ _ _ _ Try.underlying26 1 size_u8 (some ⟨w3.heap.size, 0, none⟩) 5 5 rfl .i64 r rfl (by omega) ?_)
          | (with_reducible refine store_cell 26 _ _ 28 w.heap.size 6 [.slice a0 n0 c0, .slice a1 n1 c1, .slice ad nd cd, .slice ac nc cc, .slice au nu cu, .slice af nf cf, .slice aw nw cw] (.slice (some ⟨w3.heap.size, 0, none⟩) r 5) size_row hX41 rfl rfl rfl rfl hlx ?_; intro w8 hx8 hg8 hs8))
        go_meet
        have hown3 := hown2.kept hg8 (fun p hp => by cases hp; simp; omega)
        exact rb_cell (cs := [1, 2, 3, 4, 5].take r) HT.out hOL1 (by rw [List.map_take]; exact hown3) hg8 hB2.1 (fun w'' h1 h2 => ta_sw h1 h2) hx8 ⟨_, hX81, rfl⟩ (by omega) hbw1 (Nat.le_refl _) HZ.out hlm
      · have hal := blo w3 (.cells #[.string ⟨#[116, 104]⟩, .string ⟨#[101, 114]⟩, .string ⟨#[97]⟩, .string ⟨#[46]⟩] 9)
        have hOL1 := hOL.below hal
        have hX41 := hX4.under hal
        have hX81 := hX8.under hal
        have hbw1 := hbw3.trans (hal.mono hbw3.size)
        have hxg1 := hxg.under hal
        have hbs := Box.new w3 9 #[.string ⟨#[116, 104]⟩, .string ⟨#[101, 114]⟩, .string ⟨#[97]⟩, .string ⟨#[46]⟩]
        go_wp2_with fail
        refine (around_ex 4 _ _ _ rfl HBY.out (by decide) (by decide)).mono ?_
        rintro e wa ⟨r, hr, rfl, rfl⟩
        generalize w3.alloc (.cells _ _) = w4 at *
        obtain ⟨sx, hsx, hsl⟩ := text_at ([⟨#[116, 104]⟩, ⟨#[101, 114]⟩, ⟨#[97]⟩, ⟨#[46]⟩] : List ByteArray) (by decide) r (by simpa using hr)
        have HTX := hide hsl
        have hcs := hbs.at_ (j := r) (u := .string sx) (by simpa using hsx)
        clear hsx hsl
        go_wp2_with (with_reducible refine store_cell 9 _ _ 74 g (i * 3) cur (.string sx) size_str hxg1 rfl rfl rfl rfl hln0 ?_; intro w8 hx8 hg8 hs8)
        go_meet
        exact rb_put HT.out hOL1 (by decide) HY0.out HPUT.out (y := (⟨sx, y0.1.whr, y0.1.cells⟩, y0.2)) (j := 0) (by decide) rfl hx8 hg8 (.inr ⟨rfl, rfl⟩) (HTX.out) hX41 hB2.1 ⟨_, hX81, rfl⟩ hB2.2 hbw1 hBw HZ.out hlm
    case rest =>
      clear hOL hX4 hX8 hbw3 hlen hpm
      obtain ⟨H2, t2, a, c, ps, rfl, HTR, hX4, ⟨z, hX8, hz7⟩, hb, hm, hl⟩ := hcut
      obtain ⟨⟨e0, f0, h0⟩, ⟨e1, f1, h1⟩, q0, q1, ⟨ed, fd, hd⟩, ⟨ec, fc, hc⟩, ⟨eu, fu, hu⟩, ⟨ef, ff, hf⟩, ⟨ew, fw, hw⟩⟩ := H2
      have hX4 : Box wc w.heap.size 28 [.slice e0 f0 h0, .slice e1 f1 h1, .slice ed fd hd, .slice ec fc hc, .slice eu fu hu, .slice ef ff hf, .slice ew fw hw] := hX4
      have hon1 : ∀ u ∈ ([.slice a ps.length c] : List Value), u.oneCell' = true := by simp [Value.oneCell']
      obtain rfl | rfl : r1 = 0 ∨ r1 = 1 := by omega
      · have hl1 : 0 + ([.slice a ps.length c] : List Value).length ≤ ([.slice e0 f0 h0, .slice e1 f1 h1, .slice ed fd hd, .slice ec fc hc, .slice eu fu hu, .slice ef ff hf, .slice ew fw hw] : List Value).length := by simp
        have hone : ∀ u ∈ ([.slice a ps.length c, .slice e1 f1 h1, .slice ed fd hd, .slice ec fc hc, .slice eu fu hu, .slice ef ff hf, .slice ew fw hw] : List Value), u.oneCell' = true := by simp [Value.oneCell']
        go_wp2_with (with_reducible refine store_box 24 _ _ 28 w.heap.size 0 [.slice e0 f0 h0, .slice e1 f1 h1, .slice ed fd hd, .slice ec fc hc, .slice eu fu hu, .slice ef ff hf, .slice ew fw hw] [.slice a ps.length c] (.agg #[.slice a ps.length c]) (size_tab1 _) hX4 rfl rfl rfl hl1 hon1 ?_; intro w8 hx8 hg8 hs8; refine hold ?_)
        refine hide ?_
        have hx8 : Box w8 w.heap.size 28 [.slice a ps.length c, .slice e1 f1 h1, .slice ed fd hd, .slice ec fc hc, .slice eu fu hu, .slice ef ff hf, .slice ew fw hw] := hx8
        have hX88 := hX8.grown hg8 (by simp; omega)
        have hz8 : ([.slice a ps.length c, .slice e1 f1 h1, .slice ed fd hd, .slice ec fc hc, .slice eu fu hu, .slice ef ff hf, .slice ew fw hw] : List Value).length = z.length := by rw [hz7]; rfl
        go_wp2_with (first
          | (with_reducible refine load_struct 178 28 _ 7 size_tables _ Try.underlying28 ⟨w.heap.size, 0, none⟩ rfl [.slice a ps.length c, .slice e1 f1 h1, .slice ed fd hd, .slice ec fc hc, .slice eu fu hu, .slice ef ff hf, .slice ew fw hw] rfl (fun j u hj => by rw [Addr.add_lit, Nat.zero_add]; exact hx8.at_ hj) ?_)
          | (with_reducible refine store_all 28 _ _ 28 g8 z [.slice a ps.length c, .slice e1 f1 h1, .slice ed fd hd, .slice ec fc hc, .slice eu fu hu, .slice ef ff hf, .slice ew fw hw] _ (size7 _ _ _ _ _ _ _) hX88 rfl rfl rfl hz8 hone ?_; intro w12 hx12 hg12 hs12))
        have hbw12 := (hb.grown hg8 hb.size (fun q hq => by cases hq; exact Nat.le_refl _)).grown hg12 (Nat.le_trans hb.size hg8.size) (fun q hq => by cases hq; omega)
        have hka : KeepAbove B wc w12 := ((KeepAbove.refl B wc).grown (Nat.le_refl _) hg8 hB2.1).grown hg8.size hg12 hB2.2
        obtain ⟨hTA, hRU⟩ := HTR.out w12 hbw12 hka
        have hlz := hm.2
        refine bodyPost_ret (run_results_cell rfl rfl agg_tables (size7 _ _ _ _ _ _ _) hx12) rfl ⟨⟨(a, ps.length, c), (e1, f1, h1), ps, q1, (ed, fd, hd), (ec, fc, hc), (eu, fu, hu), (ef, ff, hf), (ew, fw, hw)⟩, ⟨rus ps, t2.l1, t2.dig, t2.cap, t2.num, t2.fin, t2.sw⟩, rfl, ⟨hRU, hTA.l1, rfl, hTA.e1, hTA.d, hTA.c, hTA.n, hTA.f, hTA.s⟩, ⟨hm.1, by show (rus ps).length ≤ _; rw [rus_len]; exact hl, by show t2.l1.length ≤ _; omega⟩, hbw12⟩
      · have hl1 : 1 + ([.slice a ps.length c] : List Value).length ≤ ([.slice e0 f0 h0, .slice e1 f1 h1, .slice ed fd hd, .slice ec fc hc, .slice eu fu hu, .slice ef ff hf, .slice ew fw hw] : List Value).length := by simp
        have hone : ∀ u ∈ ([.slice e0 f0 h0, .slice a ps.length c, .slice ed fd hd, .slice ec fc hc, .slice eu fu hu, .slice ef ff hf, .slice ew fw hw] : List Value), u.oneCell' = true := by simp [Value.oneCell']
        go_wp2_with (with_reducible refine store_box 24 _ _ 28 w.heap.size 1 [.slice e0 f0 h0, .slice e1 f1 h1, .slice ed fd hd, .slice ec fc hc, .slice eu fu hu, .slice ef ff hf, .slice ew fw hw] [.slice a ps.length c] (.agg #[.slice a ps.length c]) (size_tab1 _) hX4 rfl rfl rfl hl1 hon1 ?_; intro w8 hx8 hg8 hs8; refine hold ?_)
        refine hide ?_
        have hx8 : Box w8 w.heap.size 28 [.slice e0 f0 h0, .slice a ps.length c, .slice ed fd hd, .slice ec fc hc, .slice eu fu hu, .slice ef ff hf, .slice ew fw hw] := hx8
        have hX88 := hX8.grown hg8 (by simp; omega)
        have hz8 : ([.slice e0 f0 h0, .slice a ps.length c, .slice ed fd hd, .slice ec fc hc, .slice eu fu hu, .slice ef ff hf, .slice ew fw hw] : List Value).length = z.length := by rw [hz7]; rfl
        go_wp2_with (first
          | (with_reducible refine load_struct 178 28 _ 7 size_tables _ Try.underlying28 ⟨w.heap.size, 0, none⟩ rfl [.slice e0 f0 h0, .slice a ps.length c, .slice ed fd hd, .slice ec fc hc, .slice eu fu hu, .slice ef ff hf, .slice ew fw hw] rfl (fun j u hj => by rw [Addr.add_lit, Nat.zero_add]; exact hx8.at_ hj) ?_)
          | (with_reducible refine store_all 28 _ _ 28 g8 z [.slice e0 f0 h0, .slice a ps.length c, .slice ed fd hd, .slice ec fc hc, .slice eu fu hu, .slice ef ff hf, .slice ew fw hw] _ (size7 _ _ _ _ _ _ _) hX88 rfl rfl rfl hz8 hone ?_; intro w12 hx12 hg12 hs12))
        have hbw12 := (hb.grown hg8 hb.size (fun q hq => by cases hq; exact Nat.le_refl _)).grown hg12 (Nat.le_trans hb.size hg8.size) (fun q hq => by cases hq; omega)
        have hka : KeepAbove B wc w12 := ((KeepAbove.refl B wc).grown (Nat.le_refl _) hg8 hB2.1).grown hg8.size hg12 hB2.2
        obtain ⟨hTA, hRU⟩ := HTR.out w12 hbw12 hka
        have hlz := hm.2
        refine bodyPost_ret (run_results_cell rfl rfl agg_tables (size7 _ _ _ _ _ _ _) hx12) rfl ⟨⟨(e0, f0, h0), (a, ps.length, c), q0, ps, (ed, fd, hd), (ec, fc, hc), (eu, fu, hu), (ef, ff, hf), (ew, fw, hw)⟩, ⟨t2.l0, rus ps, t2.dig, t2.cap, t2.num, t2.fin, t2.sw⟩, rfl, ⟨hTA.l0, hRU, hTA.e0, rfl, hTA.d, hTA.c, hTA.n, hTA.f, hTA.s⟩, ⟨hm.1, by show t2.l0.length ≤ _; omega, by show (rus ps).length ≤ _; rw [rus_len]; exact hl⟩, hbw12⟩
end Go.Proofs.Ytkjcbneanaeleaa
end

/- the text B41 -/
section
/- Chapter 06: the reference's Next and Steps; own, raw. -/
namespace Go.Dx
open Go.RowKit
/-- how far an append to a list of steps is -/
def GSt (w0 : World) (E U : TypeId) (B : Nat) (ps : List SH) (n : Nat) : Nat → List Value → World → Prop
  | 0, _, w => Below w0.heap.size w0 w
  | _ + 1, vs, w => (∃ a' c', vs = [.slice a' n c'] ∧ OSt w E U B a' c' ps) ∧ Below B w0 w
theorem GSt.mono {w0 : World} {E U : TypeId} {B : Nat} {ps : List SH} {n : Nat} (hB : B ≤ w0.heap.size) : ∀ j vs w w', Below w.heap.size w w' → GSt w0 E U B ps n j vs w → GSt w0 E U B ps n j vs w'
  | 0, _, _, _, hb, h => Below.trans h (hb.mono (Below.size h))
  | _ + 1, _, _, _, hb, ⟨⟨a', c', h1, h2⟩, h3⟩ => ⟨⟨a', c', h1, h2.below hb⟩, h3.trans (hb.mono (Nat.le_trans hB h3.size))⟩
theorem GSt.cell {w0 w : World} {E U : TypeId} {B : Nat} {ps : List SH} {n j : Nat} {vs : List Value} (h : GSt w0 E U B ps n j vs w) {p : Addr} {u : Value} (hc : w0.cell? p = some u) (hp : p.block < B) (hB : B ≤ w0.heap.size) : w.cell? p = some u := by
  cases j with
  | zero => exact cell_below hc h
  | succ j => rw [h.2.cell hp]; exact hc
theorem GSt.size {w0 w : World} {E U : TypeId} {B : Nat} {ps : List SH} {n j : Nat} {vs : List Value} (h : GSt w0 E U B ps n j vs w) : w0.heap.size ≤ w.heap.size := by
  cases j with
  | zero => exact Below.size h
  | succ j => exact h.2.size
end Go.Dx
namespace Go.Proofs.Ytkjcbneanaeleaa
open Go.RowKit Go.Dx
set_option maxRecDepth 100000 in
set_option maxHeartbeats 8000000 in
theorem ref_Next_sw (H : TH) (t : Ta) (s : St) (l : List Sy) (a : Option Addr) (n c : Nat) (p : Nat) (x : Sy) (hx : l[p]? = some x) (hll : l.length ≤ 1000000) (hne : x.lang ≠ s.lang) (w : World) (hT : TaIs w H t) (hs : Sl w 2 a n c (l.flatMap sc)) :
    Calls Try.prog 55 #[H.v, .agg #[.int .i64 s.lang, .bool s.num, .bool s.wrd], .slice a n c, .int .i64 (p : Int)] w (StepsR [⟨⟨x.lang, false, false⟩, 0, t.sw, -1⟩] w) := by
  have HTS : Hid (Sl w 1 H.s.1 H.s.2.1 H.s.2.2 (t.sw.map B8)) := hide hT.s
  have hne0 : x.lang ≠ s.lang := hne
  clear hne
  obtain rfl := hs.nf sc_len (by decide)
  obtain ⟨⟨a0, n0, c0⟩, ⟨a1, n1, c1⟩, ps0, ps1, ⟨ad, nd, cd⟩, ⟨ac, nc, cc⟩, ⟨an, nn, cn⟩, ⟨af, nf, cf⟩, ⟨aw, nw, cw⟩⟩ := H
  obtain ⟨sg, sn, si⟩ := s
  obtain ⟨xg, xc⟩ := x
  unfold TH.v
  simp only [hdv]
  have hbb : Below w.heap.size w ((w.alloc (.cells #[.slice a0 n0 c0, .slice a1 n1 c1, .slice ad nd cd, .slice ac nc cc, .slice an nn cn, .slice af nf cf, .slice aw nw cw] 28)).alloc (.cells #[.int .i64 sg, .bool sn, .bool si] 40)) := (blo w _).trans ((blo _ _).mono (by simp))
  have X4 : Box ((w.alloc (.cells #[.slice a0 n0 c0, .slice a1 n1 c1, .slice ad nd cd, .slice ac nc cc, .slice an nn cn, .slice af nf cf, .slice aw nw cw] 28)).alloc (.cells #[.int .i64 sg, .bool sn, .bool si] 40)) w.heap.size 28 [.slice a0 n0 c0, .slice a1 n1 c1, .slice ad nd cd, .slice ac nc cc, .slice an nn cn, .slice af nf cf, .slice aw nw cw] := (Box.new w 28 #[.slice a0 n0 c0, .slice a1 n1 c1, .slice ad nd cd, .slice ac nc cc, .slice an nn cn, .slice af nf cf, .slice aw nw cw]).alloc _
  have X5 : Box ((w.alloc (.cells #[.slice a0 n0 c0, .slice a1 n1 c1, .slice ad nd cd, .slice ac nc cc, .slice an nn cn, .slice af nf cf, .slice aw nw cw] 28)).alloc (.cells #[.int .i64 sg, .bool sn, .bool si] 40)) (w.heap.size + 1) 40 [.int .i64 sg, .bool sn, .bool si] := by
    have := Box.new (w.alloc (.cells #[.slice a0 n0 c0, .slice a1 n1 c1, .slice ad nd cd, .slice ac nc cc, .slice an nn cn, .slice af nf cf, .slice aw nw cw] 28)) 40 #[.int .i64 sg, .bool sn, .bool si]
    rwa [show (w.alloc (.cells #[.slice a0 n0 c0, .slice a1 n1 c1, .slice ad nd cd, .slice ac nc cc, .slice an nn cn, .slice af nf cf, .slice aw nw cw] 28)).heap.size = w.heap.size + 1 by simp] at this
  have HBB := hide hbb
  have hs2 := hs.below hbb
  have hp := (List.getElem?_eq_some_iff.1 hx).1
  obtain ⟨bx, ox, hab, hbx, e0, e1⟩ := sy_cells hs2 hx
  have HXP := hide hx
  subst hab
  have HCX : Hid (∀ (j : Nat) (u : Value), ([.int .i64 xg, .int .u8 (xc.toNat : Int)] : List Value)[j]? = some u → ((w.alloc (.cells #[.slice a0 n0 c0, .slice a1 n1 c1, .slice ad nd cd, .slice ac nc cc, .slice an nn cn, .slice af nf cf, .slice aw nw cw] 28)).alloc (.cells #[.int .i64 sg, .bool sn, .bool si] 40)).cell? ⟨bx, ox + p * 2 + j, none⟩ = some u) := hide (by
    intro j u hj
    rcases j with _ | _ | j
    · cases hj; exact e0
    · cases hj; exact e1
    · cases hj)
  have y9 := Box.new ((w.alloc (.cells #[.slice a0 n0 c0, .slice a1 n1 c1, .slice ad nd cd, .slice ac nc cc, .slice an nn cn, .slice af nf cf, .slice aw nw cw] 28)).alloc (.cells #[.int .i64 sg, .bool sn, .bool si] 40)) 55 #[.int .i64 xg, .int .u8 (xc.toNat : Int)]
  have y4 := X4.alloc (.cells #[.int .i64 xg, .int .u8 (xc.toNat : Int)] 55)
  have y5 := X5.alloc (.cells #[.int .i64 xg, .int .u8 (xc.toNat : Int)] 55)
  have hb5 := hbb.trans ((blo ((w.alloc (.cells #[.slice a0 n0 c0, .slice a1 n1 c1, .slice ad nd cd, .slice ac nc cc, .slice an nn cn, .slice af nf cf, .slice aw nw cw] 28)).alloc (.cells #[.int .i64 sg, .bool sn, .bool si] 40)) (.cells #[.int .i64 xg, .int .u8 (xc.toNat : Int)] 55)).mono hbb.size)
  have hz2 : w.heap.size + 2 ≤ ((w.alloc (.cells #[.slice a0 n0 c0, .slice a1 n1 c1, .slice ad nd cd, .slice ac nc cc, .slice an nn cn, .slice af nf cf, .slice aw nw cw] 28)).alloc (.cells #[.int .i64 sg, .bool sn, .bool si] 40)).heap.size := by simp
  rw [show ((w.alloc (.cells #[.slice a0 n0 c0, .slice a1 n1 c1, .slice ad nd cd, .slice ac nc cc, .slice an nn cn, .slice af nf cf, .slice aw nw cw] 28)).alloc (.cells #[.int .i64 sg, .bool sn, .bool si] 40)).heap.size = w.heap.size + 1 + 1 by simp] at y9
  clear hx hs2 X4 X5 hbb hbx e0 e1
  have d1 : (xg != sg) = true := by have hne : xg ≠ sg := hne0; simpa using hne
  clear hne0
  go_enter Try.func55, Try.ntmps55
  go_upto_region 3 with (first | (with_reducible refine load_struct 21 55 _ 2 size_sym _ Try.underlying55 ⟨bx, ox + p * 2, none⟩ rfl [.int .i64 xg, .int .u8 (xc.toNat : Int)] rfl (fun j u hj => by rw [Addr.add_lit]; exact HCX.out j u hj) ?_))
  generalize ((w.alloc (.cells _ 28)).alloc (.cells _ 40)).alloc (.cells _ 55) = w5 at *
  obtain ⟨g9, hg9⟩ : ∃ g9, g9 = w.heap.size + 1 + 1 := ⟨_, rfl⟩
  rw [← hg9] at y9 ⊢
  have hgw : w.heap.size < g9 := by omega
  clear hg9 hz2 HCX
  have k1 : w5.cell? ⟨g9, 0, none⟩ = some (.int .i64 xg) := y9.at_ rfl
  have k2 : w5.cell? ⟨w.heap.size + 1, 0, none⟩ = some (.int .i64 sg) := y5.at_ rfl
  have k3 : w5.cell? ⟨w.heap.size, 6, none⟩ = some (.slice aw nw cw) := y4.at_ rfl
  have hsw := HTS.out.below hb5
  have hal := blo w5 (.cells (stc (⟨⟨xg, false, false⟩, 0, t.sw, -1⟩, (aw, nw, cw))).toArray 91)
  go_wp2_with fail
  go_ret
  exact ⟨_, 1, [(⟨⟨xg, false, false⟩, 0, t.sw, -1⟩, (aw, nw, cw))], rfl, ⟨Sl.fresh _ _ 6 1 (stc (⟨⟨xg, false, false⟩, 0, t.sw, -1⟩, (aw, nw, cw))) rfl (by decide), fun q hq => by rw [List.mem_singleton] at hq; subst hq; exact hsw.below hal, rfl⟩, hb5.trans (hal.mono hb5.size)⟩

set_option maxRecDepth 100000 in
set_option maxHeartbeats 8000000 in
theorem ref_Next_dg (H : TH) (t : Ta) (s : St) (l : List Sy) (a : Option Addr) (n c : Nat) (p : Nat) (x : Sy) (hx : l[p]? = some x) (hll : l.length ≤ 1000000) (hv : validE t = 0) (heq : x.lang = s.lang) (hd : isD x.c = true) (w : World) (hT : TaIs w H t) (hs : Sl w 2 a n c (l.flatMap sc)) :
    Calls Try.prog 55 #[H.v, .agg #[.int .i64 s.lang, .bool s.num, .bool s.wrd], .slice a n c, .int .i64 (p : Int)] w (StepsR [⟨⟨x.lang, true, false⟩, 1, (if s.num then [] else t.num) ++ [t.dig.getD (x.c.toNat - 48) 0], -1⟩] w) := by
  obtain ⟨LL, HLL⟩ : ∃ LL, Hid ([(⟨⟨x.lang, true, false⟩, 1, (if s.num then [] else t.num) ++ [t.dig.getD (x.c.toNat - 48) 0], -1⟩ : Stp)] = LL) := ⟨_, hide rfl⟩
  rw [HLL.out]
  have HTN : Hid (Sl w 1 H.n.1 H.n.2.1 H.n.2.2 (t.num.map B8)) := hide hT.n
  have HTD : Hid (Sl w 1 H.d.1 H.d.2.1 H.d.2.2 (t.dig.map B8)) := hide hT.d
  have heq0 : x.lang = s.lang := heq
  have HDD : Hid (isD x.c = true) := hide hd
  have hgp := good_parts (valid_parts hv).2.2.1
  have HGP := hide hgp
  clear hv heq hd hT hgp
  obtain rfl := hs.nf sc_len (by decide)
  obtain ⟨⟨a0, n0, c0⟩, ⟨a1, n1, c1⟩, ps0, ps1, ⟨ad, nd, cd⟩, ⟨ac, nc, cc⟩, ⟨an, nn, cn⟩, ⟨af, nf, cf⟩, ⟨aw, nw, cw⟩⟩ := H
  obtain ⟨sg, sn, si⟩ := s
  obtain ⟨xg, xc⟩ := x
  unfold TH.v
  simp only [hdv]
  have hbb : Below w.heap.size w ((w.alloc (.cells #[.slice a0 n0 c0, .slice a1 n1 c1, .slice ad nd cd, .slice ac nc cc, .slice an nn cn, .slice af nf cf, .slice aw nw cw] 28)).alloc (.cells #[.int .i64 sg, .bool sn, .bool si] 40)) := (blo w _).trans ((blo _ _).mono (by simp))
  have X4 : Box ((w.alloc (.cells #[.slice a0 n0 c0, .slice a1 n1 c1, .slice ad nd cd, .slice ac nc cc, .slice an nn cn, .slice af nf cf, .slice aw nw cw] 28)).alloc (.cells #[.int .i64 sg, .bool sn, .bool si] 40)) w.heap.size 28 [.slice a0 n0 c0, .slice a1 n1 c1, .slice ad nd cd, .slice ac nc cc, .slice an nn cn, .slice af nf cf, .slice aw nw cw] := (Box.new w 28 #[.slice a0 n0 c0, .slice a1 n1 c1, .slice ad nd cd, .slice ac nc cc, .slice an nn cn, .slice af nf cf, .slice aw nw cw]).alloc _
  have X5 : Box ((w.alloc (.cells #[.slice a0 n0 c0, .slice a1 n1 c1, .slice ad nd cd, .slice ac nc cc, .slice an nn cn, .slice af nf cf, .slice aw nw cw] 28)).alloc (.cells #[.int .i64 sg, .bool sn, .bool si] 40)) (w.heap.size + 1) 40 [.int .i64 sg, .bool sn, .bool si] := by
    have := Box.new (w.alloc (.cells #[.slice a0 n0 c0, .slice a1 n1 c1, .slice ad nd cd, .slice ac nc cc, .slice an nn cn, .slice af nf cf, .slice aw nw cw] 28)) 40 #[.int .i64 sg, .bool sn, .bool si]
    rwa [show (w.alloc (.cells #[.slice a0 n0 c0, .slice a1 n1 c1, .slice ad nd cd, .slice ac nc cc, .slice an nn cn, .slice af nf cf, .slice aw nw cw] 28)).heap.size = w.heap.size + 1 by simp] at this
  have HBB := hide hbb
  have hs2 := hs.below hbb
  have hp := (List.getElem?_eq_some_iff.1 hx).1
  obtain ⟨bx, ox, hab, hbx, e0, e1⟩ := sy_cells hs2 hx
  have HXP := hide hx
  subst hab
  have HCX : Hid (∀ (j : Nat) (u : Value), ([.int .i64 xg, .int .u8 (xc.toNat : Int)] : List Value)[j]? = some u → ((w.alloc (.cells #[.slice a0 n0 c0, .slice a1 n1 c1, .slice ad nd cd, .slice ac nc cc, .slice an nn cn, .slice af nf cf, .slice aw nw cw] 28)).alloc (.cells #[.int .i64 sg, .bool sn, .bool si] 40)).cell? ⟨bx, ox + p * 2 + j, none⟩ = some u) := hide (by
    intro j u hj
    rcases j with _ | _ | j
    · cases hj; exact e0
    · cases hj; exact e1
    · cases hj)
  have y9 := Box.new ((w.alloc (.cells #[.slice a0 n0 c0, .slice a1 n1 c1, .slice ad nd cd, .slice ac nc cc, .slice an nn cn, .slice af nf cf, .slice aw nw cw] 28)).alloc (.cells #[.int .i64 sg, .bool sn, .bool si] 40)) 55 #[.int .i64 xg, .int .u8 (xc.toNat : Int)]
  have y4 := X4.alloc (.cells #[.int .i64 xg, .int .u8 (xc.toNat : Int)] 55)
  have y5 := X5.alloc (.cells #[.int .i64 xg, .int .u8 (xc.toNat : Int)] 55)
  have hb5 := hbb.trans ((blo ((w.alloc (.cells #[.slice a0 n0 c0, .slice a1 n1 c1, .slice ad nd cd, .slice ac nc cc, .slice an nn cn, .slice af nf cf, .slice aw nw cw] 28)).alloc (.cells #[.int .i64 sg, .bool sn, .bool si] 40)) (.cells #[.int .i64 xg, .int .u8 (xc.toNat : Int)] 55)).mono hbb.size)
  have hz2 : w.heap.size + 2 ≤ ((w.alloc (.cells #[.slice a0 n0 c0, .slice a1 n1 c1, .slice ad nd cd, .slice ac nc cc, .slice an nn cn, .slice af nf cf, .slice aw nw cw] 28)).alloc (.cells #[.int .i64 sg, .bool sn, .bool si] 40)).heap.size := by simp
  rw [show ((w.alloc (.cells #[.slice a0 n0 c0, .slice a1 n1 c1, .slice ad nd cd, .slice ac nc cc, .slice an nn cn, .slice af nf cf, .slice aw nw cw] 28)).alloc (.cells #[.int .i64 sg, .bool sn, .bool si] 40)).heap.size = w.heap.size + 1 + 1 by simp] at y9
  clear hx hs2 X4 X5 hbb hbx e0 e1
  have heq0 : xg = sg := heq0
  subst heq0
  have hD := fun w' => ref_Digit xc w'
  rw [show isD xc = true from HDD.out] at hD
  have d1 : (xg != xg) = false := by simp
  go_enter Try.func55, Try.ntmps55
  go_upto_region 5 with (first | (go_at_call 22; refine (hD _).mono ?_; rintro e wd ⟨rfl, rfl⟩) | (with_reducible refine load_struct 21 55 _ 2 size_sym _ Try.underlying55 ⟨bx, ox + p * 2, none⟩ rfl [.int .i64 xg, .int .u8 (xc.toNat : Int)] rfl (fun j u hj => by rw [Addr.add_lit]; exact HCX.out j u hj) ?_))
  generalize ((w.alloc (.cells _ 28)).alloc (.cells _ 40)).alloc (.cells _ 55) = w5 at *
  obtain ⟨g9, hg9⟩ : ∃ g9, g9 = w.heap.size + 1 + 1 := ⟨_, rfl⟩
  rw [← hg9] at y9 ⊢
  have hgw : w.heap.size < g9 := by omega
  clear hg9 hz2 HCX
  obtain ⟨j, hj, hj9⟩ : ∃ j : Nat, xc.toNat = j + 48 ∧ j ≤ 9 := by
    have hd := HDD.out
    unfold isD at hd
    simp only [Bool.and_eq_true, decide_eq_true_eq] at hd
    exact ⟨xc.toNat - 48, by omega, by omega⟩
  have HJ := hide hj
  have hd10 : t.dig.length = 10 := HGP.out.1
  have hnn : nn = t.num.length := HTN.out.n_eq
  have hnn4 := indic_le HGP.out.2.2.1
  obtain ⟨pre, hpre⟩ : ∃ pre, pre = if sn then [] else t.num := ⟨_, rfl⟩
  have hprel : pre.length ≤ 4 := by rw [hpre]; split; (simp); omega
  obtain ⟨dj, hdj⟩ : ∃ dj, t.dig[j]? = some dj := ⟨t.dig[j]'(by omega), List.getElem?_eq_getElem _⟩
  have HDJ : Hid (t.dig.getD (xc.toNat - 48) 0 = dj) := hide (by rw [hj, Nat.add_sub_cancel, List.getD_eq_getElem?_getD, hdj]; rfl)
  have hTd : Sl w5 1 ad nd cd (t.dig.map B8) := HTD.out.below hb5
  have HND : Hid (nd = t.dig.length) := hide hTd.n_eq
  have hnd10 : nd = 10 := by rw [HND.out]; exact hd10
  obtain ⟨bd, od, hab, hbd, hcd⟩ := hTd.ex (by rw [List.length_map]; omega)
  have HCD : Hid (w5.cell? ⟨bd, od + j, none⟩ = some (.int .u8 (dj.toNat : Int))) := hide (hcd j _ (by rw [List.getElem?_map, hdj]; rfl))
  subst hab
  subst hnd10
  have hTn5 : Sl w5 1 an nn cn (t.num.map B8) := HTN.out.below hb5
  have HKC : Hid (w5.cell? ⟨g9, 1, none⟩ = some (.int .u8 ((j : Int) + 48))) := hide (by
    have := y9.at_ (j := 1) (u := .int .u8 (xc.toNat : Int)) rfl
    rw [this, hj]; rfl)
  have HKL : Hid (w5.cell? ⟨g9, 0, none⟩ = some (.int .i64 xg)) := hide (y9.at_ rfl)
  have kN : w5.cell? ⟨w.heap.size + 1, 1, none⟩ = some (.bool sn) := y5.at_ rfl
  have HKD : Hid (w5.cell? ⟨w.heap.size, 2, none⟩ = some (.slice (some ⟨bd, od, none⟩) 10 cd)) := hide (y4.at_ rfl)
  have kM : w5.cell? ⟨w.heap.size, 4, none⟩ = some (.slice an nn cn) := y4.at_ rfl
  have HNN := hide hnn
  have HPRE := hide hpre
  have hnn5 : nn ≤ 4 := by omega
  clear hj hd10 hnn hnn4 hdj hTd hcd hbd y9 y4 y5 hpre hD d1
  go_upto_if 39 with fail
  go_cut [10] (fun v w' => ∃ a c, v = .slice a pre.length c ∧ Own w' w5.heap.size 5 1 a pre.length c (pre.map B8) ∧ Below w5.heap.size w5 w')
  case first =>
    have hh := HPRE.out
    cases sn
    · have hz : pre = t.num := hh
      rw [← hz] at hTn5
      obtain rfl : nn = pre.length := by rw [hz]; exact HNN.out
      clear hh hz
      go_wp2_with (at_builtin; refine app_bs rfl _ _ rfl w5 w5.heap.size _ 0 0 _ rfl (Own.nil _ _ _ _) an _ cn pre rfl hTn5 (by omega) (Nat.le_refl _) (Below.refl _ _) ?_; intro ca cc w6 ho6 hgr6 hb56; rw [Nat.zero_add] at ho6 ⊢)
      go_meet
      exact ⟨ca, cc, rfl, ho6, hb56⟩
    · have hz : pre = [] := hh
      subst hz
      go_wp2_with fail
      go_meet
      exact ⟨none, 0, rfl, Own.nil _ _ _ _, Below.refl _ _⟩
  case rest =>
    clear kN kM hTn5
    obtain ⟨ca, cc, rfl, ho6, hb56⟩ := hcut
    obtain ⟨w6, rfl⟩ : ∃ w6 : World, w6 = wc := ⟨_, rfl⟩
    have kC := cell_below HKC.out hb56
    have kL := cell_below HKL.out hb56
    have kD := cell_below HKD.out hb56
    have kJ := cell_below HCD.out hb56
    have hbw6 := hb5.trans (hb56.mono hb5.size)
    have hz6 := hb56.size
    go_wp2_with (at_builtin; refine app_b rfl _ _ rfl w5 w5.heap.size ca pre.length cc _ rfl ho6 (dj.toNat : Int) rfl (by omega) hz6 hb56 ?_; intro a8 c8 w8 ho8 hgr8 hb8; refine hold ?_)
    refine hide ?_
    have kL8 := cell_below HKL.out hb8
    have hbw8 := hb5.trans (hb8.mono hb5.size)
    obtain ⟨CT, hCT⟩ : ∃ CT, pre ++ [dj] = CT := ⟨_, rfl⟩
    have hcl : pre.length + 1 = CT.length := by rw [← hCT, List.length_append]; rfl
    have ho9 : Own w8 w5.heap.size 5 1 a8 CT.length c8 (CT.map B8) := by rw [← hcl, ← hCT, List.map_append]; exact ho8
    rw [hcl]
    have hL : (if sn then [] else t.num) ++ [t.dig.getD (xc.toNat - 48) 0] = CT := by rw [← HPRE.out, HDJ.out, hCT]
    have HL := hide hL
    have hal := blo w8 (.cells (stc (⟨⟨xg, true, false⟩, 1, CT, -1⟩, (a8, CT.length, c8))).toArray 91)
    clear kC kL kD kJ hL ho8 ho6 hCT hcl hb56 hgr8
    go_wp2_with fail
    go_ret
    have hLL : [(⟨⟨xg, true, false⟩, 1, (if sn then [] else t.num) ++ [t.dig.getD (xc.toNat - 48) 0], -1⟩ : Stp)] = LL := HLL.out
    rw [← hLL, HL.out]
    exact ⟨_, 1, [(⟨⟨xg, true, false⟩, 1, CT, -1⟩, (a8, CT.length, c8))], rfl, ⟨Sl.fresh _ _ 6 1 (stc (⟨⟨xg, true, false⟩, 1, CT, -1⟩, (a8, CT.length, c8))) rfl (by decide), fun q hq => by rw [List.mem_singleton] at hq; subst hq; exact ho9.sl.below hal, rfl⟩, hbw8.trans (hal.mono hbw8.size)⟩

set_option maxRecDepth 100000 in
set_option maxHeartbeats 8000000 in
theorem ref_Next_ru (H : TH) (t : Ta) (s : St) (l : List Sy) (a : Option Addr) (n c : Nat) (p : Nat) (x : Sy) (hx : l[p]? = some x) (hll : l.length ≤ 1000000) (hv : validE t = 0) (heq : x.lang = s.lang) (hxl : x.lang = 0 ∨ x.lang = 1) (hd : isD x.c = false) (w : World) (hT : TaIs w H t) (hs : Sl w 2 a n c (l.flatMap sc)) :
    Calls Try.prog 55 #[H.v, .agg #[.int .i64 s.lang, .bool s.num, .bool s.wrd], .slice a n c, .int .i64 (p : Int)] w (StepsR (ruleSteps t s x l p 0 (langOf t x.lang)) w) := by
  have hxl0 : x.lang = 0 ∨ x.lang = 1 := hxl
  have heq0 : x.lang = s.lang := heq
  have HDD : Hid (isD x.c = false) := hide hd
  have HV0 := hide hv
  have HTT := hide hT
  obtain ⟨LL, HLL⟩ : ∃ LL, Hid (ruleSteps t s x l p 0 (langOf t x.lang) = LL) := ⟨_, hide rfl⟩
  rw [HLL.out]
  clear hv heq hd hT hxl
  obtain rfl := hs.nf sc_len (by decide)
  obtain ⟨⟨a0, n0, c0⟩, ⟨a1, n1, c1⟩, ps0, ps1, ⟨ad, nd, cd⟩, ⟨ac, nc, cc⟩, ⟨an, nn, cn⟩, ⟨af, nf, cf⟩, ⟨aw, nw, cw⟩⟩ := H
  obtain ⟨sg, sn, si⟩ := s
  obtain ⟨xg, xc⟩ := x
  have heq0 : sg = xg := heq0.symm
  subst heq0
  obtain ⟨kx, rfl, hkx⟩ : ∃ kx : Nat, sg = (kx : Int) ∧ kx < 2 := by
    rcases hxl0 with h | h
    · exact ⟨0, h, by decide⟩
    · exact ⟨1, h, by decide⟩
  clear hxl0
  unfold TH.v
  simp only [hdv]
  have hbb : Below w.heap.size w ((w.alloc (.cells #[.slice a0 n0 c0, .slice a1 n1 c1, .slice ad nd cd, .slice ac nc cc, .slice an nn cn, .slice af nf cf, .slice aw nw cw] 28)).alloc (.cells #[.int .i64 (kx : Int), .bool sn, .bool si] 40)) := (blo w _).trans ((blo _ _).mono (by simp))
  have X4 : Box ((w.alloc (.cells #[.slice a0 n0 c0, .slice a1 n1 c1, .slice ad nd cd, .slice ac nc cc, .slice an nn cn, .slice af nf cf, .slice aw nw cw] 28)).alloc (.cells #[.int .i64 (kx : Int), .bool sn, .bool si] 40)) w.heap.size 28 [.slice a0 n0 c0, .slice a1 n1 c1, .slice ad nd cd, .slice ac nc cc, .slice an nn cn, .slice af nf cf, .slice aw nw cw] := (Box.new w 28 #[.slice a0 n0 c0, .slice a1 n1 c1, .slice ad nd cd, .slice ac nc cc, .slice an nn cn, .slice af nf cf, .slice aw nw cw]).alloc _
  have X5 : Box ((w.alloc (.cells #[.slice a0 n0 c0, .slice a1 n1 c1, .slice ad nd cd, .slice ac nc cc, .slice an nn cn, .slice af nf cf, .slice aw nw cw] 28)).alloc (.cells #[.int .i64 (kx : Int), .bool sn, .bool si] 40)) (w.heap.size + 1) 40 [.int .i64 (kx : Int), .bool sn, .bool si] := by
    have := Box.new (w.alloc (.cells #[.slice a0 n0 c0, .slice a1 n1 c1, .slice ad nd cd, .slice ac nc cc, .slice an nn cn, .slice af nf cf, .slice aw nw cw] 28)) 40 #[.int .i64 (kx : Int), .bool sn, .bool si]
    rwa [show (w.alloc (.cells #[.slice a0 n0 c0, .slice a1 n1 c1, .slice ad nd cd, .slice ac nc cc, .slice an nn cn, .slice af nf cf, .slice aw nw cw] 28)).heap.size = w.heap.size + 1 by simp] at this
  have HBB := hide hbb
  have hs2 := hs.below hbb
  have hp := (List.getElem?_eq_some_iff.1 hx).1
  obtain ⟨bx, ox, hab, hbx, e0, e1⟩ := sy_cells hs2 hx
  have HXP := hide hx
  subst hab
  have HCX : Hid (∀ (j : Nat) (u : Value), ([.int .i64 (kx : Int), .int .u8 (xc.toNat : Int)] : List Value)[j]? = some u → ((w.alloc (.cells #[.slice a0 n0 c0, .slice a1 n1 c1, .slice ad nd cd, .slice ac nc cc, .slice an nn cn, .slice af nf cf, .slice aw nw cw] 28)).alloc (.cells #[.int .i64 (kx : Int), .bool sn, .bool si] 40)).cell? ⟨bx, ox + p * 2 + j, none⟩ = some u) := hide (by
    intro j u hj
    rcases j with _ | _ | j
    · cases hj; exact e0
    · cases hj; exact e1
    · cases hj)
  have y9 := Box.new ((w.alloc (.cells #[.slice a0 n0 c0, .slice a1 n1 c1, .slice ad nd cd, .slice ac nc cc, .slice an nn cn, .slice af nf cf, .slice aw nw cw] 28)).alloc (.cells #[.int .i64 (kx : Int), .bool sn, .bool si] 40)) 55 #[.int .i64 (kx : Int), .int .u8 (xc.toNat : Int)]
  have y4 := X4.alloc (.cells #[.int .i64 (kx : Int), .int .u8 (xc.toNat : Int)] 55)
  have y5 := X5.alloc (.cells #[.int .i64 (kx : Int), .int .u8 (xc.toNat : Int)] 55)
  have hb5 := hbb.trans ((blo ((w.alloc (.cells #[.slice a0 n0 c0, .slice a1 n1 c1, .slice ad nd cd, .slice ac nc cc, .slice an nn cn, .slice af nf cf, .slice aw nw cw] 28)).alloc (.cells #[.int .i64 (kx : Int), .bool sn, .bool si] 40)) (.cells #[.int .i64 (kx : Int), .int .u8 (xc.toNat : Int)] 55)).mono hbb.size)
  have hz2 : w.heap.size + 2 ≤ ((w.alloc (.cells #[.slice a0 n0 c0, .slice a1 n1 c1, .slice ad nd cd, .slice ac nc cc, .slice an nn cn, .slice af nf cf, .slice aw nw cw] 28)).alloc (.cells #[.int .i64 (kx : Int), .bool sn, .bool si] 40)).heap.size := by simp
  rw [show ((w.alloc (.cells #[.slice a0 n0 c0, .slice a1 n1 c1, .slice ad nd cd, .slice ac nc cc, .slice an nn cn, .slice af nf cf, .slice aw nw cw] 28)).alloc (.cells #[.int .i64 (kx : Int), .bool sn, .bool si] 40)).heap.size = w.heap.size + 1 + 1 by simp] at y9
  clear hx hs2 X4 X5 hbb hbx e0 e1
  have hD := fun w' => ref_Digit xc w'
  have hL := fun w' => ref_Letter xc w'
  unfold LetterR at hL
  rw [show isD xc = false from HDD.out] at hD
  obtain ⟨il, hil⟩ : ∃ il, isL xc = il := ⟨_, rfl⟩
  obtain ⟨ic, hic⟩ : ∃ ic, isC xc = ic := ⟨_, rfl⟩
  rw [hil, hic] at hL
  have HIL := hide hil
  have HIC := hide hic
  have d1 : ((kx : Int) != (kx : Int)) = false := by simp
  clear hil hic
  go_enter Try.func55, Try.ntmps55
  go_upto_region 11 with (first | (go_at_call 22; refine (hD _).mono ?_; rintro e wd ⟨rfl, rfl⟩) | (go_at_call 31; refine (hL _).mono ?_; rintro e wl ⟨rfl, rfl⟩) | (with_reducible refine load_struct 21 55 _ 2 size_sym _ Try.underlying55 ⟨bx, ox + p * 2, none⟩ rfl [.int .i64 (kx : Int), .int .u8 (xc.toNat : Int)] rfl (fun j u hj => by rw [Addr.add_lit]; exact HCX.out j u hj) ?_))
  generalize ((w.alloc (.cells _ 28)).alloc (.cells _ 40)).alloc (.cells _ 55) = w5 at *
  obtain ⟨g9, hg9⟩ : ∃ g9, g9 = w.heap.size + 1 + 1 := ⟨_, rfl⟩
  rw [← hg9] at y9 ⊢
  have hgw : w.heap.size < g9 := by omega
  clear hg9 hz2 HCX
  have HLOW : Hid (langOf t (kx : Int) = langK t kx) := hide (two_cases (p := fun k => langOf t (k : Int) = langK t k) (by simp [langOf, langK]) (by simp [langOf, langK]) kx hkx)
  have hgp := good_parts (valid_parts HV0.out).2.2.1
  have hlok := fun r (hr : r ∈ langK t kx) => lang_ok (valid_parts HV0.out).2.2.1 (kx : Int) r (by rw [HLOW.out]; exact hr)
  have HLOK := hide hlok
  have hnf : nf = t.fin.length := HTT.out.f.n_eq
  have hnc : nc = t.cap.length := HTT.out.c.n_eq
  have hf4 := indic_le hgp.2.2.2.1
  have hc4 := indic_le hgp.2.1
  have hnf4 : nf ≤ 4 := by omega
  have hnc4 : nc ≤ 4 := by omega
  have HTF : Hid (Sl w 1 af nf cf (t.fin.map B8)) := hide HTT.out.f
  have HTC : Hid (Sl w 1 ac nc cc (t.cap.map B8)) := hide HTT.out.c
  obtain ⟨ak, nk, ck, pk, hck, hRk, hek⟩ := sel_lang HTT.out kx hkx
  simp only [hdv] at hck
  have HCK := hide hck
  have HEK := hide hek
  have HRK := hide hRk
  obtain rfl := hRk.n_eq
  have hm1 := Nat.le_trans hRk.top.le hRk.top.cap
  unfold maxLen at hm1
  have hpk96 : pk.length ≤ 96 := by
    have h1 := (valid_parts HV0.out).1
    have h2 := (valid_parts HV0.out).2.1
    have h3 : (rus pk).length = pk.length := by unfold rus; simp
    rw [← h3, hek]
    unfold langK
    split
    · exact h1
    · exact h2
  obtain ⟨cbv, hcb⟩ : ∃ cbv, (sn && il) = cbv := ⟨_, rfl⟩
  obtain ⟨pre1, hp1⟩ : ∃ pre1 : List UInt8, pre1 = if cbv then t.fin else [] := ⟨_, rfl⟩
  obtain ⟨pre2, hp2⟩ : ∃ pre2 : List UInt8, pre2 = pre1 ++ if ic then t.cap else [] := ⟨_, rfl⟩
  have HHEAD : Hid (headC t ⟨(kx : Int), sn, si⟩ ⟨(kx : Int), xc⟩ = pre2) := hide (by
    unfold headC
    simp only [HIL.out, HIC.out]
    rw [hp2, hp1, ← hcb])
  have hl1 : pre1.length ≤ 4 := by rw [hp1]; cases cbv <;> simp <;> omega
  have hl2 : pre2.length ≤ 8 := by rw [hp2, List.length_append]; cases ic <;> simp <;> omega
  have HP1 := hide hp1
  have HP2 := hide hp2
  have HCB := hide hcb
  have HNF := hide hnf
  have HNC := hide hnc
  have kr : w5.cell? ⟨w.heap.size, kx, none⟩ = some (.slice ak pk.length ck) := y4.at_ (by
    have h := HCK.out
    rcases kx with _ | _ | k
    · exact h
    · exact h
    · omega)
  have HL5 : Hid (w5.cell? ⟨g9, 0, none⟩ = some (.int .i64 (kx : Int))) := hide (y9.at_ rfl)
  have kL : w5.cell? ⟨g9, 0, none⟩ = some (.int .i64 (kx : Int)) := HL5.out
  have HN5 : Hid (w5.cell? ⟨w.heap.size + 1, 1, none⟩ = some (.bool sn)) := hide (y5.at_ rfl)
  have HF5 : Hid (w5.cell? ⟨w.heap.size, 5, none⟩ = some (.slice af nf cf)) := hide (y4.at_ rfl)
  have HC5 : Hid (w5.cell? ⟨w.heap.size, 3, none⟩ = some (.slice ac nc cc)) := hide (y4.at_ rfl)
  have hRk5 := hRk.below hb5
  have HRK5 := hide hRk5
  have hs5 := hs.below hb5
  clear hgp hlok hnf hnc hf4 hc4 hck hek hRk hRk5 hcb hp1 hp2 y9 y4 y5 hD hL d1
  go_wp2_with fail
  go_loopg [14, 16] pk.length (fun gh o v w' => ∃ (k : Nat) (ps : List SH) (ao : Option Addr) (co : Nat), k ≤ pk.length ∧ gh = pk.length - k ∧ ps.length ≤ k ∧ o = .slice ao ps.length co ∧ v = .int .i64 (k : Int) ∧ Hid (ps.map (·.1) = ruleSteps t ⟨(kx : Int), sn, si⟩ ⟨(kx : Int), xc⟩ l p 0 ((rus pk).take k)) ∧ OSt w' 91 5 w5.heap.size ao co ps ∧ Below w5.heap.size w5 w')
  case atStart => exact ⟨0, [], none, 0, by omega, by omega, by simp, rfl, rfl, hide rfl, OSt.nil _ _ _ _, Below.refl _ _⟩
  case round =>
    clear kr kL
    obtain ⟨k, ps, ao, co, hk, hg, hpl, rfl, rfl, HPS, hOS, hbr⟩ := hrel
    have HG := hide hg
    clear hg
    by_cases hkl : k < pk.length
    · obtain ⟨q, hq⟩ : ∃ q, pk[k]? = some q := ⟨pk[k], by simp [hkl]⟩
      have HQ := hide hq
      have hRr := HRK5.out.below hbr
      obtain ⟨hrow, _⟩ := hRr.row q (List.mem_of_getElem? hq)
      have hrk := ru_parts (HLOK.out q.1 (by rw [← HEK.out]; exact List.mem_of_getElem? (rus_get hq)))
      have HRJ := hide (rus_get hq)
      obtain ⟨b1, o1, hab1, hb1, k0, k1, k2⟩ := ru_cells hRr.top hq
      subst hab1
      clear hq
      obtain ⟨⟨sx, wh, cl⟩, h1, h2, h3⟩ := q
      have hs1 : 1 ≤ sx.size := hrk.1
      have hs8 : sx.size ≤ 8 := hrk.2.1
      have hcl4 : cl.length ≤ 4 := indic_le hrk.2.2.2.2.1
      have hrow : Sl wr 1 h1 h2 h3 (cl.map B8) := hrow
      obtain rfl := hrow.n_eq
      have HC1 : Hid (∀ (j : Nat) (u : Value), ([.string sx, .int .i64 wh, .slice h1 cl.length h3] : List Value)[j]? = some u → wr.cell? ⟨b1, o1 + k * 3 + j, none⟩ = some u) := hide (by
        intro j u hj
        rcases j with _ | _ | _ | j
        · cases hj; exact k0
        · cases hj; exact k1
        · cases hj; exact k2
        · cases hj)
      have hF := fun w' (hb : Below wr.heap.size wr w') => ref_Fits sx wh cl h1 cl.length h3 l (some ⟨bx, ox, none⟩) _ c (p : Int) p rfl ⟨(kx : Int), xc⟩ HXP.out hs1 hs8 hll w' ((hs5.below hbr).below hb)
      have HSN := hide (ruleSteps_snoc t ⟨(kx : Int), sn, si⟩ ⟨(kx : Int), xc⟩ l p ⟨sx, wh, cl⟩ ((rus pk).take k) 0)
      have HTK : Hid ((rus pk).take (k + 1) = (rus pk).take k ++ [⟨sx, wh, cl⟩]) := hide (take_succ_get HRJ.out)
      have hrl : (rus pk).length = pk.length := by unfold rus; simp
      have HTL : Hid (((rus pk).take k).length = k) := hide (by rw [List.length_take, hrl]; omega)
      have i0 : decide (k < pk.length) = true := decide_eq_true hkl
      have i0' : decide ((k : Int) < (pk.length : Int)) = true := decide_eq_true (by omega)
      clear hrl hrk k0 k1 k2
      have K0 : wr.cell? ⟨b1, o1 + k * 3, none⟩ = some (.string sx) := HC1.out 0 _ rfl
      have K2 : wr.cell? ⟨b1, o1 + k * 3 + 2, none⟩ = some (.slice h1 cl.length h3) := HC1.out 2 _ rfl
      have HK0 := hide K0
      have HK2 := hide K2
      clear K0 K2
      cases hfb : fitsB ⟨sx, wh, cl⟩ l p
      · have HN : Hid (ps.map (·.1) = ruleSteps t ⟨(kx : Int), sn, si⟩ ⟨(kx : Int), xc⟩ l p 0 ((rus pk).take (k + 1))) := hide (by rw [HTK.out, HSN.out, hfb, HPS.out]; simp)
        rw [hfb] at hF
        clear hfb
        go_wp2_with (first
          | (with_reducible refine load_struct 82 74 _ 3 size_rule _ Try.underlying74 ⟨b1, o1 + k * 3, none⟩ rfl [.string sx, .int .i64 wh, .slice h1 cl.length h3] rfl (fun j u hj => by rw [Addr.add_lit]; exact HC1.out j u hj) ?_)
          | (go_at_call 68; refine (hF _ (Below.refl _ _)).mono ?_; rintro e w8 ⟨rfl, hb8⟩))
        have hb58 := hbr.trans (hb8.mono hbr.size)
        have hOS8 := hOS.below hb8
        go_roundg (pk.length - (k + 1))
        case measure => have := HG.out; omega
        case rel => exact ⟨k + 1, ps, ao, co, by omega, rfl, by omega, rfl, by go_num, HN, hOS8, hb58⟩
      · obtain ⟨CT, hCT⟩ : ∃ CT, pre2 ++ cl = CT := ⟨_, rfl⟩
        have HCT := hide hCT
        have HCL : Hid (pre2.length + cl.length = CT.length) := hide (by rw [← hCT, List.length_append])
        have hct : CT.length ≤ 100 := by rw [← hCT, List.length_append]; omega
        clear hCT
        have HN : Hid (∀ q : (Option Addr × Nat × Nat), ((ps ++ [((⟨⟨(kx : Int), false, il⟩, (sx.size : Int), CT, (k : Int)⟩ : Stp), q)]) : List SH).map (·.1) = ruleSteps t ⟨(kx : Int), sn, si⟩ ⟨(kx : Int), xc⟩ l p 0 ((rus pk).take (k + 1))) := hide (fun q => by
          rw [HTK.out, HSN.out, hfb, List.map_append, HPS.out, HHEAD.out, HTL.out, HIL.out, HCT.out]; simp)
        rw [hfb] at hF
        clear hfb
        go_upto_region 18 with (first
          | (with_reducible refine load_struct 82 74 _ 3 size_rule _ Try.underlying74 ⟨b1, o1 + k * 3, none⟩ rfl [.string sx, .int .i64 wh, .slice h1 cl.length h3] rfl (fun j u hj => by rw [Addr.add_lit]; exact HC1.out j u hj) ?_)
          | (go_at_call 68; refine (hF _ (Below.refl _ _)).mono ?_; rintro e w8 ⟨rfl, hb8⟩))
        have hb58 := hbr.trans (hb8.mono hbr.size)
        have hOS8 := hOS.below hb8
        have hrow8 := hrow.below hb8
        have kN8 := cell_below HN5.out hb58
        clear hF hOS hrow HSN HTK HTL HPS HRJ
        go_cut [91] from 87 to 91 (fun v w' => v = .bool cbv ∧ w8 = w')
        case first =>
          have hh := HCB.out
          cases il
          · have hz : cbv = false := by rw [← hh]; simp
            subst hz
            clear hh
            go_wp2_with fail
            go_meet
            exact ⟨rfl, rfl⟩
          · have hz : cbv = sn := by rw [← hh]; simp
            subst hz
            clear hh
            go_wp2_with fail
            go_meet
            exact ⟨rfl, rfl⟩
        case rest =>
          clear kN8
          obtain ⟨rfl, rfl⟩ := hcut
          have kf : w8.cell? ⟨w.heap.size, 5, none⟩ = some (.slice af nf cf) := cell_below HF5.out hb58
          have kc : w8.cell? ⟨w.heap.size, 3, none⟩ = some (.slice ac nc cc) := cell_below HC5.out hb58
          have hbw8 := hb5.trans (hb58.mono hb5.size)
          have hTf8 := HTF.out.below hbw8
          have hTc8 := HTC.out.below hbw8
          have hz58 := hb58.size
          go_upto_if 91 with fail
          go_cut [17] (fun v w' => ∃ a c, v = .slice a pre1.length c ∧ Own w' w8.heap.size 5 1 a pre1.length c (pre1.map B8) ∧ Below w8.heap.size w8 w')
          case first =>
            have hh := HP1.out
            cases cbv
            · have hz : pre1 = [] := hh
              subst hz
              go_wp2_with fail
              go_meet
              exact ⟨none, 0, rfl, Own.nil _ _ _ _, Below.refl _ _⟩
            · have hz : pre1 = t.fin := hh
              have hnf : nf = pre1.length := by rw [hz]; exact HNF.out
              rw [← hz] at hTf8
              subst hnf
              clear hz hh
              go_wp2_with (at_builtin; refine app_bs rfl _ _ rfl w8 w8.heap.size _ 0 0 _ rfl (Own.nil _ _ _ _) af _ cf pre1 rfl hTf8 (by omega) (Nat.le_refl _) (Below.refl _ _) ?_; intro a6 c6 w6 ho6 hgr6 hb6; rw [Nat.zero_add] at ho6 ⊢)
              go_meet
              exact ⟨a6, c6, rfl, ho6, hb6⟩
          case rest =>
            obtain ⟨a6, c6, rfl, ho6, hb6⟩ := hcut
            obtain ⟨w6, rfl⟩ : ∃ w6 : World, w6 = wc := ⟨_, rfl⟩
            go_upto_if 96 with fail
            go_cut [17] (fun v w' => ∃ a c, v = .slice a pre2.length c ∧ Own w' w8.heap.size 5 1 a pre2.length c (pre2.map B8) ∧ Below w8.heap.size w8 w')
            case first =>
              have hh := HP2.out
              cases ic
              · have hz : pre2 = pre1 := by rw [hh]; simp
                clear hh
                subst hz
                go_wp2_with fail
                go_meet
                exact ⟨a6, c6, rfl, ho6, hb6⟩
              · have hz : pre2 = pre1 ++ t.cap := hh
                have hnc : nc = t.cap.length := HNC.out
                have kc6 := cell_below kc hb6
                have hTc6 := hTc8.below hb6
                subst hnc
                have HZL : Hid (pre2.length = pre1.length + t.cap.length) := hide (by rw [hz, List.length_append])
                have HZ := hide hz
                clear hh hz
                go_wp2_with (at_builtin; refine app_bs rfl _ _ rfl w8 w8.heap.size a6 _ c6 _ rfl ho6 ac _ cc t.cap rfl hTc6 (by omega) hb6.size hb6 ?_; intro a8 c8 w8' ho8 hgr8 hb8')
                go_meet
                exact ⟨a8, c8, by rw [HZL.out], by rw [HZL.out, HZ.out, List.map_append]; exact ho8, hb8'⟩
            case rest =>
              clear ho6 hb6 kf kc hTf8 hTc8
              obtain ⟨ab, cb, rfl, hob, hb87⟩ := hcut
              obtain ⟨w7, rfl⟩ : ∃ w7 : World, w7 = wc := ⟨_, rfl⟩
              have K2 := cell_below (cell_below HK2.out hb8) hb87
              have hrow7 := hrow8.below hb87
              have hz87 := hb87.size
              go_wp2_with (at_builtin; refine app_bs rfl _ _ rfl w8 w8.heap.size ab _ cb _ rfl hob h1 cl.length h3 cl rfl hrow7 (by omega) hz87 hb87 ?_; intro ac9 cc9 w9 ho9 hgr9 hb89; refine hold ?_)
              refine hide ?_
              rw [HCL.out] at ho9 ⊢
              rw [← List.map_append, HCT.out] at ho9
              have hb79 := hb58.trans (hb89.mono hb58.size)
              have hbr5 := hb58
              have hOS9 := hOS8.below hb89
              have HL9 := hide (cell_below HL5.out hb79)
              have HR9 := hide (cell_below (cell_below HK0.out hb8) hb89)
              clear K2 hrow7 hrow8 hob hb87 hgr9 hOS8
              go_wp2_with fail
              refine wp_region_free 15 [⟨0, 108, [108], fun vs _ => vs = [.slice ao ps.length co]⟩, ⟨1, 109, [109], fun vs _ => vs = [.pointer (some ⟨g9, 0, none⟩)]⟩, ⟨2, 110, [110], fun vs _ => vs = [.int .i64 (kx : Int)]⟩, ⟨3, 111, [111], fun vs _ => vs = [.bool il]⟩, ⟨4, 112, [112], fun vs _ => vs = [.agg #[.int .i64 (kx : Int), .bool false, .bool il]]⟩, ⟨5, 113, [113], fun vs _ => vs = [.slice (some ⟨b1, o1, none⟩) pk.length ck]⟩, ⟨6, 114, [114], fun vs _ => vs = [.int .i64 (k : Int)]⟩, ⟨7, 115, [115], fun vs _ => vs = [.pointer (some ⟨b1, o1 + k * 3, none⟩)]⟩, ⟨8, 116, [116], fun vs _ => vs = [.pointer (some ⟨b1, o1 + k * 3, none⟩)]⟩, ⟨9, 117, [117], fun vs _ => vs = [.string sx]⟩, ⟨10, 118, [118], fun vs _ => vs = [.int .i64 (sx.size : Int)]⟩, ⟨11, 119, [119], fun vs _ => vs = [.slice ac9 CT.length cc9]⟩, ⟨12, 120, [120], fun vs _ => vs = [.int .i64 (k : Int)]⟩, ⟨13, 121, [121], fun vs _ => vs = [.agg #[.int .i64 (kx : Int), .bool false, .bool il, .int .i64 (sx.size : Int), .slice ac9 CT.length cc9, .int .i64 (k : Int)]]⟩, ⟨14, 122, [122], fun vs w' => ∃ b, vs = [.slice (some ⟨b, 0, none⟩) 1 1] ∧ Sl w' 6 (some ⟨b, 0, none⟩) 1 1 (stc ((⟨⟨(kx : Int), false, il⟩, (sx.size : Int), CT, (k : Int)⟩ : Stp), (ac9, CT.length, cc9)))⟩] (by kernel_rfl) (by kernel_rfl) ?_ ?_ ?_
              · simp only [All]
                refine ⟨fun _ _ _ _ h => h, fun _ _ _ _ h => h, fun _ _ _ _ h => h, fun _ _ _ _ h => h, fun _ _ _ _ h => h, fun _ _ _ _ h => h, fun _ _ _ _ h => h, fun _ _ _ _ h => h, fun _ _ _ _ h => h, fun _ _ _ _ h => h, fun _ _ _ _ h => h, fun _ _ _ _ h => h, fun _ _ _ _ h => h, fun _ _ _ _ h => h, ?_, trivial⟩
                · rintro vs w w' hb ⟨b, h1, h2⟩
                  exact ⟨b, h1, h2.below hb⟩
              · simp only [All]
                refine ⟨?_, ?_, ?_, ?_, ?_, ?_, ?_, ?_, ?_, ?_, ?_, ?_, ?_, ?_, ?_, trivial⟩
                · intro o ho a' w' hb hfr hdep
                  obtain rfl := Option.some.inj ho
                  have g14 : a'.tmps[14]?.getD undef = .slice ao ps.length co := by have h := hfr 14 (by kernel_rfl); simpa using h
                  clear ho hfr hdep
                  go_wp2_with fail
                  exact ⟨rfl, _, rfl, Below.refl _ _, rfl⟩
                · intro o ho a' w' hb hfr hdep
                  obtain rfl := Option.some.inj ho
                  have g9 : a'.tmps[9]?.getD undef = .pointer (some ⟨g9, 0, none⟩) := by have h := hfr 9 (by kernel_rfl); simpa using h
                  clear ho hfr hdep
                  go_wp2_with fail
                  exact ⟨rfl, _, rfl, Below.refl _ _, rfl⟩
                · intro o ho a' w' hb hfr hdep
                  obtain rfl := Option.some.inj ho
                  have g109 : a'.tmps[109]?.getD undef = .pointer (some ⟨g9, 0, none⟩) := by have h := hdep 1 _ rfl (by kernel_rfl); simpa using h
                  clear ho hfr hdep
                  have hcl := cell_below HL9.out hb
                  go_wp2_with fail
                  exact ⟨rfl, _, rfl, Below.refl _ _, rfl⟩
                · intro o ho a' w' hb hfr hdep
                  obtain rfl := Option.some.inj ho
                  have g12 : a'.tmps[12]?.getD undef = .bool il := by have h := hfr 12 (by kernel_rfl); simpa using h
                  clear ho hfr hdep
                  go_wp2_with fail
                  exact ⟨rfl, _, rfl, Below.refl _ _, rfl⟩
                · intro o ho a' w' hb hfr hdep
                  obtain rfl := Option.some.inj ho
                  have g110 : a'.tmps[110]?.getD undef = .int .i64 (kx : Int) := by have h := hdep 2 _ rfl (by kernel_rfl); simpa using h
                  have g111 : a'.tmps[111]?.getD undef = .bool il := by have h := hdep 3 _ rfl (by kernel_rfl); simpa using h
                  clear ho hfr hdep
                  go_wp2_with fail
                  exact ⟨rfl, _, rfl, Below.refl _ _, rfl⟩
                · intro o ho a' w' hb hfr hdep
                  obtain rfl := Option.some.inj ho
                  have g15 : a'.tmps[15]?.getD undef = .slice (some ⟨b1, o1, none⟩) pk.length ck := by have h := hfr 15 (by kernel_rfl); simpa using h
                  clear ho hfr hdep
                  go_wp2_with fail
                  exact ⟨rfl, _, rfl, Below.refl _ _, rfl⟩
                · intro o ho a' w' hb hfr hdep
                  obtain rfl := Option.some.inj ho
                  have g16 : a'.tmps[16]?.getD undef = .int .i64 (k : Int) := by have h := hfr 16 (by kernel_rfl); simpa using h
                  clear ho hfr hdep
                  go_wp2_with fail
                  exact ⟨rfl, _, rfl, Below.refl _ _, rfl⟩
                · intro o ho a' w' hb hfr hdep
                  obtain rfl := Option.some.inj ho
                  have g113 : a'.tmps[113]?.getD undef = .slice (some ⟨b1, o1, none⟩) pk.length ck := by have h := hdep 5 _ rfl (by kernel_rfl); simpa using h
                  have g114 : a'.tmps[114]?.getD undef = .int .i64 (k : Int) := by have h := hdep 6 _ rfl (by kernel_rfl); simpa using h
                  clear ho hfr hdep
                  go_wp2_with fail
                  exact ⟨rfl, _, rfl, Below.refl _ _, rfl⟩
                · intro o ho a' w' hb hfr hdep
                  obtain rfl := Option.some.inj ho
                  have g115 : a'.tmps[115]?.getD undef = .pointer (some ⟨b1, o1 + k * 3, none⟩) := by have h := hdep 7 _ rfl (by kernel_rfl); simpa using h
                  clear ho hfr hdep
                  go_wp2_with fail
                  exact ⟨rfl, _, rfl, Below.refl _ _, rfl⟩
                · intro o ho a' w' hb hfr hdep
                  obtain rfl := Option.some.inj ho
                  have g116 : a'.tmps[116]?.getD undef = .pointer (some ⟨b1, o1 + k * 3, none⟩) := by have h := hdep 8 _ rfl (by kernel_rfl); simpa using h
                  clear ho hfr hdep
                  have hcl := cell_below HR9.out hb
                  go_wp2_with fail
                  exact ⟨rfl, _, rfl, Below.refl _ _, rfl⟩
                · intro o ho a' w' hb hfr hdep
                  obtain rfl := Option.some.inj ho
                  have g117 : a'.tmps[117]?.getD undef = .string sx := by have h := hdep 9 _ rfl (by kernel_rfl); simpa using h
                  clear ho hfr hdep
                  go_wp2_with fail
                  exact ⟨rfl, _, rfl, Below.refl _ _, rfl⟩
                · intro o ho a' w' hb hfr hdep
                  obtain rfl := Option.some.inj ho
                  have g17 : a'.tmps[17]?.getD undef = .slice ac9 CT.length cc9 := by have h := hfr 17 (by kernel_rfl); simpa using h
                  clear ho hfr hdep
                  go_wp2_with fail
                  exact ⟨rfl, _, rfl, Below.refl _ _, rfl⟩
                · intro o ho a' w' hb hfr hdep
                  obtain rfl := Option.some.inj ho
                  have g16 : a'.tmps[16]?.getD undef = .int .i64 (k : Int) := by have h := hfr 16 (by kernel_rfl); simpa using h
                  clear ho hfr hdep
                  go_wp2_with fail
                  exact ⟨rfl, _, rfl, Below.refl _ _, rfl⟩
                · intro o ho a' w' hb hfr hdep
                  obtain rfl := Option.some.inj ho
                  have g112 : a'.tmps[112]?.getD undef = .agg #[.int .i64 (kx : Int), .bool false, .bool il] := by have h := hdep 4 _ rfl (by kernel_rfl); simpa using h
                  have g118 : a'.tmps[118]?.getD undef = .int .i64 (sx.size : Int) := by have h := hdep 10 _ rfl (by kernel_rfl); simpa using h
                  have g119 : a'.tmps[119]?.getD undef = .slice ac9 CT.length cc9 := by have h := hdep 11 _ rfl (by kernel_rfl); simpa using h
                  have g120 : a'.tmps[120]?.getD undef = .int .i64 (k : Int) := by have h := hdep 12 _ rfl (by kernel_rfl); simpa using h
                  clear ho hfr hdep
                  go_wp2_with fail
                  exact ⟨rfl, _, rfl, Below.refl _ _, rfl⟩
                · intro o ho a' w' hb hfr hdep
                  obtain rfl := Option.some.inj ho
                  have g121 : a'.tmps[121]?.getD undef = .agg #[.int .i64 (kx : Int), .bool false, .bool il, .int .i64 (sx.size : Int), .slice ac9 CT.length cc9, .int .i64 (k : Int)] := by have h := hdep 13 _ rfl (by kernel_rfl); simpa using h
                  clear ho hfr hdep
                  go_wp2_with fail
                  exact ⟨rfl, _, rfl, blo _ _, _, rfl, Sl.fresh _ _ 6 1 (stc ((⟨⟨(kx : Int), false, il⟩, (sx.size : Int), CT, (k : Int)⟩ : Stp), (ac9, CT.length, cc9))) rfl (by decide)⟩
              · intro gg wE hbE hpE
                have p108 := hpE 0 _ rfl
                obtain ⟨b9, p122, hs9⟩ := hpE 14 _ rfl
                clear hpE
                simp at p108 p122
                simp only [List.drop_succ_cons, List.drop_zero, List.map_cons, List.map_nil, putAll, Act.put, List.setIfInBounds_toArray, List.set_cons_succ, List.set_cons_zero, List.cons_append, List.nil_append, p108, p122]
                clear p108 p122
                have hbE7 := hb79.trans (hbE.mono hb79.size)
                have hOSE := hOS9.below hbE
                have hoE := ho9.below hbE
                have hzE := hbE7.size
                go_wp2_with (at_builtin; refine app_rst2 rfl _ _ rfl w5 w5.heap.size ao co ps rfl hOSE ((⟨⟨(kx : Int), false, il⟩, (sx.size : Int), CT, (k : Int)⟩ : Stp), (ac9, CT.length, cc9)) (hoE.mono hbr5.size) (some ⟨b9, 0, none⟩) 1 rfl hs9 (by omega) hzE hbE7 ?_; intro a7 c7 w7 ho7 hb7)
                go_roundg (pk.length - (k + 1))
                case measure => have := HG.out; omega
                case rel => exact ⟨k + 1, ps ++ [((⟨⟨(kx : Int), false, il⟩, (sx.size : Int), CT, (k : Int)⟩ : Stp), (ac9, CT.length, cc9))], a7, c7, by omega, rfl, by rw [List.length_append]; show _ + 1 ≤ _; omega, by rw [List.length_append]; rfl, by go_num, HN.out _, ho7, hb7⟩
    · obtain rfl : k = pk.length := by omega
      have i0 : decide (((pk.length : Nat) : Int) < (pk.length : Int)) = false := decide_eq_false (by omega)
      have i0' : decide (pk.length < pk.length) = false := decide_eq_false (by omega)
      have HFIN : Hid (ps.map (·.1) = LL) := hide (by
        rw [HPS.out, List.take_of_length_le (by unfold rus; simp)]
        have hLL : ruleSteps t ⟨(kx : Int), sn, si⟩ ⟨(kx : Int), xc⟩ l p 0 (langOf t (kx : Int)) = LL := HLL.out
        rw [← hLL, HLOW.out, ← HEK.out])
      have hpsl : ps.length = LL.length := by rw [← HFIN.out, List.length_map]
      have hst := hOS.stl
      rw [HFIN.out, hpsl] at hst
      rw [hpsl]
      clear hpsl
      go_wp2_with fail
      go_ret
      exact ⟨ao, co, ps, rfl, hst, hb5.trans (hbr.mono hb5.size)⟩

end Go.Proofs.Ytkjcbneanaeleaa
end

/- the text B36 -/
section
/- Chapter 06: plain and SameSteps (steps of the reference). -/
namespace Go.Proofs.Ytkjcbneanaeleaa
open Go.RowKit Go.Dx
theorem size_rst : (Try.prog.info? 40).map (·.size) = some 3 := by kernel_rfl
theorem size_r3 (x y z : Value) : (Try.prog.info? 40).map (·.size) = some ([x, y, z] : List Value).length := by rw [size_rst]; rfl
theorem same_at {x y : List UInt8} {a1 a2 : Option Addr} {n1 n2 c1 c2 : Nat} {w : World} (hxy : x = y) (h1 : Sl w 1 a1 n1 c1 (x.map B8)) (h2 : Sl w 1 a2 n2 c2 (y.map B8)) :
    Calls Try.prog 46 #[.slice a1 n1 c1, .slice a2 n2 c2] w fun e w' => e = .returned (.bool true) ∧ Below w.heap.size w w' := by
  refine (ref_Same x y a1 a2 n1 n2 c1 c2 w ⟨h1.len, h1.le, h1.cap, h1.nil, h1.cell⟩ ⟨h2.len, h2.le, h2.cap, h2.nil, h2.cell⟩).mono ?_
  rintro e w' ⟨rfl, m, hm⟩
  exact ⟨by rw [decide_eq_true hxy], hm ▸ Still.below m⟩
section
variable {w : World} {ops : Array Oper} {rest : List Oper} {o : Oper} {act : Act} {Q : Exit → Act → World → Prop}
theorem app_rst3 (hg : o.guard = none) (s x : Operand) (hop : o.op = Op.call { callee := Callee.builtin Builtin.append, args := #[s, x], argTypes := #[43, 43] })
    (w0 : World) (B : Nat) (a : Option Addr) (n c : Nat) (cs : List Value) (hs : act.eval s = .slice a n c) (hown : Own w B 91 6 a n c cs)
    (p : SH) (a2 : Option Addr) (c2 : Nat) (hx : act.eval x = .slice a2 1 c2) (hy : Sl w 6 a2 1 c2 (stc p))
    (hn : n ≤ 1000000) (hB : B ≤ w.heap.size) (hbel : Below B w0 w)
    (hK : ∀ a' c' w', Own w' B 91 6 a' (n + 1) c' (cs ++ stc p) → Below B w0 w' → wpList Try.prog ops Q rest (act.put o.dst (.slice a' (n + 1) c')) w') :
    wpList Try.prog ops Q (o :: rest) act w := by
  refine append_own hg s x 43 hop 91 zeroStep 6 56 Try.underlying43 info_rstep rfl w0 B a _ c _ hs hown a2 1 c2 (stc p) hx hy (stc_one p) (by omega) (by unfold maxLen; omega) hB hbel ?_
  intro a' c' w' ho hgr hb
  exact hK a' c' w' ho hb
end
set_option maxRecDepth 100000 in
set_option maxHeartbeats 4000000 in
theorem law_plain (L : List Stp) (ps : List SH) (a : Option Addr) (n c : Nat) (hn : n ≤ 1000) (w : World) (hS : Stl w a n c ps L) :
    Calls Try.prog 15 #[.slice a n c] w (StepsR L w) := by
  have hpl : n = ps.length := hS.top.nf stc_len (by decide)
  have HPL := hide hpl
  clear hpl
  go_enter Try.func15, Try.ntmps15
  go_wp2_with fail
  go_loopg [3, 4] n (fun gh ov v w' => ∃ (k : Nat) (ao : Option Addr) (co : Nat), k ≤ n ∧ gh = n - k ∧ ov = .slice ao k co ∧ v = .int .i64 (k : Int) ∧ Hid (Own w' w.heap.size 91 6 ao k co ((ps.take k).flatMap stc)) ∧ Below w.heap.size w w')
  case atStart => exact ⟨0, none, 0, by omega, by omega, rfl, rfl, hide (Own.nil _ _ _ _), Below.refl _ _⟩
  case round =>
    obtain ⟨k, ao, co, hk, hgk, rfl, rfl, HO, hb⟩ := hrel
    have HG := hide hgk
    clear hgk
    by_cases hkl : k < n
    · obtain ⟨p, hp⟩ : ∃ p, ps[k]? = some p := ⟨_, List.getElem?_eq_getElem (by have := HPL.out; omega)⟩
      have HT : Hid ((ps.take (k + 1)).flatMap stc = (ps.take k).flatMap stc ++ stc p) := hide (by rw [List.take_add_one, hp, List.flatMap_append]; simp)
      have hSr := hS.below hb
      have hO := HO.out
      obtain ⟨b1, o1, hab, hb1, x0, x1, x2, x3, x4, x5⟩ := st_cells hSr hp
      subst hab
      clear hp hSr
      have e1 : decide (k < n) = true := decide_eq_true hkl
      have e1' : decide ((k : Int) < (n : Int)) = true := decide_eq_true (by omega)
      go_wp2_with fail
      refine wp_region_free 20 [⟨0, 12, [12], fun vs _ => vs = [.slice (some ⟨b1, o1, none⟩) n c]⟩, ⟨1, 13, [13], fun vs _ => vs = [.int .i64 (k : Int)]⟩, ⟨2, 14, [14], fun vs _ => vs = [.pointer (some ⟨b1, o1 + k * 6, none⟩)]⟩, ⟨3, 15, [15], fun vs _ => vs = [.pointer (some ⟨b1, o1 + k * 6, none⟩)]⟩, ⟨4, 16, [16], fun vs _ => vs = [.pointer (some ⟨b1, o1 + k * 6, none⟩)]⟩, ⟨5, 17, [17], fun vs _ => vs = [.int .i64 p.1.dst.lang]⟩, ⟨6, 18, [18], fun vs _ => vs = [.slice (some ⟨b1, o1, none⟩) n c]⟩, ⟨7, 19, [19], fun vs _ => vs = [.int .i64 (k : Int)]⟩, ⟨8, 20, [20], fun vs _ => vs = [.pointer (some ⟨b1, o1 + k * 6, none⟩)]⟩, ⟨9, 21, [21], fun vs _ => vs = [.pointer (some ⟨b1, o1 + k * 6, none⟩)]⟩, ⟨10, 22, [22], fun vs _ => vs = [.pointer (some ⟨b1, o1 + k * 6 + 1, none⟩)]⟩, ⟨11, 23, [23], fun vs _ => vs = [.bool p.1.dst.num]⟩, ⟨12, 24, [24], fun vs _ => vs = [.slice (some ⟨b1, o1, none⟩) n c]⟩, ⟨13, 25, [25], fun vs _ => vs = [.int .i64 (k : Int)]⟩, ⟨14, 26, [26], fun vs _ => vs = [.pointer (some ⟨b1, o1 + k * 6, none⟩)]⟩, ⟨15, 27, [27], fun vs _ => vs = [.pointer (some ⟨b1, o1 + k * 6, none⟩)]⟩, ⟨16, 28, [28], fun vs _ => vs = [.pointer (some ⟨b1, o1 + k * 6 + 2, none⟩)]⟩, ⟨17, 29, [29], fun vs _ => vs = [.bool p.1.dst.wrd]⟩, ⟨18, 30, [30], fun vs _ => vs = [.agg #[.int .i64 p.1.dst.lang, .bool p.1.dst.num, .bool p.1.dst.wrd]]⟩, ⟨19, 5, [5], fun vs w' => ∃ b, vs = [.pointer (some ⟨b, 0, none⟩)] ∧ wr.heap.size ≤ b ∧ Box w' b 40 [.int .i64 0, .bool false, .bool false]⟩] (by kernel_rfl) (by kernel_rfl) ?_ ?_ ?_
      · simp only [All]
        refine ⟨fun _ _ _ _ h => h, fun _ _ _ _ h => h, fun _ _ _ _ h => h, fun _ _ _ _ h => h, fun _ _ _ _ h => h, fun _ _ _ _ h => h, fun _ _ _ _ h => h, fun _ _ _ _ h => h, fun _ _ _ _ h => h, fun _ _ _ _ h => h, fun _ _ _ _ h => h, fun _ _ _ _ h => h, fun _ _ _ _ h => h, fun _ _ _ _ h => h, fun _ _ _ _ h => h, fun _ _ _ _ h => h, fun _ _ _ _ h => h, fun _ _ _ _ h => h, fun _ _ _ _ h => h, ?_, trivial⟩
        · rintro vs w2 w3 hb ⟨b, h1, h2, h3⟩
          exact ⟨b, h1, h2, h3.under hb⟩
      · simp only [All]
        refine ⟨?_, ?_, ?_, ?_, ?_, ?_, ?_, ?_, ?_, ?_, ?_, ?_, ?_, ?_, ?_, ?_, ?_, ?_, ?_, ?_, trivial⟩
        · intro o ho a' w' hb hfr hdep
          obtain rfl := Option.some.inj ho
          have g0 : a'.tmps[0]?.getD undef = .slice (some ⟨b1, o1, none⟩) n c := by have h := hfr 0 (by kernel_rfl); simpa using h
          clear ho hfr hdep
          go_wp2_with fail
          exact ⟨rfl, _, rfl, Below.refl _ _, rfl⟩
        · intro o ho a' w' hb hfr hdep
          obtain rfl := Option.some.inj ho
          have g4 : a'.tmps[4]?.getD undef = .int .i64 (k : Int) := by have h := hfr 4 (by kernel_rfl); simpa using h
          clear ho hfr hdep
          go_wp2_with fail
          exact ⟨rfl, _, rfl, Below.refl _ _, rfl⟩
        · intro o ho a' w' hb hfr hdep
          obtain rfl := Option.some.inj ho
          have g12 : a'.tmps[12]?.getD undef = .slice (some ⟨b1, o1, none⟩) n c := by have h := hdep 0 _ rfl (by kernel_rfl); simpa using h
          have g13 : a'.tmps[13]?.getD undef = .int .i64 (k : Int) := by have h := hdep 1 _ rfl (by kernel_rfl); simpa using h
          clear ho hfr hdep
          go_wp2_with fail
          exact ⟨rfl, _, rfl, Below.refl _ _, rfl⟩
        · intro o ho a' w' hb hfr hdep
          obtain rfl := Option.some.inj ho
          have g14 : a'.tmps[14]?.getD undef = .pointer (some ⟨b1, o1 + k * 6, none⟩) := by have h := hdep 2 _ rfl (by kernel_rfl); simpa using h
          clear ho hfr hdep
          go_wp2_with fail
          exact ⟨rfl, _, rfl, Below.refl _ _, rfl⟩
        · intro o ho a' w' hb hfr hdep
          obtain rfl := Option.some.inj ho
          have g15 : a'.tmps[15]?.getD undef = .pointer (some ⟨b1, o1 + k * 6, none⟩) := by have h := hdep 3 _ rfl (by kernel_rfl); simpa using h
          clear ho hfr hdep
          go_wp2_with fail
          exact ⟨rfl, _, rfl, Below.refl _ _, rfl⟩
        · intro o ho a' w' hb hfr hdep
          obtain rfl := Option.some.inj ho
          have g16 : a'.tmps[16]?.getD undef = .pointer (some ⟨b1, o1 + k * 6, none⟩) := by have h := hdep 4 _ rfl (by kernel_rfl); simpa using h
          clear ho hfr hdep
          have hcl := cell_below x0 hb
          go_wp2_with fail
          exact ⟨rfl, _, rfl, Below.refl _ _, rfl⟩
        · intro o ho a' w' hb hfr hdep
          obtain rfl := Option.some.inj ho
          have g0 : a'.tmps[0]?.getD undef = .slice (some ⟨b1, o1, none⟩) n c := by have h := hfr 0 (by kernel_rfl); simpa using h
          clear ho hfr hdep
          go_wp2_with fail
          exact ⟨rfl, _, rfl, Below.refl _ _, rfl⟩
        · intro o ho a' w' hb hfr hdep
          obtain rfl := Option.some.inj ho
          have g4 : a'.tmps[4]?.getD undef = .int .i64 (k : Int) := by have h := hfr 4 (by kernel_rfl); simpa using h
          clear ho hfr hdep
          go_wp2_with fail
          exact ⟨rfl, _, rfl, Below.refl _ _, rfl⟩
        · intro o ho a' w' hb hfr hdep
          obtain rfl := Option.some.inj ho
          have g18 : a'.tmps[18]?.getD undef = .slice (some ⟨b1, o1, none⟩) n c := by have h := hdep 6 _ rfl (by kernel_rfl); simpa using h
          have g19 : a'.tmps[19]?.getD undef = .int .i64 (k : Int) := by have h := hdep 7 _ rfl (by kernel_rfl); simpa using h
          clear ho hfr hdep
          go_wp2_with fail
          exact ⟨rfl, _, rfl, Below.refl _ _, rfl⟩
        · intro o ho a' w' hb hfr hdep
          obtain rfl := Option.some.inj ho
          have g20 : a'.tmps[20]?.getD undef = .pointer (some ⟨b1, o1 + k * 6, none⟩) := by have h := hdep 8 _ rfl (by kernel_rfl); simpa using h
          clear ho hfr hdep
          go_wp2_with fail
          exact ⟨rfl, _, rfl, Below.refl _ _, rfl⟩
        · intro o ho a' w' hb hfr hdep
          obtain rfl := Option.some.inj ho
          have g21 : a'.tmps[21]?.getD undef = .pointer (some ⟨b1, o1 + k * 6, none⟩) := by have h := hdep 9 _ rfl (by kernel_rfl); simpa using h
          clear ho hfr hdep
          go_wp2_with fail
          exact ⟨rfl, _, rfl, Below.refl _ _, rfl⟩
        · intro o ho a' w' hb hfr hdep
          obtain rfl := Option.some.inj ho
          have g22 : a'.tmps[22]?.getD undef = .pointer (some ⟨b1, o1 + k * 6 + 1, none⟩) := by have h := hdep 10 _ rfl (by kernel_rfl); simpa using h
          clear ho hfr hdep
          have hcl := cell_below x1 hb
          go_wp2_with fail
          exact ⟨rfl, _, rfl, Below.refl _ _, rfl⟩
        · intro o ho a' w' hb hfr hdep
          obtain rfl := Option.some.inj ho
          have g0 : a'.tmps[0]?.getD undef = .slice (some ⟨b1, o1, none⟩) n c := by have h := hfr 0 (by kernel_rfl); simpa using h
          clear ho hfr hdep
          go_wp2_with fail
          exact ⟨rfl, _, rfl, Below.refl _ _, rfl⟩
        · intro o ho a' w' hb hfr hdep
          obtain rfl := Option.some.inj ho
          have g4 : a'.tmps[4]?.getD undef = .int .i64 (k : Int) := by have h := hfr 4 (by kernel_rfl); simpa using h
          clear ho hfr hdep
          go_wp2_with fail
          exact ⟨rfl, _, rfl, Below.refl _ _, rfl⟩
        · intro o ho a' w' hb hfr hdep
          obtain rfl := Option.some.inj ho
          have g24 : a'.tmps[24]?.getD undef = .slice (some ⟨b1, o1, none⟩) n c := by have h := hdep 12 _ rfl (by kernel_rfl); simpa using h
          have g25 : a'.tmps[25]?.getD undef = .int .i64 (k : Int) := by have h := hdep 13 _ rfl (by kernel_rfl); simpa using h
          clear ho hfr hdep
          go_wp2_with fail
          exact ⟨rfl, _, rfl, Below.refl _ _, rfl⟩
        · intro o ho a' w' hb hfr hdep
          obtain rfl := Option.some.inj ho
          have g26 : a'.tmps[26]?.getD undef = .pointer (some ⟨b1, o1 + k * 6, none⟩) := by have h := hdep 14 _ rfl (by kernel_rfl); simpa using h
          clear ho hfr hdep
          go_wp2_with fail
          exact ⟨rfl, _, rfl, Below.refl _ _, rfl⟩
        · intro o ho a' w' hb hfr hdep
          obtain rfl := Option.some.inj ho
          have g27 : a'.tmps[27]?.getD undef = .pointer (some ⟨b1, o1 + k * 6, none⟩) := by have h := hdep 15 _ rfl (by kernel_rfl); simpa using h
          clear ho hfr hdep
          go_wp2_with fail
          exact ⟨rfl, _, rfl, Below.refl _ _, rfl⟩
        · intro o ho a' w' hb hfr hdep
          obtain rfl := Option.some.inj ho
          have g28 : a'.tmps[28]?.getD undef = .pointer (some ⟨b1, o1 + k * 6 + 2, none⟩) := by have h := hdep 16 _ rfl (by kernel_rfl); simpa using h
          clear ho hfr hdep
          have hcl := cell_below x2 hb
          go_wp2_with fail
          exact ⟨rfl, _, rfl, Below.refl _ _, rfl⟩
        · intro o ho a' w' hb hfr hdep
          obtain rfl := Option.some.inj ho
          have g17 : a'.tmps[17]?.getD undef = .int .i64 p.1.dst.lang := by have h := hdep 5 _ rfl (by kernel_rfl); simpa using h
          have g23 : a'.tmps[23]?.getD undef = .bool p.1.dst.num := by have h := hdep 11 _ rfl (by kernel_rfl); simpa using h
          have g29 : a'.tmps[29]?.getD undef = .bool p.1.dst.wrd := by have h := hdep 17 _ rfl (by kernel_rfl); simpa using h
          clear ho hfr hdep
          go_wp2_with fail
          exact ⟨rfl, _, rfl, Below.refl _ _, rfl⟩
        · intro o ho a' w' hb hfr hdep
          obtain rfl := Option.some.inj ho
          clear ho hfr hdep
          have hxn := Box.new w' 40 #[.int .i64 0, .bool false, .bool false]
          have hsz := hb.size
          go_wp2_with fail
          exact ⟨rfl, _, rfl, blo _ _, _, rfl, hsz, hxn⟩
      · intro g w3 hb3 hp3
        have p30 := hp3 18 _ rfl
        obtain ⟨g5, p5, hg5, hx5⟩ := hp3 19 _ rfl
        clear hp3
        simp at p30 p5
        simp only [List.drop_succ_cons, List.drop_zero, List.map_cons, List.map_nil, putAll, Act.put, List.setIfInBounds_toArray, List.set_cons_succ, List.set_cons_zero, List.cons_append, List.nil_append, p30, p5]
        clear p30 p5
        refine store_all 40 _ _ 40 g5 [.int .i64 0, .bool false, .bool false] [.int .i64 p.1.dst.lang, .bool p.1.dst.num, .bool p.1.dst.wrd] (.agg #[.int .i64 p.1.dst.lang, .bool p.1.dst.num, .bool p.1.dst.wrd]) (size_r3 _ _ _) hx5 rfl rfl rfl (Eq.refl 3) (by simp [Value.oneCell']) ?_; intro w4 hY hgr4 hs4
        have hb4 := hb3.grown hgr4 hb3.size (fun q hq => by cases hq; exact hg5)
        clear hx5 hgr4 hs4
        go_wp2_with fail
        refine wp_region_free 19 [⟨0, 31, [31], fun vs _ => vs = [.slice ao k co]⟩, ⟨1, 32, [32], fun vs _ => vs = [.agg #[.int .i64 p.1.dst.lang, .bool p.1.dst.num, .bool p.1.dst.wrd]]⟩, ⟨2, 33, [33], fun vs _ => vs = [.slice (some ⟨b1, o1, none⟩) n c]⟩, ⟨3, 34, [34], fun vs _ => vs = [.int .i64 (k : Int)]⟩, ⟨4, 35, [35], fun vs _ => vs = [.pointer (some ⟨b1, o1 + k * 6, none⟩)]⟩, ⟨5, 36, [36], fun vs _ => vs = [.pointer (some ⟨b1, o1 + k * 6 + 3, none⟩)]⟩, ⟨6, 37, [37], fun vs _ => vs = [.int .i64 p.1.len]⟩, ⟨7, 38, [38], fun vs _ => vs = [.slice (some ⟨b1, o1, none⟩) n c]⟩, ⟨8, 39, [39], fun vs _ => vs = [.int .i64 (k : Int)]⟩, ⟨9, 40, [40], fun vs _ => vs = [.pointer (some ⟨b1, o1 + k * 6, none⟩)]⟩, ⟨10, 41, [41], fun vs _ => vs = [.pointer (some ⟨b1, o1 + k * 6 + 4, none⟩)]⟩, ⟨11, 42, [42], fun vs _ => vs = [.slice p.2.1 p.2.2.1 p.2.2.2]⟩, ⟨12, 43, [43], fun vs _ => vs = [.slice (some ⟨b1, o1, none⟩) n c]⟩, ⟨13, 44, [44], fun vs _ => vs = [.int .i64 (k : Int)]⟩, ⟨14, 45, [45], fun vs _ => vs = [.pointer (some ⟨b1, o1 + k * 6, none⟩)]⟩, ⟨15, 46, [46], fun vs _ => vs = [.pointer (some ⟨b1, o1 + k * 6 + 5, none⟩)]⟩, ⟨16, 47, [47], fun vs _ => vs = [.int .i64 p.1.rule]⟩, ⟨17, 48, [48], fun vs _ => vs = [.agg #[.int .i64 p.1.dst.lang, .bool p.1.dst.num, .bool p.1.dst.wrd, .int .i64 p.1.len, .slice p.2.1 p.2.2.1 p.2.2.2, .int .i64 p.1.rule]]⟩, ⟨18, 49, [49], fun vs w' => ∃ b, vs = [.slice (some ⟨b, 0, none⟩) 1 1] ∧ Sl w' 6 (some ⟨b, 0, none⟩) 1 1 (stc p)⟩] (by kernel_rfl) (by kernel_rfl) ?_ ?_ ?_
        · simp only [All]
          refine ⟨fun _ _ _ _ h => h, fun _ _ _ _ h => h, fun _ _ _ _ h => h, fun _ _ _ _ h => h, fun _ _ _ _ h => h, fun _ _ _ _ h => h, fun _ _ _ _ h => h, fun _ _ _ _ h => h, fun _ _ _ _ h => h, fun _ _ _ _ h => h, fun _ _ _ _ h => h, fun _ _ _ _ h => h, fun _ _ _ _ h => h, fun _ _ _ _ h => h, fun _ _ _ _ h => h, fun _ _ _ _ h => h, fun _ _ _ _ h => h, fun _ _ _ _ h => h, ?_, trivial⟩
          · rintro vs w w' hb ⟨b, h1, h2⟩
            exact ⟨b, h1, h2.below hb⟩
        · simp only [All]
          refine ⟨?_, ?_, ?_, ?_, ?_, ?_, ?_, ?_, ?_, ?_, ?_, ?_, ?_, ?_, ?_, ?_, ?_, ?_, ?_, trivial⟩
          · intro o ho a' w' hb hfr hdep
            obtain rfl := Option.some.inj ho
            have g3 : a'.tmps[3]?.getD undef = .slice ao k co := by have h := hfr 3 (by kernel_rfl); simpa using h
            clear ho hfr hdep
            go_wp2_with fail
            exact ⟨rfl, _, rfl, Below.refl _ _, rfl⟩
          · intro o ho a' w' hb hfr hdep
            obtain rfl := Option.some.inj ho
            have g5' : a'.tmps[5]?.getD undef = .pointer (some ⟨g5, 0, none⟩) := by have h := hfr 5 (by kernel_rfl); simpa using h
            clear ho hfr hdep
            refine load_struct 32 40 _ 3 size_rst _ Try.underlying40 ⟨g5, 0, none⟩ (by show a'.tmps.getD 5 undef = _; simpa using g5') [.int .i64 p.1.dst.lang, .bool p.1.dst.num, .bool p.1.dst.wrd] rfl (fun j u hj => by rw [Addr.add_lit, Nat.zero_add]; exact (hY.under hb).at_ hj) ?_
            exact ⟨rfl, _, rfl, Below.refl _ _, rfl⟩
          · intro o ho a' w' hb hfr hdep
            obtain rfl := Option.some.inj ho
            have g0 : a'.tmps[0]?.getD undef = .slice (some ⟨b1, o1, none⟩) n c := by have h := hfr 0 (by kernel_rfl); simpa using h
            clear ho hfr hdep
            go_wp2_with fail
            exact ⟨rfl, _, rfl, Below.refl _ _, rfl⟩
          · intro o ho a' w' hb hfr hdep
            obtain rfl := Option.some.inj ho
            have g4 : a'.tmps[4]?.getD undef = .int .i64 (k : Int) := by have h := hfr 4 (by kernel_rfl); simpa using h
            clear ho hfr hdep
            go_wp2_with fail
            exact ⟨rfl, _, rfl, Below.refl _ _, rfl⟩
          · intro o ho a' w' hb hfr hdep
            obtain rfl := Option.some.inj ho
            have g33 : a'.tmps[33]?.getD undef = .slice (some ⟨b1, o1, none⟩) n c := by have h := hdep 2 _ rfl (by kernel_rfl); simpa using h
            have g34 : a'.tmps[34]?.getD undef = .int .i64 (k : Int) := by have h := hdep 3 _ rfl (by kernel_rfl); simpa using h
            clear ho hfr hdep
            go_wp2_with fail
            exact ⟨rfl, _, rfl, Below.refl _ _, rfl⟩
          · intro o ho a' w' hb hfr hdep
            obtain rfl := Option.some.inj ho
            have g35 : a'.tmps[35]?.getD undef = .pointer (some ⟨b1, o1 + k * 6, none⟩) := by have h := hdep 4 _ rfl (by kernel_rfl); simpa using h
            clear ho hfr hdep
            go_wp2_with fail
            exact ⟨rfl, _, rfl, Below.refl _ _, rfl⟩
          · intro o ho a' w' hb hfr hdep
            obtain rfl := Option.some.inj ho
            have g36 : a'.tmps[36]?.getD undef = .pointer (some ⟨b1, o1 + k * 6 + 3, none⟩) := by have h := hdep 5 _ rfl (by kernel_rfl); simpa using h
            clear ho hfr hdep
            have hcl := cell_below x3 (hb4.trans (hb.mono hb4.size))
            go_wp2_with fail
            exact ⟨rfl, _, rfl, Below.refl _ _, rfl⟩
          · intro o ho a' w' hb hfr hdep
            obtain rfl := Option.some.inj ho
            have g0 : a'.tmps[0]?.getD undef = .slice (some ⟨b1, o1, none⟩) n c := by have h := hfr 0 (by kernel_rfl); simpa using h
            clear ho hfr hdep
            go_wp2_with fail
            exact ⟨rfl, _, rfl, Below.refl _ _, rfl⟩
          · intro o ho a' w' hb hfr hdep
            obtain rfl := Option.some.inj ho
            have g4 : a'.tmps[4]?.getD undef = .int .i64 (k : Int) := by have h := hfr 4 (by kernel_rfl); simpa using h
            clear ho hfr hdep
            go_wp2_with fail
            exact ⟨rfl, _, rfl, Below.refl _ _, rfl⟩
          · intro o ho a' w' hb hfr hdep
            obtain rfl := Option.some.inj ho
            have g38 : a'.tmps[38]?.getD undef = .slice (some ⟨b1, o1, none⟩) n c := by have h := hdep 7 _ rfl (by kernel_rfl); simpa using h
            have g39 : a'.tmps[39]?.getD undef = .int .i64 (k : Int) := by have h := hdep 8 _ rfl (by kernel_rfl); simpa using h
            clear ho hfr hdep
            go_wp2_with fail
            exact ⟨rfl, _, rfl, Below.refl _ _, rfl⟩
          · intro o ho a' w' hb hfr hdep
            obtain rfl := Option.some.inj ho
            have g40 : a'.tmps[40]?.getD undef = .pointer (some ⟨b1, o1 + k * 6, none⟩) := by have h := hdep 9 _ rfl (by kernel_rfl); simpa using h
            clear ho hfr hdep
            go_wp2_with fail
            exact ⟨rfl, _, rfl, Below.refl _ _, rfl⟩
          · intro o ho a' w' hb hfr hdep
            obtain rfl := Option.some.inj ho
            have g41 : a'.tmps[41]?.getD undef = .pointer (some ⟨b1, o1 + k * 6 + 4, none⟩) := by have h := hdep 10 _ rfl (by kernel_rfl); simpa using h
            clear ho hfr hdep
            have hcl := cell_below x4 (hb4.trans (hb.mono hb4.size))
            go_wp2_with fail
            exact ⟨rfl, _, rfl, Below.refl _ _, rfl⟩
          · intro o ho a' w' hb hfr hdep
            obtain rfl := Option.some.inj ho
            have g0 : a'.tmps[0]?.getD undef = .slice (some ⟨b1, o1, none⟩) n c := by have h := hfr 0 (by kernel_rfl); simpa using h
            clear ho hfr hdep
            go_wp2_with fail
            exact ⟨rfl, _, rfl, Below.refl _ _, rfl⟩
          · intro o ho a' w' hb hfr hdep
            obtain rfl := Option.some.inj ho
            have g4 : a'.tmps[4]?.getD undef = .int .i64 (k : Int) := by have h := hfr 4 (by kernel_rfl); simpa using h
            clear ho hfr hdep
            go_wp2_with fail
            exact ⟨rfl, _, rfl, Below.refl _ _, rfl⟩
          · intro o ho a' w' hb hfr hdep
            obtain rfl := Option.some.inj ho
            have g43 : a'.tmps[43]?.getD undef = .slice (some ⟨b1, o1, none⟩) n c := by have h := hdep 12 _ rfl (by kernel_rfl); simpa using h
            have g44 : a'.tmps[44]?.getD undef = .int .i64 (k : Int) := by have h := hdep 13 _ rfl (by kernel_rfl); simpa using h
            clear ho hfr hdep
            go_wp2_with fail
            exact ⟨rfl, _, rfl, Below.refl _ _, rfl⟩
          · intro o ho a' w' hb hfr hdep
            obtain rfl := Option.some.inj ho
            have g45 : a'.tmps[45]?.getD undef = .pointer (some ⟨b1, o1 + k * 6, none⟩) := by have h := hdep 14 _ rfl (by kernel_rfl); simpa using h
            clear ho hfr hdep
            go_wp2_with fail
            exact ⟨rfl, _, rfl, Below.refl _ _, rfl⟩
          · intro o ho a' w' hb hfr hdep
            obtain rfl := Option.some.inj ho
            have g46 : a'.tmps[46]?.getD undef = .pointer (some ⟨b1, o1 + k * 6 + 5, none⟩) := by have h := hdep 15 _ rfl (by kernel_rfl); simpa using h
            clear ho hfr hdep
            have hcl := cell_below x5 (hb4.trans (hb.mono hb4.size))
            go_wp2_with fail
            exact ⟨rfl, _, rfl, Below.refl _ _, rfl⟩
          · intro o ho a' w' hb hfr hdep
            obtain rfl := Option.some.inj ho
            have g32 : a'.tmps[32]?.getD undef = .agg #[.int .i64 p.1.dst.lang, .bool p.1.dst.num, .bool p.1.dst.wrd] := by have h := hdep 1 _ rfl (by kernel_rfl); simpa using h
            have g37 : a'.tmps[37]?.getD undef = .int .i64 p.1.len := by have h := hdep 6 _ rfl (by kernel_rfl); simpa using h
            have g42 : a'.tmps[42]?.getD undef = .slice p.2.1 p.2.2.1 p.2.2.2 := by have h := hdep 11 _ rfl (by kernel_rfl); simpa using h
            have g47 : a'.tmps[47]?.getD undef = .int .i64 p.1.rule := by have h := hdep 16 _ rfl (by kernel_rfl); simpa using h
            clear ho hfr hdep
            go_wp2_with fail
            exact ⟨rfl, _, rfl, Below.refl _ _, rfl⟩
          · intro o ho a' w' hb hfr hdep
            obtain rfl := Option.some.inj ho
            have g48 : a'.tmps[48]?.getD undef = .agg #[.int .i64 p.1.dst.lang, .bool p.1.dst.num, .bool p.1.dst.wrd, .int .i64 p.1.len, .slice p.2.1 p.2.2.1 p.2.2.2, .int .i64 p.1.rule] := by have h := hdep 17 _ rfl (by kernel_rfl); simpa using h
            clear ho hfr hdep
            go_wp2_with fail
            exact ⟨rfl, _, rfl, blo _ _, _, rfl, Sl.fresh _ _ 6 1 (stc p) rfl (by decide)⟩
        · intro g w5 hb5 hp5
          have p31 := hp5 0 _ rfl
          obtain ⟨b9, p49, hs9⟩ := hp5 18 _ rfl
          clear hp5
          simp at p31 p49
          simp only [List.drop_succ_cons, List.drop_zero, List.map_cons, List.map_nil, putAll, Act.put, List.setIfInBounds_toArray, List.set_cons_succ, List.set_cons_zero, List.cons_append, List.nil_append, p31, p49]
          clear p31 p49
          have hb45 := hb4.trans (hb5.mono hb4.size)
          have hbW := hb.trans (hb45.mono hb.size)
          have hO5 := hO.below hb45
          go_wp2_with (at_builtin; refine app_rst3 rfl _ _ rfl w w.heap.size ao k co _ rfl hO5 p _ _ rfl hs9 (by omega) hbW.size hbW ?_; intro a7 c7 w7 ho7 hb7)
          go_roundg (n - (k + 1))
          case measure => have := HG.out; omega
          case rel => exact ⟨k + 1, a7, c7, by omega, rfl, rfl, by go_num, hide (by rw [HT.out]; exact ho7), hb7⟩
    · obtain rfl : k = n := by omega
      have hSr := hS.below hb
      have hO := HO.out
      go_wp2_with fail
      go_ret
      have hpl := HPL.out
      have hnL := hS.n_eq
      rw [List.take_of_length_le (by omega)] at hO
      exact ⟨ao, co, ps, by rw [← hnL]; rfl, by rw [← hnL]; exact ⟨hO.sl, hSr.row, hSr.eq⟩, hb⟩

set_option maxRecDepth 100000 in
set_option maxHeartbeats 4000000 in
theorem ref_SameSteps (L : List Stp) (ps qs : List SH) (a a2 : Option Addr) (n c c2 : Nat) (hn : n ≤ 1000) (w : World) (hS : Stl w a n c ps L) (hS2 : Stl w a2 n c2 qs L) :
    Calls Try.prog 14 #[.slice a n c, .slice a2 n c2] w fun e w' => e = .returned (.bool true) ∧ Below w.heap.size w w' := by
  have HN := hide hS.n_eq
  go_enter Try.func14, Try.ntmps14
  go_wp2_with fail
  go_loopg [5] n (fun gh v w' => ∃ k : Nat, k ≤ n ∧ gh = n - k ∧ v = .int .i64 (k : Int) ∧ Below w.heap.size w w')
  case atStart => exact ⟨0, by omega, by omega, rfl, Below.refl _ _⟩
  case round =>
    obtain ⟨k, hk, hgk, rfl, hb⟩ := hrel
    have HG := hide hgk
    clear hgk
    by_cases hkl : k < n
    · obtain ⟨st, hst⟩ : ∃ st, L[k]? = some st := ⟨_, List.getElem?_eq_getElem (by have := HN.out; omega)⟩
      have hSr := hS.below hb
      have hSr2 := hS2.below hb
      obtain ⟨p, hp, hpst⟩ := st_get hSr.eq hst
      obtain ⟨q, hq, hqst⟩ := st_get hSr2.eq hst
      obtain ⟨b1, o1, hab, hb1, x0, x1, x2, x3, x4, x5⟩ := st_cells hSr hp
      obtain ⟨b2, o2, hab2, hb2, y0, y1, y2, y3, y4, y5⟩ := st_cells hSr2 hq
      have hp1 := hSr.row p (List.mem_of_getElem? hp)
      have hp2 := hSr2.row q (List.mem_of_getElem? hq)
      subst hab; subst hab2
      have hqp : q.1 = p.1 := by rw [hqst, hpst]
      rw [hqp] at y0 y1 y2 y3 y5
      have hc1 : p.1.cells = q.1.cells := by rw [hqp]
      have HD1 : Hid (∀ (j : Nat) (u : Value), ([.int .i64 p.1.dst.lang, .bool p.1.dst.num, .bool p.1.dst.wrd] : List Value)[j]? = some u → wr.cell? ⟨b1, o1 + k * 6 + j, none⟩ = some u) := hide (by
        intro j u hj
        rcases j with _ | _ | _ | j
        · cases hj; exact x0
        · cases hj; exact x1
        · cases hj; exact x2
        · cases hj)
      have HD2 : Hid (∀ (j : Nat) (u : Value), ([.int .i64 p.1.dst.lang, .bool p.1.dst.num, .bool p.1.dst.wrd] : List Value)[j]? = some u → wr.cell? ⟨b2, o2 + k * 6 + j, none⟩ = some u) := hide (by
        intro j u hj
        rcases j with _ | _ | _ | j
        · cases hj; exact y0
        · cases hj; exact y1
        · cases hj; exact y2
        · cases hj)
      have v1 : (p.1.dst.lang != p.1.dst.lang) = false := by simp
      have v2 : (p.1.dst.num != p.1.dst.num) = false := by simp
      have v3 : (p.1.dst.wrd != p.1.dst.wrd) = false := by simp
      have v4 : (p.1.len != p.1.len) = false := by simp
      have v5 : (p.1.rule != p.1.rule) = false := by simp
      clear hp hq hpst hqst hst hqp hSr hSr2 x0 x1 x2 y0 y1 y2
      have e1 : decide (k < n) = true := decide_eq_true hkl
      have e1' : decide ((k : Int) < (n : Int)) = true := decide_eq_true (by omega)
      go_wp2_with fail
      refine wp_region_free 50 [⟨0, 17, [17], fun vs _ => vs = [.slice (some ⟨b1, o1, none⟩) n c]⟩, ⟨1, 18, [18], fun vs _ => vs = [.int .i64 (k : Int)]⟩, ⟨2, 19, [19], fun vs _ => vs = [.pointer (some ⟨b1, o1 + k * 6, none⟩)]⟩, ⟨3, 20, [20], fun vs _ => vs = [.pointer (some ⟨b1, o1 + k * 6, none⟩)]⟩, ⟨4, 21, [21], fun vs _ => vs = [.agg #[.int .i64 p.1.dst.lang, .bool p.1.dst.num, .bool p.1.dst.wrd]]⟩, ⟨5, 22, [22], fun vs _ => vs = [.slice (some ⟨b2, o2, none⟩) n c2]⟩, ⟨6, 23, [23], fun vs _ => vs = [.int .i64 (k : Int)]⟩, ⟨7, 24, [24], fun vs _ => vs = [.pointer (some ⟨b2, o2 + k * 6, none⟩)]⟩, ⟨8, 25, [25], fun vs _ => vs = [.pointer (some ⟨b2, o2 + k * 6, none⟩)]⟩, ⟨9, 26, [26], fun vs _ => vs = [.agg #[.int .i64 p.1.dst.lang, .bool p.1.dst.num, .bool p.1.dst.wrd]]⟩, ⟨10, 27, [27], fun vs _ => vs = [.bool false]⟩, ⟨11, 28, [28], fun vs _ => vs = [.bool false]⟩, ⟨12, 29, [29], fun vs _ => vs = [.slice (some ⟨b1, o1, none⟩) n c]⟩, ⟨13, 30, [30], fun vs _ => vs = [.int .i64 (k : Int)]⟩, ⟨14, 31, [31], fun vs _ => vs = [.pointer (some ⟨b1, o1 + k * 6, none⟩)]⟩, ⟨15, 32, [32], fun vs _ => vs = [.pointer (some ⟨b1, o1 + k * 6 + 3, none⟩)]⟩, ⟨16, 33, [33], fun vs _ => vs = [.int .i64 p.1.len]⟩, ⟨17, 34, [34], fun vs _ => vs = [.slice (some ⟨b2, o2, none⟩) n c2]⟩, ⟨18, 35, [35], fun vs _ => vs = [.int .i64 (k : Int)]⟩, ⟨19, 36, [36], fun vs _ => vs = [.pointer (some ⟨b2, o2 + k * 6, none⟩)]⟩, ⟨20, 37, [37], fun vs _ => vs = [.pointer (some ⟨b2, o2 + k * 6 + 3, none⟩)]⟩, ⟨21, 38, [38], fun vs _ => vs = [.int .i64 p.1.len]⟩, ⟨22, 39, [39], fun vs _ => vs = [.bool false]⟩, ⟨23, 40, [40], fun vs _ => vs = [.bool false]⟩, ⟨24, 41, [41], fun vs _ => vs = [.bool false]⟩, ⟨25, 42, [42], fun vs _ => vs = [.slice (some ⟨b1, o1, none⟩) n c]⟩, ⟨26, 43, [43], fun vs _ => vs = [.int .i64 (k : Int)]⟩, ⟨27, 44, [44], fun vs _ => vs = [.pointer (some ⟨b1, o1 + k * 6, none⟩)]⟩, ⟨28, 45, [45], fun vs _ => vs = [.pointer (some ⟨b1, o1 + k * 6 + 5, none⟩)]⟩, ⟨29, 46, [46], fun vs _ => vs = [.int .i64 p.1.rule]⟩, ⟨30, 47, [47], fun vs _ => vs = [.slice (some ⟨b2, o2, none⟩) n c2]⟩, ⟨31, 48, [48], fun vs _ => vs = [.int .i64 (k : Int)]⟩, ⟨32, 49, [49], fun vs _ => vs = [.pointer (some ⟨b2, o2 + k * 6, none⟩)]⟩, ⟨33, 50, [50], fun vs _ => vs = [.pointer (some ⟨b2, o2 + k * 6 + 5, none⟩)]⟩, ⟨34, 51, [51], fun vs _ => vs = [.int .i64 p.1.rule]⟩, ⟨35, 52, [52], fun vs _ => vs = [.bool false]⟩, ⟨36, 53, [53], fun vs _ => vs = [.bool false]⟩, ⟨37, 54, [54], fun vs _ => vs = [.bool false]⟩, ⟨38, 55, [55], fun vs _ => vs = [.slice (some ⟨b1, o1, none⟩) n c]⟩, ⟨39, 56, [56], fun vs _ => vs = [.int .i64 (k : Int)]⟩, ⟨40, 57, [57], fun vs _ => vs = [.pointer (some ⟨b1, o1 + k * 6, none⟩)]⟩, ⟨41, 58, [58], fun vs _ => vs = [.pointer (some ⟨b1, o1 + k * 6 + 4, none⟩)]⟩, ⟨42, 59, [59], fun vs _ => vs = [.slice p.2.1 p.2.2.1 p.2.2.2]⟩, ⟨43, 60, [60], fun vs _ => vs = [.slice (some ⟨b2, o2, none⟩) n c2]⟩, ⟨44, 61, [61], fun vs _ => vs = [.int .i64 (k : Int)]⟩, ⟨45, 62, [62], fun vs _ => vs = [.pointer (some ⟨b2, o2 + k * 6, none⟩)]⟩, ⟨46, 63, [63], fun vs _ => vs = [.pointer (some ⟨b2, o2 + k * 6 + 4, none⟩)]⟩, ⟨47, 64, [64], fun vs _ => vs = [.slice q.2.1 q.2.2.1 q.2.2.2]⟩, ⟨48, 65, [65], fun vs _ => vs = [.bool true]⟩, ⟨49, 66, [66], fun vs _ => vs = [.bool false]⟩] (by kernel_rfl) (by kernel_rfl) ?_ ?_ ?_
      · simp only [All]
        refine ⟨fun _ _ _ _ h => h, fun _ _ _ _ h => h, fun _ _ _ _ h => h, fun _ _ _ _ h => h, fun _ _ _ _ h => h, fun _ _ _ _ h => h, fun _ _ _ _ h => h, fun _ _ _ _ h => h, fun _ _ _ _ h => h, fun _ _ _ _ h => h, fun _ _ _ _ h => h, fun _ _ _ _ h => h, fun _ _ _ _ h => h, fun _ _ _ _ h => h, fun _ _ _ _ h => h, fun _ _ _ _ h => h, fun _ _ _ _ h => h, fun _ _ _ _ h => h, fun _ _ _ _ h => h, fun _ _ _ _ h => h, fun _ _ _ _ h => h, fun _ _ _ _ h => h, fun _ _ _ _ h => h, fun _ _ _ _ h => h, fun _ _ _ _ h => h, fun _ _ _ _ h => h, fun _ _ _ _ h => h, fun _ _ _ _ h => h, fun _ _ _ _ h => h, fun _ _ _ _ h => h, fun _ _ _ _ h => h, fun _ _ _ _ h => h, fun _ _ _ _ h => h, fun _ _ _ _ h => h, fun _ _ _ _ h => h, fun _ _ _ _ h => h, fun _ _ _ _ h => h, fun _ _ _ _ h => h, fun _ _ _ _ h => h, fun _ _ _ _ h => h, fun _ _ _ _ h => h, fun _ _ _ _ h => h, fun _ _ _ _ h => h, fun _ _ _ _ h => h, fun _ _ _ _ h => h, fun _ _ _ _ h => h, fun _ _ _ _ h => h, fun _ _ _ _ h => h, fun _ _ _ _ h => h, fun _ _ _ _ h => h, trivial⟩
      · simp only [All]
        refine ⟨?_, ?_, ?_, ?_, ?_, ?_, ?_, ?_, ?_, ?_, ?_, ?_, ?_, ?_, ?_, ?_, ?_, ?_, ?_, ?_, ?_, ?_, ?_, ?_, ?_, ?_, ?_, ?_, ?_, ?_, ?_, ?_, ?_, ?_, ?_, ?_, ?_, ?_, ?_, ?_, ?_, ?_, ?_, ?_, ?_, ?_, ?_, ?_, ?_, ?_, trivial⟩
        · intro o ho a' w' hb hfr hdep
          obtain rfl := Option.some.inj ho
          have g0 : a'.tmps[0]?.getD undef = .slice (some ⟨b1, o1, none⟩) n c := by have h := hfr 0 (by kernel_rfl); simpa using h
          clear ho hfr hdep
          go_wp2_with fail
          exact ⟨rfl, _, rfl, Below.refl _ _, rfl⟩
        · intro o ho a' w' hb hfr hdep
          obtain rfl := Option.some.inj ho
          have g5 : a'.tmps[5]?.getD undef = .int .i64 (k : Int) := by have h := hfr 5 (by kernel_rfl); simpa using h
          clear ho hfr hdep
          go_wp2_with fail
          exact ⟨rfl, _, rfl, Below.refl _ _, rfl⟩
        · intro o ho a' w' hb hfr hdep
          obtain rfl := Option.some.inj ho
          have g17 : a'.tmps[17]?.getD undef = .slice (some ⟨b1, o1, none⟩) n c := by have h := hdep 0 _ rfl (by kernel_rfl); simpa using h
          have g18 : a'.tmps[18]?.getD undef = .int .i64 (k : Int) := by have h := hdep 1 _ rfl (by kernel_rfl); simpa using h
          clear ho hfr hdep
          go_wp2_with fail
          exact ⟨rfl, _, rfl, Below.refl _ _, rfl⟩
        · intro o ho a' w' hb hfr hdep
          obtain rfl := Option.some.inj ho
          have g19 : a'.tmps[19]?.getD undef = .pointer (some ⟨b1, o1 + k * 6, none⟩) := by have h := hdep 2 _ rfl (by kernel_rfl); simpa using h
          clear ho hfr hdep
          go_wp2_with fail
          exact ⟨rfl, _, rfl, Below.refl _ _, rfl⟩
        · intro o ho a' w' hb hfr hdep
          obtain rfl := Option.some.inj ho
          have g20 : a'.tmps[20]?.getD undef = .pointer (some ⟨b1, o1 + k * 6, none⟩) := by have h := hdep 3 _ rfl (by kernel_rfl); simpa using h
          clear ho hfr hdep
          refine load_struct 21 40 _ 3 size_rst _ Try.underlying40 ⟨b1, o1 + k * 6, none⟩ (by show a'.tmps.getD 20 undef = _; simpa using g20) [.int .i64 p.1.dst.lang, .bool p.1.dst.num, .bool p.1.dst.wrd] rfl (fun j u hj => by rw [Addr.add_lit]; exact cell_below (HD1.out j u hj) hb) ?_
          exact ⟨rfl, _, rfl, Below.refl _ _, rfl⟩
        · intro o ho a' w' hb hfr hdep
          obtain rfl := Option.some.inj ho
          have g1 : a'.tmps[1]?.getD undef = .slice (some ⟨b2, o2, none⟩) n c2 := by have h := hfr 1 (by kernel_rfl); simpa using h
          clear ho hfr hdep
          go_wp2_with fail
          exact ⟨rfl, _, rfl, Below.refl _ _, rfl⟩
        · intro o ho a' w' hb hfr hdep
          obtain rfl := Option.some.inj ho
          have g5 : a'.tmps[5]?.getD undef = .int .i64 (k : Int) := by have h := hfr 5 (by kernel_rfl); simpa using h
          clear ho hfr hdep
          go_wp2_with fail
          exact ⟨rfl, _, rfl, Below.refl _ _, rfl⟩
        · intro o ho a' w' hb hfr hdep
          obtain rfl := Option.some.inj ho
          have g22 : a'.tmps[22]?.getD undef = .slice (some ⟨b2, o2, none⟩) n c2 := by have h := hdep 5 _ rfl (by kernel_rfl); simpa using h
          have g23 : a'.tmps[23]?.getD undef = .int .i64 (k : Int) := by have h := hdep 6 _ rfl (by kernel_rfl); simpa using h
          clear ho hfr hdep
          go_wp2_with fail
          exact ⟨rfl, _, rfl, Below.refl _ _, rfl⟩
        · intro o ho a' w' hb hfr hdep
          obtain rfl := Option.some.inj ho
          have g24 : a'.tmps[24]?.getD undef = .pointer (some ⟨b2, o2 + k * 6, none⟩) := by have h := hdep 7 _ rfl (by kernel_rfl); simpa using h
          clear ho hfr hdep
          go_wp2_with fail
          exact ⟨rfl, _, rfl, Below.refl _ _, rfl⟩
        · intro o ho a' w' hb hfr hdep
          obtain rfl := Option.some.inj ho
          have g25 : a'.tmps[25]?.getD undef = .pointer (some ⟨b2, o2 + k * 6, none⟩) := by have h := hdep 8 _ rfl (by kernel_rfl); simpa using h
          clear ho hfr hdep
          refine load_struct 26 40 _ 3 size_rst _ Try.underlying40 ⟨b2, o2 + k * 6, none⟩ (by show a'.tmps.getD 25 undef = _; simpa using g25) [.int .i64 p.1.dst.lang, .bool p.1.dst.num, .bool p.1.dst.wrd] rfl (fun j u hj => by rw [Addr.add_lit]; exact cell_below (HD2.out j u hj) hb) ?_
          exact ⟨rfl, _, rfl, Below.refl _ _, rfl⟩
        · intro o ho a' w' hb hfr hdep
          obtain rfl := Option.some.inj ho
          have g21 : a'.tmps[21]?.getD undef = .agg #[.int .i64 p.1.dst.lang, .bool p.1.dst.num, .bool p.1.dst.wrd] := by have h := hdep 4 _ rfl (by kernel_rfl); simpa using h
          have g26 : a'.tmps[26]?.getD undef = .agg #[.int .i64 p.1.dst.lang, .bool p.1.dst.num, .bool p.1.dst.wrd] := by have h := hdep 9 _ rfl (by kernel_rfl); simpa using h
          clear ho hfr hdep
          go_wp2_with fail
          exact ⟨rfl, _, rfl, Below.refl _ _, rfl⟩
        · intro o ho a' w' hb hfr hdep
          obtain rfl := Option.some.inj ho
          have g27 : a'.tmps[27]?.getD undef = .bool false := by have h := hdep 10 _ rfl (by kernel_rfl); simpa using h
          clear ho hfr hdep
          go_wp2_with fail
          exact ⟨rfl, _, rfl, Below.refl _ _, rfl⟩
        · intro o ho a' w' hb hfr hdep
          obtain rfl := Option.some.inj ho
          have g0 : a'.tmps[0]?.getD undef = .slice (some ⟨b1, o1, none⟩) n c := by have h := hfr 0 (by kernel_rfl); simpa using h
          have g28 : a'.tmps[28]?.getD undef = .bool false := by have h := hdep 11 _ rfl (by kernel_rfl); simpa using h
          have q28 := opt_bool g28
          clear ho hfr hdep
          refine unguard_any (by simp [Region.wanted, yielded, q28]) ?_
          go_wp2_with fail
          exact ⟨rfl, _, rfl, Below.refl _ _, rfl⟩
        · intro o ho a' w' hb hfr hdep
          obtain rfl := Option.some.inj ho
          have g5 : a'.tmps[5]?.getD undef = .int .i64 (k : Int) := by have h := hfr 5 (by kernel_rfl); simpa using h
          have g28 : a'.tmps[28]?.getD undef = .bool false := by have h := hdep 11 _ rfl (by kernel_rfl); simpa using h
          have q28 := opt_bool g28
          clear ho hfr hdep
          refine unguard_any (by simp [Region.wanted, yielded, q28]) ?_
          go_wp2_with fail
          exact ⟨rfl, _, rfl, Below.refl _ _, rfl⟩
        · intro o ho a' w' hb hfr hdep
          obtain rfl := Option.some.inj ho
          have g29 : a'.tmps[29]?.getD undef = .slice (some ⟨b1, o1, none⟩) n c := by have h := hdep 12 _ rfl (by kernel_rfl); simpa using h
          have g30 : a'.tmps[30]?.getD undef = .int .i64 (k : Int) := by have h := hdep 13 _ rfl (by kernel_rfl); simpa using h
          have g28 : a'.tmps[28]?.getD undef = .bool false := by have h := hdep 11 _ rfl (by kernel_rfl); simpa using h
          have q28 := opt_bool g28
          clear ho hfr hdep
          refine unguard_any (by simp [Region.wanted, yielded, q28]) ?_
          go_wp2_with fail
          exact ⟨rfl, _, rfl, Below.refl _ _, rfl⟩
        · intro o ho a' w' hb hfr hdep
          obtain rfl := Option.some.inj ho
          have g31 : a'.tmps[31]?.getD undef = .pointer (some ⟨b1, o1 + k * 6, none⟩) := by have h := hdep 14 _ rfl (by kernel_rfl); simpa using h
          have g28 : a'.tmps[28]?.getD undef = .bool false := by have h := hdep 11 _ rfl (by kernel_rfl); simpa using h
          have q28 := opt_bool g28
          clear ho hfr hdep
          refine unguard_any (by simp [Region.wanted, yielded, q28]) ?_
          go_wp2_with fail
          exact ⟨rfl, _, rfl, Below.refl _ _, rfl⟩
        · intro o ho a' w' hb hfr hdep
          obtain rfl := Option.some.inj ho
          have g32 : a'.tmps[32]?.getD undef = .pointer (some ⟨b1, o1 + k * 6 + 3, none⟩) := by have h := hdep 15 _ rfl (by kernel_rfl); simpa using h
          have g28 : a'.tmps[28]?.getD undef = .bool false := by have h := hdep 11 _ rfl (by kernel_rfl); simpa using h
          have q28 := opt_bool g28
          clear ho hfr hdep
          refine unguard_any (by simp [Region.wanted, yielded, q28]) ?_
          have hcl := cell_below x3 hb
          go_wp2_with fail
          exact ⟨rfl, _, rfl, Below.refl _ _, rfl⟩
        · intro o ho a' w' hb hfr hdep
          obtain rfl := Option.some.inj ho
          have g1 : a'.tmps[1]?.getD undef = .slice (some ⟨b2, o2, none⟩) n c2 := by have h := hfr 1 (by kernel_rfl); simpa using h
          have g28 : a'.tmps[28]?.getD undef = .bool false := by have h := hdep 11 _ rfl (by kernel_rfl); simpa using h
          have q28 := opt_bool g28
          clear ho hfr hdep
          refine unguard_any (by simp [Region.wanted, yielded, q28]) ?_
          go_wp2_with fail
          exact ⟨rfl, _, rfl, Below.refl _ _, rfl⟩
        · intro o ho a' w' hb hfr hdep
          obtain rfl := Option.some.inj ho
          have g5 : a'.tmps[5]?.getD undef = .int .i64 (k : Int) := by have h := hfr 5 (by kernel_rfl); simpa using h
          have g28 : a'.tmps[28]?.getD undef = .bool false := by have h := hdep 11 _ rfl (by kernel_rfl); simpa using h
          have q28 := opt_bool g28
          clear ho hfr hdep
          refine unguard_any (by simp [Region.wanted, yielded, q28]) ?_
          go_wp2_with fail
          exact ⟨rfl, _, rfl, Below.refl _ _, rfl⟩
        · intro o ho a' w' hb hfr hdep
          obtain rfl := Option.some.inj ho
          have g34 : a'.tmps[34]?.getD undef = .slice (some ⟨b2, o2, none⟩) n c2 := by have h := hdep 17 _ rfl (by kernel_rfl); simpa using h
          have g35 : a'.tmps[35]?.getD undef = .int .i64 (k : Int) := by have h := hdep 18 _ rfl (by kernel_rfl); simpa using h
          have g28 : a'.tmps[28]?.getD undef = .bool false := by have h := hdep 11 _ rfl (by kernel_rfl); simpa using h
          have q28 := opt_bool g28
          clear ho hfr hdep
          refine unguard_any (by simp [Region.wanted, yielded, q28]) ?_
          go_wp2_with fail
          exact ⟨rfl, _, rfl, Below.refl _ _, rfl⟩
        · intro o ho a' w' hb hfr hdep
          obtain rfl := Option.some.inj ho
          have g36 : a'.tmps[36]?.getD undef = .pointer (some ⟨b2, o2 + k * 6, none⟩) := by have h := hdep 19 _ rfl (by kernel_rfl); simpa using h
          have g28 : a'.tmps[28]?.getD undef = .bool false := by have h := hdep 11 _ rfl (by kernel_rfl); simpa using h
          have q28 := opt_bool g28
          clear ho hfr hdep
          refine unguard_any (by simp [Region.wanted, yielded, q28]) ?_
          go_wp2_with fail
          exact ⟨rfl, _, rfl, Below.refl _ _, rfl⟩
        · intro o ho a' w' hb hfr hdep
          obtain rfl := Option.some.inj ho
          have g37 : a'.tmps[37]?.getD undef = .pointer (some ⟨b2, o2 + k * 6 + 3, none⟩) := by have h := hdep 20 _ rfl (by kernel_rfl); simpa using h
          have g28 : a'.tmps[28]?.getD undef = .bool false := by have h := hdep 11 _ rfl (by kernel_rfl); simpa using h
          have q28 := opt_bool g28
          clear ho hfr hdep
          refine unguard_any (by simp [Region.wanted, yielded, q28]) ?_
          have hcl := cell_below y3 hb
          go_wp2_with fail
          exact ⟨rfl, _, rfl, Below.refl _ _, rfl⟩
        · intro o ho a' w' hb hfr hdep
          obtain rfl := Option.some.inj ho
          have g33 : a'.tmps[33]?.getD undef = .int .i64 p.1.len := by have h := hdep 16 _ rfl (by kernel_rfl); simpa using h
          have g38 : a'.tmps[38]?.getD undef = .int .i64 p.1.len := by have h := hdep 21 _ rfl (by kernel_rfl); simpa using h
          have g28 : a'.tmps[28]?.getD undef = .bool false := by have h := hdep 11 _ rfl (by kernel_rfl); simpa using h
          have q28 := opt_bool g28
          clear ho hfr hdep
          refine unguard_any (by simp [Region.wanted, yielded, q28]) ?_
          go_wp2_with fail
          exact ⟨rfl, _, rfl, Below.refl _ _, rfl⟩
        · intro o ho a' w' hb hfr hdep
          obtain rfl := Option.some.inj ho
          have g28 : a'.tmps[28]?.getD undef = .bool false := by have h := hdep 11 _ rfl (by kernel_rfl); simpa using h
          have g39 : a'.tmps[39]?.getD undef = .bool false := by have h := hdep 22 _ rfl (by kernel_rfl); simpa using h
          clear ho hfr hdep
          go_wp2_with fail
          exact ⟨rfl, _, rfl, Below.refl _ _, rfl⟩
        · intro o ho a' w' hb hfr hdep
          obtain rfl := Option.some.inj ho
          have g40 : a'.tmps[40]?.getD undef = .bool false := by have h := hdep 23 _ rfl (by kernel_rfl); simpa using h
          clear ho hfr hdep
          go_wp2_with fail
          exact ⟨rfl, _, rfl, Below.refl _ _, rfl⟩
        · intro o ho a' w' hb hfr hdep
          obtain rfl := Option.some.inj ho
          have g0 : a'.tmps[0]?.getD undef = .slice (some ⟨b1, o1, none⟩) n c := by have h := hfr 0 (by kernel_rfl); simpa using h
          have g41 : a'.tmps[41]?.getD undef = .bool false := by have h := hdep 24 _ rfl (by kernel_rfl); simpa using h
          have q41 := opt_bool g41
          clear ho hfr hdep
          refine unguard_any (by simp [Region.wanted, yielded, q41]) ?_
          go_wp2_with fail
          exact ⟨rfl, _, rfl, Below.refl _ _, rfl⟩
        · intro o ho a' w' hb hfr hdep
          obtain rfl := Option.some.inj ho
          have g5 : a'.tmps[5]?.getD undef = .int .i64 (k : Int) := by have h := hfr 5 (by kernel_rfl); simpa using h
          have g41 : a'.tmps[41]?.getD undef = .bool false := by have h := hdep 24 _ rfl (by kernel_rfl); simpa using h
          have q41 := opt_bool g41
          clear ho hfr hdep
          refine unguard_any (by simp [Region.wanted, yielded, q41]) ?_
          go_wp2_with fail
          exact ⟨rfl, _, rfl, Below.refl _ _, rfl⟩
        · intro o ho a' w' hb hfr hdep
          obtain rfl := Option.some.inj ho
          have g42 : a'.tmps[42]?.getD undef = .slice (some ⟨b1, o1, none⟩) n c := by have h := hdep 25 _ rfl (by kernel_rfl); simpa using h
          have g43 : a'.tmps[43]?.getD undef = .int .i64 (k : Int) := by have h := hdep 26 _ rfl (by kernel_rfl); simpa using h
          have g41 : a'.tmps[41]?.getD undef = .bool false := by have h := hdep 24 _ rfl (by kernel_rfl); simpa using h
          have q41 := opt_bool g41
          clear ho hfr hdep
          refine unguard_any (by simp [Region.wanted, yielded, q41]) ?_
          go_wp2_with fail
          exact ⟨rfl, _, rfl, Below.refl _ _, rfl⟩
        · intro o ho a' w' hb hfr hdep
          obtain rfl := Option.some.inj ho
          have g44 : a'.tmps[44]?.getD undef = .pointer (some ⟨b1, o1 + k * 6, none⟩) := by have h := hdep 27 _ rfl (by kernel_rfl); simpa using h
          have g41 : a'.tmps[41]?.getD undef = .bool false := by have h := hdep 24 _ rfl (by kernel_rfl); simpa using h
          have q41 := opt_bool g41
          clear ho hfr hdep
          refine unguard_any (by simp [Region.wanted, yielded, q41]) ?_
          go_wp2_with fail
          exact ⟨rfl, _, rfl, Below.refl _ _, rfl⟩
        · intro o ho a' w' hb hfr hdep
          obtain rfl := Option.some.inj ho
          have g45 : a'.tmps[45]?.getD undef = .pointer (some ⟨b1, o1 + k * 6 + 5, none⟩) := by have h := hdep 28 _ rfl (by kernel_rfl); simpa using h
          have g41 : a'.tmps[41]?.getD undef = .bool false := by have h := hdep 24 _ rfl (by kernel_rfl); simpa using h
          have q41 := opt_bool g41
          clear ho hfr hdep
          refine unguard_any (by simp [Region.wanted, yielded, q41]) ?_
          have hcl := cell_below x5 hb
          go_wp2_with fail
          exact ⟨rfl, _, rfl, Below.refl _ _, rfl⟩
        · intro o ho a' w' hb hfr hdep
          obtain rfl := Option.some.inj ho
          have g1 : a'.tmps[1]?.getD undef = .slice (some ⟨b2, o2, none⟩) n c2 := by have h := hfr 1 (by kernel_rfl); simpa using h
          have g41 : a'.tmps[41]?.getD undef = .bool false := by have h := hdep 24 _ rfl (by kernel_rfl); simpa using h
          have q41 := opt_bool g41
          clear ho hfr hdep
          refine unguard_any (by simp [Region.wanted, yielded, q41]) ?_
          go_wp2_with fail
          exact ⟨rfl, _, rfl, Below.refl _ _, rfl⟩
        · intro o ho a' w' hb hfr hdep
          obtain rfl := Option.some.inj ho
          have g5 : a'.tmps[5]?.getD undef = .int .i64 (k : Int) := by have h := hfr 5 (by kernel_rfl); simpa using h
          have g41 : a'.tmps[41]?.getD undef = .bool false := by have h := hdep 24 _ rfl (by kernel_rfl); simpa using h
          have q41 := opt_bool g41
          clear ho hfr hdep
          refine unguard_any (by simp [Region.wanted, yielded, q41]) ?_
          go_wp2_with fail
          exact ⟨rfl, _, rfl, Below.refl _ _, rfl⟩
        · intro o ho a' w' hb hfr hdep
          obtain rfl := Option.some.inj ho
          have g47 : a'.tmps[47]?.getD undef = .slice (some ⟨b2, o2, none⟩) n c2 := by have h := hdep 30 _ rfl (by kernel_rfl); simpa using h
          have g48 : a'.tmps[48]?.getD undef = .int .i64 (k : Int) := by have h := hdep 31 _ rfl (by kernel_rfl); simpa using h
          have g41 : a'.tmps[41]?.getD undef = .bool false := by have h := hdep 24 _ rfl (by kernel_rfl); simpa using h
          have q41 := opt_bool g41
          clear ho hfr hdep
          refine unguard_any (by simp [Region.wanted, yielded, q41]) ?_
          go_wp2_with fail
          exact ⟨rfl, _, rfl, Below.refl _ _, rfl⟩
        · intro o ho a' w' hb hfr hdep
          obtain rfl := Option.some.inj ho
          have g49 : a'.tmps[49]?.getD undef = .pointer (some ⟨b2, o2 + k * 6, none⟩) := by have h := hdep 32 _ rfl (by kernel_rfl); simpa using h
          have g41 : a'.tmps[41]?.getD undef = .bool false := by have h := hdep 24 _ rfl (by kernel_rfl); simpa using h
          have q41 := opt_bool g41
          clear ho hfr hdep
          refine unguard_any (by simp [Region.wanted, yielded, q41]) ?_
          go_wp2_with fail
          exact ⟨rfl, _, rfl, Below.refl _ _, rfl⟩
        · intro o ho a' w' hb hfr hdep
          obtain rfl := Option.some.inj ho
          have g50 : a'.tmps[50]?.getD undef = .pointer (some ⟨b2, o2 + k * 6 + 5, none⟩) := by have h := hdep 33 _ rfl (by kernel_rfl); simpa using h
          have g41 : a'.tmps[41]?.getD undef = .bool false := by have h := hdep 24 _ rfl (by kernel_rfl); simpa using h
          have q41 := opt_bool g41
          clear ho hfr hdep
          refine unguard_any (by simp [Region.wanted, yielded, q41]) ?_
          have hcl := cell_below y5 hb
          go_wp2_with fail
          exact ⟨rfl, _, rfl, Below.refl _ _, rfl⟩
        · intro o ho a' w' hb hfr hdep
          obtain rfl := Option.some.inj ho
          have g46 : a'.tmps[46]?.getD undef = .int .i64 p.1.rule := by have h := hdep 29 _ rfl (by kernel_rfl); simpa using h
          have g51 : a'.tmps[51]?.getD undef = .int .i64 p.1.rule := by have h := hdep 34 _ rfl (by kernel_rfl); simpa using h
          have g41 : a'.tmps[41]?.getD undef = .bool false := by have h := hdep 24 _ rfl (by kernel_rfl); simpa using h
          have q41 := opt_bool g41
          clear ho hfr hdep
          refine unguard_any (by simp [Region.wanted, yielded, q41]) ?_
          go_wp2_with fail
          exact ⟨rfl, _, rfl, Below.refl _ _, rfl⟩
        · intro o ho a' w' hb hfr hdep
          obtain rfl := Option.some.inj ho
          have g41 : a'.tmps[41]?.getD undef = .bool false := by have h := hdep 24 _ rfl (by kernel_rfl); simpa using h
          have g52 : a'.tmps[52]?.getD undef = .bool false := by have h := hdep 35 _ rfl (by kernel_rfl); simpa using h
          clear ho hfr hdep
          go_wp2_with fail
          exact ⟨rfl, _, rfl, Below.refl _ _, rfl⟩
        · intro o ho a' w' hb hfr hdep
          obtain rfl := Option.some.inj ho
          have g53 : a'.tmps[53]?.getD undef = .bool false := by have h := hdep 36 _ rfl (by kernel_rfl); simpa using h
          clear ho hfr hdep
          go_wp2_with fail
          exact ⟨rfl, _, rfl, Below.refl _ _, rfl⟩
        · intro o ho a' w' hb hfr hdep
          obtain rfl := Option.some.inj ho
          have g0 : a'.tmps[0]?.getD undef = .slice (some ⟨b1, o1, none⟩) n c := by have h := hfr 0 (by kernel_rfl); simpa using h
          have g54 : a'.tmps[54]?.getD undef = .bool false := by have h := hdep 37 _ rfl (by kernel_rfl); simpa using h
          have q54 := opt_bool g54
          clear ho hfr hdep
          refine unguard_any (by simp [Region.wanted, yielded, q54]) ?_
          go_wp2_with fail
          exact ⟨rfl, _, rfl, Below.refl _ _, rfl⟩
        · intro o ho a' w' hb hfr hdep
          obtain rfl := Option.some.inj ho
          have g5 : a'.tmps[5]?.getD undef = .int .i64 (k : Int) := by have h := hfr 5 (by kernel_rfl); simpa using h
          have g54 : a'.tmps[54]?.getD undef = .bool false := by have h := hdep 37 _ rfl (by kernel_rfl); simpa using h
          have q54 := opt_bool g54
          clear ho hfr hdep
          refine unguard_any (by simp [Region.wanted, yielded, q54]) ?_
          go_wp2_with fail
          exact ⟨rfl, _, rfl, Below.refl _ _, rfl⟩
        · intro o ho a' w' hb hfr hdep
          obtain rfl := Option.some.inj ho
          have g55 : a'.tmps[55]?.getD undef = .slice (some ⟨b1, o1, none⟩) n c := by have h := hdep 38 _ rfl (by kernel_rfl); simpa using h
          have g56 : a'.tmps[56]?.getD undef = .int .i64 (k : Int) := by have h := hdep 39 _ rfl (by kernel_rfl); simpa using h
          have g54 : a'.tmps[54]?.getD undef = .bool false := by have h := hdep 37 _ rfl (by kernel_rfl); simpa using h
          have q54 := opt_bool g54
          clear ho hfr hdep
          refine unguard_any (by simp [Region.wanted, yielded, q54]) ?_
          go_wp2_with fail
          exact ⟨rfl, _, rfl, Below.refl _ _, rfl⟩
        · intro o ho a' w' hb hfr hdep
          obtain rfl := Option.some.inj ho
          have g57 : a'.tmps[57]?.getD undef = .pointer (some ⟨b1, o1 + k * 6, none⟩) := by have h := hdep 40 _ rfl (by kernel_rfl); simpa using h
          have g54 : a'.tmps[54]?.getD undef = .bool false := by have h := hdep 37 _ rfl (by kernel_rfl); simpa using h
          have q54 := opt_bool g54
          clear ho hfr hdep
          refine unguard_any (by simp [Region.wanted, yielded, q54]) ?_
          go_wp2_with fail
          exact ⟨rfl, _, rfl, Below.refl _ _, rfl⟩
        · intro o ho a' w' hb hfr hdep
          obtain rfl := Option.some.inj ho
          have g58 : a'.tmps[58]?.getD undef = .pointer (some ⟨b1, o1 + k * 6 + 4, none⟩) := by have h := hdep 41 _ rfl (by kernel_rfl); simpa using h
          have g54 : a'.tmps[54]?.getD undef = .bool false := by have h := hdep 37 _ rfl (by kernel_rfl); simpa using h
          have q54 := opt_bool g54
          clear ho hfr hdep
          refine unguard_any (by simp [Region.wanted, yielded, q54]) ?_
          have hcl := cell_below x4 hb
          go_wp2_with fail
          exact ⟨rfl, _, rfl, Below.refl _ _, rfl⟩
        · intro o ho a' w' hb hfr hdep
          obtain rfl := Option.some.inj ho
          have g1 : a'.tmps[1]?.getD undef = .slice (some ⟨b2, o2, none⟩) n c2 := by have h := hfr 1 (by kernel_rfl); simpa using h
          have g54 : a'.tmps[54]?.getD undef = .bool false := by have h := hdep 37 _ rfl (by kernel_rfl); simpa using h
          have q54 := opt_bool g54
          clear ho hfr hdep
          refine unguard_any (by simp [Region.wanted, yielded, q54]) ?_
          go_wp2_with fail
          exact ⟨rfl, _, rfl, Below.refl _ _, rfl⟩
        · intro o ho a' w' hb hfr hdep
          obtain rfl := Option.some.inj ho
          have g5 : a'.tmps[5]?.getD undef = .int .i64 (k : Int) := by have h := hfr 5 (by kernel_rfl); simpa using h
          have g54 : a'.tmps[54]?.getD undef = .bool false := by have h := hdep 37 _ rfl (by kernel_rfl); simpa using h
          have q54 := opt_bool g54
          clear ho hfr hdep
          refine unguard_any (by simp [Region.wanted, yielded, q54]) ?_
          go_wp2_with fail
          exact ⟨rfl, _, rfl, Below.refl _ _, rfl⟩
        · intro o ho a' w' hb hfr hdep
          obtain rfl := Option.some.inj ho
          have g60 : a'.tmps[60]?.getD undef = .slice (some ⟨b2, o2, none⟩) n c2 := by have h := hdep 43 _ rfl (by kernel_rfl); simpa using h
          have g61 : a'.tmps[61]?.getD undef = .int .i64 (k : Int) := by have h := hdep 44 _ rfl (by kernel_rfl); simpa using h
          have g54 : a'.tmps[54]?.getD undef = .bool false := by have h := hdep 37 _ rfl (by kernel_rfl); simpa using h
          have q54 := opt_bool g54
          clear ho hfr hdep
          refine unguard_any (by simp [Region.wanted, yielded, q54]) ?_
          go_wp2_with fail
          exact ⟨rfl, _, rfl, Below.refl _ _, rfl⟩
        · intro o ho a' w' hb hfr hdep
          obtain rfl := Option.some.inj ho
          have g62 : a'.tmps[62]?.getD undef = .pointer (some ⟨b2, o2 + k * 6, none⟩) := by have h := hdep 45 _ rfl (by kernel_rfl); simpa using h
          have g54 : a'.tmps[54]?.getD undef = .bool false := by have h := hdep 37 _ rfl (by kernel_rfl); simpa using h
          have q54 := opt_bool g54
          clear ho hfr hdep
          refine unguard_any (by simp [Region.wanted, yielded, q54]) ?_
          go_wp2_with fail
          exact ⟨rfl, _, rfl, Below.refl _ _, rfl⟩
        · intro o ho a' w' hb hfr hdep
          obtain rfl := Option.some.inj ho
          have g63 : a'.tmps[63]?.getD undef = .pointer (some ⟨b2, o2 + k * 6 + 4, none⟩) := by have h := hdep 46 _ rfl (by kernel_rfl); simpa using h
          have g54 : a'.tmps[54]?.getD undef = .bool false := by have h := hdep 37 _ rfl (by kernel_rfl); simpa using h
          have q54 := opt_bool g54
          clear ho hfr hdep
          refine unguard_any (by simp [Region.wanted, yielded, q54]) ?_
          have hcl := cell_below y4 hb
          go_wp2_with fail
          exact ⟨rfl, _, rfl, Below.refl _ _, rfl⟩
        · intro o ho a' w' hb hfr hdep
          obtain rfl := Option.some.inj ho
          have g59 : a'.tmps[59]?.getD undef = .slice p.2.1 p.2.2.1 p.2.2.2 := by have h := hdep 42 _ rfl (by kernel_rfl); simpa using h
          have g64 : a'.tmps[64]?.getD undef = .slice q.2.1 q.2.2.1 q.2.2.2 := by have h := hdep 47 _ rfl (by kernel_rfl); simpa using h
          have g54 : a'.tmps[54]?.getD undef = .bool false := by have h := hdep 37 _ rfl (by kernel_rfl); simpa using h
          have q54 := opt_bool g54
          clear ho hfr hdep
          refine unguard_any (by simp [Region.wanted, yielded, q54]) ?_
          go_wp2_with fail
          refine (same_at hc1 (hp1.below hb) (hp2.below hb)).mono ?_
          rintro e w2 ⟨rfl, h2⟩
          go_wp2_with fail
          exact ⟨rfl, _, rfl, h2, rfl⟩
        · intro o ho a' w' hb hfr hdep
          obtain rfl := Option.some.inj ho
          have g65 : a'.tmps[65]?.getD undef = .bool true := by have h := hdep 48 _ rfl (by kernel_rfl); simpa using h
          have g54 : a'.tmps[54]?.getD undef = .bool false := by have h := hdep 37 _ rfl (by kernel_rfl); simpa using h
          have q54 := opt_bool g54
          clear ho hfr hdep
          refine unguard_any (by simp [Region.wanted, yielded, q54]) ?_
          go_wp2_with fail
          exact ⟨rfl, _, rfl, Below.refl _ _, rfl⟩
      · intro g w3 hb3 hp3
        have p54 := hp3 37 _ rfl
        have p66 := hp3 49 _ rfl
        clear hp3
        simp at p54 p66
        simp only [List.drop_succ_cons, List.drop_zero, List.map_cons, List.map_nil, putAll, Act.put, List.setIfInBounds_toArray, List.set_cons_succ, List.set_cons_zero, List.cons_append, List.nil_append, p54, p66]
        clear p54 p66
        have hbz := hb.trans (hb3.mono hb.size)
        go_wp2_with fail
        go_roundg (n - (k + 1))
        case measure => have := HG.out; omega
        case rel => exact ⟨k + 1, by omega, rfl, by go_num, hbz⟩
    · obtain rfl : k = n := by omega
      go_wp2_with fail
      go_ret
      exact ⟨rfl, hb⟩
end Go.Proofs.Ytkjcbneanaeleaa
end

/- the text B42 -/
section
/- Chapter 06: the reference's Steps; own, raw. -/
namespace Go.Proofs.Ytkjcbneanaeleaa
open Go.RowKit Go.Dx
theorem agg_tst : IsAgg Try.prog 47 := .inr ⟨_, Try.underlying47⟩
theorem ref_Next (H : TH) (t : Ta) (s : St) (l : List Sy) (a : Option Addr) (n c : Nat) (p : Nat) (x : Sy) (hx : l[p]? = some x) (hll : l.length ≤ 1000000) (hv : validE t = 0) (hxl : x.lang = 0 ∨ x.lang = 1) (w : World) (hT : TaIs w H t) (hs : Sl w 2 a n c (l.flatMap sc)) :
    Calls Try.prog 55 #[H.v, .agg #[.int .i64 s.lang, .bool s.num, .bool s.wrd], .slice a n c, .int .i64 (p : Int)] w (StepsR (nextL t s l p x) w) := by
  unfold nextL
  by_cases hne : x.lang ≠ s.lang
  · rw [if_pos hne]
    exact ref_Next_sw H t s l a n c p x hx hll hne w hT hs
  · rw [if_neg hne]
    have heq : x.lang = s.lang := Classical.byContradiction hne
    cases hd : isD x.c
    · rw [if_neg (by simp)]
      exact ref_Next_ru H t s l a n c p x hx hll hv heq hxl hd w hT hs
    · rw [if_pos rfl]
      exact ref_Next_dg H t s l a n c p x hx hll hv heq hd w hT hs
set_option maxRecDepth 100000 in
set_option maxHeartbeats 4000000 in
theorem ref6_Steps (H : TH) (t : Ta) (s : St) (l : List Sy) (a : Option Addr) (n c : Nat) (i : Int) (hll : l.length ≤ 1000000) (w : World) (hT : TaIs w H t) (hs : Sl w 2 a n c (l.flatMap sc)) :
    Calls Try.prog 18 #[H.v, .agg #[.int .i64 s.lang, .bool s.num, .bool s.wrd], .slice a n c, .int .i64 i] w (StepsR (stepsL t s l i) w) := by
  have hV := fun w' (hb : Below w.heap.size w w') => ref6_Valid H t w' (hT.below hb)
  have hC := fun w' (hb : Below w.heap.size w w') => ref_Good l a n c w' (hs.below hb)
  obtain rfl := hs.nf sc_len (by decide)
  obtain ⟨LL, HLL⟩ : ∃ LL, Hid (stepsL t s l i = LL) := ⟨_, hide rfl⟩
  rw [HLL.out]
  obtain ⟨⟨a0, n0, c0⟩, ⟨a1, n1, c1⟩, ps0, ps1, ⟨ad, nd, cd⟩, ⟨ac, nc, cc⟩, ⟨an, nn, cn⟩, ⟨af, nf, cf⟩, ⟨aw, nw, cw⟩⟩ := H
  obtain ⟨sg, sn, si⟩ := s
  unfold TH.v at hV ⊢
  simp only [hdv] at hV ⊢
  have hbb : Below w.heap.size w ((w.alloc (.cells #[.slice a0 n0 c0, .slice a1 n1 c1, .slice ad nd cd, .slice ac nc cc, .slice an nn cn, .slice af nf cf, .slice aw nw cw] 28)).alloc (.cells #[.int .i64 sg, .bool sn, .bool si] 40)) := (blo w _).trans ((blo _ _).mono (by simp))
  have X4 : Box ((w.alloc (.cells #[.slice a0 n0 c0, .slice a1 n1 c1, .slice ad nd cd, .slice ac nc cc, .slice an nn cn, .slice af nf cf, .slice aw nw cw] 28)).alloc (.cells #[.int .i64 sg, .bool sn, .bool si] 40)) w.heap.size 28 [.slice a0 n0 c0, .slice a1 n1 c1, .slice ad nd cd, .slice ac nc cc, .slice an nn cn, .slice af nf cf, .slice aw nw cw] := (Box.new w 28 #[.slice a0 n0 c0, .slice a1 n1 c1, .slice ad nd cd, .slice ac nc cc, .slice an nn cn, .slice af nf cf, .slice aw nw cw]).alloc _
  have X5 : Box ((w.alloc (.cells #[.slice a0 n0 c0, .slice a1 n1 c1, .slice ad nd cd, .slice ac nc cc, .slice an nn cn, .slice af nf cf, .slice aw nw cw] 28)).alloc (.cells #[.int .i64 sg, .bool sn, .bool si] 40)) (w.heap.size + 1) 40 [.int .i64 sg, .bool sn, .bool si] := by
    have := Box.new (w.alloc (.cells #[.slice a0 n0 c0, .slice a1 n1 c1, .slice ad nd cd, .slice ac nc cc, .slice an nn cn, .slice af nf cf, .slice aw nw cw] 28)) 40 #[.int .i64 sg, .bool sn, .bool si]
    rwa [show (w.alloc (.cells #[.slice a0 n0 c0, .slice a1 n1 c1, .slice ad nd cd, .slice ac nc cc, .slice an nn cn, .slice af nf cf, .slice aw nw cw] 28)).heap.size = w.heap.size + 1 by simp] at this
  have HBB := hide hbb
  have HX4 := hide X4
  have HX5 := hide X5
  have HTT := hide hT
  have HSS := hide hs
  clear hbb X4 X5 hT hs
  obtain ⟨E, HE⟩ : ∃ E, Hid (validE t = E) := ⟨_, hide rfl⟩
  rw [HE.out] at hV
  by_cases hE : E ≠ 0
  · have d0 : (E != 0) = true := by simpa using hE
    have hEE : validE t ≠ 0 := by rw [HE.out]; exact hE
    have HEE := hide hEE
    clear hE hEE hC
    have HNO : Hid (LL = []) := hide (by rw [← HLL.out]; exact steps_none (.inl fun h => HEE.out h.1))
    go_enter Try.func18, Try.ntmps18
    go_wp2_with (first | (go_at_call 11; refine (hV _ HBB.out).mono ?_; rintro e w3 ⟨rfl, hb3⟩; have k5 : w3.cell? ⟨w.heap.size + 1, 0, none⟩ = some (.int .i64 sg) := (HX5.out.under hb3).at_ rfl; have hbw3 := HBB.out.trans (hb3.mono HBB.out.size)))
    go_ret
    rw [HNO.out]
    exact ⟨none, 0, [], rfl, Stl.nil _, hbw3⟩
  obtain rfl : E = 0 := Classical.byContradiction hE
  clear hE
  by_cases h1 : sg < 0
  · have d1 : decide (sg < 0) = true := decide_eq_true h1
    have H1 := hide h1
    clear h1 hC
    have HNO : Hid (LL = []) := hide (by rw [← HLL.out]; exact steps_none (.inl fun h => by have h1 := H1.out; have h2 : sg = 0 ∨ sg = 1 := h.2.1; omega))
    go_enter Try.func18, Try.ntmps18
    go_wp2_with (first | (go_at_call 11; refine (hV _ HBB.out).mono ?_; rintro e w3 ⟨rfl, hb3⟩; have k5 : w3.cell? ⟨w.heap.size + 1, 0, none⟩ = some (.int .i64 sg) := (HX5.out.under hb3).at_ rfl; have hbw3 := HBB.out.trans (hb3.mono HBB.out.size)))
    go_ret
    rw [HNO.out]
    exact ⟨none, 0, [], rfl, Stl.nil _, hbw3⟩
  have d1 : decide (sg < 0) = false := decide_eq_false h1
  by_cases h2 : 1 < sg
  · have d2 : decide (1 < sg) = true := decide_eq_true h2
    have H1 := hide h2
    clear h2 h1 hC
    have HNO : Hid (LL = []) := hide (by rw [← HLL.out]; exact steps_none (.inl fun h => by have h1 := H1.out; have h2 : sg = 0 ∨ sg = 1 := h.2.1; omega))
    go_enter Try.func18, Try.ntmps18
    go_wp2_with (first | (go_at_call 11; refine (hV _ HBB.out).mono ?_; rintro e w3 ⟨rfl, hb3⟩; have k5 : w3.cell? ⟨w.heap.size + 1, 0, none⟩ = some (.int .i64 sg) := (HX5.out.under hb3).at_ rfl; have hbw3 := HBB.out.trans (hb3.mono HBB.out.size)))
    go_ret
    rw [HNO.out]
    exact ⟨none, 0, [], rfl, Stl.nil _, hbw3⟩
  have d2 : decide (1 < sg) = false := decide_eq_false h2
  have hsg : sg = 0 ∨ sg = 1 := by omega
  have HSG := hide hsg
  clear h1 h2 hsg
  cases hg : goodS l
  · rw [hg] at hC
    have H1 := hide hg
    clear hg
    have HNO : Hid (LL = []) := hide (by rw [← HLL.out]; exact steps_none (.inl fun h => by rw [H1.out] at h; exact absurd h.2.2.2 (by simp)))
    go_enter Try.func18, Try.ntmps18
    go_wp2_with (first | (go_at_call 11; refine (hV _ HBB.out).mono ?_; rintro e w3 ⟨rfl, hb3⟩; have k5 : w3.cell? ⟨w.heap.size + 1, 0, none⟩ = some (.int .i64 sg) := (HX5.out.under hb3).at_ rfl; have hbw3 := HBB.out.trans (hb3.mono HBB.out.size)) | (go_at_call 54; refine (hC _ hbw3).mono ?_; rintro e w4 ⟨rfl, rfl⟩))
    go_ret
    rw [HNO.out]
    exact ⟨none, 0, [], rfl, Stl.nil _, hbw3⟩
  rw [hg] at hC
  have HGD := hide hg
  clear hg
  by_cases h3 : i < 0
  · have d3 : decide (i < 0) = true := decide_eq_true h3
    have H1 := hide h3
    clear h3
    have HNO : Hid (LL = []) := hide (by rw [← HLL.out]; exact steps_none (.inl fun h => by have h1 := H1.out; omega))
    go_enter Try.func18, Try.ntmps18
    go_wp2_with (first | (go_at_call 11; refine (hV _ HBB.out).mono ?_; rintro e w3 ⟨rfl, hb3⟩; have k5 : w3.cell? ⟨w.heap.size + 1, 0, none⟩ = some (.int .i64 sg) := (HX5.out.under hb3).at_ rfl; have hbw3 := HBB.out.trans (hb3.mono HBB.out.size)) | (go_at_call 54; refine (hC _ hbw3).mono ?_; rintro e w4 ⟨rfl, rfl⟩))
    go_ret
    rw [HNO.out]
    exact ⟨none, 0, [], rfl, Stl.nil _, hbw3⟩
  have d3 : decide (i < 0) = false := decide_eq_false h3
  by_cases h4 : (l.length : Int) ≤ i
  · have d4 : decide ((l.length : Int) ≤ i) = true := decide_eq_true h4
    have H1 := hide h4
    clear h4 h3
    have HNO : Hid (LL = []) := hide (by rw [← HLL.out]; exact steps_none (.inr H1.out))
    go_enter Try.func18, Try.ntmps18
    go_wp2_with (first | (go_at_call 11; refine (hV _ HBB.out).mono ?_; rintro e w3 ⟨rfl, hb3⟩; have k5 : w3.cell? ⟨w.heap.size + 1, 0, none⟩ = some (.int .i64 sg) := (HX5.out.under hb3).at_ rfl; have hbw3 := HBB.out.trans (hb3.mono HBB.out.size)) | (go_at_call 54; refine (hC _ hbw3).mono ?_; rintro e w4 ⟨rfl, rfl⟩))
    go_ret
    rw [HNO.out]
    exact ⟨none, 0, [], rfl, Stl.nil _, hbw3⟩
  obtain ⟨p, rfl⟩ : ∃ p : Nat, i = (p : Int) := ⟨i.toNat, by omega⟩
  have hpl : p < l.length := by omega
  have d4 : decide ((l.length : Int) ≤ (p : Int)) = false := decide_eq_false h4
  have d4' : decide (l.length ≤ p) = false := decide_eq_false (by omega)
  obtain ⟨x, hx⟩ : ∃ x, l[p]? = some x := ⟨_, List.getElem?_eq_getElem hpl⟩
  have hxl : x.lang = 0 ∨ x.lang = 1 := by
    have h1 : symOk x = true := by
      have := HGD.out
      unfold goodS at this
      exact List.all_eq_true.1 this _ (List.mem_of_getElem? hx)
    unfold symOk at h1
    simp only [Bool.and_eq_true, Bool.or_eq_true, decide_eq_true_eq] at h1
    exact h1.1
  have HN : Hid (nextL t ⟨sg, sn, si⟩ l p x = LL) := hide (by
    rw [← HLL.out]
    exact (Go.Dx.steps_at HE.out (s := ⟨sg, sn, si⟩) HSG.out HGD.out hx).symm)
  have hNX := fun w' (hb : Below w.heap.size w w') => ref_Next _ t ⟨sg, sn, si⟩ l a l.length c p x hx hll HE.out hxl w' (HTT.out.below hb) (HSS.out.below hb)
  rw [HN.out] at hNX
  unfold TH.v at hNX
  simp only [hdv] at hNX
  clear hx hxl h3 h4
  go_enter Try.func18, Try.ntmps18
  go_wp2_with (first
    | (go_at_call 11; refine (hV _ HBB.out).mono ?_; rintro e w3 ⟨rfl, hb3⟩; have k5 : w3.cell? ⟨w.heap.size + 1, 0, none⟩ = some (.int .i64 sg) := (HX5.out.under hb3).at_ rfl; have hbw3 := HBB.out.trans (hb3.mono HBB.out.size))
    | (go_at_call 54; refine (hC _ hbw3).mono ?_; rintro e w4 ⟨rfl, rfl⟩)
    | (with_reducible refine load_struct 37 28 _ 7 size_tables _ Try.underlying28 ⟨w.heap.size, 0, none⟩ rfl [.slice a0 n0 c0, .slice a1 n1 c1, .slice ad nd cd, .slice ac nc cc, .slice an nn cn, .slice af nf cf, .slice aw nw cw] rfl (fun j u hj => by rw [Addr.add_lit, Nat.zero_add]; exact (HX4.out.under hb3).at_ hj) ?_)
    | (with_reducible refine load_struct 38 40 _ 3 size_rst _ Try.underlying40 ⟨w.heap.size + 1, 0, none⟩ rfl [.int .i64 sg, .bool sn, .bool si] rfl (fun j u hj => by rw [Addr.add_lit, Nat.zero_add]; exact (HX5.out.under hb3).at_ hj) ?_)
    | (go_at_call 55; refine (hNX _ hbw3).mono ?_; rintro e w5 ⟨a5, c5, ps5, rfl, h5, hb5⟩))
  go_ret
  exact ⟨a5, c5, ps5, rfl, h5, hbw3.trans (hb5.mono hbw3.size)⟩
set_option maxRecDepth 100000 in
set_option maxHeartbeats 1000000 in
theorem law_own (s : St) (w : World) : Calls Try.prog 17 #[.agg #[.int .i64 s.lang, .bool s.num, .bool s.wrd]] w fun e w' => e = .returned (.agg #[.int .i64 s.lang, .bool s.num, .bool s.wrd]) ∧ Below w.heap.size w w' := by
  obtain ⟨sg, sn, si⟩ := s
  show Calls Try.prog 17 #[.agg #[.int .i64 sg, .bool sn, .bool si]] w _
  have hb0 : Below w.heap.size w ((w.alloc (.cells #[.int .i64 sg, .bool sn, .bool si] 40)).alloc (.cells #[.int .i64 0, .bool false, .bool false] 47)) := (blo w _).trans ((blo _ _).mono (by simp))
  have X0 : Box ((w.alloc (.cells #[.int .i64 sg, .bool sn, .bool si] 40)).alloc (.cells #[.int .i64 0, .bool false, .bool false] 47)) w.heap.size 40 [.int .i64 sg, .bool sn, .bool si] := (Box.new w 40 #[.int .i64 sg, .bool sn, .bool si]).alloc _
  have X1 := Box.new (w.alloc (.cells #[.int .i64 sg, .bool sn, .bool si] 40)) 47 #[.int .i64 0, .bool false, .bool false]
  rw [show (w.alloc (.cells #[.int .i64 sg, .bool sn, .bool si] 40)).heap.size = w.heap.size + 1 by simp] at X1
  have hone : ∀ u ∈ ([.int .i64 sg, .bool sn, .bool si] : List Value), u.oneCell' = true := by simp [Value.oneCell']
  go_enter Try.func17, Try.ntmps17
  go_upto_region 1 with fail
  generalize (w.alloc (.cells _ 40)).alloc (.cells _ 47) = w2 at *
  have k0 : w2.cell? ⟨w.heap.size, 0, none⟩ = some (.int .i64 sg) := X0.at_ rfl
  have k1 : w2.cell? ⟨w.heap.size, 1, none⟩ = some (.bool sn) := X0.at_ rfl
  have k2 : w2.cell? ⟨w.heap.size, 2, none⟩ = some (.bool si) := X0.at_ rfl
  go_wp2_with (with_reducible refine store_all 47 _ _ 47 (w.heap.size + 1) [.int .i64 0, .bool false, .bool false] [.int .i64 sg, .bool sn, .bool si] _ (size_st3 _ _ _) X1 rfl rfl rfl (Eq.refl 3) hone ?_; intro w3 hx3 hg3 hs3)
  exact bodyPost_ret (run_results_cell rfl rfl agg_tst (size_st3 _ _ _) hx3) rfl ⟨rfl, hb0.grown hg3 hb0.size (fun q hq => by cases hq; omega)⟩
set_option maxHeartbeats 1000000 in
theorem law_raw (l : List Sy) (a : Option Addr) (n c : Nat) (w : World) (hs : Sl w 2 a n c (l.flatMap sc)) : Calls Try.prog 19 #[.slice a n c] w fun e w' => e = .returned (.slice a (min n 40) c) ∧ Sl w 2 a (min n 40) c ((l.take 40).flatMap sc) ∧ w = w' := by
  obtain rfl := hs.nf sc_len (by decide)
  have hm1 := Nat.le_trans hs.le hs.cap
  unfold maxLen at hm1
  have hle := hs.le
  have hcut := hs.cut 0 (min l.length 40) (Nat.zero_le _) (Nat.min_le_left _ _)
  have hh : Sl w 2 a (min l.length 40) c ((l.take 40).flatMap sc) := by
    rw [Nat.zero_mul, List.drop_zero, flat_take sc_len, Nat.sub_zero, Nat.sub_zero] at hcut
    have e1 : l.take (min l.length 40) = l.take 40 := by
      by_cases h : l.length ≤ 40
      · rw [Nat.min_eq_left h, List.take_length, List.take_of_length_le h]
      · rw [Nat.min_eq_right (by omega)]
    rw [e1] at hcut
    cases a with
    | none => by_cases h0 : c = 0 <;> simpa [h0] using hcut
    | some q => by_cases h0 : c = 0 <;> simpa [h0, Addr.add] using hcut
  have HH := hide hh
  clear hh hcut
  by_cases h : l.length ≤ 40
  · have e1 : min l.length 40 = l.length := Nat.min_eq_left h
    rw [e1] at HH ⊢
    clear e1
    go_enter Try.func19, Try.ntmps19
    go_wp2_with (with_reducible refine cut_hi_g 7 _ _ _ _ Try.underlying37 2 size_sym a l.length c rfl .i64 l.length rfl hle ?_)
    go_ret
    exact ⟨rfl, HH.out, rfl⟩
  · have e1 : min l.length 40 = 40 := Nat.min_eq_right (by omega)
    rw [e1] at HH ⊢
    clear e1
    have h40 : 40 ≤ c := by omega
    go_enter Try.func19, Try.ntmps19
    go_wp2_with (with_reducible refine cut_hi_g 7 _ _ _ _ Try.underlying37 2 size_sym a l.length c rfl .i64 40 rfl h40 ?_)
    go_ret
    exact ⟨rfl, HH.out, rfl⟩
end Go.Proofs.Ytkjcbneanaeleaa
end

/- the text B43 -/
section
/- Chapter 06, plain: running text, its characters, and back. -/
namespace Go.Dx
open Go.RowKit
structure Rn where
  lang : Int
  text : ByteArray
def rnc (r : Rn) : List Value := [.int .i64 r.lang, .string r.text]
theorem rnc_len (r : Rn) : (rnc r).length = 2 := rfl
theorem rnc_one (r : Rn) : ∀ u ∈ rnc r, u.oneCell' = true := by simp [rnc, Value.oneCell']
def charsR (r : Rn) : List Sy := (chars r.text).map fun c => ⟨r.lang, c⟩
def okRn (r : Rn) : Bool := (decide (r.lang = 0) || decide (r.lang = 1)) && (chars r.text).all isW
def symsR (l : List Rn) : List Sy := l.flatMap charsR
def symE (l : List Rn) : Int := if l.all okRn = false then 1 else if 2048 < (symsR l).length then 4 else 0
def symL (l : List Rn) : List Sy := if symE l = 0 then symsR l else []
def byteS (c : UInt8) : ByteArray := ⟨#[c]⟩
def addRn (out : List Rn) (x : Sy) : List Rn :=
  match out[out.length - 1]? with
  | some r => if r.lang = x.lang then out.set (out.length - 1) ⟨r.lang, r.text ++ byteS x.c⟩ else out ++ [⟨x.lang, byteS x.c⟩]
  | none => [⟨x.lang, byteS x.c⟩]
def runsOf (l : List Sy) : List Rn := l.foldl addRn []
def runsL (l : List Sy) : List Rn := if goodS l then runsOf l else []
theorem chars_app (a b : ByteArray) : chars (a ++ b) = chars a ++ chars b := by unfold chars; simp
theorem chars_byte (c : UInt8) : chars (byteS c) = [c] := rfl
theorem byteS_eq {s : ByteArray} {c : UInt8} (h : chars s = [c]) : s = byteS c := WideShapes.bytes_inj h
theorem enc_byte {c : UInt8} (h : c.toNat < 128) : Utf8.encode (c.toNat : Int) = byteS c := byteS_eq (by rw [encode_chr _ h, UInt8.ofNat_toNat])
theorem set_last {α : Type} {out : List α} {r y : α} (h : out[out.length - 1]? = some r) : ∃ pre, out = pre ++ [r] ∧ out.set (out.length - 1) y = pre ++ [y] := by
  have hl := (List.getElem?_eq_some_iff.1 h).1
  refine ⟨out.take (out.length - 1), ?_, ?_⟩
  · have h2 := take_succ_get h
    rw [show out.length - 1 + 1 = out.length by omega, List.take_length] at h2
    exact h2
  · rw [List.set_eq_take_append_cons_drop, if_pos hl, show out.length - 1 + 1 = out.length by omega, List.drop_length]
theorem addRn_syms (out : List Rn) (x : Sy) : symsR (addRn out x) = symsR out ++ [x] := by
  unfold addRn
  cases h : out[out.length - 1]? with
  | none =>
    have : out = [] := by
      have := List.getElem?_eq_none_iff.1 h
      exact List.eq_nil_of_length_eq_zero (by omega)
    subst this
    rfl
  | some r =>
    simp only
    split
    · rename_i he
      obtain ⟨pre, e1, e2⟩ := set_last (y := (⟨r.lang, r.text ++ byteS x.c⟩ : Rn)) h
      rw [e2]
      unfold symsR
      rw [e1, List.flatMap_append, List.flatMap_append, List.append_assoc]
      congr 1
      simp only [List.flatMap_cons, List.flatMap_nil, List.append_nil]
      unfold charsR
      simp only [chars_app, chars_byte, List.map_append, List.map_cons, List.map_nil, he]
    · unfold symsR
      rw [List.flatMap_append]
      rfl
theorem runsOf_snoc (l : List Sy) (x : Sy) : runsOf (l ++ [x]) = addRn (runsOf l) x := by unfold runsOf; rw [List.foldl_append]; rfl
theorem foldl_syms : ∀ (l : List Sy) (out : List Rn), symsR (l.foldl addRn out) = symsR out ++ l
  | [], out => by simp
  | x :: l, out => by rw [List.foldl_cons, foldl_syms l, addRn_syms, List.append_assoc]; rfl
theorem runs_syms (l : List Sy) : symsR (runsOf l) = l := by
  have := foldl_syms l []
  exact this
theorem addRn_ok {out : List Rn} {x : Sy} (h : out.all okRn = true) (hx : symOk x = true) : (addRn out x).all okRn = true := by
  have hb : okRn ⟨x.lang, byteS x.c⟩ = true := by
    unfold okRn
    unfold symOk at hx
    rw [Bool.and_eq_true] at hx ⊢
    refine ⟨hx.1, ?_⟩
    rw [chars_byte]
    simp [hx.2]
  unfold addRn
  cases hq : out[out.length - 1]? with
  | none => simp [hb]
  | some r =>
    simp only
    split
    · rename_i he
      obtain ⟨pre, e1, e2⟩ := set_last (y := (⟨r.lang, r.text ++ byteS x.c⟩ : Rn)) hq
      rw [e2]
      rw [e1] at h
      rw [List.all_append] at h ⊢
      rw [Bool.and_eq_true] at h ⊢
      refine ⟨h.1, ?_⟩
      have hr : okRn r = true := by simpa using h.2
      unfold okRn at hr hb ⊢
      rw [Bool.and_eq_true] at hr hb
      simp only [List.all_cons, List.all_nil, Bool.and_true, Bool.and_eq_true]
      refine ⟨hr.1, ?_⟩
      rw [chars_app, List.all_append, Bool.and_eq_true]
      exact ⟨hr.2, hb.2⟩
    · rw [List.all_append, h]
      simp [hb]
theorem foldl_ok : ∀ (l : List Sy) (out : List Rn), out.all okRn = true → goodS l = true → (l.foldl addRn out).all okRn = true
  | [], out, h, _ => h
  | x :: l, out, h, hg => by
    unfold goodS at hg
    rw [List.all_cons, Bool.and_eq_true] at hg
    exact foldl_ok l _ (addRn_ok h hg.1) hg.2
theorem runsOf_ok {l : List Sy} (h : goodS l = true) : (runsOf l).all okRn = true := foldl_ok l [] rfl h
theorem charsR_good {r : Rn} (h : okRn r = true) : goodS (charsR r) = true := by
  unfold okRn at h
  rw [Bool.and_eq_true] at h
  unfold goodS charsR
  rw [List.all_eq_true]
  intro y hy
  obtain ⟨c, hc, rfl⟩ := List.mem_map.1 hy
  unfold symOk
  rw [Bool.and_eq_true]
  exact ⟨h.1, List.all_eq_true.1 h.2 c hc⟩
theorem symsR_good {l : List Rn} (h : l.all okRn = true) : goodS (symsR l) = true := by
  unfold goodS symsR
  rw [List.all_eq_true]
  intro y hy
  obtain ⟨r, hr, hy⟩ := List.mem_flatMap.1 hy
  have := charsR_good (List.all_eq_true.1 h r hr)
  unfold goodS at this
  exact List.all_eq_true.1 this y hy
theorem symE_zero {l : List Rn} (h : symE l = 0) : l.all okRn = true ∧ (symsR l).length ≤ 2048 := by
  unfold symE at h
  split at h
  · cases h
  · rename_i h1
    split at h
    · cases h
    · exact ⟨by simpa using h1, by omega⟩
theorem symL_good (l : List Rn) : goodS (symL l) = true ∧ (symL l).length ≤ 2048 := by
  unfold symL
  split
  · rename_i h
    obtain ⟨h1, h2⟩ := symE_zero h
    exact ⟨symsR_good h1, h2⟩
  · exact ⟨rfl, Nat.zero_le _⟩
theorem symE_back {l : List Sy} (h : goodS l = true) (hl : l.length ≤ 2048) : symE (runsL l) = 0 ∧ symL (runsL l) = l := by
  unfold runsL
  rw [if_pos h]
  have h1 : symE (runsOf l) = 0 := by
    unfold symE
    rw [if_neg (by rw [runsOf_ok h]; simp), runs_syms, if_neg (by omega)]
  refine ⟨h1, ?_⟩
  unfold symL
  rw [if_pos h1, runs_syms]
/-- a run of characters of one language goes into a new piece -/
theorem fold_seg (g : Int) : ∀ (cs : List UInt8) (out : List Rn) (s : ByteArray), (cs.map fun c => (⟨g, c⟩ : Sy)).foldl addRn (out ++ [⟨g, s⟩]) = out ++ [⟨g, s ++ ⟨cs.toArray⟩⟩]
  | [], out, s => by
    have : s ++ (⟨([] : List UInt8).toArray⟩ : ByteArray) = s := WideShapes.bytes_inj (by simp)
    simp [this]
  | c :: cs, out, s => by
    rw [List.map_cons, List.foldl_cons]
    have h1 : addRn (out ++ [⟨g, s⟩]) ⟨g, c⟩ = out ++ [⟨g, s ++ byteS c⟩] := by
      unfold addRn
      simp
    rw [h1, fold_seg g cs]
    congr 3
    apply WideShapes.bytes_inj
    simp [byteS]
theorem addRn_new {out : List Rn} {x : Sy} (h : ∀ r, out[out.length - 1]? = some r → r.lang ≠ x.lang) : addRn out x = out ++ [⟨x.lang, byteS x.c⟩] := by
  unfold addRn
  cases hq : out[out.length - 1]? with
  | none =>
    have : out = [] := by
      have := List.getElem?_eq_none_iff.1 hq
      exact List.eq_nil_of_length_eq_zero (by omega)
    subst this
    rfl
  | some r => simp only; rw [if_neg (h r hq)]
theorem fold_new {g : Int} {c : UInt8} {cs : List UInt8} {out : List Rn} (h : ∀ r, out[out.length - 1]? = some r → r.lang ≠ g) : ((c :: cs).map fun c => (⟨g, c⟩ : Sy)).foldl addRn out = out ++ [⟨g, ⟨(c :: cs).toArray⟩⟩] := by
  rw [List.map_cons, List.foldl_cons, addRn_new (by exact h), fold_seg]
  have e : byteS c ++ (⟨cs.toArray⟩ : ByteArray) = (⟨(c :: cs).toArray⟩ : ByteArray) := WideShapes.bytes_inj (by simp [byteS])
  show out ++ [⟨g, byteS c ++ ⟨cs.toArray⟩⟩] = _
  rw [e]
end Go.Dx
end

/- the text Row5 -/
section
/- How the arguments of a law read: slices of characters and of pieces of running text. -/
namespace Go.Dx
open Go.RowKit Go.WideShapes Go.ChangeShapes Go.Deep
section
variable {H : Type} {enc : TypeId × Value → H} {P : Program} {w : World}
theorem trod_rows {α : Type} [Inhabited α] {t e : TypeId} {sz : Nat} {f : α → List Value} {Q : α → Prop} (hf : ∀ x, (f x).length = sz) (ht : P.underlying t = some (.slice e)) (hce : P.cellsOf e = sz) (hb : 0 < P.bytesOf e) (h0 : 0 < sz)
    (hy : ∀ (n : Nat) (cs : List Value) (x : DataW H × List MemPlace), Sized P e x.1 → DataW.trod enc P w 0 (fun _ => true) true n e cs = some x → ∃ y, cs = f y ∧ Q y)
    {a : Option Addr} {len cap : Nat} {d : DataW H} {p : List MemPlace} (hs : Sized P t d) (h : DataW.Trod enc P w 0 (fun _ => true) true t (.slice a len cap) d p) :
    ∃ l : List α, Sl w sz a len cap (l.flatMap f) ∧ (∀ y ∈ l, Q y) ∧ len ≤ reachBytes := by
  obtain ⟨fuel, hfu⟩ := h
  rcases open_slice ht hfu with ⟨hcs, _⟩ | ⟨x, l, c, m, g, D, Pl, hcs, _, hl, hm, hmm, hx, hel⟩
  · simp [Value.cells] at hcs
    obtain ⟨rfl, rfl, rfl⟩ := hcs
    exact ⟨[], Sl.empty w sz, by simp, Nat.zero_le _⟩
  · simp [Value.cells] at hcs
    obtain ⟨rfl, rfl, rfl⟩ := hcs
    simp only [if_true] at hmm
    subst hmm
    have hd := congrArg Prod.fst hx
    simp only at hd
    subst hd
    obtain ⟨z1, z2⟩ := hs.slice ht
    have each : ∀ i, i < len → ∃ y, (∀ j u, (f y)[j]? = some u → w.cell? (x.add (i * sz + j)) = some u) ∧ Q y := by
      intro i hi
      obtain ⟨cs', h1, h2⟩ := hel i (by omega)
      obtain ⟨y, hcy, hq⟩ := hy _ _ _ (z2 (D i) (List.mem_map.2 ⟨i, List.mem_range.2 hi, rfl⟩)) h2
      subst hcy
      obtain ⟨_, hcl, hat⟩ := World.cells?_some h1
      refine ⟨y, fun j u hj => ?_, hq⟩
      have hjl := (List.getElem?_eq_some_iff.1 hj).1
      rw [hf] at hjl
      have := hat j (by rw [hce]; exact hjl)
      rw [hce, sl_add] at this
      rw [this, hj]
    obtain ⟨Y, hY⟩ := choose_lt each
    refine ⟨(List.range len).map Y, ⟨by rw [flat_len hf]; simp, hl, hm, (fun h => by cases h), ?_⟩, ?_, ?_⟩
    · intro q hq j u hj
      cases hq
      have hjl : j < len * sz := by
        have := (List.getElem?_eq_some_iff.1 hj).1
        rw [flat_len hf] at this
        simpa using this
      have hi : j / sz < len := (Nat.div_lt_iff_lt_mul h0).2 hjl
      have hr : j % sz < sz := Nat.mod_lt _ h0
      have hg : ((List.range len).map Y)[j / sz]? = some (Y (j / sz)) := by simp [hi]
      have := flat_get hf hg hr
      rw [Nat.div_add_mod'] at this
      rw [this] at hj
      have := (hY (j / sz) hi).1 (j % sz) u hj
      rwa [Nat.div_add_mod'] at this
    · intro z hz
      obtain ⟨i, hi, rfl⟩ := List.mem_map.1 hz
      exact (hY i (List.mem_range.1 hi)).2
    · simp only [List.length_map, List.length_range] at z1
      exact Nat.le_trans (Nat.le_trans (Nat.le_add_right _ _) (Nat.le_mul_of_pos_right _ hb)) z1
instance : Inhabited Sy := ⟨⟨0, 0⟩⟩
theorem trod_syms {t e ti tu : TypeId} {f0 f1 : Field} (ht : P.underlying t = some (.slice e)) (he : P.underlying e = some (.struct #[f0, f1])) (hti : P.underlying ti = some (.int .i64)) (htu : P.underlying tu = some (.int .u8)) (h0 : f0.type = ti ∧ f0.offset = 0) (h1 : f1.type = tu ∧ f1.offset = 1)
    (hci : P.cellsOf ti = 1) (hcu : P.cellsOf tu = 1) (hce : P.cellsOf e = 2) (hb : 0 < P.bytesOf e)
    {a : Option Addr} {len cap : Nat} {d : DataW H} {p : List MemPlace} (hs : Sized P t d) (h : DataW.Trod enc P w 0 (fun _ => true) true t (.slice a len cap) d p) :
    ∃ l : List Sy, Sl w 2 a len cap (l.flatMap sc) ∧ len ≤ reachBytes := by
  obtain ⟨l, h1, _, h2⟩ := trod_rows (f := sc) (Q := fun _ => True) sc_len ht hce hb (by decide) (fun n cs x hsx hx => by
    obtain ⟨y0, y1, m, rfl, hl, k0, k1⟩ := trod_struct2 he hx
    rw [h0.1, h0.2, hci] at k0
    rw [h1.1, h1.2, hcu] at k1
    rw [hce] at hl
    obtain ⟨z0, e0, _, _⟩ := DataW.trod_int hti k0
    obtain ⟨z1, e1, _, w1⟩ := DataW.trod_int htu k1
    match cs, hl with
    | [c0, c1], _ =>
      simp at e0 e1
      subst e0 e1
      have hb : 0 ≤ z1 ∧ z1 ≤ 255 := bounds_u8 w1
      refine ⟨⟨z0, UInt8.ofNat z1.toNat⟩, ?_, trivial⟩
      unfold sc
      simp only [UInt8.toNat_ofNat']
      congr 3
      omega) hs h
  exact ⟨l, h1, h2⟩
instance : Inhabited Rn := ⟨⟨0, ⟨#[]⟩⟩⟩
theorem trod_runs {t e ti tu : TypeId} {f0 f1 : Field} (ht : P.underlying t = some (.slice e)) (he : P.underlying e = some (.struct #[f0, f1])) (hti : P.underlying ti = some (.int .i64)) (htu : P.underlying tu = some .string) (h0 : f0.type = ti ∧ f0.offset = 0) (h1 : f1.type = tu ∧ f1.offset = 1)
    (hci : P.cellsOf ti = 1) (hcu : P.cellsOf tu = 1) (hce : P.cellsOf e = 2) (hb : 0 < P.bytesOf e)
    {a : Option Addr} {len cap : Nat} {d : DataW H} {p : List MemPlace} (hs : Sized P t d) (h : DataW.Trod enc P w 0 (fun _ => true) true t (.slice a len cap) d p) :
    ∃ l : List Rn, Sl w 2 a len cap (l.flatMap rnc) ∧ (∀ r ∈ l, r.text.size ≤ reachBytes) ∧ len ≤ reachBytes :=
  trod_rows (f := rnc) (Q := fun r => r.text.size ≤ reachBytes) rnc_len ht hce hb (by decide) (fun n cs x hsx hx => by
    obtain ⟨y0, y1, m, rfl, hl, k0, k1⟩ := trod_struct2 he hx
    rw [h0.1, h0.2, hci] at k0
    rw [h1.1, h1.2, hcu] at k1
    rw [hce] at hl
    obtain ⟨z0, e0, _, _⟩ := DataW.trod_int hti k0
    obtain ⟨z1, e1, x1, _⟩ := DataW.trod_string htu k1
    match cs, hl with
    | [c0, c1], _ =>
      simp at e0 e1
      subst e0 e1
      refine ⟨⟨z0, z1⟩, rfl, ?_⟩
      have h2 : Sized P tu (DataW.lit (H := H) (.string z1.data.toList)) := by
        have hy1 : y1.1 = DataW.lit (.string z1.data.toList) := by rw [x1]
        intro n hn
        refine hsx n ?_
        simp only [DataW.weights, he]
        simp [DataW.weightsEach, hy1, h0.1, h1.1, hn]
      have := h2.string
      rwa [show z1.data.toList.length = z1.size from Array.length_toList] at this) hs h
end
end Go.Dx
end

/- the text Make -/
section
/- make with a variable length, as a law of the walk that hands on an unnamed world. No program in sight. -/
set_option linter.unusedVariables false
namespace Go.Dx
open Go.RowKit

section
variable {P : Program} {w : World} {ops : Array Oper} {rest : List Oper} {act : Act} {Q : Exit → Act → World → Prop}
  {ty : TypeId} {pos : String} {after : Array Edge}
/-- 'make([]T, n)', T of one cell -/
theorem make_row (d : Nat) (t : TypeId) (l c : Operand) (e : TypeId) (z : Value) (bytes : Nat) (ht : P.underlying t = some (.slice e)) (hi : (P.info? e).map (fun i => (i.zero, i.size, i.bytes)) = some (some z, 1, bytes)) (hz1 : z.cells = #[z])
    (kl kc : IntKind) (v1 v2 : Int) (n : Nat) (hl : act.eval l = .int kl v1) (hc : act.eval c = .int kc v2) (h1 : v1 = (n : Int)) (h2 : v2 = (n : Int)) (hbytes : bytes * n ≤ 281474976710656) (h63 : n ≤ 9223372036854775807)
    (hK : ∀ w', w'.rowIs w.heap.size e n (fun _ => z) → Below w.heap.size w w' → w'.heap.size = w.heap.size + 1 → wpList P ops Q rest (act.put (some d) (.slice (some ⟨w.heap.size, 0, none⟩) n n)) w') :
    wpList P ops Q ({ dst := some d, op := .makeSlice t l c, type := ty, pos := pos, after := after, guard := none } :: rest) act w := by
  subst h1 h2
  obtain ⟨i, hi0, hz0, hz, hz2⟩ := info_parts hi
  refine wpList_make_row w rfl l c t rfl e i z ht hi0 hz0 hz hz1 kl kc n hl hc (by rw [hz2]; exact hbytes) h63 ?_
  exact hK _ (World.rowIs_made w z n e) ((Below.refl _ _).alloc (Nat.le_refl _) _) (by simp)
end

/-- a row of bytes, of truths, read as a slice -/
theorem row_sl' {w : World} {b : Nat} {t : TypeId} {n : Nat} {f : Nat → Value} (h : w.rowIs b t n f) (hm : n ≤ maxLen) (cs : List Value) (hl : cs.length = n) (he : ∀ j u, cs[j]? = some u → u = f j) : Sl w 1 (some ⟨b, 0, none⟩) n n cs :=
  ⟨by omega, Nat.le_refl _, hm, (fun h => by cases h), fun p hp j u hj => by
    cases hp
    have hj' : j < n := by rw [← hl]; exact (List.getElem?_eq_some_iff.1 hj).1
    rw [Addr.add_lit, Nat.zero_add, h.cell hj', he j u hj]⟩
theorem rowIs_below {w w' : World} {B b : Nat} {t : TypeId} {n : Nat} {f : Nat → Value} (h : w.rowIs b t n f) (hb : Below B w w') (hlt : b < B) : w'.rowIs b t n f := h.of_block (hb.block b hlt)
theorem rowIs_drewN {w : World} {b : Nat} {t : TypeId} {n : Nat} {f : Nat → Value} (h : w.rowIs b t n f) (m : Nat) : (w.drewN m).rowIs b t n f := h
end Go.Dx
end
