/- The contracts of the functions that the law reaches, joined into one text. -/
import Derived.Test.YtdeknimelkdaeaaBaseP23E
import Derived.OpenShut
import Derived.Deep.Slices
import Derived.Deep.Strs
import Derived.SizedLaws
import Derived.Deep.CutBlock
set_option linter.unusedVariables false
set_option linter.unusedSimpArgs false

/- the text Row2 -/
section
/- How the arguments of a law read: slices of integers, of strings, of arrays of integers, with the form's own reach. No program. -/
namespace Go.Dx
open Go.RowKit Go.WideShapes Go.ChangeShapes Go.Deep

/-- no part is longer than the form lets it be -/
def Sized {H : Type} (P : Program) (t : TypeId) (d : DataW H) : Prop := ∀ n ∈ d.weights P t, n ≤ reachBytes
section
variable {H : Type} {enc : TypeId × Value → H} {P : Program} {w : World}
theorem sized_at {ts : List TypeId} {ds : List (DataW H)} (hwt : (DataW.weightsEach P ts ds).all (· ≤ reachBytes) = true) (j : Nat) {t : TypeId} {d : DataW H} (ht : ts[j]? = some t) (hd : ds[j]? = some d) : Sized P t d :=
  fun n hn => by simpa using List.all_eq_true.1 hwt _ (DataW.weights_mem_each ht hd n hn)
theorem sized_all {e : TypeId} : ∀ {l : List (DataW H)} {d : DataW H}, d ∈ l → ∀ n ∈ d.weights P e, n ∈ DataW.weightsAll P e l
  | x :: l, d, hd, n, hn => by
    simp only [DataW.weightsAll, List.mem_append]
    rcases List.mem_cons.1 hd with rfl | h
    · exact .inl hn
    · exact .inr (sized_all h n hn)
theorem Sized.slice {t e : TypeId} {elems spare : List (DataW H)} (h : Sized P t (.slice elems spare)) (hu : P.underlying t = some (.slice e)) :
    (elems.length + spare.length) * P.bytesOf e ≤ reachBytes ∧ (∀ d ∈ elems, Sized P e d) :=
  ⟨h _ (by simp [DataW.weights, hu]), fun d hd n hn => h n (by simp only [DataW.weights, hu, List.mem_cons, List.mem_append]; exact .inr (.inl (sized_all hd n hn)))⟩
theorem Sized.string {t : TypeId} {b : List UInt8} (h : Sized P t (DataW.lit (H := H) (.string b))) : b.length ≤ reachBytes := h _ (by simp [DataW.weights])

theorem add_cells {a : Addr} {n : Nat} : a.add n = a.add n := rfl

theorem trod_ints {t e : TypeId} {k : IntKind} (ht : P.underlying t = some (.slice e)) (he : P.underlying e = some (.int k)) (hc : P.cellsOf e = 1) (hb : 0 < P.bytesOf e) {a : Option Addr} {len cap : Nat} {d : DataW H} {p : List MemPlace}
    (hs : Sized P t d) (h : DataW.Trod enc P w 0 (fun _ => true) true t (.slice a len cap) d p) :
    ∃ zs : List Int, Sl w 1 a len cap (zs.map (Value.int k)) ∧ (∀ n ∈ zs, (Lit.int k n).wf = true) ∧ len ≤ reachBytes := by
  obtain ⟨fuel, hf⟩ := h
  rcases open_ints ht he hc hf with ⟨hcs, _⟩ | ⟨x, l, c, zs, hcs, _, hl, hm, hz, hx, hcell, hwz⟩
  · simp [Value.cells] at hcs
    obtain ⟨rfl, rfl, rfl⟩ := hcs
    exact ⟨[], Sl.empty w 1, by simp, Nat.zero_le _⟩
  · simp [Value.cells] at hcs
    obtain ⟨rfl, rfl, rfl⟩ := hcs
    have hz2 : zs.length = cap := by simpa using hz
    have hd := congrArg Prod.fst hx
    simp only at hd
    subst hd
    refine ⟨zs.take len, ⟨by simp; omega, hl, hm, (fun h => by cases h), ?_⟩, fun n hn => hwz n (List.mem_of_mem_take hn), ?_⟩
    · intro q hq j u hj
      cases hq
      rw [List.getElem?_map, List.getElem?_take] at hj
      by_cases hlt : j < len
      · rw [if_pos hlt] at hj
        have hjz : j < zs.length := by omega
        rw [List.getElem?_eq_getElem hjz] at hj
        simp at hj
        rw [hcell j hjz, ← hj, List.getD_eq_getElem?_getD, List.getElem?_eq_getElem hjz]
        rfl
      · rw [if_neg hlt] at hj; cases hj
    · have hsz := (hs.slice ht).1
      rw [show ∀ (k : IntKind) (l : List Int), (lits (H := H) k l).length = l.length from fun k l => by simp [lits], List.length_take, show min len zs.length = len by omega] at hsz
      exact Nat.le_trans (Nat.le_trans (Nat.le_add_right _ _) (Nat.le_mul_of_pos_right _ hb)) hsz

theorem trod_bytes {t e : TypeId} (ht : P.underlying t = some (.slice e)) (he : P.underlying e = some (.int .u8)) (hc : P.cellsOf e = 1) (hb : 0 < P.bytesOf e) {a : Option Addr} {len cap : Nat} {d : DataW H} {p : List MemPlace}
    (hs : Sized P t d) (h : DataW.Trod enc P w 0 (fun _ => true) true t (.slice a len cap) d p) :
    ∃ l : List UInt8, Sl w 1 a len cap (l.map B8) ∧ len ≤ reachBytes := by
  obtain ⟨zs, h1, h2, h3⟩ := trod_ints ht he hc hb hs h
  refine ⟨zs.map fun n => UInt8.ofNat n.toNat, ?_, h3⟩
  have e : (zs.map fun n => UInt8.ofNat n.toNat).map B8 = zs.map (Value.int .u8) := by
    rw [List.map_map]
    apply List.map_congr_left
    intro n hn
    have hb : 0 ≤ n ∧ n ≤ 255 := bounds_u8 (h2 n hn)
    show Value.int .u8 ((UInt8.ofNat n.toNat).toNat : Int) = _
    rw [UInt8.toNat_ofNat']
    congr 1
    omega
  rw [e]
  exact h1
theorem trod_i64s {t e : TypeId} (ht : P.underlying t = some (.slice e)) (he : P.underlying e = some (.int .i64)) (hc : P.cellsOf e = 1) (hb : 0 < P.bytesOf e) {a : Option Addr} {len cap : Nat} {d : DataW H} {p : List MemPlace}
    (hs : Sized P t d) (h : DataW.Trod enc P w 0 (fun _ => true) true t (.slice a len cap) d p) :
    ∃ l : List Int, Sl w 1 a len cap (l.map I64) ∧ (∀ n ∈ l, -9223372036854775808 ≤ n ∧ n ≤ 9223372036854775807) ∧ len ≤ reachBytes := by
  obtain ⟨zs, h1, h2, h3⟩ := trod_ints ht he hc hb hs h
  exact ⟨zs, h1, fun n hn => bounds_i64 (h2 n hn), h3⟩

theorem trod_strs {t e : TypeId} (ht : P.underlying t = some (.slice e)) (he : P.underlying e = some .string) (hc : P.cellsOf e = 1) (hb : 0 < P.bytesOf e) {a : Option Addr} {len cap : Nat} {d : DataW H} {p : List MemPlace}
    (hs : Sized P t d) (h : DataW.Trod enc P w 0 (fun _ => true) true t (.slice a len cap) d p) :
    ∃ l : List ByteArray, Sl w 1 a len cap (l.map Value.string) ∧ (∀ s ∈ l, s.size ≤ reachBytes) ∧ len ≤ reachBytes ∧ (l = [] ∨ ∃ sp, d = .slice (l.map fun s => .lit (.string s.data.toList)) sp) := by
  obtain ⟨fuel, hf⟩ := h
  rcases open_strs ht he hc hf with ⟨hcs, _⟩ | ⟨x, l, c, m, Sx, hcs, _, hl, hm, hmm, hx, hcell⟩
  · simp [Value.cells] at hcs
    obtain ⟨rfl, rfl, rfl⟩ := hcs
    exact ⟨[], Sl.empty w 1, by simp, Nat.zero_le _, .inl rfl⟩
  · simp [Value.cells] at hcs
    obtain ⟨rfl, rfl, rfl⟩ := hcs
    simp only [if_true] at hmm
    subst hmm
    have hd := congrArg Prod.fst hx
    simp only at hd
    subst hd
    obtain ⟨z1, z2⟩ := hs.slice ht
    refine ⟨(List.range len).map Sx, ⟨by simp, hl, hm, (fun h => by cases h), ?_⟩, ?_, ?_, .inr ⟨_, by rw [List.map_map]; rfl⟩⟩
    · intro q hq j u hj
      cases hq
      have hlt : j < len := by have := (List.getElem?_eq_some_iff.1 hj).1; simpa using this
      rw [(hcell j (by omega)).1]
      simp [hlt] at hj
      rw [hj]
    · intro s hs
      obtain ⟨i, hi, rfl⟩ := List.mem_map.1 hs
      have := Sized.string (z2 _ (List.mem_map.2 ⟨i, hi, rfl⟩))
      rwa [show (Sx i).data.toList.length = (Sx i).size from Array.length_toList] at this
    · simp only [List.length_map, List.length_range] at z1
      exact Nat.le_trans (Nat.le_trans (Nat.le_add_right _ _) (Nat.le_mul_of_pos_right _ hb)) z1

theorem trod_arr {t e n : Nat} {k : IntKind} {base : Nat} {spare : Nat → Bool} {held : Bool} {fuel : Nat} {cs : List Value} {x : DataW H × List MemPlace} (ht : P.underlying t = some (.array n e)) (he : P.underlying e = some (.int k)) (hc : P.cellsOf e = 1) (hct : P.cellsOf t = n)
    (h : DataW.trod enc P w base spare held fuel t cs = some x) : cs.length = n ∧ ∀ i, i < n → ∃ z, cs[i]? = some (.int k z) ∧ (Lit.int k z).wf = true := by
  obtain ⟨xs, m, _, _, hl, hxl, hi⟩ := DataW.trod_array ht h
  rw [hct] at hl
  refine ⟨hl, fun i hin => ?_⟩
  have h1 := hi i hin
  rw [hc, Nat.mul_one, List.getElem?_eq_getElem (by omega)] at h1
  obtain ⟨z, hz, _, hw⟩ := DataW.trod_int he h1
  refine ⟨z, ?_, hw⟩
  have := congrArg (·[0]?) hz
  simpa [List.getElem?_take, List.getElem?_drop] using this

theorem trod_arrs {t e q n : Nat} {k : IntKind} (ht : P.underlying t = some (.slice e)) (he : P.underlying e = some (.array n q)) (hq : P.underlying q = some (.int k)) (hc : P.cellsOf q = 1) (hce : P.cellsOf e = n) (hb : 0 < P.bytesOf e) (hn0 : 0 < n)
    {a : Option Addr} {len cap : Nat} {d : DataW H} {p : List MemPlace} (hs : Sized P t d) (h : DataW.Trod enc P w 0 (fun _ => true) true t (.slice a len cap) d p) :
    ∃ zs : List Int, Sl w n a len cap (zs.map (Value.int k)) ∧ (∀ n ∈ zs, (Lit.int k n).wf = true) ∧ len ≤ reachBytes := by
  obtain ⟨fuel, hf⟩ := h
  rcases open_slice ht hf with ⟨hcs, _⟩ | ⟨x, l, c, m, g, D, Pl, hcs, _, hl, hm, hmm, hx, hel⟩
  · simp [Value.cells] at hcs
    obtain ⟨rfl, rfl, rfl⟩ := hcs
    exact ⟨[], Sl.empty w n, by simp, Nat.zero_le _⟩
  · simp [Value.cells] at hcs
    obtain ⟨rfl, rfl, rfl⟩ := hcs
    simp only [if_true] at hmm
    subst hmm
    have hd := congrArg Prod.fst hx
    simp only at hd
    subst hd
    obtain ⟨z1, z2⟩ := hs.slice ht
    have each : ∀ j, j < len * n → ∃ z, w.cell? (x.add j) = some (.int k z) ∧ (Lit.int k z).wf = true := by
      intro j hj
      have hi : j / n < len := (Nat.div_lt_iff_lt_mul hn0).2 hj
      obtain ⟨cs', h1, h2⟩ := hel (j / n) (by omega)
      rw [hce] at h1
      obtain ⟨_, hcl, hat⟩ := World.cells?_some h1
      have hr : j % n < n := Nat.mod_lt _ hn0
      obtain ⟨z, hz, hwz⟩ := (trod_arr he hq hc hce h2).2 (j % n) hr
      refine ⟨z, ?_, hwz⟩
      have := hat (j % n) hr
      rw [sl_add, Nat.div_add_mod'] at this
      rw [this, hz]
    obtain ⟨Z, hZ⟩ := choose_lt each
    refine ⟨(List.range (len * n)).map Z, ⟨by simp, hl, hm, (fun h => by cases h), ?_⟩, ?_, ?_⟩
    · intro q hq j u hj
      cases hq
      have hlt : j < len * n := by have := (List.getElem?_eq_some_iff.1 hj).1; simpa using this
      rw [(hZ j hlt).1]
      simp [hlt] at hj
      rw [hj]
    · intro z hz
      obtain ⟨i, hi, rfl⟩ := List.mem_map.1 hz
      exact (hZ i (List.mem_range.1 hi)).2
    · simp only [List.length_map, List.length_range] at z1
      exact Nat.le_trans (Nat.le_trans (Nat.le_add_right _ _) (Nat.le_mul_of_pos_right _ hb)) z1
theorem bytes_of_wf {zs : List Int} (h : ∀ n ∈ zs, (Lit.int .u8 n).wf = true) : ∃ l : List UInt8, l.map B8 = zs.map (Value.int .u8) := by
  refine ⟨zs.map fun n => UInt8.ofNat n.toNat, ?_⟩
  rw [List.map_map]
  apply List.map_congr_left
  intro n hn
  have hb : 0 ≤ n ∧ n ≤ 255 := bounds_u8 (h n hn)
  show Value.int .u8 ((UInt8.ofNat n.toNat).toNat : Int) = _
  rw [UInt8.toNat_ofNat']
  congr 1
  omega
end
end Go.Dx
end

/- the text Row7 -/
section
/- How the arguments of a law read: slices of slices of bytes, slices of pages. -/
set_option linter.unusedVariables false
namespace Go.Proofs.Ytdeknimelkdaeaa
open Go.RowKit Go.WideShapes Go.ChangeShapes Go.Deep Go.Dx
section
variable {H : Type} {enc : TypeId × Value → H} {P : Program} {w : World}
theorem trod_slices {α : Type} [Inhabited α] {t e : TypeId} {f : α → Value} {Q : α → Prop} (ht : P.underlying t = some (.slice e)) (hce : P.cellsOf e = 1)
    (hy : ∀ (n : Nat) (cs : List Value) (x : DataW H × List MemPlace), Sized P e x.1 → DataW.trod enc P w 0 (fun _ => true) true n e cs = some x → ∃ y, cs = [f y] ∧ Q y)
    {a : Option Addr} {len cap : Nat} {d : DataW H} {p : List MemPlace} (hs : Sized P t d) (h : DataW.Trod enc P w 0 (fun _ => true) true t (.slice a len cap) d p) :
    ∃ l : List α, Sl w 1 a len cap (l.map f) ∧ (∀ y ∈ l, Q y) ∧ len * P.bytesOf e ≤ reachBytes := by
  obtain ⟨fuel, hfu⟩ := h
  rcases open_slice ht hfu with ⟨hcs, _⟩ | ⟨x, l, c, m, g, D, Pl, hcs, _, hl, hm, hmm, hx, hel⟩
  · simp [Value.cells] at hcs
    obtain ⟨rfl, rfl, rfl⟩ := hcs
    exact ⟨[], Sl.empty w 1, by simp, by simp⟩
  · simp [Value.cells] at hcs
    obtain ⟨rfl, rfl, rfl⟩ := hcs
    simp only [if_true] at hmm
    subst hmm
    have hd := congrArg Prod.fst hx
    simp only at hd
    subst hd
    obtain ⟨z1, z2⟩ := hs.slice ht
    have each : ∀ i, i < len → ∃ y, w.cell? (x.add i) = some (f y) ∧ Q y := by
      intro i hi
      obtain ⟨cs', h1, h2⟩ := hel i (by omega)
      obtain ⟨y, hcy, hq⟩ := hy _ _ _ (z2 (D i) (List.mem_map.2 ⟨i, List.mem_range.2 hi, rfl⟩)) h2
      subst hcy
      obtain ⟨_, hcl, hat⟩ := World.cells?_some h1
      have := hat 0 (by rw [hce]; omega)
      rw [hce, Nat.mul_one, sl_add, Nat.add_zero] at this
      exact ⟨y, this, hq⟩
    obtain ⟨Y, hY⟩ := choose_lt each
    refine ⟨(List.range len).map Y, ⟨by simp, hl, hm, (fun h => by cases h), ?_⟩, ?_, ?_⟩
    · intro q hq j u hj
      cases hq
      have hlt : j < len := by have := (List.getElem?_eq_some_iff.1 hj).1; simpa using this
      rw [(hY j hlt).1]
      simp [hlt] at hj
      rw [hj]
    · intro z hz
      obtain ⟨i, hi, rfl⟩ := List.mem_map.1 hz
      exact (hY i (List.mem_range.1 hi)).2
    · simp only [List.length_map, List.length_range] at z1
      exact Nat.le_trans (Nat.mul_le_mul_right _ (Nat.le_add_right _ _)) z1
/-- the cells of a slice's value -/
theorem trod_hd {t e : TypeId} {n : Nat} {cs : List Value} {x : DataW H × List MemPlace} (ht : P.underlying t = some (.slice e)) (h : DataW.trod enc P w 0 (fun _ => true) true n t cs = some x) :
    ∃ (a : Option Addr) (l c : Nat), cs = [.slice a l c] ∧ DataW.Trod enc P w 0 (fun _ => true) true t (.slice a l c) x.1 x.2 := by
  rcases open_slice ht h with ⟨hcs, _⟩ | ⟨y, l, c, m, g, D, Pl, hcs, _⟩
  · subst hcs
    exact ⟨none, 0, 0, rfl, n, by simpa [Value.cells] using h⟩
  · subst hcs
    exact ⟨some y, l, c, rfl, n, by simpa [Value.cells] using h⟩
/-- a row of bytes -/
theorem trod_row {t e : TypeId} (ht : P.underlying t = some (.slice e)) (he : P.underlying e = some (.int .u8)) (hc : P.cellsOf e = 1) (hb : P.bytesOf e = 1) (n : Nat) (cs : List Value) (x : DataW H × List MemPlace) (hs : Sized P t x.1) (h : DataW.trod enc P w 0 (fun _ => true) true n t cs = some x) :
    ∃ y : Hd × List UInt8, cs = [hv y.1] ∧ Sl w 1 y.1.1 y.1.2.1 y.1.2.2 (y.2.map B8) ∧ y.2.length ≤ 140737488351232 := by
  obtain ⟨a, l, c, rfl, h2⟩ := trod_hd ht h
  obtain ⟨r, h3, h4⟩ := trod_bytes ht he hc (by omega) hs h2
  refine ⟨((a, l, c), r), rfl, h3, ?_⟩
  have := h3.len
  rw [List.length_map] at this
  show r.length ≤ 140737488351232
  unfold reachBytes at h4
  omega
theorem pg_of {l : List (Hd × List UInt8)} {a : Option Addr} {len cap : Nat} (h1 : Sl w 1 a len cap (l.map fun y => hv y.1)) (h2 : ∀ y ∈ l, Sl w 1 y.1.1 y.1.2.1 y.1.2.2 (y.2.map B8) ∧ y.2.length ≤ 140737488351232) (h3 : len * 24 ≤ reachBytes) :
    Pg w a len cap (l.map (·.1)) (l.map (·.2)) ∧ Sm (l.map (·.2)) := by
  have hl : len = l.length := by have := h1.len; rw [List.length_map] at this; omega
  refine ⟨⟨by rw [List.map_map]; exact h1, by simp, fun i h r k1 k2 => ?_⟩, by rw [List.length_map]; unfold reachBytes at h3; omega, fun r hr => ?_⟩
  · rw [List.getElem?_map] at k1 k2
    obtain ⟨y, hy, rfl⟩ := Option.map_eq_some_iff.1 k1
    rw [hy] at k2
    cases k2
    exact (h2 y (List.mem_of_getElem? hy)).1
  · obtain ⟨y, hy, rfl⟩ := List.mem_map.1 hr
    exact (h2 y hy).2
theorem trod_pg {t e u : TypeId} (ht : P.underlying t = some (.slice e)) (he : P.underlying e = some (.slice u)) (hu : P.underlying u = some (.int .u8)) (hce : P.cellsOf e = 1) (hbe : P.bytesOf e = 24) (hcu : P.cellsOf u = 1) (hbu : P.bytesOf u = 1)
    {a : Option Addr} {len cap : Nat} {d : DataW H} {p : List MemPlace} (hs : Sized P t d) (h : DataW.Trod enc P w 0 (fun _ => true) true t (.slice a len cap) d p) :
    ∃ (hs : List Hd) (q : Pgl), Pg w a len cap hs q ∧ Sm q := by
  obtain ⟨l, h1, h2, h3⟩ := trod_slices (f := fun y : Hd × List UInt8 => hv y.1) ht hce (trod_row he hu hcu hbu) hs h
  rw [hbe] at h3
  obtain ⟨k1, k2⟩ := pg_of h1 h2 h3
  exact ⟨_, _, k1, k2⟩
theorem trod_pgs {t g e u : TypeId} (ht : P.underlying t = some (.slice g)) (hg : P.underlying g = some (.slice e)) (he : P.underlying e = some (.slice u)) (hu : P.underlying u = some (.int .u8)) (hcg : P.cellsOf g = 1) (hce : P.cellsOf e = 1) (hbe : P.bytesOf e = 24) (hcu : P.cellsOf u = 1) (hbu : P.bytesOf u = 1)
    {a : Option Addr} {len cap : Nat} {d : DataW H} {p : List MemPlace} (hs : Sized P t d) (h : DataW.Trod enc P w 0 (fun _ => true) true t (.slice a len cap) d p) :
    ∃ (hs : List Hd) (L : List Pgl), Pgs w a len cap hs L ∧ (∀ q ∈ L, Sm q) := by
  obtain ⟨l, h1, h2, h3⟩ := trod_slices (f := fun y : Hd × Pgl => hv y.1) (Q := fun y => PgE w y.1 y.2 ∧ Sm y.2) ht hcg (fun n cs x hsx hx => by
    obtain ⟨a', l', c', rfl, k⟩ := trod_hd hg hx
    obtain ⟨hs', q, k1, k2⟩ := trod_pg hg he hu hce hbe hcu hbu hsx k
    exact ⟨((a', l', c'), q), rfl, ⟨hs', k1⟩, k2⟩) hs h
  refine ⟨l.map (·.1), l.map (·.2), ⟨by rw [List.map_map]; exact h1, by simp, fun i x q k1 k2 => ?_⟩, fun q hq => ?_⟩
  · rw [List.getElem?_map] at k1 k2
    obtain ⟨y, hy, rfl⟩ := Option.map_eq_some_iff.1 k1
    rw [hy] at k2
    cases k2
    exact (h2 y (List.mem_of_getElem? hy)).1
  · obtain ⟨y, hy, rfl⟩ := List.mem_map.1 hq
    exact (h2 y hy).2
end
end Go.Proofs.Ytdeknimelkdaeaa
end

/- the text P34 -/
section
/- Chapter 35: the reference's machine in memory. -/
set_option linter.unusedVariables false
namespace Go.Proofs.Ytdeknimelkdaeaa
open Go.RowKit Go.Dx Go.Al
/-- a row of bytes: in a block of bytes, or as it lay at the start -/
def RRow (w0 w : World) (x : Hd) (r : List UInt8) : Prop := (Sl w 1 x.1 x.2.1 x.2.2 (r.map B8) ∧ Kind w x.1) ∨ Sl w0 1 x.1 x.2.1 x.2.2 (r.map B8)
def RRows (w0 w : World) (hs : List Hd) (p : Pgl) : Prop := hs.length = p.length ∧ ∀ (i : Nat) (x : Hd) (r : List UInt8), hs[i]? = some x → p[i]? = some r → RRow w0 w x r
/-- a page: its table lies in a block of X, or as it lay at the start -/
def RPg (w0 w : World) (X : List Nat) (x : Hd) (p : Pgl) : Prop := ∃ hs, RRows w0 w hs p ∧ ((Own w 0 31 1 x.1 x.2.1 x.2.2 (hs.map hv) ∧ ∀ b ∈ hb x, b ∈ X) ∨ Sl w0 1 x.1 x.2.1 x.2.2 (hs.map hv))
section
variable {w0 w w' : World} {X F : List Nat} {x : Hd} {p : Pgl} {r : List UInt8} {hs : List Hd}
theorem RRow.fr (h : RRow w0 w x r) (hf : Fr F w w') (hn : ∀ b ∈ F, NoB w b) : RRow w0 w' x r := by
  rcases h with ⟨h1, h2⟩ | h
  · exact .inl (((Rows.one h1 h2).fr hf hn).2 0 x r rfl rfl)
  · exact .inr h
theorem RRow.sl (h : RRow w0 w x r) (hb : Below w0.heap.size w0 w) : Sl w 1 x.1 x.2.1 x.2.2 (r.map B8) := by
  rcases h with ⟨h1, h2⟩ | h
  · exact h1
  · exact h.below hb
theorem RRows.fr (h : RRows w0 w hs p) (hf : Fr F w w') (hn : ∀ b ∈ F, NoB w b) : RRows w0 w' hs p := ⟨h.1, fun i x r h1 h2 => (h.2 i x r h1 h2).fr hf hn⟩
theorem RRows.nil (w0 w : World) : RRows w0 w [] [] := ⟨rfl, fun i x r h => by cases h⟩
theorem RRows.set (h : RRows w0 w hs p) (k : Nat) (h1 : RRow w0 w x r) : RRows w0 w (hs.set k x) (p.set k r) := by
  refine ⟨by rw [List.length_set, List.length_set]; exact h.1, fun i y s hy hs' => ?_⟩
  rw [List.getElem?_set] at hy hs'
  by_cases hi : k = i
  · rw [if_pos hi] at hy hs'
    split at hy
    · split at hs'
      · cases hy; cases hs'; exact h1
      · cases hs'
    · cases hy
  · rw [if_neg hi] at hy hs'
    exact h.2 i y s hy hs'
theorem RPg.fr (h : RPg w0 w X x p) (hf : Fr F w w') (hn : ∀ b ∈ F, NoB w b) (hd : ∀ b ∈ X, b ∉ F) : RPg w0 w' X x p := by
  obtain ⟨hs, h1, h2⟩ := h
  refine ⟨hs, h1.fr hf hn, ?_⟩
  rcases h2 with ⟨h2, h3⟩ | h2
  · exact .inl ⟨own_fr h2 hf (fun b hb => hd b (h3 b hb)), h3⟩
  · exact .inr h2
theorem RPg.more {X' : List Nat} (h : RPg w0 w X x p) (hX : ∀ b ∈ X, b ∈ X') : RPg w0 w X' x p := by
  obtain ⟨hs, h1, h2⟩ := h
  refine ⟨hs, h1, ?_⟩
  rcases h2 with ⟨h2, h3⟩ | h2
  · exact .inl ⟨h2, fun b hb => hX b (h3 b hb)⟩
  · exact .inr h2
theorem RPg.pg (h : RPg w0 w X x p) (hb : Below w0.heap.size w0 w) : ∃ hs, Pg w x.1 x.2.1 x.2.2 hs p := by
  obtain ⟨hs, h1, h2⟩ := h
  refine ⟨hs, ?_, h1.1, fun i y r h3 h4 => (h1.2 i y r h3 h4).sl hb⟩
  rcases h2 with ⟨h2, h3⟩ | h2
  · exact h2.sl
  · exact h2.below hb
theorem RPg.rows (h : RPg w0 w X x p) (hb : Below w0.heap.size w0 w) : ∃ hs, Sl w 1 x.1 x.2.1 x.2.2 (hs.map hv) ∧ RRows w0 w hs p := by
  obtain ⟨hs, h1, h2⟩ := h
  refine ⟨hs, ?_, h1⟩
  rcases h2 with ⟨h2, h3⟩ | h2
  · exact h2.sl
  · exact h2.below hb
theorem RPg.tab (w0 : World) (t : Tab w x p) (hX : ∀ b ∈ hb x, b ∈ X) : RPg w0 w X x p := by
  obtain ⟨hs, h1, h2⟩ := t
  exact ⟨hs, ⟨h2.1, fun i y r h3 h4 => .inl (h2.2 i y r h3 h4)⟩, .inl ⟨h1, hX⟩⟩
theorem RPg.old (w : World) (X : List Nat) (h : PgE w0 x p) : RPg w0 w X x p := by
  obtain ⟨hs, h1⟩ := h
  exact ⟨hs, ⟨h1.len, fun i y r h3 h4 => .inr (h1.row i y r h3 h4)⟩, .inr h1.top⟩
theorem RPg.nil (w0 w : World) (X : List Nat) : RPg w0 w X nilH [] := .tab w0 (Tab.nil w) (fun b hb => by cases hb)
end
theorem ShR.imp {R R' : Hd → Pgl → Prop} {ws : List HS} {L : List Sht} (h : ShR R ws L) (hR : ∀ x p, R x p → R' x p) : ShR R' ws L := ⟨h.len, fun i y s h1 h2 => ⟨hR _ _ (h.get i y s h1 h2).1, hR _ _ (h.get i y s h1 h2).2⟩⟩
theorem sl_fr35 {w w' : World} {F : List Nat} {sz : Nat} {a : Option Addr} {n c : Nat} {cs : List Value} (s : Sl w sz a n c cs) (hf : Fr F w w') (hd : ∀ b ∈ blk a, b < w.heap.size ∧ b ∉ F) : Sl w' sz a n c cs := by
  refine ⟨s.len, s.le, s.cap, s.nil, fun q hq j u hj => ?_⟩
  have h3 := s.cell q hq j u hj
  have hq2 : (q.add j).block = q.block := by unfold Addr.add; split <;> rfl
  obtain ⟨h4, h5⟩ := hd q.block (by rw [hq]; simp [blk])
  have hq3 : w'.cell? (q.add j) = w.cell? (q.add j) := World.cell?_of_block (by rw [hq2]; exact hf.block _ h4 h5)
  rw [hq3]
  exact h3
/-- where the reference's parts lie -/
structure RM where
  (wa : Option Addr) (wc : Nat) (ws : List HS) (ta : Option Addr) (tc : Nat) (ts : List HS) (v0 v1 u0 u1 : Hd) (rw : Int) (br : Nat) (g0 g1 : Nat) (gs : List Nat)
def rcells (m : RM) (S : Pr) : List Value :=
  [.int .i64 (S.paper : Int), .slice m.wa S.waiting.length m.wc, .slice m.ta S.tray.length m.tc, .bool S.busy, .slice m.v0.1 m.v0.2.1 m.v0.2.2, .slice m.v1.1 m.v1.2.1 m.v1.2.2, .slice m.u0.1 m.u0.2.1 m.u0.2.2, .slice m.u1.1 m.u1.2.1 m.u1.2.2,
   .int .i64 m.rw, .int .i64 (S.mode : Int), .int .i64 (m.br : Int)]
/-- the sheet in work -/
structure RWk (w0 w : World) (X : List Nat) (m : RM) (S : Pr) : Prop where
  rows : m.rw = (S.rows : Int)
  t0 : RPg w0 w X m.v0 S.w0
  t1 : RPg w0 w X m.v1 S.w1
  e0 : m.u0 = (some ⟨m.g0, 0, none⟩, 25, 25)
  e1 : m.u1 = (some ⟨m.g1, 0, none⟩, 25, 25)
  gl : m.gs = [m.g0, m.g1]
  gg : m.g0 ≠ m.g1
  n0 : m.g0 ∉ X
  n1 : m.g1 ∉ X
  f0 : ∃ k, Box w m.g0 31 (k.map hv) ∧ RRows w0 w k S.d0 ∧ k.length = 25
  f1 : ∃ k, Box w m.g1 31 (k.map hv) ∧ RRows w0 w k S.d1 ∧ k.length = 25
structure RIn (w0 w : World) (X : List Nat) (m : RM) (S : Pr) : Prop where
  lt : ∀ b ∈ m.gs ++ X, b < w.heap.size
  nob : ∀ b ∈ m.gs ++ X, NoB w b
  wl : Sl w 2 m.wa S.waiting.length m.wc (m.ws.flatMap shc)
  wx : ∀ b ∈ blk m.wa, b ∈ X
  tl : Sl w 2 m.ta S.tray.length m.tc (m.ts.flatMap shc)
  tx : ∀ b ∈ blk m.ta, b ∈ X
  ww : ShR (RPg w0 w X) m.ws S.waiting
  tt : ShR (RPg w0 w X) m.ts S.tray
  bz : S.busy = true → RWk w0 w X m S
structure RAt (w0 w : World) (r : Nat) (X : List Nat) (m : RM) (S : Pr) : Prop where
  box : Box w r 51 (rcells m S)
  nr : r ∉ m.gs ++ X
  inn : RIn w0 w X m S
def rfoot (r : Nat) (X : List Nat) (m : RM) : List Nat := r :: m.gs ++ X
section
variable {w0 w w' : World} {X F : List Nat} {m : RM} {S : Pr} {r : Nat}
theorem RWk.fr (h : RWk w0 w X m S) (hf : Fr F w w') (hn : ∀ b ∈ F, NoB w b) (hd : ∀ b ∈ m.gs ++ X, b ∉ F) : RWk w0 w' X m S := by
  have hX : ∀ b ∈ X, b ∉ F := fun b hb => hd b (by simp [hb])
  have hbx : ∀ {g : Nat} {t : TypeId} {cs : List Value}, Box w g t cs → g ∉ F → Box w' g t cs := fun {g t cs} hx hg => by
    have h1 : w.heap[g]? = some (.cells cs.toArray t (0, 0)) := hx
    show w'.heap[g]? = _
    rw [hf.block g (Box.lt hx) hg]
    exact h1
  obtain ⟨k0, x0, r0, l0⟩ := h.f0
  obtain ⟨k1, x1, r1, l1⟩ := h.f1
  exact ⟨h.rows, h.t0.fr hf hn hX, h.t1.fr hf hn hX, h.e0, h.e1, h.gl, h.gg, h.n0, h.n1, ⟨k0, hbx x0 (hd _ (by rw [h.gl]; simp)), r0.fr hf hn, l0⟩, ⟨k1, hbx x1 (hd _ (by rw [h.gl]; simp)), r1.fr hf hn, l1⟩⟩
theorem NoB.fr {b : Nat} (h : NoB w b) (hf : Fr F w w') (hb : b < w.heap.size) (hF : b ∉ F) : NoB w' b := fun C z hc => h C z (by rw [← hf.block b hb hF]; exact hc)
theorem RIn.fr (h : RIn w0 w X m S) (hf : Fr F w w') (hn : ∀ b ∈ F, NoB w b) (hd : ∀ b ∈ m.gs ++ X, b ∉ F) : RIn w0 w' X m S := by
  have hX : ∀ b ∈ X, b ∉ F := fun b hb => hd b (by simp [hb])
  have hl : ∀ b ∈ X, b < w.heap.size := fun b hb => h.lt b (by simp [hb])
  exact ⟨fun b hb => Nat.lt_of_lt_of_le (h.lt b hb) hf.size, fun b hb => (h.nob b hb).fr hf (h.lt b hb) (hd b hb), sl_fr35 h.wl hf (fun b hb => ⟨hl b (h.wx b hb), hX b (h.wx b hb)⟩), h.wx,
    sl_fr35 h.tl hf (fun b hb => ⟨hl b (h.tx b hb), hX b (h.tx b hb)⟩), h.tx, h.ww.imp fun x p t => t.fr hf hn hX, h.tt.imp fun x p t => t.fr hf hn hX, fun hb => (h.bz hb).fr hf hn hd⟩
theorem RIn.below (h : RIn w0 w X m S) (hb : Below w.heap.size w w') : RIn w0 w' X m S := h.fr (F := []) (Fr.of hb) (by simp) (by simp)
theorem RAt.below (h : RAt w0 w r X m S) (hb : Below w.heap.size w w') : RAt w0 w' r X m S := ⟨h.box.under hb, h.nr, h.inn.below hb⟩
theorem RAt.fr (h : RAt w0 w r X m S) (hf : Fr F w w') (hn : ∀ b ∈ F, NoB w b) (hd : ∀ b ∈ rfoot r X m, b ∉ F) : RAt w0 w' r X m S := by
  refine ⟨?_, h.nr, h.inn.fr hf hn (fun b hb => hd b (by unfold rfoot; exact List.mem_cons_of_mem _ hb))⟩
  have h1 : w.heap[r]? = some (.cells (rcells m S).toArray _ (0, 0)) := h.box
  show w'.heap[r]? = _
  rw [hf.block r (Box.lt h.box) (hd r (by simp [rfoot]))]
  exact h1
theorem RAt.lt (h : RAt w0 w r X m S) : ∀ b ∈ rfoot r X m, b < w.heap.size := fun b hb => by
  rcases List.mem_cons.1 hb with rfl | hb
  · exact h.box.lt
  · exact h.inn.lt b hb
theorem RAt.nob (h : RAt w0 w r X m S) : ∀ b ∈ rfoot r X m, NoB w b := fun b hb => by
  rcases List.mem_cons.1 hb with rfl | hb
  · exact NoB.box h.box (by decide)
  · exact h.inn.nob b hb
theorem RIn.fr1 (h : RIn w0 w X m S) (hf : Fr [r] w w') (hn : NoB w r) (hd : r ∉ m.gs ++ X) : RIn w0 w' X m S :=
  h.fr hf (fun b hm => by simp at hm; subst hm; exact hn) (fun b hb hm => by simp at hm; subst hm; exact hd hb)
end
/-- a new reference machine -/
def rm0 (r : Nat) : RM := ⟨none, 0, [], none, 0, [], nilH, nilH, nilH, nilH, 0, 0, r, r, []⟩
set_option maxRecDepth 100000 in
set_option maxHeartbeats 1000000 in
theorem ref35_New (w0 : World) (n : Int) (k : Nat) (w : World) (hk : n = (k : Int)) (h1 : k ≤ 1000) :
    Calls Try.prog 19 #[.int .i64 n] w fun e w' => ∃ r, e = .returned (.tuple #[.pointer (some ⟨r, 0, none⟩), .int .i64 0]) ∧ RAt w0 w' r [] (rm0 r) (newP k) ∧ w.heap.size ≤ r ∧ Below w.heap.size w w' := by
  subst hk
  have d1 : decide ((k : Int) < 0) = false := decide_eq_false (by omega)
  have d2 : decide ((1000 : Int) < (k : Int)) = false := decide_eq_false (by omega)
  clear h1
  go_enter Try.func19, Try.ntmps19
  go_wp2_with fail
  go_ret2
  have hx := Box.new w 51 #[.int .i64 (k : Int), .slice none 0 0, .slice none 0 0, .bool false, .slice none 0 0, .slice none 0 0, .slice none 0 0, .slice none 0 0, .int .i64 0, .int .i64 0, .int .i64 0]
  refine ⟨w.heap.size, rfl, ⟨hx, by simp [rm0], ?_⟩, Nat.le_refl _, sblo w _⟩
  exact ⟨fun b hb => (by cases hb), fun b hb => (by cases hb), (Own.nil _ 0 29 2).sl, fun b hb => (by cases hb), (Own.nil _ 0 29 2).sl, fun b hb => (by cases hb), ShR.nil _, ShR.nil _, fun hb => (by cases hb)⟩
theorem ref35_New_bad (n : Int) (w : World) (h : n < 0 ∨ 1000 < n) :
    Calls Try.prog 19 #[.int .i64 n] w fun e w' => e = .returned (.tuple #[.pointer none, .int .i64 1]) ∧ w' = w := by
  by_cases h1 : n < 0
  · have d1 : decide (n < 0) = true := decide_eq_true h1
    clear h h1
    go_enter Try.func19, Try.ntmps19
    go_wp2_with fail
    go_ret2
    exact ⟨rfl, rfl⟩
  · have d1 : decide (n < 0) = false := decide_eq_false h1
    have d2 : decide (1000 < n) = true := decide_eq_true (by omega)
    clear h h1
    go_enter Try.func19, Try.ntmps19
    go_wp2_with fail
    go_ret2
    exact ⟨rfl, rfl⟩
end Go.Proofs.Ytdeknimelkdaeaa
end

/- the text AppF -/
section
/- The laws on append once more: the block that is handed back is the old one or a new one. No program in sight. -/
set_option linter.unusedVariables false
namespace Go.Dx
open Go.RowKit
section laws
variable {P : Program} {w : World} {ops : Array Oper} {rest : List Oper} {o : Oper} {act : Act} {Q : Exit → Act → World → Prop}
theorem run_append_fresh (base : Nat) (t tx ty e : TypeId) (i : TypeInfo) (z : Value) (ht : P.underlying t = some (.slice e)) (hi : P.info? e = some i) (hz : i.zero = some z)
    (hzs : z.cells.size = i.size) (a : Option Addr) (n c : Nat) (xs : List Value) (hown : Own w base e i.size a n c xs)
    (x : Value) (m : Nat) (news : List Value) (hs : Src P i.size tx x m news w)
    (h63 : n + m ≤ maxLen) (hbytes : (n + m) * i.bytes ≤ 140737488355328) (hbase : base ≤ w.heap.size) :
    ∃ a' c' w', (Builtin.append_ #[t, tx] ty #[.slice a n c, x]).run P w = .ok (.slice a' (n + m) c') w' ∧ Own w' base e i.size a' (n + m) c' (xs ++ news) ∧ w.grownBy w' (a.map (·.block)) ∧ (∀ p, a' = some p → (∃ q, a = some q ∧ q.block = p.block) ∨ w.heap.size ≤ p.block) := by
  have hsmall : n + m ≤ 9223372036854775807 := by simp only [maxLen] at h63; omega
  have hlen : (xs ++ news).length = (n + m) * i.size := by rw [List.length_append, hown.1, hs.newsLen, Nat.add_mul]
  have hold : (Builtin.firstCells i.size n (.slice a n c)).run P w.drew = .ok xs.toArray w.drew := by
    have hsl := hown.sl
    cases a with
    | none =>
      have := hsl.nil rfl
      have := hsl.le
      obtain rfl : n = 0 := by omega
      have hnews : xs = [] := List.eq_nil_of_length_eq_zero (by simpa using hsl.len)
      subst hnews
      exact run_firstCells_none w.drew i.size 0 0 c
    | some p => exact run_firstCells_some w.drew i.size n p n c xs hsl.len (by simpa using hsl.cell p rfl)
  by_cases hroom : n + m ≤ c
  · rcases hown.2 with ⟨h1, h2⟩ | ⟨g, cap, cur, h1, hbg, hg, hnc, hcm, hcs, htake⟩
    · injection h1 with h1 h3 h4
      subst h1 h3 h4
      obtain rfl : m = 0 := by omega
      have hx : xs = [] := List.eq_nil_of_length_eq_zero (by simpa using hown.1)
      have hnews : news = [] := List.eq_nil_of_length_eq_zero (by simpa using hs.newsLen)
      subst hx hnews
      refine ⟨none, 0, w, ?_, Own.nil w base e i.size, World.grownBy.refl _ _, fun p hp => by cases hp⟩
      rcases hs.kind with ⟨e', hk⟩ | hk <;> simp [Builtin.append_, run_underlying ht, run_underlying hk, sizeOf, typeInfo, hi, hs.len, hs.cells]
    · injection h1 with h1 h3 h4
      subst h1 h4
      have hfit : n * i.size + news.length ≤ cur.size := by rw [hs.newsLen, hcs, ← Nat.add_mul]; exact Nat.mul_le_mul_right _ hroom
      have hst := run_storeCells_at P g (n * i.size) e news 0 cur w hg (by simpa using hfit) hs.one
      simp only [Nat.add_zero] at hst
      refine ⟨some ⟨g, 0, none⟩, c, w.setRow g (cur.toList.take (n * i.size) ++ news ++ cur.toList.drop (n * i.size + news.length)).toArray, ?_, ⟨hlen, .inr ⟨g, c, _, rfl, hbg, setRow_heap w g cur _ e _ hg, hroom, hcm, ?_, ?_⟩⟩, ⟨rfl, rfl, rfl, by simp, fun k _ hk => setRow_other w g k _ (fun e => hk (by simp [e]))⟩, fun p hp => by cases hp; exact .inl ⟨_, rfl, rfl⟩⟩
      · rcases hs.kind with ⟨e', hk⟩ | hk <;> simp [Builtin.append_, run_underlying ht, run_underlying hk, sizeOf, typeInfo, hi, hs.len, hroom, hs.cells, Addr.add_lit, hst]
      · simp only [List.size_toArray, List.length_append, List.length_take, List.length_drop, Array.length_toList]
        omega
      · rw [htake, ← hlen]
        exact List.take_left
  · have hr := run_append_grow_src (P := P) w t tx ty e i z ht hi hz a n c xs hold x m news hs (by omega) (by omega) (growslice_fits (by omega) hbytes)
    have hge := grownCap_ge w (n + m) c e
    have hcm : grownCap w (n + m) c e ≤ maxLen := grownCap_le_maxLen w (n + m) c e h63
    refine ⟨_, _, _, hr, ⟨hlen, .inr ⟨w.heap.size, _, _, rfl, hbase, heap_alloc_new w.drew _, hge, hcm, ?_, ?_⟩⟩, ⟨rfl, rfl, rfl, by simp, fun k hk _ => Below.heap_alloc w.drew _ k hk⟩, fun p hp => by cases hp; exact .inr (Nat.le_refl _)⟩
    · simp only [Array.size_append, List.size_toArray, size_zeroCells, hzs, hlen, ← Nat.add_mul]
      congr 1
      omega
    · simp only [Array.toList_append, List.append_assoc]
      rw [← List.append_assoc, ← hlen]
      exact List.take_left

/-- 'append(out, x...)', out owned, whatever x is: the general law. -/
theorem append_src_f (hg : o.guard = none) (s x : Operand) (t tx : TypeId) (hop : o.op = Op.call { callee := Callee.builtin Builtin.append, args := #[s, x], argTypes := #[t, tx] })
    (e : TypeId) (z : Value) (sz bytes : Nat) (ht : P.underlying t = some (.slice e)) (hi : (P.info? e).map (fun i => (i.zero, i.size, i.bytes)) = some (some z, sz, bytes)) (hz : z.cells.size = sz)
    (w0 : World) (B : Nat) (a : Option Addr) (n c : Nat) (xs : List Value) (hs : act.eval s = .slice a n c) (hown : Own w B e sz a n c xs)
    (v : Value) (m : Nat) (ys : List Value) (hx : act.eval x = v) (hy : Src P sz tx v m ys w)
    (hn : (n + m) * bytes ≤ 140737488355328) (hn2 : n + m ≤ maxLen) (hB : B ≤ w.heap.size) (hbel : Below B w0 w)
    (hK : ∀ a' c' w', Own w' B e sz a' (n + m) c' (xs ++ ys) → w.grownBy w' (a.map (·.block)) → (∀ p, a' = some p → (∃ q, a = some q ∧ q.block = p.block) ∨ w.heap.size ≤ p.block) → Below B w0 w' → wpList P ops Q rest (act.put o.dst (.slice a' (n + m) c')) w') :
    wpList P ops Q (o :: rest) act w := by
  obtain ⟨i, hi0, hz0, hz1, hz2⟩ := info_parts hi
  subst hz1 hz2
  clear hi
  obtain ⟨a', c', w', hrun, ho, hgr, hfr⟩ := run_append_fresh B t tx o.type e i z ht hi0 hz0 hz a n c xs hown v m ys hy hn2 hn hB
  refine wpList_plain hg fun K hK' => ?_
  unfold Oper.wp
  simp [execOp, hop, resolve, invoke, builtin, hs, hx, hrun, Result.andThen]
  refine hK' _ _ (hK a' c' w' ho hgr hfr (hbel.grown hgr hB ?_))
  intro k hk
  cases a with
  | none => cases hk
  | some p => injection hk with hk; subst hk; exact hown.base.1

/-- 'append(out, ys...)', out owned, ys a slice. -/
theorem append_own_f (hg : o.guard = none) (s x : Operand) (t : TypeId) (hop : o.op = Op.call { callee := Callee.builtin Builtin.append, args := #[s, x], argTypes := #[t, t] })
    (e : TypeId) (z : Value) (sz bytes : Nat) (ht : P.underlying t = some (.slice e)) (hi : (P.info? e).map (fun i => (i.zero, i.size, i.bytes)) = some (some z, sz, bytes)) (hz : z.cells.size = sz)
    (w0 : World) (B : Nat) (a : Option Addr) (n c : Nat) (xs : List Value) (hs : act.eval s = .slice a n c) (hown : Own w B e sz a n c xs)
    (a2 : Option Addr) (m c2 : Nat) (ys : List Value) (hx : act.eval x = .slice a2 m c2) (hy : Sl w sz a2 m c2 ys) (h1 : ∀ u ∈ ys, u.oneCell' = true)
    (hn : (n + m) * bytes ≤ 140737488355328) (hn2 : n + m ≤ maxLen) (hB : B ≤ w.heap.size) (hbel : Below B w0 w)
    (hK : ∀ a' c' w', Own w' B e sz a' (n + m) c' (xs ++ ys) → w.grownBy w' (a.map (·.block)) → (∀ p, a' = some p → (∃ q, a = some q ∧ q.block = p.block) ∨ w.heap.size ≤ p.block) → Below B w0 w' → wpList P ops Q rest (act.put o.dst (.slice a' (n + m) c')) w') :
    wpList P ops Q (o :: rest) act w :=
  append_src_f hg s x t t hop e z sz bytes ht hi hz w0 B a n c xs hs hown _ m ys hx (hy.src ht h1) hn hn2 hB hbel hK

theorem append_lit_f (hg : o.guard = none) (s x : Operand) (t : TypeId) (hop : o.op = Op.call { callee := Callee.builtin Builtin.append, args := #[s, x], argTypes := #[t, t] })
    (e : TypeId) (z : Value) (sz bytes : Nat) (ht : P.underlying t = some (.slice e)) (hi : (P.info? e).map (fun i => (i.zero, i.size, i.bytes)) = some (some z, sz, bytes)) (hz : z.cells.size = sz)
    (w0 : World) (B : Nat) (a : Option Addr) (n c : Nat) (xs : List Value) (hs : act.eval s = .slice a n c) (hown : Own w B e sz a n c xs)
    (m : Nat) (us : List Value) (hx : act.eval x = .slice (some ⟨w.heap.size, 0, none⟩) m m) (hu : us.length = m * sz) (h1 : ∀ u ∈ us, u.oneCell' = true)
    (hn : (n + m) * bytes ≤ 140737488355328) (hn2 : n + m ≤ maxLen) (hB : B ≤ w.heap.size) (hbel : Below B w0 w)
    (hK : ∀ a' c' w', Own w' B e sz a' (n + m) c' (xs ++ us) → w.grownBy w' (a.map (·.block)) → (∀ p, a' = some p → (∃ q, a = some q ∧ q.block = p.block) ∨ w.heap.size ≤ p.block) → Below B w0 w' → wpList P ops Q rest (act.put o.dst (.slice a' (n + m) c')) w') :
    wpList P ops Q (o :: rest) act (w.alloc (.cells us.toArray e)) := by
  refine append_own_f hg s x t hop e z sz bytes ht hi hz w0 B a n c xs hs (hown.alloc _) _ m m us hx ?_ h1 hn hn2 (by simp; omega) (hbel.alloc hB _) ?_
  · have := (Own.built w 0 e sz m us.toArray (Nat.zero_le _) (by simpa using hu) (by omega)).sl
    simpa using this
  · intro a' c' w' ho hgr hfr hb
    refine hK a' c' w' ho ⟨hgr.os, hgr.tape, hgr.output, ?_, ?_⟩ (fun p hp => (hfr p hp).imp id (fun h => by simp at h; omega)) hb
    · have := hgr.size; simp at this; omega
    · intro k hk hne
      rw [hgr.block k (by simp; omega) hne]
      rw [Below.heap_alloc _ _ _ hk]
end laws
end Go.Dx
end

/- the text AppN -/
section
/- The law on 'append([]T{}, xs...)': what is handed back is the empty slice or lies in a new block. No program in sight. -/
set_option linter.unusedVariables false
set_option linter.unusedSimpArgs false
namespace Go.Dx
open Go.RowKit
section ops
variable {P : Program} {w : World} {ops : Array Oper} {rest : List Oper} {o : Oper} {act : Act} {Q : Exit → Act → World → Prop}
theorem run_append_empty (B : Nat) (t tx ty e : TypeId) (i : TypeInfo) (z : Value) (ht : P.underlying t = some (.slice e)) (hi : P.info? e = some i) (hz : i.zero = some z)
    (hzs : z.cells.size = i.size) (a : Option Addr) (hown : Own w B e i.size a 0 0 [])
    (x : Value) (m : Nat) (news : List Value) (hs : Src P i.size tx x m news w)
    (h63 : m ≤ maxLen) (hbytes : m * i.bytes ≤ 140737488355328) (hB : B ≤ w.heap.size) :
    ∃ a' c' w', (Builtin.append_ #[t, tx] ty #[.slice a 0 0, x]).run P w = .ok (.slice a' m c') w' ∧ Own w' B e i.size a' m c' news ∧ Below w.heap.size w w' ∧ (m = 0 ∧ c' = 0 ∨ m ≠ 0 ∧ ∀ p, a' = some p → w.heap.size ≤ p.block) := by
  have hsmall : m ≤ 9223372036854775807 := by simp only [maxLen] at h63; omega
  have hlen : news.length = m * i.size := hs.newsLen
  have hold : (Builtin.firstCells i.size 0 (.slice a 0 0)).run P w.drew = .ok ([] : List Value).toArray w.drew := by
    cases a with
    | none => exact run_firstCells_none w.drew i.size 0 0 0
    | some p => exact run_firstCells_some w.drew i.size 0 p 0 0 [] (by simp) (fun j u hj => by simp at hj)
  by_cases hm : m = 0
  · subst hm
    have hnews : news = [] := List.eq_nil_of_length_eq_zero (by simpa using hs.newsLen)
    subst hnews
    refine ⟨a, 0, w, ?_, hown, Below.refl _ _, .inl ⟨rfl, rfl⟩⟩
    cases a with
    | none =>
      rcases hs.kind with ⟨e', hk⟩ | hk <;> simp [Builtin.append_, run_underlying ht, run_underlying hk, sizeOf, typeInfo, hi, hs.len, hs.cells]
    | some p =>
      have hst : ∀ q : Addr, (storeCells q ([] : List Value)).run P w = .ok () w := by intro q; simp [storeCells]
      rcases hs.kind with ⟨e', hk⟩ | hk <;> simp [Builtin.append_, run_underlying ht, run_underlying hk, sizeOf, typeInfo, hi, hs.len, hs.cells, hst]
  · have hr := run_append_grow_src (P := P) w t tx ty e i z ht hi hz a 0 0 [] hold x m news hs (by omega) (by omega) (growslice_fits (by omega) (by rw [Nat.zero_add]; exact hbytes))
    have hge := grownCap_ge w (0 + m) 0 e
    have hcm : grownCap w (0 + m) 0 e ≤ maxLen := grownCap_le_maxLen w (0 + m) 0 e (by rw [Nat.zero_add]; exact h63)
    rw [Nat.zero_add] at hr hge hcm
    refine ⟨_, _, _, hr, ⟨hlen, .inr ⟨w.heap.size, _, _, rfl, hB, heap_alloc_new w.drew _, hge, hcm, ?_, ?_⟩⟩, undrew (Below.alloc (Below.refl w.heap.size w.drew) (Nat.le_refl w.heap.size) _), .inr ⟨hm, fun p hp => by cases hp; exact Nat.le_refl _⟩⟩
    · simp only [Array.size_append, List.size_toArray, size_zeroCells, hzs, List.nil_append, hlen, ← Nat.add_mul]
      congr 1
      omega
    · simp only [Array.toList_append, List.nil_append]
      rw [← hlen]
      exact List.take_left
/-- 'append([]T{}, xs...)' -/
theorem append_empty (hg : o.guard = none) (s x : Operand) (t : TypeId) (hop : o.op = Op.call { callee := Callee.builtin Builtin.append, args := #[s, x], argTypes := #[t, t] })
    (e : TypeId) (z : Value) (sz bytes : Nat) (ht : P.underlying t = some (.slice e)) (hi : (P.info? e).map (fun i => (i.zero, i.size, i.bytes)) = some (some z, sz, bytes)) (hz : z.cells.size = sz)
    (B : Nat) (a : Option Addr) (hs : act.eval s = .slice a 0 0) (hown : Own w B e sz a 0 0 [])
    (a2 : Option Addr) (m c2 : Nat) (ys : List Value) (hx : act.eval x = .slice a2 m c2) (hy : Sl w sz a2 m c2 ys) (h1 : ∀ u ∈ ys, u.oneCell' = true)
    (hn : m * bytes ≤ 140737488355328) (hn2 : m ≤ maxLen) (hB : B ≤ w.heap.size)
    (hK : ∀ a' c' w', Own w' B e sz a' m c' ys → Below w.heap.size w w' → (m = 0 ∧ c' = 0 ∨ m ≠ 0 ∧ ∀ p, a' = some p → w.heap.size ≤ p.block) → wpList P ops Q rest (act.put o.dst (.slice a' m c')) w') :
    wpList P ops Q (o :: rest) act w := by
  obtain ⟨i, hi0, hz0, hz1, hz2⟩ := info_parts hi
  subst hz1 hz2
  clear hi
  obtain ⟨a', c', w', hrun, ho, hgr, hfr⟩ := run_append_empty B t t o.type e i z ht hi0 hz0 hz a hown _ m ys (hy.src ht h1) hn2 hn hB
  refine wpList_plain hg fun K hK' => ?_
  unfold Oper.wp
  simp [execOp, hop, resolve, invoke, builtin, hs, hx, hrun, Result.andThen]
  exact hK' _ _ (hK a' c' w' ho hgr hfr)
/-- 'append(out, ys...)', out owned: either all that lay there stays, or there is room and the block of out grows in place. -/
theorem run_append_where (base : Nat) (t tx ty e : TypeId) (i : TypeInfo) (z : Value) (ht : P.underlying t = some (.slice e)) (hi : P.info? e = some i) (hz : i.zero = some z)
    (hzs : z.cells.size = i.size) (a : Option Addr) (n c : Nat) (xs : List Value) (hown : Own w base e i.size a n c xs)
    (x : Value) (m : Nat) (news : List Value) (hs : Src P i.size tx x m news w)
    (h63 : n + m ≤ maxLen) (hbytes : (n + m) * i.bytes ≤ 140737488355328) (hbase : base ≤ w.heap.size) :
    ∃ a' c' w', (Builtin.append_ #[t, tx] ty #[.slice a n c, x]).run P w = .ok (.slice a' (n + m) c') w' ∧ Own w' base e i.size a' (n + m) c' (xs ++ news) ∧ w.grownBy w' (a.map (·.block)) ∧ (n + m ≤ c ∨ Below w.heap.size w w') := by
  obtain ⟨a', c', w', h1, h2, h3, _⟩ := run_append_fresh base t tx ty e i z ht hi hz hzs a n c xs hown x m news hs h63 hbytes hbase
  by_cases hroom : n + m ≤ c
  · exact ⟨a', c', w', h1, h2, h3, .inl hroom⟩
  · have hsmall : n + m ≤ 9223372036854775807 := by simp only [maxLen] at h63; omega
    have hold : (Builtin.firstCells i.size n (.slice a n c)).run P w.drew = .ok xs.toArray w.drew := by
      have hsl := hown.sl
      cases a with
      | none =>
        have := hsl.nil rfl
        have := hsl.le
        obtain rfl : n = 0 := by omega
        have hnews : xs = [] := List.eq_nil_of_length_eq_zero (by simpa using hsl.len)
        subst hnews
        exact run_firstCells_none w.drew i.size 0 0 c
      | some p => exact run_firstCells_some w.drew i.size n p n c xs hsl.len (by simpa using hsl.cell p rfl)
    have hr := run_append_grow_src (P := P) w t tx ty e i z ht hi hz a n c xs hold x m news hs (by omega) (by omega) (growslice_fits (by omega) hbytes)
    rw [hr] at h1
    cases h1
    exact ⟨_, _, _, hr, h2, h3, .inr (undrew (Below.alloc (Below.refl w.heap.size w.drew) (Nat.le_refl w.heap.size) _))⟩
theorem append_where (hg : o.guard = none) (s x : Operand) (t : TypeId) (hop : o.op = Op.call { callee := Callee.builtin Builtin.append, args := #[s, x], argTypes := #[t, t] })
    (e : TypeId) (z : Value) (sz bytes : Nat) (ht : P.underlying t = some (.slice e)) (hi : (P.info? e).map (fun i => (i.zero, i.size, i.bytes)) = some (some z, sz, bytes)) (hz : z.cells.size = sz)
    (B : Nat) (a : Option Addr) (n c : Nat) (xs : List Value) (hs : act.eval s = .slice a n c) (hown : Own w B e sz a n c xs)
    (a2 : Option Addr) (m c2 : Nat) (ys : List Value) (hx : act.eval x = .slice a2 m c2) (hy : Sl w sz a2 m c2 ys) (h1 : ∀ u ∈ ys, u.oneCell' = true)
    (hn : (n + m) * bytes ≤ 140737488355328) (hn2 : n + m ≤ maxLen) (hB : B ≤ w.heap.size)
    (hK : ∀ a' c' w', Own w' B e sz a' (n + m) c' (xs ++ ys) → w.grownBy w' (a.map (·.block)) → (n + m ≤ c ∨ Below w.heap.size w w') → wpList P ops Q rest (act.put o.dst (.slice a' (n + m) c')) w') :
    wpList P ops Q (o :: rest) act w := by
  obtain ⟨i, hi0, hz0, hz1, hz2⟩ := info_parts hi
  subst hz1 hz2
  clear hi
  obtain ⟨a', c', w', hrun, ho, hgr, hfr⟩ := run_append_where B t t o.type e i z ht hi0 hz0 hz a n c xs hown _ m ys (hy.src ht h1) hn2 hn hB
  refine wpList_plain hg fun K hK' => ?_
  unfold Oper.wp
  simp [execOp, hop, resolve, invoke, builtin, hs, hx, hrun, Result.andThen]
  exact hK' _ _ (hK a' c' w' ho hgr hfr)
end ops
end Go.Dx
end

/- the text P26 -/
section
/- Chapter 35: pages made of literals and of other pages. -/
set_option linter.unusedVariables false
namespace Go.Proofs.Ytdeknimelkdaeaa
open Go.RowKit Go.Dx Go.Al
section
variable {w : World} {ops : Array Oper} {rest : List Oper} {act : Act} {Q : Exit → Act → World → Prop} {ty : TypeId} {pos : String} {after : Array Edge}
theorem hv_one (ys : List Hd) : ∀ u ∈ ys.map hv, u.oneCell' = true := fun u hu => by
  obtain ⟨y, -, rfl⟩ := List.mem_map.1 hu
  rfl
theorem build_nil (d : Nat) (hK : ∀ w', Box w' w.heap.size 31 [] → Below w.heap.size w w' → wpList Try.prog ops Q rest (act.put (some d) (.slice (some ⟨w.heap.size, 0, none⟩) 0 0)) w') :
    wpList Try.prog ops Q ({ dst := some d, op := .buildSlice 28 0 #[], type := ty, pos := pos, after := after, guard := none } :: rest) act w := by
  refine wpList_plain rfl fun K hK' => ?_
  unfold Oper.wp
  have hrun : (Instr.buildSlice 28 0 #[]).run Try.prog w = .ok (.slice (some ⟨w.heap.size, 0, none⟩) 0 0) (w.alloc (.cells #[] 31)) := by kernel_rfl
  simp [execOp, hrun, Result.andThen]
  exact hK' _ _ (hK _ (Box.new w 31 #[]) (sblo w _))
theorem build_u8 (d : Nat) (x : Operand) (v : Int) (hx : act.eval x = .int .u8 v) (hK : ∀ w', Box w' w.heap.size 5 [.int .u8 v] → Below w.heap.size w w' → wpList Try.prog ops Q rest (act.put (some d) (.slice (some ⟨w.heap.size, 0, none⟩) 1 1)) w') :
    wpList Try.prog ops Q ({ dst := some d, op := .buildSlice 31 1 #[(0, x)], type := ty, pos := pos, after := after, guard := none } :: rest) act w :=
  build_one d 31 x 5 Try.underlying31 (.int .u8 0) 1 1 info_u8 rfl (by decide) (by decide) _ [.int .u8 v] hx rfl rfl (hK _ (Box.new w 5 #[.int .u8 v]) (sblo w _))
theorem build_row1 (d : Nat) (x : Operand) (a : Option Addr) (n c : Nat) (hx : act.eval x = .slice a n c) (hK : ∀ w', Box w' w.heap.size 31 [.slice a n c] → Below w.heap.size w w' → wpList Try.prog ops Q rest (act.put (some d) (.slice (some ⟨w.heap.size, 0, none⟩) 1 1)) w') :
    wpList Try.prog ops Q ({ dst := some d, op := .buildSlice 28 1 #[(0, x)], type := ty, pos := pos, after := after, guard := none } :: rest) act w :=
  build_one d 28 x 31 Try.underlying28 (.slice none 0 0) 1 24 info_row rfl (by decide) (by decide) _ [.slice a n c] hx rfl rfl (hK _ (Box.new w 31 #[.slice a n c]) (sblo w _))
theorem build_row2 (d : Nat) (x : Operand) (a : Option Addr) (n c : Nat) (hx : act.eval x = .slice a n c) (hK : ∀ w', Box w' w.heap.size 31 [.slice none 0 0, .slice a n c] → Below w.heap.size w w' → wpList Try.prog ops Q rest (act.put (some d) (.slice (some ⟨w.heap.size, 0, none⟩) 2 2)) w') :
    wpList Try.prog ops Q ({ dst := some d, op := .buildSlice 28 2 #[(0, .const (.slice none 0 0)), (1, x)], type := ty, pos := pos, after := after, guard := none } :: rest) act w := by
  refine wpList_plain rfl fun K hK' => ?_
  unfold Oper.wp
  have hrun : (Instr.buildSlice 28 2 #[(0, .slice none 0 0), (1, .slice a n c)]).run Try.prog w = .ok (.slice (some ⟨w.heap.size, 0, none⟩) 2 2) (w.alloc (.cells #[.slice none 0 0, .slice a n c] 31)) := by kernel_rfl
  have he : act.eval (.const (.slice none 0 0)) = .slice none 0 0 := rfl
  simp [execOp, he, hx, hrun, Result.andThen]
  exact hK' _ _ (hK _ (Box.new w 31 #[.slice none 0 0, .slice a n c]) (sblo w _))
end
section
variable {w : World} {ops : Array Oper} {rest : List Oper} {o : Oper} {act : Act} {Q : Exit → Act → World → Prop}
/-- 'append(api.Page{}, p...)' -/
theorem app_pg_e (hg : o.guard = none) (s x : Operand) (hop : o.op = Op.call { callee := Callee.builtin Builtin.append, args := #[s, x], argTypes := #[28, 28] })
    (B : Nat) (b : Nat) (hs : act.eval s = .slice (some ⟨b, 0, none⟩) 0 0) (hx0 : Box w b 31 []) (hB : B ≤ b)
    (a2 : Option Addr) (m c2 : Nat) (ys : List Hd) (hx : act.eval x = .slice a2 m c2) (hy : Sl w 1 a2 m c2 (ys.map hv)) (hn : m ≤ 5000000000000)
    (hK : ∀ a' c' w', Own w' B 31 1 a' m c' (ys.map hv) → Below w.heap.size w w' → (m = 0 ∧ c' = 0 ∨ m ≠ 0 ∧ ∀ p, a' = some p → w.heap.size ≤ p.block) → wpList Try.prog ops Q rest (act.put o.dst (.slice a' m c')) w') :
    wpList Try.prog ops Q (o :: rest) act w := by
  refine append_empty hg s x 28 hop 31 (.slice none 0 0) 1 24 Try.underlying28 info_row rfl B (some ⟨b, 0, none⟩) hs (own_of_box hx0 rfl (Nat.zero_le _) hB) a2 m c2 _ hx hy (hv_one ys) (by omega) (by unfold maxLen; omega) (Nat.le_trans hB (Nat.le_of_lt hx0.lt)) ?_
  intro a' c' w' h1 h2 h3
  exact hK a' c' w' h1 h2 h3
/-- 'append(p, q...)' on rows -/
theorem app_pgS (hg : o.guard = none) (s x : Operand) (hop : o.op = Op.call { callee := Callee.builtin Builtin.append, args := #[s, x], argTypes := #[28, 28] })
    (B : Nat) (a : Option Addr) (n c : Nat) (xs : List Hd) (hs : act.eval s = .slice a n c) (hown : Own w B 31 1 a n c (xs.map hv)) (hB : B ≤ w.heap.size)
    (a2 : Option Addr) (m c2 : Nat) (ys : List Hd) (hx : act.eval x = .slice a2 m c2) (hy : Sl w 1 a2 m c2 (ys.map hv)) (hn : n + m ≤ 5000000000000)
    (hK : ∀ a' c' w', Own w' B 31 1 a' (n + m) c' ((xs ++ ys).map hv) → w.grownBy w' (a.map (·.block)) → (n + m ≤ c ∨ Below w.heap.size w w') → wpList Try.prog ops Q rest (act.put o.dst (.slice a' (n + m) c')) w') :
    wpList Try.prog ops Q (o :: rest) act w := by
  refine append_where hg s x 28 hop 31 (.slice none 0 0) 1 24 Try.underlying28 info_row rfl B a n c _ hs hown a2 m c2 _ hx hy (hv_one ys) (by omega) (by unfold maxLen; omega) hB ?_
  intro a' c' w' h1 h2 h3
  exact hK a' c' w' (by rw [List.map_append]; exact h1) h2 h3
end
theorem tab_app {w w' : World} {B n c : Nat} {a : Option Addr} {hs zs : List Hd} {p q : Pgl} (hR : Rows w hs p) (b : Below w.heap.size w w') (ho : Own w' B 31 1 a n c ((hs ++ zs).map hv)) (hz : Rows w' zs q) : Tab w' (a, n, c) (p ++ q) :=
  ⟨hs ++ zs, ho.mono (Nat.zero_le _), (hR.below b).append hz⟩
theorem row_of_box {w : World} {g : Nat} {v : Nat} (h : Box w g 5 [.int .u8 (v : Int)]) (hv : v < 256) : Rows w [(some ⟨g, 0, none⟩, 1, 1)] [[UInt8.ofNat v]] := by
  refine Rows.one ?_ ?_
  · have := h.sl_al rfl (by simp [maxLen])
    show Sl w 1 _ 1 1 [B8 (UInt8.ofNat v)]
    rw [show B8 (UInt8.ofNat v) = .int .u8 (v : Int) by show Value.int .u8 ((UInt8.ofNat v).toNat : Int) = _; rw [UInt8.toNat_ofNat', Nat.mod_eq_of_lt hv]]
    exact this
  · intro q hq
    cases hq
    exact ⟨_, _, h⟩
theorem below_app {w w9 w10 : World} {a : Option Addr} {n m c : Nat} {B : Nat} {e : TypeId} {cs : List Value} (hb : Below w.heap.size w w9) (hg : w9.grownBy w10 (a.map (·.block))) (hz : n + m ≤ c ∨ Below w9.heap.size w9 w10) (hm : 0 < m) (hf : n = 0 ∧ c = 0 ∨ n ≠ 0 ∧ ∀ p, a = some p → w.heap.size ≤ p.block) : Below w.heap.size w w10 := by
  rcases hz with h | h
  · rcases hf with ⟨h0, h1⟩ | ⟨h0, h1⟩
    · omega
    · refine hb.grown hg hb.size (fun b hb' => ?_)
      cases a with
      | none => cases hb'
      | some q => simp at hb'; subst hb'; exact h1 q rfl
  · exact hb.trans (h.mono hb.size)
/-- a step that writes behind the rows of a page of its own alone -/
def RP1 (w5 : World) (K : Nat) (u u' : World) : Prop := ∃ X : Option Nat, u.grownBy u' X ∧ ∀ b, X = some b → w5.heap.size ≤ b ∧ ∃ cur, u.heap[b]? = some (.cells cur 31 (0, 0)) ∧ K ≤ cur.size
theorem RP1.of (w5 : World) (K : Nat) (u u' : World) (h : Below u.heap.size u u') : RP1 w5 K u u' := ⟨none, grown_of_below h none, fun b h => by cases h⟩
theorem RP1.box {w5 u u' : World} {K b : Nat} {t : TypeId} {cs : List Value} (h : RP1 w5 K u u') (hx : Box u b t cs) (ht : t ≠ 31 ∨ cs.length < K) : Box u' b t cs := by
  obtain ⟨X, hg, hX⟩ := h
  refine hx.grown hg (fun e => ?_)
  obtain ⟨-, cur, hc, hK⟩ := hX b e.symm
  have h2 : u.heap[b]? = _ := hx
  rw [h2] at hc
  injection hc with hc
  injection hc with h3 h4
  rcases ht with ht | ht
  · exact ht h4
  · rw [← h3] at hK
    simp at hK
    omega
def NilF (w5 : World) (vs : List Value) (w : World) : Prop := ∃ b, vs = [.slice (some ⟨b, 0, none⟩) 0 0] ∧ Box w b 31 [] ∧ w5.heap.size ≤ b
def RowF (v : Int) (vs : List Value) (w : World) : Prop := ∃ b, vs = [.slice (some ⟨b, 0, none⟩) 1 1] ∧ Box w b 5 [.int .u8 v]
def RowsF (v : Int) (vs : List Value) (w : World) : Prop := ∃ b gR, vs = [.slice (some ⟨b, 0, none⟩) 2 2] ∧ Box w b 31 [.slice none 0 0, .slice (some ⟨gR, 0, none⟩) 1 1] ∧ Box w gR 5 [.int .u8 v]
def GP1 (w5 : World) (B n : Nat) (xs : List Hd) (j : Nat) (vs : List Value) (w : World) : Prop :=
  Below w5.heap.size w5 w ∧ (j = 1 → ∃ a c, vs.getD 0 undef = .slice a n c ∧ Own w B 31 1 a n c (xs.map hv) ∧ (n = 0 ∧ c = 0 ∨ n ≠ 0 ∧ ∀ p, a = some p → w5.heap.size ≤ p.block)) ∧
  (2 ≤ j → ∃ a c gR, vs.getD 1 undef = .slice a (n + 2) c ∧ Own w B 31 1 a (n + 2) c ((xs ++ [nilH, (some ⟨gR, 0, none⟩, 1, 1)]).map hv) ∧ Box w gR 5 [.int .u8 0])
theorem GP1.mono {w5 : World} {B n : Nat} {xs : List Hd} (j : Nat) (vs : List Value) (w w' : World) (hb : Below w.heap.size w w') (h : GP1 w5 B n xs j vs w) : GP1 w5 B n xs j vs w' :=
  ⟨h.1.trans (hb.mono h.1.size), fun hj => by
    obtain ⟨a, c, h1, h2, h3⟩ := h.2.1 hj
    exact ⟨a, c, h1, h2.below hb, h3⟩, fun hj => by
    obtain ⟨a, c, gR, h1, h2, h3⟩ := h.2.2 hj
    exact ⟨a, c, gR, h1, h2.below hb, h3.under hb⟩⟩
theorem rp1_app {w5 w w8 : World} {B n c : Nat} {a : Option Addr} {cs : List Value} (hg : w.grownBy w8 (a.map (·.block))) (hz : n + 2 ≤ c ∨ Below w.heap.size w w8) (ho : Own w B 31 1 a n c cs) (hf : n = 0 ∧ c = 0 ∨ n ≠ 0 ∧ ∀ p, a = some p → w5.heap.size ≤ p.block) : RP1 w5 3 w w8 := by
  rcases hz with h | h
  · rcases hf with ⟨h0, h1⟩ | ⟨h0, h1⟩
    · omega
    · refine ⟨_, hg, fun b hb => ?_⟩
      cases ha : a with
      | none => rw [ha] at hb; cases hb
      | some q =>
        rw [ha] at hb
        simp at hb
        subst hb
        refine ⟨h1 q ha, ?_⟩
        rcases ho.2 with ⟨h2, _⟩ | ⟨g, cap, cur, h2, _, h3, h4, h5, h6, _⟩
        · injection h2 with h2; rw [ha] at h2; cases h2
        · injection h2 with h2 _ h7
          rw [ha] at h2
          injection h2 with h2
          subst h2
          refine ⟨cur, h3, ?_⟩
          omega
  · exact RP1.of _ _ _ _ h
section
variable {P : Program} {w : World} {ops : Array Oper} {rest : List Oper} {act : Act} {Q : Exit → Act → World → Prop} {ty : TypeId} {pos : String} {after : Array Edge}
theorem cut_hi35 (d : Nat) (t : TypeId) (x hi : Operand) (e : TypeId) (ht : P.underlying t = some (.slice e)) (sz : Nat) (hsz : (P.info? e).map (·.size) = some sz)
    (a : Option Addr) (n c : Nat) (hx : act.eval x = .slice a n c) (ku : IntKind) (u : Nat) (hu : act.eval hi = .int ku (u : Int)) (hun : u ≤ c)
    (hK : wpList P ops Q rest (act.put (some d) (.slice a u c)) w) :
    wpList P ops Q ({ dst := some d, op := .slice t x none (some hi) none, type := ty, pos := pos, after := after, guard := none } :: rest) act w := by
  refine wpList_plain rfl fun K hK' => ?_
  obtain ⟨i0, hi0, hs0⟩ := Option.map_eq_some_iff.1 hsz
  have hrun : (Instr.sliceAt t (.slice a n c) none (some (.int ku (u : Int))) none).run P w = .ok (.slice a u c) w := by
    have h3 : (0 : Int) ≤ u ∧ (u : Int) ≤ c := by omega
    simp [Instr.sliceAt, Instr.slice, Instr.sliceBounds, Instr.sliceBound, asIntOf, run_underlying ht, sizeOf, typeInfo, hi0, h3, hun]
    intro _
    cases a with
    | none => rfl
    | some p => simp [Addr.add]
  unfold Oper.wp
  simp [execOp, hx, hu, hrun, Result.andThen]
  exact hK' _ _ hK
end
theorem sl_take {w : World} {a : Option Addr} {n c u : Nat} {cs : List Value} (h : Sl w 1 a n c cs) (hu : u ≤ n) : Sl w 1 a u c (cs.take u) := by
  refine ⟨by rw [List.length_take]; have := h.len; omega, Nat.le_trans hu h.le, h.cap, h.nil, fun p hp j v hj => ?_⟩
  rw [List.getElem?_take] at hj
  split at hj
  · exact h.cell p hp j v hj
  · cases hj
theorem Pgs.takeP {w : World} {a : Option Addr} {n c u : Nat} {hs : List Hd} {L : List Pgl} (h : Pgs w a n c hs L) (hu : u ≤ n) : Pgs w a u c (hs.take u) (L.take u) := by
  refine ⟨by rw [List.map_take]; exact sl_take h.top hu, by rw [List.length_take, List.length_take, h.len], fun i x p h1 h2 => ?_⟩
  rw [List.getElem?_take] at h1 h2
  split at h1
  · rename_i hi
    rw [if_pos hi] at h2
    exact h.get i x p h1 h2
  · cases h1
/-- indices as integers -/
theorem n64_i64 (G : List Nat) : G.map N64 = (G.map fun (k : Nat) => (k : Int)).map I64 := by rw [List.map_map]; rfl
section
variable {w : World} {ops : Array Oper} {rest : List Oper} {o : Oper} {act : Act} {Q : Exit → Act → World → Prop}
theorem app_shS (hg : o.guard = none) (s x : Operand) (hop : o.op = Op.call { callee := Callee.builtin Builtin.append, args := #[s, x], argTypes := #[25, 25] })
    (w0 : World) (B : Nat) (a : Option Addr) (n c : Nat) (xs : List HS) (hs : act.eval s = .slice a n c) (hown : Own w B 29 2 a n c (xs.flatMap shc))
    (a2 : Option Addr) (m c2 : Nat) (ys : List HS) (hx : act.eval x = .slice a2 m c2) (hy : Sl w 2 a2 m c2 (ys.flatMap shc)) (hn : n + m ≤ 1000000) (hB : B ≤ w.heap.size) (hbel : Below B w0 w)
    (hK : ∀ a' c' w', Own w' B 29 2 a' (n + m) c' ((xs ++ ys).flatMap shc) → w.grownBy w' (a.map (·.block)) → Below B w0 w' → wpList Try.prog ops Q rest (act.put o.dst (.slice a' (n + m) c')) w') :
    wpList Try.prog ops Q (o :: rest) act w := by
  refine append_own hg s x 25 hop 29 (.agg #[.slice none 0 0, .slice none 0 0]) 2 48 Try.underlying25 info_sheet rfl w0 B a n c _ hs hown a2 m c2 _ hx hy (one_flat shc_one _) (by omega) (by unfold maxLen; omega) hB hbel ?_
  intro a' c' w' h1 h2 h3
  exact hK a' c' w' (by rw [List.flatMap_append]; exact h1) h2 h3
end
end Go.Proofs.Ytdeknimelkdaeaa
end

/- the text P35 -/
section
/- Chapter 35: the reference's Clear and On. -/
set_option linter.unusedVariables false
namespace Go.Proofs.Ytdeknimelkdaeaa
open Go.RowKit Go.Dx Go.Al
section
variable {w : World} {ops : Array Oper} {rest : List Oper} {act : Act} {Q : Exit → Act → World → Prop} {ty : TypeId} {pos : String} {after : Array Edge}
theorem size_i35 : (Try.prog.info? 3).map (·.size) = some 1 := by kernel_rfl
theorem build_nilS (d : Nat) (hK : ∀ w', Box w' w.heap.size 29 [] → Below w.heap.size w w' → wpList Try.prog ops Q rest (act.put (some d) (.slice (some ⟨w.heap.size, 0, none⟩) 0 0)) w') :
    wpList Try.prog ops Q ({ dst := some d, op := .buildSlice 25 0 #[], type := ty, pos := pos, after := after, guard := none } :: rest) act w := by
  refine wpList_plain rfl fun K hK' => ?_
  unfold Oper.wp
  have hrun : (Instr.buildSlice 25 0 #[]).run Try.prog w = .ok (.slice (some ⟨w.heap.size, 0, none⟩) 0 0) (w.alloc (.cells #[] 29)) := by kernel_rfl
  simp [execOp, hrun, Result.andThen]
  exact hK' _ _ (hK _ (Box.new w 29 #[]) (sblo w _))
theorem build_oneS (d : Nat) (x : Operand) (u0 u1 : Value) (hx : act.eval x = .agg #[u0, u1]) (hK : ∀ w', Box w' w.heap.size 29 [u0, u1] → Below w.heap.size w w' → wpList Try.prog ops Q rest (act.put (some d) (.slice (some ⟨w.heap.size, 0, none⟩) 1 1)) w') :
    wpList Try.prog ops Q ({ dst := some d, op := .buildSlice 25 1 #[(0, x)], type := ty, pos := pos, after := after, guard := none } :: rest) act w :=
  build_sheet d x u0 u1 hx (hK _ (Box.new w 29 #[u0, u1]) (sblo w _))
end
section
variable {w : World} {ops : Array Oper} {rest : List Oper} {o : Oper} {act : Act} {Q : Exit → Act → World → Prop}
theorem app_sh_e (hg : o.guard = none) (s x : Operand) (hop : o.op = Op.call { callee := Callee.builtin Builtin.append, args := #[s, x], argTypes := #[25, 25] })
    (B : Nat) (b : Nat) (hs : act.eval s = .slice (some ⟨b, 0, none⟩) 0 0) (hx0 : Box w b 29 []) (hB : B ≤ b)
    (a2 : Option Addr) (m c2 : Nat) (ys : List HS) (hx : act.eval x = .slice a2 m c2) (hy : Sl w 2 a2 m c2 (ys.flatMap shc)) (hn : m ≤ 1000000)
    (hK : ∀ a' c' w', Own w' B 29 2 a' m c' (ys.flatMap shc) → Below w.heap.size w w' → (m = 0 ∧ c' = 0 ∨ m ≠ 0 ∧ ∀ p, a' = some p → w.heap.size ≤ p.block) → wpList Try.prog ops Q rest (act.put o.dst (.slice a' m c')) w') :
    wpList Try.prog ops Q (o :: rest) act w := by
  have hown : Own w B 29 2 (some ⟨b, 0, none⟩) 0 0 [] := ⟨rfl, .inr ⟨b, 0, #[], rfl, hB, hx0, Nat.le_refl _, Nat.zero_le _, rfl, rfl⟩⟩
  refine append_empty hg s x 25 hop 29 (.agg #[.slice none 0 0, .slice none 0 0]) 2 48 Try.underlying25 info_sheet rfl B (some ⟨b, 0, none⟩) hs hown a2 m c2 _ hx hy (one_flat shc_one _) (by omega) (by unfold maxLen; omega) (Nat.le_trans hB (Nat.le_of_lt hx0.lt)) ?_
  intro a' c' w' h1 h2 h3
  exact hK a' c' w' h1 h2 h3
theorem app_shW (hg : o.guard = none) (s x : Operand) (hop : o.op = Op.call { callee := Callee.builtin Builtin.append, args := #[s, x], argTypes := #[25, 25] })
    (B : Nat) (a : Option Addr) (n c : Nat) (xs : List HS) (hs : act.eval s = .slice a n c) (hown : Own w B 29 2 a n c (xs.flatMap shc)) (hB : B ≤ w.heap.size)
    (a2 : Option Addr) (m c2 : Nat) (ys : List HS) (hx : act.eval x = .slice a2 m c2) (hy : Sl w 2 a2 m c2 (ys.flatMap shc)) (hn : n + m ≤ 1000000)
    (hK : ∀ a' c' w', Own w' B 29 2 a' (n + m) c' ((xs ++ ys).flatMap shc) → w.grownBy w' (a.map (·.block)) → (n + m ≤ c ∨ Below w.heap.size w w') → wpList Try.prog ops Q rest (act.put o.dst (.slice a' (n + m) c')) w') :
    wpList Try.prog ops Q (o :: rest) act w := by
  refine append_where hg s x 25 hop 29 (.agg #[.slice none 0 0, .slice none 0 0]) 2 48 Try.underlying25 info_sheet rfl B a n c _ hs hown a2 m c2 _ hx hy (one_flat shc_one _) (by omega) (by unfold maxLen; omega) hB ?_
  intro a' c' w' h1 h2 h3
  exact hK a' c' w' (by rw [List.flatMap_append]; exact h1) h2 h3
end
/-- a step that writes behind the sheets of an array of its own alone -/
def RPs (w5 : World) (K : Nat) (u u' : World) : Prop := ∃ X : Option Nat, u.grownBy u' X ∧ ∀ b, X = some b → w5.heap.size ≤ b ∧ ∃ cur, u.heap[b]? = some (.cells cur 29 (0, 0)) ∧ K ≤ cur.size
theorem RPs.of (w5 : World) (K : Nat) (u u' : World) (h : Below u.heap.size u u') : RPs w5 K u u' := ⟨none, grown_of_below h none, fun b h => by cases h⟩
theorem RPs.box {w5 u u' : World} {K b : Nat} {t : TypeId} {cs : List Value} (h : RPs w5 K u u') (hx : Box u b t cs) (ht : t ≠ 29 ∨ cs.length < K) : Box u' b t cs := by
  obtain ⟨X, hg, hX⟩ := h
  refine hx.grown hg (fun e => ?_)
  obtain ⟨-, cur, hc, hK⟩ := hX b e.symm
  have h2 : u.heap[b]? = _ := hx
  rw [h2] at hc
  injection hc with hc
  injection hc with h3 h4
  rcases ht with ht | ht
  · exact ht h4
  · rw [← h3] at hK
    simp at hK
    omega
theorem sl_oneS {w : World} {b : Nat} {x : HS} (h : Box w b 29 (shc x)) : Sl w 2 (some ⟨b, 0, none⟩) 1 1 ([x].flatMap shc) := by
  have ho : Own w 0 29 2 (some ⟨b, 0, none⟩) 1 1 (shc x) := ⟨rfl, .inr ⟨b, 1, (shc x).toArray, rfl, Nat.zero_le _, h, Nat.le_refl _, by unfold maxLen; omega, rfl, rfl⟩⟩
  simpa using ho.sl
def NilS (w5 : World) (vs : List Value) (w : World) : Prop := ∃ b, vs = [.slice (some ⟨b, 0, none⟩) 0 0] ∧ Box w b 29 [] ∧ w5.heap.size ≤ b
def OneS (u0 u1 : Value) (vs : List Value) (w : World) : Prop := ∃ b, vs = [.slice (some ⟨b, 0, none⟩) 1 1] ∧ Box w b 29 [u0, u1]
def GPs (w5 : World) (n : Nat) (xs : List HS) (x : HS) (j : Nat) (vs : List Value) (w : World) : Prop :=
  Below w5.heap.size w5 w ∧ (j = 1 → ∃ a c, vs.getD 0 undef = .slice a n c ∧ Own w w5.heap.size 29 2 a n c (xs.flatMap shc) ∧ (n = 0 ∧ c = 0 ∨ n ≠ 0 ∧ ∀ p, a = some p → w5.heap.size ≤ p.block)) ∧
  (2 ≤ j → ∃ a c, vs.getD 1 undef = .slice a (n + 1) c ∧ Own w w5.heap.size 29 2 a (n + 1) c ((xs ++ [x]).flatMap shc))
theorem GPs.mono {w5 : World} {n : Nat} {xs : List HS} {x : HS} (j : Nat) (vs : List Value) (w w' : World) (hb : Below w.heap.size w w') (h : GPs w5 n xs x j vs w) : GPs w5 n xs x j vs w' :=
  ⟨h.1.trans (hb.mono h.1.size), fun hj => by
    obtain ⟨a, c, h1, h2, h3⟩ := h.2.1 hj
    exact ⟨a, c, h1, h2.below hb, h3⟩, fun hj => by
    obtain ⟨a, c, h1, h2⟩ := h.2.2 hj
    exact ⟨a, c, h1, h2.below hb⟩⟩
theorem rps_app {w5 w w8 : World} {B n c : Nat} {a : Option Addr} {cs : List Value} (hg : w.grownBy w8 (a.map (·.block))) (hz : n + 1 ≤ c ∨ Below w.heap.size w w8) (ho : Own w B 29 2 a n c cs) (hf : n = 0 ∧ c = 0 ∨ n ≠ 0 ∧ ∀ p, a = some p → w5.heap.size ≤ p.block) : RPs w5 4 w w8 := by
  rcases hz with h | h
  · rcases hf with ⟨h0, h1⟩ | ⟨h0, h1⟩
    · omega
    · refine ⟨_, hg, fun b hb => ?_⟩
      cases ha : a with
      | none => rw [ha] at hb; cases hb
      | some q =>
        rw [ha] at hb
        simp at hb
        subst hb
        refine ⟨h1 q ha, ?_⟩
        rcases ho.2 with ⟨h2, _⟩ | ⟨g, cap, cur, h2, _, h3, h4, h5, h6, _⟩
        · injection h2 with h2; rw [ha] at h2; cases h2
        · injection h2 with h2 _ h7
          rw [ha] at h2
          injection h2 with h2
          subst h2
          refine ⟨cur, h3, ?_⟩
          omega
  · exact RPs.of _ _ _ _ h
section
variable {w0 w w' : World} {X F : List Nat} {m : RM} {S S' : Pr} {r : Nat}
/-- the sheet in work is laid into the tray -/
def layM (m : RM) (a : Option Addr) (c : Nat) (rw br : Int) (b : Nat) : RM := ⟨m.wa, m.wc, m.ws, a, c, m.ts ++ [(m.u0, m.u1)], m.v0, m.v1, m.u0, m.u1, rw, b, m.g0, m.g1, []⟩
theorem RIn.lay (h : RIn w0 w X m S) (hb : S.busy = true) {B n c : Nat} {a : Option Addr} (ho : Own w B 29 2 a n c ((m.ts ++ [(m.u0, m.u1)]).flatMap shc)) (hn : n = S'.tray.length) (h1 : S'.busy = false) (h2 : S'.waiting = S.waiting) (h3 : S'.tray = S.tray ++ [(S.d0, S.d1)]) (rw_ : Int) :
    RIn w0 w (m.g0 :: m.g1 :: (blk a ++ X)) ⟨m.wa, m.wc, m.ws, a, c, m.ts ++ [(m.u0, m.u1)], m.v0, m.v1, m.u0, m.u1, rw_, m.br, m.g0, m.g1, []⟩ S' := by
  have hk := h.bz hb
  have hsub : ∀ b ∈ X, b ∈ m.g0 :: m.g1 :: (blk a ++ X) := fun b hb => by simp [hb]
  obtain ⟨k0, x0, r0, l0⟩ := hk.f0
  obtain ⟨k1, x1, r1, l1⟩ := hk.f1
  have hp0 : RPg w0 w (m.g0 :: m.g1 :: (blk a ++ X)) m.u0 S.d0 := ⟨k0, r0, .inl ⟨by rw [hk.e0]; exact own_of_box x0 (by rw [List.length_map]; exact l0) (by show 25 ≤ maxLen; decide) (Nat.zero_le _), fun b hb => by rw [hk.e0] at hb; simp [Go.Proofs.Ytdeknimelkdaeaa.hb] at hb; rw [hb]; simp⟩⟩
  have hp1 : RPg w0 w (m.g0 :: m.g1 :: (blk a ++ X)) m.u1 S.d1 := ⟨k1, r1, .inl ⟨by rw [hk.e1]; exact own_of_box x1 (by rw [List.length_map]; exact l1) (by show 25 ≤ maxLen; decide) (Nat.zero_le _), fun b hb => by rw [hk.e1] at hb; simp [Go.Proofs.Ytdeknimelkdaeaa.hb] at hb; rw [hb]; simp⟩⟩
  have hall : ∀ b, b ∈ ([] : List Nat) ++ (m.g0 :: m.g1 :: (blk a ++ X)) → b ∈ m.gs ++ X ∨ b ∈ blk a := fun b hb => by
    rw [hk.gl]
    simp at hb ⊢
    rcases hb with h | h | h | h
    · exact .inl (.inl h)
    · exact .inl (.inr (.inl h))
    · exact .inr h
    · exact .inl (.inr (.inr h))
  refine ⟨fun b hb => ?_, fun b hb => ?_, by rw [h2]; exact h.wl, fun b hb => hsub b (h.wx b hb), by rw [← hn]; exact ho.sl, fun b hb => by simp [hb], by rw [h2]; exact h.ww.imp fun x p t => t.more hsub, by rw [h3]; exact (h.tt.imp fun x p t => t.more hsub).append (ShR.one (x := (m.u0, m.u1)) (s := (S.d0, S.d1)) hp0 hp1), fun hb => by rw [h1] at hb; cases hb⟩
  · rcases hall b hb with h4 | h4
    · exact h.lt b h4
    · exact (own_lt ho b h4).2
  · rcases hall b hb with h4 | h4
    · exact h.nob b h4
    · exact own_nobs ho (by decide) b h4
theorem RIn.idle (h : RIn w0 w X m S) (h1 : S'.busy = false) (h2 : S'.waiting = S.waiting) (h3 : S'.tray = S.tray) (rw_ : Int) (br_ : Nat) : RIn w0 w X ⟨m.wa, m.wc, m.ws, m.ta, m.tc, m.ts, m.v0, m.v1, m.u0, m.u1, rw_, br_, m.g0, m.g1, []⟩ S' :=
  ⟨fun b hb => h.lt b (List.mem_append_right _ hb), fun b hb => h.nob b (List.mem_append_right _ hb), by rw [h2]; exact h.wl, h.wx, by rw [h3]; exact h.tl, h.tx, by rw [h2]; exact h.ww, by rw [h3]; exact h.tt, fun hb => by rw [h1] at hb; cases hb⟩
end
set_option maxRecDepth 100000 in
set_option maxHeartbeats 2000000 in
theorem ref35_Clear (w0 : World) (r : Nat) (X : List Nat) (m : RM) (S : Pr) (w : World) (h : RAt w0 w r X m S) (hbr : m.br ≤ 1000000) :
    Calls Try.prog 44 #[.pointer (some ⟨r, 0, none⟩)] w fun e w' => e = .returned (.int .i64 (clearP S).2) ∧ ∃ X' m', RAt w0 w' r X' m' (clearP S).1 ∧ Mv w w' (rfoot r X m) (rfoot r X' m') ∧ m'.br = m.br + (if S.mode = 1 then 1 else 0) := by
  have c9 : w.cell? ⟨r, 9, none⟩ = some (.int .i64 (S.mode : Int)) := h.box.at_ rfl
  by_cases h1 : S.mode = 1
  · have HB := h.box
    obtain ⟨w0_, w1_, d0, d1, rows, busy, paper, waiting, tray, mode⟩ := S
    simp only at h1
    subst h1
    have HI := hide h.inn
    have HNR := hide h.nr
    have HN := hide (NoB.box h.box (by decide))
    unfold rcells at HB
    go_enter Try.func44, Try.ntmps44
    go_wp2_with (with_reducible refine hold_store ?_)
    refine hide ?_
    refine store_cell 3 _ _ 51 r 9 _ (.int .i64 0) size_i35 HB rfl rfl rfl rfl (by show 9 < 11; omega) ?_; intro w1 HB1 gb1 zb1
    simp only [List.set_cons_succ, List.set_cons_zero] at HB1
    have F1 : Fr [r] w w1 := Fr.ofGrown gb1
    clear gb1 zb1
    go_wp2_with (with_reducible refine hold_store ?_)
    refine hide ?_
    refine store_cell 4 _ _ 51 r 3 _ (.bool false) size_bool1 HB1 rfl rfl rfl rfl (by show 3 < 11; omega) ?_; intro w2 HB2 gb2 zb2
    simp only [List.set_cons_succ, List.set_cons_zero] at HB2
    have F2 : Fr [r] w w2 := F1.on (Fr.ofGrown gb2) (fun b hb => .inl (by simpa using hb))
    clear gb2 zb2
    have c10 : w2.cell? ⟨r, 10, none⟩ = some (.int .i64 (m.br : Int)) := HB2.at_ rfl
    clear HB HB1
    go_wp2_with (with_reducible refine hold_store ?_)
    refine hide ?_
    refine store_cell 3 _ _ 51 r 10 _ (.int .i64 ((m.br : Int) + 1)) size_i35 HB2 rfl rfl rfl rfl (by show 10 < 11; omega) ?_; intro w3 HB3 gb3 zb3
    simp only [List.set_cons_succ, List.set_cons_zero] at HB3
    have F3 : Fr [r] w w3 := F2.on (Fr.ofGrown gb3) (fun b hb => .inl (by simpa using hb))
    clear gb3 zb3
    clear HB2 c10 c9
    have HB3 := hide HB3
    have F3 := hide F3
    go_wp2
    go_ret
    have I3 := (HI.out.fr1 F3.out HN.out HNR.out).idle (S' := (clearP ⟨w0_, w1_, d0, d1, rows, busy, paper, waiting, tray, 1⟩).1) rfl rfl rfl m.rw (m.br + 1)
    refine ⟨rfl, X, ⟨m.wa, m.wc, m.ws, m.ta, m.tc, m.ts, m.v0, m.v1, m.u0, m.u1, m.rw, m.br + 1, m.g0, m.g1, []⟩, ⟨by have := HB3.out; unfold rcells; exact_mod_cast this, fun hh => HNR.out (List.mem_append_right _ (by simpa using hh)), I3⟩, ⟨F3.out.more (fun b hb => by simp at hb; rw [hb]; simp [rfoot]), fun b hb => .inl ?_⟩, rfl⟩
    simp [rfoot] at hb ⊢
    rcases hb with h | h
    · exact .inl h
    · exact .inr (.inr h)
  · have hne : ((S.mode : Int) != 1) = true := by simp; omega
    have e : clearP S = (S, 8) := by unfold clearP; rw [if_neg h1]
    rw [e, if_neg h1]
    clear e h1
    go_enter Try.func44, Try.ntmps44
    go_wp2_with fail
    go_ret
    exact ⟨rfl, X, m, h, Mv.refl _ _, rfl⟩
theorem below_app1 {w w9 w10 : World} {a : Option Addr} {n c : Nat} (hb : Below w.heap.size w w9) (hg : w9.grownBy w10 (a.map (·.block))) (hz : n + 1 ≤ c ∨ Below w9.heap.size w9 w10) (hf : n = 0 ∧ c = 0 ∨ n ≠ 0 ∧ ∀ p, a = some p → w.heap.size ≤ p.block) : Below w.heap.size w w10 := by
  rcases hz with h | h
  · rcases hf with ⟨h0, h1⟩ | ⟨h0, h1⟩
    · omega
    · refine hb.grown hg hb.size (fun b hb' => ?_)
      cases a with
      | none => cases hb'
      | some q => simp at hb'; subst hb'; exact h1 q rfl
  · exact hb.trans (h.mono hb.size)
set_option maxRecDepth 100000 in
set_option maxHeartbeats 4000000 in
theorem ref35_On (w0 : World) (r : Nat) (X : List Nat) (m : RM) (S : Pr) (w : World) (h : RAt w0 w r X m S) (hbz : S.mode = 2 → S.busy = true) (hT : S.tray.length ≤ 10000) :
    Calls Try.prog 45 #[.pointer (some ⟨r, 0, none⟩)] w fun e w' => e = .returned (.int .i64 (onP S).2) ∧ ∃ X' m', RAt w0 w' r X' m' (onP S).1 ∧ Mv w w' (rfoot r X m) (rfoot r X' m') ∧ m'.br = m.br := by
  have c9 : w.cell? ⟨r, 9, none⟩ = some (.int .i64 (S.mode : Int)) := h.box.at_ rfl
  by_cases h1 : S.mode = 2
  · have hbz := hbz h1
    have HB := h.box
    obtain ⟨w0_, w1_, d0, d1, rows, busy, paper, waiting, tray, mode⟩ := S
    simp only at h1
    subst h1
    simp only at hbz
    subst hbz
    have HI := hide h.inn
    have HNR := hide h.nr
    have HN := hide (NoB.box h.box (by decide))
    unfold rcells at HB
    obtain ⟨N, hN⟩ : ∃ N, Hid (tray.length = N) := ⟨_, hide rfl⟩
    simp only at HB hT
    rw [hN.out] at HB hT
    go_enter Try.func45, Try.ntmps45
    go_wp2_with (with_reducible refine hold_store ?_)
    refine hide ?_
    refine store_cell 3 _ _ 51 r 9 _ (.int .i64 0) size_i35 HB rfl rfl rfl rfl (by show 9 < 11; omega) ?_; intro w1 HB1 gb1 zb1
    simp only [List.set_cons_succ, List.set_cons_zero] at HB1
    have F1 : Fr [r] w w1 := Fr.ofGrown gb1
    clear gb1 zb1
    go_wp2_with (with_reducible refine hold_store ?_)
    refine hide ?_
    refine store_cell 4 _ _ 51 r 3 _ (.bool false) size_bool1 HB1 rfl rfl rfl rfl (by show 3 < 11; omega) ?_; intro w2 HB2 gb2 zb2
    simp only [List.set_cons_succ, List.set_cons_zero] at HB2
    have F2 : Fr [r] w w2 := F1.on (Fr.ofGrown gb2) (fun b hb => .inl (by simpa using hb))
    clear gb2 zb2
    clear HB HB1 F1 c9
    have hsz : w.heap.size ≤ w2.heap.size := F2.size
    have HR : Hid (r < w2.heap.size) := hide HB2.lt
    have TL : Hid (Sl w2 2 m.ta N m.tc (m.ts.flatMap shc)) := hide (by have := (HI.out.fr1 F2 HN.out HNR.out).tl; rw [← hN.out]; exact this)
    go_wp2_with fail
    have q2 : w2.cell? ⟨r, 2, none⟩ = some (.slice m.ta N m.tc) := HB2.at_ rfl
    have q6 : w2.cell? ⟨r, 6, none⟩ = some (.slice m.u0.1 m.u0.2.1 m.u0.2.2) := HB2.at_ rfl
    have q7 : w2.cell? ⟨r, 7, none⟩ = some (.slice m.u1.1 m.u1.2.1 m.u1.2.2) := HB2.at_ rfl
    refine wp_region_chain4 13 (RPs w2 4) (GPs w2 N m.ts (m.u0, m.u1)) [⟨6, 20, [], fun _ _ => True⟩, ⟨12, 26, [], fun _ _ => True⟩] [⟨0, 14, [14], fun vs _ => vs = [.pointer (some ⟨r, 0, none⟩)]⟩, ⟨1, 15, [15], NilS w2⟩, ⟨2, 16, [16], fun vs _ => vs = [.pointer (some ⟨r, 0, none⟩)]⟩, ⟨3, 17, [17], fun vs _ => vs = [.pointer (some ⟨r, 0, none⟩)]⟩, ⟨4, 18, [18], fun vs _ => vs = [.pointer (some ⟨r, 2, none⟩)]⟩, ⟨5, 19, [19], fun vs _ => vs = [.slice m.ta N m.tc]⟩, ⟨7, 21, [21], fun vs _ => vs = [.pointer (some ⟨r, 0, none⟩)]⟩, ⟨8, 22, [22], fun vs _ => vs = [.pointer (some ⟨r, 0, none⟩)]⟩, ⟨9, 23, [23], fun vs _ => vs = [.pointer (some ⟨r, 6, none⟩)]⟩, ⟨10, 24, [24], fun vs _ => vs = [.agg #[.slice m.u0.1 m.u0.2.1 m.u0.2.2, .slice m.u1.1 m.u1.2.1 m.u1.2.2]]⟩, ⟨11, 25, [25], OneS (.slice m.u0.1 m.u0.2.1 m.u0.2.2) (.slice m.u1.1 m.u1.2.1 m.u1.2.2)⟩] (by kernel_rfl) (by kernel_rfl) ?_ (RPs.of w2 4) GPs.mono ?_ ?_ ?_ ?_
    · exact ⟨Still.below 1, fun h => absurd h (by decide), fun h => absurd h (by decide)⟩
    · simp only [All]
      refine ⟨(fun _ _ _ _ h => h), (fun vs u u' hr h => by obtain ⟨b, h1, h2, h3⟩ := h; exact ⟨b, h1, hr.box h2 (.inr (by decide)), h3⟩), (fun _ _ _ _ h => h), (fun _ _ _ _ h => h), (fun _ _ _ _ h => h), (fun _ _ _ _ h => h), (fun _ _ _ _ h => h), (fun _ _ _ _ h => h), (fun _ _ _ _ h => h), (fun _ _ _ _ h => h), (fun vs u u' hr h => by obtain ⟨b, h1, h2⟩ := h; exact ⟨b, h1, hr.box h2 (.inr (by simp))⟩), trivial⟩
    · intro m c hc o ho a w' hG hfr hdep
      rcases m with _ | _ | m
      · cases hc
        obtain rfl := Option.some.inj ho
        obtain ⟨b68, e68, x68, l68⟩ := hdep 1 _ rfl (by kernel_rfl)
        have g68 : a.tmps[15]?.getD undef = .slice (some ⟨b68, 0, none⟩) 0 0 := by simpa using e68
        have g70 : a.tmps[19]?.getD undef = .slice m.ta N m.tc := by have h := hdep 5 _ rfl (by kernel_rfl); simpa using h
        have hB := hG.1
        clear hfr hdep hG
        have o6 := TL.out.below hB
        refine app_sh_e rfl _ _ rfl w2.heap.size b68 (by show a.tmps.getD 15 undef = _; simpa using g68) x68 l68 m.ta N m.tc m.ts (by show a.tmps.getD 19 undef = _; simpa using g70) o6 (by omega) ?_
        intro a7 c7 w7 ho7 hb7 hz7
        go_wp2_with fail
        exact ⟨rfl, _, rfl, RPs.of _ _ _ _ hb7, hB.trans (hb7.mono hB.size), fun _ => ⟨a7, c7, by simp, ho7, hz7.imp id (fun h => ⟨h.1, fun p hp => Nat.le_trans hB.size (h.2 p hp)⟩)⟩, fun h => absurd h (by decide)⟩
      · cases hc
        obtain rfl := Option.some.inj ho
        obtain ⟨a7, c7, e71, ho7, hz7⟩ := hG.2.1 rfl
        have g71 : a.tmps[20]?.getD undef = .slice a7 N c7 := by simpa using e71
        obtain ⟨b73, e73, x73⟩ := hdep 10 _ rfl (by kernel_rfl)
        have g73 : a.tmps[25]?.getD undef = .slice (some ⟨b73, 0, none⟩) 1 1 := by simpa using e73
        have hB := hG.1
        clear hfr hdep hG
        have hsl : Sl w' 2 (some ⟨b73, 0, none⟩) 1 1 ([(m.u0, m.u1)].flatMap shc) := sl_oneS x73
        refine app_shW rfl _ _ rfl w2.heap.size a7 N c7 m.ts (by show a.tmps.getD 20 undef = _; simpa using g71) ho7 hB.size (some ⟨b73, 0, none⟩) 1 1 [(m.u0, m.u1)] (by show a.tmps.getD 25 undef = _; simpa using g73) hsl (by omega) ?_
        intro a8 c8 w8 ho8 hg8 hz8
        go_wp2_with fail
        exact ⟨rfl, _, rfl, rps_app hg8 hz8 ho7 hz7, below_app1 hB hg8 hz8 hz7, fun h => absurd h (by decide), fun _ => ⟨a8, c8, by simp, ho8⟩⟩
      · cases hc
    · simp only [All]
      refine ⟨?_, ?_, ?_, ?_, ?_, ?_, ?_, ?_, ?_, ?_, ?_, trivial⟩
      · intro o ho a' w' hfr hdep hst
        obtain rfl := Option.some.inj ho
        have g0 : a'.tmps[0]?.getD undef = .pointer (some ⟨r, 0, none⟩) := by have h := hfr 0 (by kernel_rfl); simpa using h
        clear ho hfr hdep hst
        go_wp2_with fail
        exact ⟨rfl, _, rfl, Below.refl _ _, rfl⟩
      · intro o ho a' w' hfr hdep hst
        obtain rfl := Option.some.inj ho
        obtain ⟨j, _, _, hG⟩ := hst
        clear ho hfr hdep
        refine build_nilS 15 ?_
        intro w6 x6 hb6
        exact ⟨rfl, _, rfl, hb6, _, rfl, x6, hG.1.size⟩
      · intro o ho a' w' hfr hdep hst
        obtain rfl := Option.some.inj ho
        have g0 : a'.tmps[0]?.getD undef = .pointer (some ⟨r, 0, none⟩) := by have h := hfr 0 (by kernel_rfl); simpa using h
        clear ho hfr hdep hst
        go_wp2_with fail
        exact ⟨rfl, _, rfl, Below.refl _ _, rfl⟩
      · intro o ho a' w' hfr hdep hst
        obtain rfl := Option.some.inj ho
        have g16 : a'.tmps[16]?.getD undef = .pointer (some ⟨r, 0, none⟩) := by have h := hdep 2 _ rfl (by kernel_rfl); simpa using h
        clear ho hfr hdep hst
        go_wp2_with fail
        exact ⟨rfl, _, rfl, Below.refl _ _, rfl⟩
      · intro o ho a' w' hfr hdep hst
        obtain rfl := Option.some.inj ho
        have g17 : a'.tmps[17]?.getD undef = .pointer (some ⟨r, 0, none⟩) := by have h := hdep 3 _ rfl (by kernel_rfl); simpa using h
        clear ho hfr hdep hst
        go_wp2_with fail
        exact ⟨rfl, _, rfl, Below.refl _ _, rfl⟩
      · intro o ho a' w' hfr hdep hst
        obtain rfl := Option.some.inj ho
        have g18 : a'.tmps[18]?.getD undef = .pointer (some ⟨r, 2, none⟩) := by have h := hdep 4 _ rfl (by kernel_rfl); simpa using h
        obtain ⟨j, _, _, hG⟩ := hst
        clear ho hfr hdep
        have hcl := cell_blw q2 hG.1
        go_wp2_with fail
        exact ⟨rfl, _, rfl, Below.refl _ _, rfl⟩
      · intro o ho a' w' hfr hdep hst
        obtain rfl := Option.some.inj ho
        have g0 : a'.tmps[0]?.getD undef = .pointer (some ⟨r, 0, none⟩) := by have h := hfr 0 (by kernel_rfl); simpa using h
        clear ho hfr hdep hst
        go_wp2_with fail
        exact ⟨rfl, _, rfl, Below.refl _ _, rfl⟩
      · intro o ho a' w' hfr hdep hst
        obtain rfl := Option.some.inj ho
        have g21 : a'.tmps[21]?.getD undef = .pointer (some ⟨r, 0, none⟩) := by have h := hdep 6 _ rfl (by kernel_rfl); simpa using h
        clear ho hfr hdep hst
        go_wp2_with fail
        exact ⟨rfl, _, rfl, Below.refl _ _, rfl⟩
      · intro o ho a' w' hfr hdep hst
        obtain rfl := Option.some.inj ho
        have g22 : a'.tmps[22]?.getD undef = .pointer (some ⟨r, 0, none⟩) := by have h := hdep 7 _ rfl (by kernel_rfl); simpa using h
        clear ho hfr hdep hst
        go_wp2_with fail
        exact ⟨rfl, _, rfl, Below.refl _ _, rfl⟩
      · intro o ho a' w' hfr hdep hst
        obtain rfl := Option.some.inj ho
        have g23 : a'.tmps[23]?.getD undef = .pointer (some ⟨r, 6, none⟩) := by have h := hdep 8 _ rfl (by kernel_rfl); simpa using h
        obtain ⟨j, _, _, hG⟩ := hst
        clear ho hfr hdep
        refine load_sheet2 24 _ r 6 7 (by show a'.tmps.getD 23 undef = _; simpa using g23) _ _ (cell_blw q6 hG.1) (cell_blw q7 hG.1) rfl ?_
        exact ⟨rfl, _, rfl, Below.refl _ _, rfl⟩
      · intro o ho a' w' hfr hdep hst
        obtain rfl := Option.some.inj ho
        have g24 : a'.tmps[24]?.getD undef = .agg #[.slice m.u0.1 m.u0.2.1 m.u0.2.2, .slice m.u1.1 m.u1.2.1 m.u1.2.2] := by have h := hdep 9 _ rfl (by kernel_rfl); simpa using h
        clear ho hfr hdep hst
        refine build_oneS 25 _ _ _ (by show a'.tmps.getD 24 undef = _; simpa using g24) ?_
        intro w6 x6 hb6
        exact ⟨rfl, _, rfl, hb6, _, rfl, x6⟩
    · intro gg w10 hG hp
      obtain ⟨a10, c10, e74, ho10⟩ := hG.2.2 (Nat.le_refl _)
      replace e74 : gg 26 = .slice a10 (N + 1) c10 := by simpa using e74
      have p0 := hp 0 _ rfl
      have b10 := hG.1
      clear hp hG
      simp at p0
      simp only [List.drop_succ_cons, List.drop_zero, List.map_cons, List.map_nil, putAll, Act.put, List.setIfInBounds_toArray, List.set_cons_succ, List.set_cons_zero, List.cons_append, List.nil_append, p0, e74]
      clear p0 e74
      have HB10 := HB2.under b10
      have F10 := F2.below b10
      have O10 := hide ho10
      obtain ⟨N1, hN1⟩ : ∃ N1, Hid (N + 1 = N1) := ⟨_, hide rfl⟩
      rw [hN1.out] at O10 ⊢
      clear ho10 q2 q6 q7
      go_wp2_with (with_reducible refine hold_store ?_)
      refine hide ?_
      refine store_cell 25 _ _ 51 r 2 _ (.slice a10 N1 c10) size_shs HB10 rfl rfl rfl rfl (by show 2 < 11; omega) ?_; intro w3 HB3 gb3 zb3
      simp only [List.set_cons_succ, List.set_cons_zero] at HB3
      have F3 : Fr [r] w w3 := F10.on (Fr.ofGrown gb3) (fun b hb => .inl (by simpa using hb))
      have FX : Fr [r] w10 w3 := Fr.ofGrown gb3
      clear gb3 zb3
      have OA : ∀ b ∈ (a10.map (·.block)).toList, b ∉ [r] := fun b hb hm => by
        have h1 := (own_lt O10.out b hb).1
        have h2 := HB2.lt
        simp at hm
        omega
      have O3 : Hid (Own w3 w2.heap.size 29 2 a10 N1 c10 ((m.ts ++ [(m.u0, m.u1)]).flatMap shc)) := hide (own_fr O10.out FX OA)
      clear O10 HB10 F10 b10 OA FX
      have HB3 := hide HB3
      have F3 := hide F3
      clear HB2 F2 TL
      go_wp2
      go_ret
      have I0 := HI.out.fr1 F3.out HN.out HNR.out
      have I3 := I0.lay rfl (S' := (onP ⟨w0_, w1_, d0, d1, rows, true, paper, waiting, tray, 2⟩).1) O3.out (by show N1 = (tray ++ [_]).length; rw [List.length_append, hN.out, ← hN1.out]; rfl) rfl rfl rfl m.rw
      have hb3 : N1 = (tray ++ [(d0, d1)]).length := by rw [List.length_append, hN.out, ← hN1.out]; rfl
      have gl := (I0.bz rfl).gl
      refine ⟨rfl, m.g0 :: m.g1 :: (blk a10 ++ X), ⟨m.wa, m.wc, m.ws, a10, c10, m.ts ++ [(m.u0, m.u1)], m.v0, m.v1, m.u0, m.u1, m.rw, m.br, m.g0, m.g1, []⟩, ⟨by have h1 := HB3.out; unfold rcells; rw [hb3] at h1; exact h1, ?_, I3⟩, ⟨F3.out.more (fun b hb => by simp at hb; rw [hb]; simp [rfoot]), ?_⟩, rfl⟩
      · have h1 := HNR.out
        rw [gl] at h1
        intro h2
        have h3 : r ∉ blk a10 := fun hh => by
          have h4 := (own_lt O3.out r hh).1
          have h5 := HR.out
          omega
        simp at h1 h2
        rcases h2 with h2 | h2 | h2 | h2
        · exact h1.1 h2
        · exact h1.2.1 h2
        · exact h3 h2
        · exact h1.2.2 h2
      · intro b hb
        unfold rfoot at hb ⊢
        rw [gl]
        simp at hb ⊢
        rcases hb with h | h | h | h | h
        · exact .inl (.inl h)
        · exact .inl (.inr (.inl h))
        · exact .inl (.inr (.inr (.inl h)))
        · have h4 := (own_lt O3.out b h).1
          exact .inr (Nat.le_trans hsz h4)
        · exact .inl (.inr (.inr (.inr h)))
  · have hne : ((S.mode : Int) != 2) = true := by simp; omega
    have e : onP S = (S, 8) := by unfold onP; rw [if_neg h1]
    rw [e]
    clear e h1
    go_enter Try.func45, Try.ntmps45
    go_wp2_with fail
    go_ret
    exact ⟨rfl, X, m, h, Mv.refl _ _, rfl⟩
end Go.Proofs.Ytdeknimelkdaeaa
end

/- the text P28 -/
section
/- Chapter 35: plain laws of the cells where dots touch, and of a page that is moved. -/
set_option linter.unusedVariables false
namespace Go.Proofs.Ytdeknimelkdaeaa
open Go.RowKit Go.Dx Go.Al
/-- a dot of the front that lies on a dot of the back -/
def hitR (c x : UInt8) : Bool := (dotsL c).any fun i => (dotsL (backC x)).any fun j => i == j
theorem hit_fin : ∀ c : Fin 64, ∀ x : Fin 64, hitB (UInt8.ofNat c.val) (UInt8.ofNat x.val) = hitR (UInt8.ofNat c.val) (UInt8.ofNat x.val) := by decide +kernel
theorem hit_eq {c x : UInt8} (hc : c.toNat < 64) (hx : x.toNat < 64) : hitB c x = hitR c x := by
  have := hit_fin ⟨c.toNat, hc⟩ ⟨x.toNat, hx⟩
  simpa using this
theorem hit_zero : ∀ x : UInt8, hitR 0 x = false := fun x => by
  unfold hitR
  have : dotsL 0 = [] := by decide +kernel
  rw [this]
  rfl
def tRow (front back : Pgl) (i : Nat) (by_ m : Nat) : List (Nat × Nat) := ((List.range m).filter fun k => hitR (pcell front i k) (cAt back i (39 - (k : Int) - (by_ : Int)))).map fun k => (i, k)
def tR (front back : Pgl) (by_ n : Nat) : List (Nat × Nat) := (List.range n).flatMap fun i => tRow front back i by_ 40
theorem tRow_succ (front back : Pgl) (i by_ m : Nat) : tRow front back i by_ (m + 1) = tRow front back i by_ m ++ (if hitR (pcell front i m) (cAt back i (39 - (m : Int) - (by_ : Int))) = true then [(i, m)] else []) := by
  unfold tRow
  rw [List.range_succ, List.filter_append, List.map_append]
  congr 1
  cases h : hitR (pcell front i m) (cAt back i (39 - (m : Int) - (by_ : Int))) <;> simp only [List.filter_cons, List.filter_nil, h] <;> rfl
theorem tRow_len (front back : Pgl) (i by_ m : Nat) : (tRow front back i by_ m).length ≤ m := by
  unfold tRow
  rw [List.length_map]
  exact Nat.le_trans (List.length_filter_le _ _) (by simp)
theorem tR_succ (front back : Pgl) (by_ n : Nat) : tR front back by_ (n + 1) = tR front back by_ n ++ tRow front back n by_ 40 := by
  unfold tR
  rw [List.range_succ, List.flatMap_append]
  simp
theorem tR_len (front back : Pgl) (by_ : Nat) : ∀ n, (tR front back by_ n).length ≤ n * 40
  | 0 => by simp [tR]
  | n + 1 => by
    rw [tR_succ, List.length_append]
    have := tR_len front back by_ n
    have h2 := tRow_len front back n by_ 40
    omega
theorem cAt_64 {p : Pgl} (h : ∀ r ∈ p, r.length ≤ 40 ∧ ∀ c ∈ r, c.toNat < 64) (i : Nat) (k : Int) : (cAt p i k).toNat < 64 := by
  unfold cAt
  split
  · rw [List.getD_eq_getElem?_getD, List.getD_eq_getElem?_getD]
    cases h1 : p[i]? with
    | none => simp
    | some r =>
      cases h2 : r[k.toNat]? with
      | none => simp [h2]
      | some c => simpa [h2] using (h r (List.mem_of_getElem? h1)).2 c (List.mem_of_getElem? h2)
  · decide
theorem cAt_pcell (p : Pgl) (i k : Nat) : cAt p i (k : Int) = pcell p i k := by
  unfold cAt pcell
  rw [if_pos (by omega), Int.toNat_natCast]
theorem tRow_ge {front back : Pgl} {i by_ : Nat} {r : List UInt8} (hr : front.getD i [] = r) : ∀ m, r.length ≤ m → tRow front back i by_ m = tRow front back i by_ r.length
  | 0, h => by rw [show r.length = 0 by omega]
  | m + 1, h => by
    by_cases h1 : r.length = m + 1
    · rw [h1]
    · rw [tRow_succ, tRow_ge hr m (by omega), show pcell front i m = 0 by unfold pcell; rw [hr, List.getD_eq_getElem?_getD, List.getElem?_eq_none (by omega)]; rfl, hit_zero]
      simp
theorem tRow_up {front back : Pgl} (hf : ∀ r ∈ front, r.length ≤ 40 ∧ ∀ c ∈ r, c.toNat < 64) (hb : ∀ r ∈ back, r.length ≤ 40 ∧ ∀ c ∈ r, c.toNat < 64) (i by_ : Nat) : touchRow i (front.getD i []) back by_ (front.getD i []).length = tRow front back i by_ 40 := by
  have h40 : (front.getD i []).length ≤ 40 := by
    rw [List.getD_eq_getElem?_getD]
    cases h : front[i]? with
    | none => simp
    | some r => exact (hf r (List.mem_of_getElem? h)).1
  rw [tRow_ge rfl 40 h40]
  unfold touchRow tRow
  congr 1
  refine List.filter_congr fun k hk => ?_
  have e : (front.getD i []).getD k 0 = pcell front i k := rfl
  rw [e]
  refine hit_eq ?_ (cAt_64 hb _ _)
  rw [← cAt_pcell]
  exact cAt_64 hf _ _
theorem tR_up {front back : Pgl} (hl : front.length ≤ 25) (hf : ∀ r ∈ front, r.length ≤ 40 ∧ ∀ c ∈ r, c.toNat < 64) (hb : ∀ r ∈ back, r.length ≤ 40 ∧ ∀ c ∈ r, c.toNat < 64) (by_ : Nat) : touchUp front back by_ front.length = tR front back by_ 25 := by
  have h1 : ∀ n, touchUp front back by_ n = tR front back by_ n := fun n => by
    unfold touchUp tR
    congr 1
    funext i
    exact tRow_up hf hb i by_
  have h2 : ∀ n, front.length ≤ n → tR front back by_ n = tR front back by_ front.length := by
    intro n
    induction n with
    | zero => intro h; rw [show front.length = 0 by omega]
    | succ n ih =>
      intro h
      by_cases e : front.length = n + 1
      · rw [e]
      · rw [tR_succ, ih (by omega), tRow_ge (r := []) (by rw [List.getD_eq_getElem?_getD, List.getElem?_eq_none (by omega)]; rfl) 40 (by simp)]
        simp [tRow]
  rw [h1, h2 25 hl]
/-- what the reference's Touch returns -/
def touchR (front back : Pgl) : List (Nat × Nat) := if fits front && fits back then tR front back 0 25 else []
theorem touch_eq (front back : Pgl) : touchF front back = touchR front back := by
  unfold touchF touchR
  cases e1 : fits front with
  | false => rfl
  | true =>
    cases e2 : fits back with
    | false => rfl
    | true =>
      obtain ⟨f1, f2⟩ := fits_rows e1
      obtain ⟨g1, g2⟩ := fits_rows e2
      exact tR_up f1 f2 g2 0
/-- a page that is moved -/
def movR (r : List UInt8) (by_ : Nat) : List UInt8 := if r.length > 0 then List.replicate by_ 0 ++ r else []
def movP (p : Pgl) (by_ : Nat) : Pgl := p.map fun r => movR r by_
theorem movP_len (p : Pgl) (by_ : Nat) : (movP p by_).length = p.length := by simp [movP]
def longest (p : Pgl) : Nat := p.foldl (fun m r => max m r.length) 0
theorem foldl_max (p : Pgl) : ∀ m, p.foldl (fun m r => max m r.length) m = max m (longest p) := by
  induction p with
  | nil => intro m; simp [longest]
  | cons r p ih =>
    intro m
    unfold longest
    rw [List.foldl_cons, List.foldl_cons, ih, ih]
    omega
theorem longest_cons (r : List UInt8) (p : Pgl) : longest (r :: p) = max r.length (longest p) := by
  unfold longest
  rw [List.foldl_cons, foldl_max]
  simp [longest]
theorem le_longest {p : Pgl} {r : List UInt8} (h : r ∈ p) : r.length ≤ longest p := by
  induction p with
  | nil => cases h
  | cons x p ih =>
    rw [longest_cons]
    rcases List.mem_cons.1 h with rfl | h
    · omega
    · have := ih h; omega
theorem longest_le {p : Pgl} {n : Nat} (h : ∀ r ∈ p, r.length ≤ n) : longest p ≤ n := by
  induction p with
  | nil => simp [longest]
  | cons x p ih =>
    rw [longest_cons]
    have h1 := h x (by simp)
    have h2 := ih fun r hr => h r (by simp [hr])
    omega
theorem longest_get (p : Pgl) : longest p = 0 ∨ ∃ r ∈ p, r.length = longest p := by
  induction p with
  | nil => left; rfl
  | cons x p ih =>
    rw [longest_cons]
    by_cases hx : longest p ≤ x.length
    · right; exact ⟨x, by simp, by omega⟩
    · rcases ih with h | ⟨r, h1, h2⟩
      · omega
      · right; exact ⟨r, by simp [h1], by omega⟩
theorem longest_take (p : Pgl) (k : Nat) (r : List UInt8) (h : p[k]? = some r) : longest (p.take (k + 1)) = max (longest (p.take k)) r.length := by
  rw [List.take_add_one, h]
  show longest (p.take k ++ [r]) = _
  unfold longest
  rw [List.foldl_append]
  rfl
theorem fits_of {p : Pgl} (h1 : p.length ≤ 25) (h2 : ∀ r ∈ p, r.length ≤ 40 ∧ ∀ c ∈ r, c.toNat < 64) : fits p = true := PF.fits ⟨h1, h2⟩
theorem mov_fits {p : Pgl} (h : fits p = true) (by_ : Nat) (hby : by_ ≤ 40) : fits (movP p by_) = decide (by_ ≤ 40 - longest p) := by
  obtain ⟨h1, h2⟩ := fits_rows h
  have hlo : longest p ≤ 40 := longest_le fun r hr => (h2 r hr).1
  by_cases hb : by_ ≤ 40 - longest p
  · rw [decide_eq_true hb]
    refine fits_of (by rw [movP_len]; exact h1) fun r hr => ?_
    obtain ⟨x, hx, rfl⟩ := List.mem_map.1 hr
    unfold movR
    split
    · refine ⟨by rw [List.length_append, List.length_replicate]; have := le_longest hx; omega, fun c hc => ?_⟩
      rcases List.mem_append.1 hc with hc | hc
      · rw [(List.mem_replicate.1 hc).2]; decide
      · exact (h2 x hx).2 c hc
    · exact ⟨by simp, fun c hc => by cases hc⟩
  · rw [decide_eq_false hb]
    rcases longest_get p with h0 | ⟨r, hr, hrl⟩
    · omega
    · cases hf : fits (movP p by_) with
      | false => rfl
      | true =>
        have := ((fits_rows hf).2 (movR r by_) (List.mem_map.2 ⟨r, hr, rfl⟩)).1
        unfold movR at this
        split at this
        · rw [List.length_append, List.length_replicate] at this; omega
        · omega
theorem cAt_mov (p : Pgl) (i : Nat) (by_ : Nat) (k : Int) : cAt (movP p by_) i k = cAt p i (k - by_) := by
  unfold cAt
  have e : (movP p by_).getD i [] = movR (p.getD i []) by_ := by
    unfold movP
    rw [List.getD_eq_getElem?_getD, List.getD_eq_getElem?_getD, List.getElem?_map]
    cases p[i]? <;> simp [movR]
  rw [e]
  generalize p.getD i [] = r
  by_cases hr : r.length > 0
  · have e2 : movR r by_ = List.replicate by_ 0 ++ r := by unfold movR; rw [if_pos hr]
    rw [e2]
    by_cases h0 : 0 ≤ k
    · rw [if_pos h0]
      obtain ⟨m, rfl⟩ : ∃ m : Nat, k = (m : Int) := ⟨k.toNat, by omega⟩
      rw [Int.toNat_natCast]
      by_cases h1 : by_ ≤ m
      · rw [if_pos (by omega), show ((m : Int) - by_).toNat = m - by_ by omega, List.getD_eq_getElem?_getD, List.getElem?_append_right (by simpa using h1), List.length_replicate, ← List.getD_eq_getElem?_getD]
      · rw [if_neg (by omega), List.getD_eq_getElem?_getD, List.getElem?_append_left (by rw [List.length_replicate]; omega), List.getElem?_replicate, if_pos (by omega)]; rfl
    · rw [if_neg h0, if_neg (by omega)]
  · have e2 : movR r by_ = [] := by unfold movR; rw [if_neg hr]
    have e3 : r = [] := by cases r with | nil => rfl | cons a b => simp at hr
    rw [e2, e3]
    simp
theorem tR_mov (front back : Pgl) (by_ : Nat) (n : Nat) : tR front (movP back by_) 0 n = tR front back by_ n := by
  unfold tR
  congr 1
  funext i
  unfold tRow
  congr 1
  refine List.filter_congr fun k hk => ?_
  rw [cAt_mov]
  congr 2
  omega
/-- what Shift returns: the least move, from by_ on -/
def shU (front back : Pgl) : Nat → Nat → Option Nat
  | _, 0 => none
  | b, g + 1 => if (tR front back b 25).length > 0 then shU front back (b + 1) g else some b
def shW (back : Pgl) : Option Nat → Pgl × Nat
  | none => ([], 14)
  | some b => (movP back b, 0)
def shF (front back : Pgl) : Pgl × Nat := if fits front && fits back then shW back (shU front back 0 (40 - longest back + 1)) else ([], 1)
/-- what the reference's Shift looks at -/
def shUR (front back : Pgl) : Nat → Nat → Option Nat
  | _, 0 => none
  | b, g + 1 => if fits (movP back b) && (touchR front (movP back b)).length == 0 then some b else shUR front back (b + 1) g
theorem shUR_end {front back : Pgl} (hb : fits back = true) : ∀ g b, 40 - longest back < b → b + g ≤ 41 → shUR front back b g = none
  | 0, b, h1, h2 => rfl
  | g + 1, b, h1, h2 => by
    unfold shUR
    rw [mov_fits hb b (by omega), decide_eq_false (by omega)]
    simp only [Bool.false_and, Bool.false_eq_true, if_false]
    exact shUR_end hb g (b + 1) (by omega) (by omega)
theorem shUR_eq {front back : Pgl} (hf : fits front = true) (hb : fits back = true) : ∀ g b, b + g = 41 - longest back → ∀ t, t = g + longest back → longest back ≤ 40 → shUR front back b t = shU front back b g
  | 0, b, h1, t, ht, h40 => by
    rw [shU]
    exact shUR_end hb t b (by omega) (by omega)
  | g + 1, b, h1, t, ht, h40 => by
    obtain ⟨t, rfl⟩ : ∃ t', t = t' + 1 := ⟨t - 1, by omega⟩
    unfold shUR shU
    have e1 : fits (movP back b) = true := by rw [mov_fits hb b (by omega), decide_eq_true (by omega)]
    have e2 : touchR front (movP back b) = tR front back b 25 := by
      unfold touchR
      rw [hf, e1]
      exact tR_mov front back b 25
    rw [e1, e2, shUR_eq hf hb g (b + 1) (by omega) t (by omega) h40]
    by_cases hz : (tR front back b 25).length > 0
    · rw [if_pos hz, if_neg (by simp; intro h; rw [h] at hz; simp at hz)]
    · rw [if_neg hz, if_pos (by simp; exact List.eq_nil_of_length_eq_zero (by omega))]
theorem shUR_all {front back : Pgl} (hf : fits front = true) (hb : fits back = true) : shUR front back 0 41 = shU front back 0 (40 - longest back + 1) := by
  have hlo : longest back ≤ 40 := longest_le fun r hr => ((fits_rows hb).2 r hr).1
  exact shUR_eq hf hb _ 0 (by omega) _ (by omega) hlo
theorem shU_some {front back : Pgl} : ∀ g b x, shU front back b g = some x → b ≤ x ∧ x < b + g ∧ tR front back x 25 = []
  | 0, b, x, h => by cases h
  | g + 1, b, x, h => by
    unfold shU at h
    split at h
    · have := shU_some g (b + 1) x h
      exact ⟨by omega, by omega, this.2.2⟩
    · rename_i h1
      cases h
      exact ⟨Nat.le_refl _, by omega, List.eq_nil_of_length_eq_zero (by omega)⟩
theorem shF_ok {front back : Pgl} (h : (shF front back).2 = 0) : ∃ x, (shF front back).1 = movP back x ∧ fits (movP back x) = true ∧ touchF front (movP back x) = [] := by
  unfold shF at h ⊢
  cases e : fits front && fits back with
  | false => rw [e] at h; cases h
  | true =>
    rw [e] at h
    simp only [if_true] at h ⊢
    have hf : fits front = true := by cases h1 : fits front <;> simp [h1] at e ⊢
    have hb : fits back = true := by cases h1 : fits back <;> simp [h1] at e ⊢
    have hlo : longest back ≤ 40 := longest_le fun r hr => ((fits_rows hb).2 r hr).1
    cases hx : shU front back 0 (40 - longest back + 1) with
    | none => rw [hx] at h; cases h
    | some x =>
      obtain ⟨h1, h2, h3⟩ := shU_some _ _ _ hx
      have e1 : fits (movP back x) = true := by rw [mov_fits hb x (by omega), decide_eq_true (by omega)]
      refine ⟨x, rfl, e1, ?_⟩
      rw [touch_eq]
      unfold touchR
      rw [hf, e1]
      exact (tR_mov front back x 25).trans h3
theorem mov_cN (p : Pgl) (b : Nat) : cN (movP p b).flatten = cN p.flatten ∧ cM (movP p b).flatten = cM p.flatten := by
  induction p with
  | nil => exact ⟨rfl, rfl⟩
  | cons r p ih =>
    have e : (movP (r :: p) b).flatten = movR r b ++ (movP p b).flatten := rfl
    have hz : cN (List.replicate b (0 : UInt8)) = 0 ∧ cM (List.replicate b (0 : UInt8)) = 0 := by
      have hd : (dotsL 0).length = 0 := by decide +kernel
      constructor
      · unfold cN; simp
      · unfold cM; simp [hd]
    have hr : cN (movR r b) = cN r ∧ cM (movR r b) = cM r := by
      unfold movR
      split
      · unfold cN cM at hz ⊢
        rw [List.filter_append, List.length_append, List.map_append, List.sum_append, hz.1, hz.2]
        simp
      · rename_i h0
        have : r = [] := by cases r with | nil => rfl | cons a b => simp at h0
        rw [this]; exact ⟨rfl, rfl⟩
    rw [e, List.flatten_cons]
    unfold cN cM at ih hr ⊢
    rw [List.filter_append, List.filter_append, List.length_append, List.length_append, List.map_append, List.map_append, List.sum_append, List.sum_append, ih.1, ih.2, hr.1, hr.2]
    exact ⟨rfl, rfl⟩
end Go.Proofs.Ytdeknimelkdaeaa
end

/- the text P29 -/
section
/- Chapter 35: the reference's touches and Touch. -/
set_option linter.unusedVariables false
namespace Go.Proofs.Ytdeknimelkdaeaa
open Go.RowKit Go.Dx Go.Al
theorem any_take {α : Type} (f : α → Bool) (l : List α) (k : Nat) (x : α) (h : l[k]? = some x) : (l.take (k + 1)).any f = ((l.take k).any f || f x) := by
  rw [List.take_add_one, h]
  simp
theorem any_of {α : Type} (f : α → Bool) (l : List α) (k : Nat) (x : α) (h : l[k]? = some x) (hf : f x = true) : l.any f = true :=
  List.any_eq_true.2 ⟨x, List.mem_of_getElem? h, hf⟩
set_option maxHeartbeats 2000000 in
theorem ref35_touches (front back : Pgl) (h1 h2 : List Hd) (a1 a2 : Option Addr) (n1 n2 c1 c2 : Nat) (i k : Nat) (w : World) (hp : Pg w a1 n1 c1 h1 front) (hq : Pg w a2 n2 c2 h2 back) (hi : i < 25) (hk : k < 40) :
    Calls Try.prog 50 #[.slice a1 n1 c1, .slice a2 n2 c2, .int .i64 (i : Int), .int .i64 (k : Int)] w fun e w' => e = .returned (.bool (hitR (pcell front i k) (cAt back i (39 - (k : Int))))) ∧ Below w.heap.size w w' := by
  have hc1 := ref_Cell front h1 a1 n1 c1 i k w hp (by omega) (by omega)
  have hc2 := fun w' (hb : Below w.heap.size w w') => ref_Cell back h2 a2 n2 c2 i (39 - k) w' (hq.below hb) (by omega) (by omega)
  rw [show (39 : Int) - (k : Int) = ((39 - k : Nat) : Int) by omega, cAt_pcell]
  unfold hitR
  obtain ⟨k', hk', ek⟩ : ∃ k' : Nat, k' < 40 ∧ (39 : Int) - (k : Int) = (k' : Int) := ⟨39 - k, by omega, by omega⟩
  have ek2 : 39 - k = k' := by omega
  rw [ek2] at hc2 ⊢
  clear ek2
  generalize pcell front i k = c at hc1 ⊢
  generalize pcell back i k' = x at hc2 ⊢
  have hd1 := fun w' => ref_Dots c w'
  have hbk := fun w' => ref_Back x w'
  have hd2 := fun w' => ref_Dots (backC x) w'
  have la := dotsTo_len c 6
  have lb := dotsTo_len (backC x) 6
  change (dotsL c).length ≤ 6 at la
  change (dotsL (backC x)).length ≤ 6 at lb
  generalize dotsL c = A at hd1 la ⊢
  generalize dotsL (backC x) = B at hd2 lb ⊢
  go_enter Try.func50, Try.ntmps50
  go_wp2_with (first
    | (go_at_call_of 61 (Value.int IntKind.i64 (k : Int)); refine hc1.mono ?_; rintro e w2 ⟨rfl, rfl⟩)
    | (go_at_call 65; refine (hd1 _).mono ?_; rintro e w3 ⟨a3, c3, rfl, ho3, hb3⟩; refine hold ?_))
  refine hide ?_
  have S3 := hide ho3.sl
  clear ho3 hd1
  go_wp2_with (first
    | (go_at_call 61; refine (hc2 _ hb3).mono ?_; rintro e w4 ⟨rfl, rfl⟩)
    | (go_at_call 66; refine (hbk _).mono ?_; rintro e w5 ⟨rfl, hb5⟩)
    | (go_at_call 65; refine (hd2 _).mono ?_; rintro e w6 ⟨a6, c6, rfl, ho6, hb6⟩; refine hold ?_))
  refine hide ?_
  have hB6 := hb3.trans ((hb5.trans (hb6.mono hb5.size)).mono hb3.size)
  have S6 := hide ho6.sl
  have S36 := hide (S3.out.below (hb5.trans (hb6.mono hb5.size)))
  obtain ⟨NA, hNA⟩ : ∃ N, Hid (A.length = N) := ⟨_, hide rfl⟩
  obtain ⟨NB, hNB⟩ : ∃ N, Hid (B.length = N) := ⟨_, hide rfl⟩
  rw [hNA.out] at la S36 ⊢
  rw [hNB.out] at lb S6 ⊢
  clear ho6 hd2 hb5 hb6 hc1 hc2 hbk S3
  go_wp2_with fail
  go_loopg [11, 12] NA (fun g v _ w' => ∃ (j : Nat), j ≤ NA ∧ g = NA - j ∧ v = .int .i64 (j : Int) ∧ Hid ((A.take j).any (fun y => B.any fun z => y == z) = false) ∧ Below w6.heap.size w6 w')
  case atStart => exact ⟨0, by omega, by omega, rfl, hide rfl, Below.refl _ _⟩
  case round =>
    obtain ⟨j, hj, hg, rfl, hT, hbr⟩ := hrel
    have HG := hide hg
    clear hg
    by_cases hjl : j < NA
    · obtain ⟨y, hy⟩ : ∃ y, A[j]? = some y := ⟨A[j]'(by rw [hNA.out]; exact hjl), by simp⟩
      have hyA := hide (any_take (fun y => B.any fun z => y == z) A j y hy)
      have HY := hide hy
      clear hy
      go_wp2_with fail
      go_loopg [12] NB (fun g v w' => ∃ (m : Nat), m ≤ NB ∧ g = NB - m ∧ v = .int .i64 (m : Int) ∧ Hid ((B.take m).any (fun z => y == z) = false) ∧ Below w6.heap.size w6 w')
      case atStart => exact ⟨0, by omega, by omega, rfl, hide rfl, hbr⟩
      case round =>
        clear hbr
        obtain ⟨m, hm, hg, rfl, hT2, hbr⟩ := hrel
        have HG2 := hide hg
        clear hg
        by_cases hml : m < NB
        · obtain ⟨z, hz⟩ : ∃ z, B[m]? = some z := ⟨B[m]'(by rw [hNB.out]; exact hml), by simp⟩
          have hzB := hide (any_take (fun z => y == z) B m z hz)
          have HZ := hide hz
          clear hz
          obtain ⟨b1, o1, rfl, hb1, hc1⟩ := (S36.out.below hbr).ex (by rw [List.length_map, hNA.out]; omega)
          obtain ⟨b2, o2, rfl, hb2, hc2⟩ := (S6.out.below hbr).ex (by rw [List.length_map, hNB.out]; omega)
          have hx1 : wr.cell? ⟨b1, o1 + j, none⟩ = some (I64 y) := hc1 j _ (by rw [List.getElem?_map, HY.out]; rfl)
          have hy1 : wr.cell? ⟨b2, o2 + m, none⟩ = some (I64 z) := hc2 m _ (by rw [List.getElem?_map, HZ.out]; rfl)
          clear hc1 hc2
          cases hxy : (y == z) with
          | true =>
            have hE : Hid (A.any (fun y => B.any fun z => y == z) = true) := hide (any_of _ A j y HY.out (any_of _ B m z HZ.out hxy))
            have hE2 := hide (congrArg Value.bool hE.out)
            clear hzB hyA
            go_wp2
            go_quiet (fail)
            go_wp2
            go_ret
            exact ⟨by rw [hE2.out]; rfl, hB6.trans ((hbr.trans ((Still.below _).mono hbr.size)).mono hB6.size)⟩
          | false =>
            have hE : Hid ((B.take (m + 1)).any (fun z => y == z) = false) := hide (by rw [hzB.out, hT2.out, hxy]; rfl)
            clear hzB
            go_wp2
            go_quiet (fail)
            go_wp2
            go_roundg (NB - (m + 1))
            case measure => have := HG2.out; omega
            case rel => exact ⟨m + 1, by omega, rfl, by go_num, hE, hbr.trans ((Still.below _).mono hbr.size)⟩
        · obtain rfl : m = NB := by omega
          go_wp2
          go_roundg (NA - (j + 1))
          case measure => have := HG.out; omega
          case rel => exact ⟨j + 1, by omega, rfl, by go_num, hide (by have e := hT2.out; rw [← hNB.out, List.take_length] at e; rw [hyA.out, hT.out, e]; rfl), hbr⟩
    · obtain rfl : j = NA := by omega
      go_wp2
      go_ret
      have h1 := hT.out
      rw [← hNA.out, List.take_length] at h1
      exact ⟨by rw [h1]; rfl, hB6.trans (hbr.mono hB6.size)⟩
set_option maxRecDepth 100000 in
set_option maxHeartbeats 4000000 in
theorem ref35_Touch (front back : Pgl) (h1 h2 : List Hd) (a1 a2 : Option Addr) (n1 n2 c1 c2 : Nat) (w : World) (hp : Pg w a1 n1 c1 h1 front) (hq : Pg w a2 n2 c2 h2 back) :
    Calls Try.prog 29 #[.slice a1 n1 c1, .slice a2 n2 c2] w fun e w' => ∃ a c, e = .returned (.slice a (touchR front back).length c) ∧ Own w' w.heap.size 68 2 a (touchR front back).length c ((touchR front back).flatMap pc2) ∧ Below w.heap.size w w' := by
  have hc1 := ref4_Fits front h1 a1 n1 c1 w hp
  have hc2 := ref4_Fits back h2 a2 n2 c2 w hq
  unfold touchR
  cases e1 : fits front with
  | false =>
    rw [e1] at hc1
    clear e1
    go_enter Try.func29, Try.ntmps29
    go_wp2_with (go_at_call 49; refine hc1.mono ?_; rintro e w4 ⟨rfl, rfl⟩)
    go_ret
    exact ⟨none, 0, rfl, Own.nil _ _ _ _, Below.refl _ _⟩
  | true =>
    rw [e1] at hc1
    clear e1
    cases e2 : fits back with
    | false =>
      rw [e2] at hc2
      clear e2
      go_enter Try.func29, Try.ntmps29
      go_wp2_with (first
        | (go_at_call_of 49 (Value.slice a1 n1 c1); refine hc1.mono ?_; rintro e w4 ⟨rfl, rfl⟩)
        | (go_at_call_of 49 (Value.slice a2 n2 c2); refine hc2.mono ?_; rintro e w4 ⟨rfl, rfl⟩))
      go_ret
      exact ⟨none, 0, rfl, Own.nil _ _ _ _, Below.refl _ _⟩
    | true =>
      rw [e2] at hc2
      clear e2
      have eT : (if (true && true) = true then tR front back 0 25 else []) = tR front back 0 25 := rfl
      rw [eT]
      clear eT
      have HP := hide hp
      have HQ := hide hq
      clear hp hq
      go_enter Try.func29, Try.ntmps29
      go_wp2_with (first
        | (go_at_call_of 49 (Value.slice a1 n1 c1); refine hc1.mono ?_; rintro e w4 ⟨rfl, rfl⟩)
        | (go_at_call_of 49 (Value.slice a2 n2 c2); refine hc2.mono ?_; rintro e w4 ⟨rfl, rfl⟩))
      clear hc1 hc2
      go_loopg [5, 6, 7] 25 (fun g o i _ w' => ∃ (k : Nat) (ao : Option Addr) (co : Nat), k ≤ 25 ∧ g = 25 - k ∧ i = .int .i64 (k : Int) ∧ o = .slice ao (tR front back 0 k).length co ∧ Own w' w.heap.size 68 2 ao (tR front back 0 k).length co ((tR front back 0 k).flatMap pc2) ∧ Below w.heap.size w w')
      case atStart => exact ⟨0, none, 0, by omega, by omega, rfl, rfl, Own.nil _ _ _ _, Below.refl _ _⟩
      case round =>
        obtain ⟨k, ao, co, hk, hg, rfl, rfl, hO, hb⟩ := hrel
        have HG := hide hg
        have HO := hide hO
        clear hg hO
        have hlen := tR_len front back 0 k
        have hsucc := hide (tR_succ front back 0 k)
        obtain ⟨T, hT⟩ : ∃ T, Hid (tR front back 0 k = T) := ⟨_, hide rfl⟩
        rw [hT.out] at HO hlen hsucc ⊢
        obtain ⟨q, hq⟩ : ∃ q, Hid (T.length = q) := ⟨_, hide rfl⟩
        rw [hq.out] at HO hlen ⊢
        by_cases hkl : k < 25
        · have hd25 : decide ((k : Int) < 25) = true := decide_eq_true (by omega)
          go_wp2_with fail
          clear hd25
          go_loopg [5, 7] 40 (fun g o i w' => ∃ (m : Nat) (ao : Option Addr) (co : Nat), m ≤ 40 ∧ g = 40 - m ∧ i = .int .i64 (m : Int) ∧ o = .slice ao (q + (tRow front back k 0 m).length) co ∧ Own w' w.heap.size 68 2 ao (q + (tRow front back k 0 m).length) co ((T ++ tRow front back k 0 m).flatMap pc2) ∧ Below w.heap.size w w')
          case atStart => exact ⟨0, ao, co, by omega, by omega, rfl, rfl, by have := HO.out; simpa [tRow] using this, hb⟩
          case round =>
            clear hb HO
            obtain ⟨m, ao, co, hm, hg, rfl, rfl, hO, hb⟩ := hrel
            have HG2 := hide hg
            have HO := hide hO
            clear hg hO
            have hrow := tRow_len front back k 0 m
            by_cases hmR : m < 40
            · have hsc := hide (tRow_succ front back k 0 m)
              have hto := ref35_touches front back h1 h2 a1 a2 n1 n2 c1 c2 k m wr (HP.out.below hb) (HQ.out.below hb) hkl hmR
              rw [show (39 : Int) - (m : Int) = 39 - (m : Int) - ((0 : Nat) : Int) by omega] at hto
              obtain ⟨p, hp⟩ : ∃ p, Hid ((tRow front back k 0 m).length = p) := ⟨_, hide rfl⟩
              rw [hp.out] at HO hrow ⊢
              cases hh : hitR (pcell front k m) (cAt back k (39 - (m : Int) - ((0 : Nat) : Int))) with
              | true =>
                rw [hh] at hto
                have hsc2 : Hid (tRow front back k 0 (m + 1) = tRow front back k 0 m ++ [(k, m)]) := hide (by rw [hsc.out, hh]; rfl)
                clear hh hsc
                go_wp2_with (go_at_call 50; refine hto.mono ?_; rintro e w5 ⟨rfl, hb5⟩; refine hold ?_)
                refine hide ?_
                have hOr := HO.out.below hb5
                have hb' := hb.trans (hb5.mono hb.size)
                have hBr := hb'.size
                go_wp2_with (at_builtin; refine append_lit rfl _ _ 58 rfl 68 (.agg #[.int .i64 0, .int .i64 0]) 2 16 Try.underlying58 info_pair rfl w w.heap.size ao (q + p) co _ rfl hOr 1 [.int .i64 (k : Int), .int .i64 (m : Int)] rfl rfl (by simp [Value.oneCell']) (by omega) (by unfold maxLen; omega) hBr hb' ?_; intro a9 c9 w9 ho9 hg9 hb9)
                have HO9 := hide ho9
                clear ho9 hg9 hOr
                go_roundg (40 - (m + 1))
                case measure => have := HG2.out; omega
                case rel =>
                  have e1 : q + (tRow front back k 0 (m + 1)).length = q + p + 1 := by rw [hsc2.out, List.length_append, hp.out]; rfl
                  refine ⟨m + 1, a9, c9, by omega, rfl, by go_num, by rw [e1], ?_, hb9⟩
                  rw [e1, hsc2.out, ← List.append_assoc, List.flatMap_append (ys := [(k, m)])]
                  exact HO9.out
              | false =>
                rw [hh] at hto
                have hsc2 : Hid (tRow front back k 0 (m + 1) = tRow front back k 0 m) := hide (by rw [hsc.out, hh]; simp)
                clear hh hsc
                go_wp2_with (go_at_call 50; refine hto.mono ?_; rintro e w5 ⟨rfl, hb5⟩)
                go_roundg (40 - (m + 1))
                case measure => have := HG2.out; omega
                case rel => exact ⟨m + 1, ao, co, by omega, rfl, by go_num, by rw [hsc2.out, hp.out], by rw [hsc2.out, hp.out]; exact HO.out.below hb5, hb.trans (hb5.mono hb.size)⟩
            · obtain rfl : m = 40 := by omega
              go_wp2
              go_roundg (25 - (k + 1))
              case measure => have := HG.out; omega
              case rel =>
                have e1 : (tR front back 0 (k + 1)).length = q + (tRow front back k 0 40).length := by rw [hsucc.out, List.length_append, hq.out]
                exact ⟨k + 1, ao, co, by omega, rfl, by go_num, by rw [e1], by rw [e1, hsucc.out]; exact HO.out, hb⟩
        · obtain rfl : k = 25 := by omega
          go_wp2
          go_ret
          rw [hT.out, hq.out]
          exact ⟨ao, co, rfl, HO.out, hb⟩
end Go.Proofs.Ytdeknimelkdaeaa
end

/- the text P36 -/
section
/- Chapter 35: the reference's Load. -/
set_option linter.unusedVariables false
namespace Go.Proofs.Ytdeknimelkdaeaa
open Go.RowKit Go.Dx Go.Al
section
variable {w0 w w' : World} {X Y F : List Nat} {m : RM} {S S' : Pr} {r : Nat}
theorem RWk.more {X' : List Nat} (h : RWk w0 w X m S) (hX : ∀ b ∈ X, b ∈ X') (hd : ∀ b ∈ X', b ∈ X ∨ b ∉ m.gs) : RWk w0 w X' m S :=
  ⟨h.rows, h.t0.more hX, h.t1.more hX, h.e0, h.e1, h.gl, h.gg, fun hb => by
    rcases hd _ hb with h1 | h1
    · exact h.n0 h1
    · exact h1 (by rw [h.gl]; simp), fun hb => by
    rcases hd _ hb with h1 | h1
    · exact h.n1 h1
    · exact h1 (by rw [h.gl]; simp), h.f0, h.f1⟩
theorem RIn.load (h : RIn w0 w X m S) {B n c : Nat} {a : Option Addr} {ws : List HS} {L : List Sht} (ho : Own w B 29 2 a n c ((m.ws ++ ws).flatMap shc)) (hn : n = (S.waiting ++ L).length) (hs : ShR (RPg w0 w Y) ws L)
    (hY : ∀ b ∈ Y, b < w.heap.size ∧ NoB w b) (hg : ∀ b ∈ Y ++ blk a, b ∉ m.gs) :
    RIn w0 w (Y ++ (blk a ++ X)) ⟨a, c, m.ws ++ ws, m.ta, m.tc, m.ts, m.v0, m.v1, m.u0, m.u1, m.rw, m.br, m.g0, m.g1, m.gs⟩ { S with waiting := S.waiting ++ L } := by
  have hX : ∀ b ∈ X, b ∈ Y ++ (blk a ++ X) := fun b hb => by simp [hb]
  have hYX : ∀ b ∈ Y, b ∈ Y ++ (blk a ++ X) := fun b hb => by simp [hb]
  have hall : ∀ b ∈ m.gs ++ (Y ++ (blk a ++ X)), b ∈ m.gs ++ X ∨ b ∈ Y ∨ b ∈ blk a := fun b hb => by
    simp at hb ⊢
    rcases hb with h | h | h | h
    · exact .inl (.inl h)
    · exact .inr (.inl h)
    · exact .inr (.inr h)
    · exact .inl (.inr h)
  refine ⟨fun b hb => ?_, fun b hb => ?_, by rw [← hn]; exact ho.sl, fun b hb => by simp [hb], h.tl, fun b hb => hX b (h.tx b hb), (h.ww.imp fun x p t => t.more hX).append (hs.imp fun x p t => t.more hYX), h.tt.imp fun x p t => t.more hX, fun hb => ?_⟩
  · rcases hall b hb with h1 | h1 | h1
    · exact h.lt b h1
    · exact (hY b h1).1
    · exact (own_lt ho b h1).2
  · rcases hall b hb with h1 | h1 | h1
    · exact h.nob b h1
    · exact (hY b h1).2
    · exact own_nobs ho (by decide) b h1
  · have hk := (h.bz hb).more hX (fun b hb => by
      simp at hb
      rcases hb with h1 | h1 | h1
      · exact .inr (hg b (by simp [h1]))
      · exact .inr (hg b (by simp [h1]))
      · exact .inl h1)
    exact ⟨hk.rows, hk.t0, hk.t1, hk.e0, hk.e1, hk.gl, hk.gg, hk.n0, hk.n1, hk.f0, hk.f1⟩
end
theorem any_bad_take {L : List Pgl} {k : Nat} {p : Pgl} (h : L[k]? = some p) : (L.take (k + 1)).any badPg = ((L.take k).any badPg || badPg p) := any_take badPg L k p h
set_option maxRecDepth 100000 in
set_option maxHeartbeats 4000000 in
theorem ref35_Load (w0 : World) (r : Nat) (X Y : List Nat) (m : RM) (S : Pr) (w : World) (h : RAt w0 w r X m S) (hbw : Below w0.heap.size w0 w) (hw : S.waiting.length ≤ 64) (L : List Pgl) (hs : List Hd) (a : Option Addr) (n c : Nat)
    (hL : Sl w 1 a n c (hs.map hv)) (hl : hs.length = L.length) (hR : ∀ (i : Nat) (x : Hd) (p : Pgl), hs[i]? = some x → L[i]? = some p → RPg w0 w Y x p) (hY : ∀ b ∈ Y, b < w.heap.size ∧ NoB w b ∧ b ≠ r ∧ b ∉ m.gs) (hn : L.length ≤ 1000000) :
    Calls Try.prog 43 #[.pointer (some ⟨r, 0, none⟩), .slice a n c] w fun e w' => e = .returned (.int .i64 (loadP S L).2) ∧ ∃ X' m', RAt w0 w' r X' m' (loadP S L).1 ∧ Fr [r] w w' ∧ (∀ b ∈ rfoot r X' m', b ∈ rfoot r X m ∨ b ∈ Y ∨ w.heap.size ≤ b) ∧ m'.br = m.br := by
  have hP : Pgs w a n c hs L := ⟨hL, hl, fun i x p h1 h2 => (hR i x p h1 h2).pg hbw⟩
  obtain rfl := hP.n_eq
  obtain ⟨N, hN⟩ : ∃ N, Hid (L.length = N) := ⟨_, hide rfl⟩
  obtain ⟨W, hW⟩ : ∃ W, Hid (S.waiting.length = W) := ⟨_, hide rfl⟩
  have HP := hide hP
  rw [hN.out] at HP hn ⊢
  rw [hW.out] at hw
  have HH := hide h
  have hsh := hide (ref35_SheetsR (RPg w0 w Y) L hs a N c w HP.out (by rw [hN.out]; omega) hR (RPg.nil w0 w Y))
  obtain ⟨K, hK⟩ : ∃ K, Hid ((sheetsL L).length = K) := ⟨_, hide rfl⟩
  rw [hK.out] at hsh
  have hKN : Hid (K = (N + 1) / 2) := hide (by rw [← hK.out, ← hN.out]; exact sheetsL_len L)
  have hK1 : K ≤ 1000000 := by have := hKN.out; omega
  have HBx : Box w r 51 (rcells m S) := h.box
  have HR := hide hR
  have HY := hide hY
  clear hP hL hl hR hY h
  go_enter Try.func43, Try.ntmps43
  go_wp2_with fail
  go_loopg [5] N (fun g v w' => ∃ k : Nat, k ≤ N ∧ g = N - k ∧ v = .int .i64 (k : Int) ∧ Hid ((L.take k).any badPg = false) ∧ w = w')
  case atStart => exact ⟨0, by omega, by omega, rfl, hide rfl, rfl⟩
  case round =>
    obtain ⟨k, hk, hg, rfl, hT, rfl⟩ := hrel
    have HG := hide hg
    clear hg
    by_cases hkl : k < N
    · obtain ⟨p, hp⟩ : ∃ p, L[k]? = some p := ⟨L[k]'(by rw [hN.out]; exact hkl), by simp⟩
      obtain ⟨ai, ni, ci, ri, hui, hpi⟩ := HP.out.at_ hp
      obtain ⟨b7, o7, rfl, hlt7, hc7⟩ := HP.out.top.ex (by have := HP.out.len; rw [List.length_map, this, hN.out]; omega)
      have hc1 : w.cell? ⟨b7, o7 + k, none⟩ = some (.slice ai ni ci) := hc7 k _ hui
      have hft := ref4_Fits p ri ai ni ci w hpi
      have hst := hide (any_bad_take hp)
      have HPk := hide hp
      clear hui hpi hc7 hp
      cases e1 : fits p with
      | false =>
        rw [e1] at hft
        have hany : Hid (L.any badPg = true) := hide (List.any_eq_true.2 ⟨p, List.mem_of_getElem? HPk.out, by unfold badPg; rw [e1]; rfl⟩)
        have hLP : Hid (loadP S L = (S, 1)) := hide (by unfold loadP; rw [hany.out, if_pos rfl])
        clear hst hany e1
        go_wp2_with (go_at_call 49; refine hft.mono ?_; rintro e w4 ⟨rfl, rfl⟩)
        go_ret
        rw [hLP.out]
        exact ⟨rfl, X, m, HH.out, Fr.refl _ _, fun b hb => .inl hb, rfl⟩
      | true =>
        rw [e1] at hft
        have HE : Hid ((L.take (k + 1)).any badPg = false) := hide (by rw [hst.out, hT.out]; unfold badPg; rw [e1]; rfl)
        clear hst e1
        go_wp2_with (go_at_call 49; refine hft.mono ?_; rintro e w4 ⟨rfl, rfl⟩)
        go_roundg (N - (k + 1))
        case measure => have := HG.out; omega
        case rel => exact ⟨k + 1, by omega, rfl, by go_num, HE, rfl⟩
    · obtain rfl : k = N := by omega
      have hany : Hid (L.any badPg = false) := hide (by have := hT.out; rw [← hN.out, List.take_length] at this; exact this)
      clear hT
      go_wp2_with (go_at_call 9; refine hsh.out.mono ?_; rintro e w2 ⟨aS, cS, wsS, rfl, hOS, hES, hb2⟩; refine hold ?_)
      refine hide ?_
      have SS := hide hOS.sl
      have ES := hide hES
      have HA2 := hide (HH.out.below hb2)
      have hb02 := hbw.trans (hb2.mono hbw.size)
      clear hOS hES hsh HP HBx
      have HB2 := HA2.out.box
      unfold rcells at HB2
      rw [hW.out] at HB2
      by_cases hbig : 64 < W + K
      · have hLP : Hid (loadP S L = (S, 4)) := hide (by unfold loadP; rw [hany.out, hN.out, hW.out, ← hKN.out, if_neg (by simp), if_pos hbig])
        have c1 : w2.cell? ⟨r, 1, none⟩ = some (.slice m.wa W m.wc) := HB2.at_ rfl
        have hd : decide (64 < (W : Int) + (K : Int)) = true := decide_eq_true (by omega)
        clear hany HB2
        go_wp2_with fail
        go_ret
        rw [hLP.out]
        exact ⟨rfl, X, m, HA2.out, Fr.of hb2, fun b hb => .inl hb, rfl⟩
      · have hLP : Hid (loadP S L = ({ S with waiting := S.waiting ++ sheetsL L }, 0)) := hide (by unfold loadP; rw [hany.out, hN.out, hW.out, ← hKN.out, if_neg (by simp), if_neg hbig])
        have c1 : w2.cell? ⟨r, 1, none⟩ = some (.slice m.wa W m.wc) := HB2.at_ rfl
        have hd : decide (64 < (W : Int) + (K : Int)) = false := decide_eq_false (by omega)
        have WL := hide HA2.out.inn.wl
        rw [hW.out] at WL
        clear hany
        go_wp2_with (refine build_nilS _ ?_; intro w3 x3 hb3; refine hold ?_)
        refine hide ?_
        have HB3 := HB2.under hb3
        have c1 : w3.cell? ⟨r, 1, none⟩ = some (.slice m.wa W m.wc) := HB3.at_ rfl
        have WL3 := WL.out.below hb3
        obtain ⟨gz, hgz⟩ : ∃ gz, Hid (w2.heap.size = gz) := ⟨_, hide rfl⟩
        rw [hgz.out] at x3 ⊢
        have hgz2 : w.heap.size ≤ gz := by rw [← hgz.out]; exact hb2.size
        clear HB2
        go_wp2_with (at_builtin; refine app_sh_e rfl _ _ rfl gz gz rfl x3 (Nat.le_refl _) m.wa W m.wc m.ws rfl WL3 (by omega) ?_; intro a4 c4 w4 ho4 hb4 hz4; refine hold ?_)
        refine hide ?_
        have HB4 := HB3.under hb4
        have hb34 := hb3.trans (hb4.mono hb3.size)
        have SS4 := SS.out.below hb34
        have hzz : gz ≤ w4.heap.size := by rw [← hgz.out]; exact hb34.size
        clear x3 HB3 c1 WL3
        go_wp2_with (at_builtin; refine app_shW rfl _ _ rfl gz a4 W c4 m.ws rfl ho4 hzz aS K cS wsS rfl SS4 (by omega) ?_; intro a5 c5 w5 ho5 hg5 hz5; refine hold ?_)
        refine hide ?_
        have hb25 : Below w2.heap.size w2 w5 := by
          rcases hz5 with h5 | h5
          · rcases hz4 with ⟨h6, h7⟩ | ⟨h6, h7⟩
            · have : K = 0 := by omega
              subst this
              have hO : ∀ b, a4.map (·.block) = some b → w2.heap.size ≤ b := fun b hb => by rw [hgz.out]; cases ha : a4 with
                | none => rw [ha] at hb; cases hb
                | some q => rw [ha] at hb; simp at hb; subst hb; exact (own_lt ho4 q.block (by rw [ha]; simp)).1
              exact hb34.grown hg5 hb34.size hO
            · exact hb34.grown hg5 hb34.size (fun b hb => by cases ha : a4 with
                | none => rw [ha] at hb; cases hb
                | some q => rw [ha] at hb; simp at hb; subst hb; exact Nat.le_trans hb3.size (h7 q ha))
          · exact hb34.trans (h5.mono hb34.size)
        have HB5 := HB4.grown hg5 (fun e => by
          have h1 := HA2.out.box.lt
          cases ha : a4 with
          | none => rw [ha] at e; cases e
          | some q =>
            rw [ha] at e
            simp at e
            have h2 := (own_lt ho4 q.block (by rw [ha]; simp)).1
            rw [← hgz.out] at h2
            omega)
        obtain ⟨WK, hWK⟩ : ∃ WK, Hid (W + K = WK) := ⟨_, hide rfl⟩
        have HO5 := hide ho5
        rw [hWK.out] at HO5 ⊢
        clear hb3 hb4 hb34 HB4 SS4 ho4 hz4 hg5 hz5 ho5 hzz
        go_wp2_with (with_reducible refine hold_store ?_)
        refine hide ?_
        refine store_cell 25 _ _ 51 r 1 _ (.slice a5 WK c5) size_shs HB5 rfl rfl rfl rfl (by show 1 < 11; omega) ?_; intro w6 HB6 gb6 zb6
        simp only [List.set_cons_succ, List.set_cons_zero] at HB6
        have F56 : Fr [r] w5 w6 := Fr.ofGrown gb6
        clear gb6 zb6
        have FF : Hid (Fr [r] w w6) := hide (((Fr.of hb2).below hb25).on F56 (fun b hb => .inl hb))
        have FF2 : Hid (Fr [r] w2 w6) := hide ((Fr.of hb25).on F56 (fun b hb => .inl hb))
        have hlo : ∀ b ∈ blk a5, gz ≤ b := fun b hb => (own_lt HO5.out b hb).1
        have HO6 : Hid (Own w6 gz 29 2 a5 WK c5 ((m.ws ++ wsS).flatMap shc)) := hide (own_fr HO5.out F56 (fun b hb hm => by
          simp at hm
          have h1 := hlo b hb
          have h2 := HA2.out.box.lt
          rw [hgz.out] at h2
          omega))
        have HB6 := hide HB6
        clear HB5 F56 HO5
        go_wp2
        go_ret
        rw [hLP.out]
        have hNr : NoB w r := NoB.box HH.out.box (by decide)
        have hNr2 : NoB w2 r := NoB.box HA2.out.box (by decide)
        have I6 := HA2.out.inn.fr1 FF2.out hNr2 HA2.out.nr
        have hYr : ∀ b ∈ Y, b ∉ [r] := fun b hb hm => by simp at hm; exact (HY.out b hb).2.2.1 hm
        have ES6 : ShR (RPg w0 w6 Y) wsS (sheetsL L) := ES.out.imp fun x p t => t.fr FF.out (fun b hm => by simp at hm; subst hm; exact hNr) hYr
        have hwk : WK = (S.waiting ++ sheetsL L).length := by rw [List.length_append, hW.out, hK.out, hWK.out]
        have hgs : ∀ b ∈ Y ++ blk a5, b ∉ m.gs := fun b hb hm => by
          rcases List.mem_append.1 hb with h1 | h1
          · exact (HY.out b h1).2.2.2 hm
          · have h2 := hlo b h1
            have h3 := HH.out.inn.lt b (List.mem_append_left _ hm)
            omega
        have I7 := I6.load HO6.out hwk ES6 (fun b hb => ⟨Nat.lt_of_lt_of_le (HY.out b hb).1 FF.out.size, (HY.out b hb).2.1.fr FF.out (HY.out b hb).1 (hYr b hb)⟩) hgs
        refine ⟨rfl, _, _, ⟨by have h1 := HB6.out; unfold rcells; rw [hwk] at h1; exact h1, ?_, I7⟩, FF.out, ?_, rfl⟩
        · intro hr
          have h1 := HH.out.nr
          have h2 : r ∉ blk a5 := fun hh => by
            have h3 := hlo r hh
            have h4 := HH.out.box.lt
            omega
          simp at hr h1
          rcases hr with hr | hr | hr | hr
          · exact h1.1 hr
          · exact (HY.out r hr).2.2.1 rfl
          · exact h2 hr
          · exact h1.2 hr
        · intro b hb
          unfold rfoot at hb ⊢
          simp at hb ⊢
          rcases hb with hr | hr | hr | hr | hr
          · exact .inl (.inl hr)
          · exact .inl (.inr (.inl hr))
          · exact .inr (.inl hr)
          · exact .inr (.inr (Nat.le_trans hgz2 (hlo b hr)))
          · exact .inl (.inr (.inr hr))
end Go.Proofs.Ytdeknimelkdaeaa
end

/- the text Free5 -/
section
/- A region that draws its order: as wp_region_free; and the blocks that two of its operations make are apart. No program in sight. -/
set_option linter.unusedVariables false
namespace Go.Dx
open Go.RowKit
section
variable {P : Program}
structure FreeInvB (l : List Oper) (n : Nat) (T : List HOp) (M : List Nat) (bl : Value → Nat) (a0 : Act) (w0 : World) (listed : Array Bool) (a : Act) (w : World) : Prop where
  inv : HeadInv .any l.toArray n listed
  defers : a.defers = a0.defers
  size : a.tmps.size = a0.tmps.size
  frame : ∀ k, (∀ t ∈ T, t.d ≠ k) → a.tmps.getD k undef = a0.tmps.getD k undef
  bel : Below w0.heap.size w0 w
  facts : ∀ t ∈ T, listed.getD t.i false = true → t.fact a w
  ap : ∀ t ∈ T, ∀ u ∈ T, t.i ∈ M → u.i ∈ M → t.i ≠ u.i → listed.getD t.i false = true → listed.getD u.i false = true → bl (a.tmps.getD t.d undef) ≠ bl (a.tmps.getD u.d undef)

theorem wp_region_freeB {id : Nat} {Q : Exit → Act → World → Prop} {a0 : Act} {w0 : World} {l : List Oper} (n : Nat) (T : List HOp) (M : List Nat) (bl : Value → Nat) (hm : P.follows .mixedOrders = true)
    (hB : headOk l n (T.map fun t => (t.i, t.d, t.s)) a0.tmps.size = true)
    (hmono : All (fun t : HOp => ∀ vs w w', Below w.heap.size w w' → t.p vs w → t.p vs w') T)
    (hop : All (fun t : HOp => ∀ o, l[t.i]? = some o → ∀ (a : Act) (w : World), Below w0.heap.size w0 w →
      (∀ k, (T.map (·.d)).contains k = false → a.tmps.getD k undef = a0.tmps.getD k undef) →
      (∀ (k : Nat) (u : HOp), T[k]? = some u → Region.waitsFor .any l.toArray t.i u.i = true → u.p (u.s.map fun k => a.tmps.getD k undef) w) →
      wpList P l.toArray (OneDone t.d a w fun v w' => t.p (t.s.map fun k => if t.d = k then v else a.tmps.getD k undef) w' ∧ (t.i ∈ M → w.heap.size ≤ bl v)) [o] a w) T)
    (hlt : ∀ t ∈ T, t.i ∈ M → t.s = [t.d] ∧ ∀ v w, t.p [v] w → bl v < w.heap.size)
    (hend : ∀ (g : Nat → Value) (w : World), Below w0.heap.size w0 w → (∀ t ∈ T, ∀ u ∈ T, t.i ∈ M → u.i ∈ M → t.i ≠ u.i → bl (g t.d) ≠ bl (g u.d)) → (∀ (k : Nat) (u : HOp), T[k]? = some u → u.p (u.s.map fun k => if k ∈ T.map (·.d) then g k else a0.tmps.getD k undef) w) →
      wpList P l.toArray Q (l.drop n) (putAll a0 ((T.map (·.d)).map fun d => (d, g d))) w) : (Code.region id l.toArray true).wp P Q a0 w0 := by
  simp only [headOk, Bool.and_eq_true, decide_eq_true_eq] at hB
  obtain ⟨⟨⟨⟨⟨⟨⟨hnd, hn⟩, hs⟩, hc⟩, hseq⟩, hcov⟩, hT⟩, hpair⟩ := hB
  have hnodup : ∀ t ∈ T, ∀ u ∈ T, t.i = u.i → t = u := inj_nodup (·.i) T (by rw [List.map_map] at hnd; exact hnd)
  have hn' : n < l.toArray.size := by simpa using hn
  have cover : ∀ j, j < n → ∃ t ∈ T, t.i = j := by
    intro j hj
    have h := List.all_eq_true.1 hcov j (List.mem_range.2 hj)
    obtain ⟨x, hx, he⟩ := List.any_eq_true.1 h
    obtain ⟨t, ht, rfl⟩ := List.mem_map.1 hx
    exact ⟨t, ht, by simpa using he⟩
  have own : ∀ t ∈ T, t.i < n ∧ t.d < a0.tmps.size ∧ ∃ o, l[t.i]? = some o ∧ o.dst = some t.d ∧ ∀ e ∈ o.after, Region.binds .any e = true → e.on < t.i := by
    intro t ht
    have h := List.all_eq_true.1 hT _ (List.mem_map.2 ⟨t, ht, rfl⟩)
    simp only [Bool.and_eq_true, decide_eq_true_eq] at h
    obtain ⟨⟨h1, h2⟩, h3⟩ := h
    refine ⟨h1, h2, ?_⟩
    cases ho : l[t.i]? with
    | none => rw [ho] at h3; cases h3
    | some o =>
      rw [ho] at h3
      simp only [Bool.and_eq_true, beq_iff_eq] at h3
      refine ⟨o, rfl, h3.1, fun e he hb => ?_⟩
      have := Array.all_eq_true_iff_forall_mem.1 h3.2 e he
      simpa [hb] using this
  have pair : ∀ t ∈ T, ∀ u ∈ T, t.i ≠ u.i → t.d ≠ u.d ∧ (t.d ∈ u.s → Region.waitsFor .any l.toArray u.i t.i = true) := by
    intro t ht u hu hne
    have h := List.all_eq_true.1 (List.all_eq_true.1 hpair _ (List.mem_map.2 ⟨t, ht, rfl⟩)) _ (List.mem_map.2 ⟨u, hu, rfl⟩)
    simp only [Bool.or_eq_true, beq_iff_eq, hne, false_or, Bool.and_eq_true, bne_iff_ne, ne_eq, Bool.not_eq_true'] at h
    refine ⟨h.1, fun hin => ?_⟩
    rcases h.2 with h2 | h2
    · have : u.s.contains t.d = true := by simpa using hin
      rw [this] at h2; cases h2
    · exact h2
  have key : ∀ (f : Nat) (listed : Array Bool) (a : Act) (w : World), FreeInvB l n T M bl a0 w0 listed a w → todo listed n = f → wpAny P .any l.toArray Q (f + (l.length - n)) listed a w := by
    intro f
    induction f with
    | zero =>
      intro listed a w I h0
      have hall : ∀ j, j < n → listed.getD j true = true := by
        intro j hj
        cases hb : listed.getD j true with
        | true => rfl
        | false =>
          have : j ∈ (List.range n).filter fun j => !listed.getD j true := List.mem_filter.2 ⟨List.mem_range.2 hj, by rw [hb]; rfl⟩
          unfold todo at h0
          rw [List.eq_nil_of_length_eq_zero h0] at this
          cases this
      have hlist : listed = (List.replicate n true ++ List.replicate (l.length - n) false).toArray := by
        have hsz := I.inv.size
        apply Array.ext
        · simp at hsz ⊢; omega
        · intro j h1 h2
          by_cases hj : j < n
          · have := hall j hj
            simp [Array.getD, h1] at this
            simp [this, List.getElem_append_left, hj]
          · have := I.inv.tail j (by omega) (by rw [← hsz]; exact h1)
            simp [Array.getD, h1] at this
            simp only [this, List.getElem_toArray]
            rw [List.getElem_append_right (by simp; omega)]
            simp
      have ha : a = putAll a0 ((T.map (·.d)).map fun d => (d, a.tmps.getD d undef)) := by
        have hd : ∀ d ∈ T.map (·.d), d < a0.tmps.size := by
          intro d hd
          obtain ⟨t, ht, rfl⟩ := List.mem_map.1 hd
          exact (own t ht).2.1
        refine act_ext (by rw [putAll_defers]; exact I.defers) (by rw [putAll_size]; exact I.size) (fun k => ?_)
        rw [putAll_get (fun d => a.tmps.getD d undef) _ _ _ hd]
        by_cases h : k ∈ T.map (·.d)
        · rw [if_pos h]
        · rw [if_neg h]
          exact I.frame k (fun t ht e => h (List.mem_map.2 ⟨t, ht, e⟩))
      have hfull : ∀ t ∈ T, listed.getD t.i false = true := fun t ht => by
        have := hall t.i (own t ht).1
        rcases Nat.lt_or_ge t.i listed.size with h' | h'
        · simp [h'] at this ⊢; exact this
        · have := I.inv.size; have := (own t ht).1; omega
      have hfin := hend (fun d => a.tmps.getD d undef) w I.bel (fun t ht u hu h1 h2 h3 => I.ap t ht u hu h1 h2 h3 (hfull t ht) (hfull u hu)) (fun k u hu => by
        have hu' := List.mem_of_getElem? hu
        have h1 := I.facts u hu' (by
          have := hall u.i (own u hu').1
          rcases Nat.lt_or_ge u.i listed.size with h' | h'
          · simp [h'] at this ⊢; exact this
          · have := I.inv.size; have := (own u hu').1; omega)
        unfold HOp.fact at h1
        have e : (u.s.map fun k => if k ∈ T.map (·.d) then a.tmps.getD k undef else a0.tmps.getD k undef) = u.s.map fun k => a.tmps.getD k undef := by
          apply List.map_congr_left
          intro k _
          by_cases h : k ∈ T.map (·.d)
          · rw [if_pos h]
          · rw [if_neg h]
            exact (I.frame k (fun t ht e => h (List.mem_map.2 ⟨t, ht, e⟩))).symm
        rw [e]
        exact h1)
      rw [← ha] at hfin
      rw [Nat.zero_add]
      have hseq' : Region.seqB .any l.toArray (l.drop n).length n listed = true := by rw [hlist, List.length_drop]; exact hseq
      have := wpAny_of_seq (md := .any) (Q' := Q) (l.drop n) n listed a w (fun j => by simp [List.getElem?_drop]) hseq' hfin
      rwa [List.length_drop] at this
    | succ f ih =>
      intro listed a w I hf
      have hex : ∃ j, j < n ∧ listed.getD j true = false := by
        cases hL : (List.range n).filter fun j => !listed.getD j true with
        | nil => unfold todo at hf; rw [hL] at hf; cases hf
        | cons j L =>
          have : j ∈ (List.range n).filter fun j => !listed.getD j true := by rw [hL]; exact List.mem_cons_self
          obtain ⟨h1, h2⟩ := List.mem_filter.1 this
          exact ⟨j, List.mem_range.1 h1, by simpa using h2⟩
      have hready : Region.ready .any l.toArray listed ≠ [] := by
        have hmin : ∀ m j, j ≤ m → j < n → listed.getD j true = false → ∃ i, i ∈ Region.ready .any l.toArray listed := by
          intro m
          induction m with
          | zero =>
            intro j hj hjn hjl
            have hj0 : j = 0 := by omega
            subst hj0
            obtain ⟨t, ht, hti⟩ := cover 0 hjn
            obtain ⟨_, _, o, ho, _, hb⟩ := own t ht
            rw [hti] at ho hb
            exact ⟨0, mem_ready.2 ⟨hjl, o, by simpa using ho, fun e he hbe => absurd (hb e he hbe) (by omega)⟩⟩
          | succ m ihm =>
            intro j hj hjn hjl
            obtain ⟨t, ht, hti⟩ := cover j hjn
            obtain ⟨_, _, o, ho, _, hb⟩ := own t ht
            rw [hti] at ho hb
            by_cases hall : ∀ e ∈ o.after, Region.binds .any e = true → listed.getD e.on false = true
            · exact ⟨j, mem_ready.2 ⟨hjl, o, by simpa using ho, hall⟩⟩
            · simp only [Classical.not_forall] at hall
              obtain ⟨e, he, hbe, hne⟩ := hall
              have hlt := hb e he hbe
              have hes : e.on < listed.size := by rw [I.inv.size]; simp; omega
              exact ihm e.on (by omega) (by omega) (getD_in hes (by simpa using hne))
        obtain ⟨j, hj, hjl⟩ := hex
        obtain ⟨i, hi⟩ := hmin j j (Nat.le_refl _) hj hjl
        intro h
        rw [h] at hi
        cases hi
      rw [show f + 1 + (l.length - n) = (f + (l.length - n)) + 1 by omega]
      refine ⟨fun h => absurd h hready, fun i hi => ?_⟩
      have hin : i < n := by
        rcases Nat.lt_or_ge i n with h | h
        · exact h
        · obtain ⟨j, hj, hjl⟩ := hex
          exact absurd hi (tail_waits hs hc hn' I.inv _ j rfl hj hjl i h)
      obtain ⟨t, ht, hti⟩ := cover i hin
      obtain ⟨_, htd, o, ho, hdst, _⟩ := own t ht
      obtain ⟨hil, oi, hoi, hafter⟩ := mem_ready.1 hi
      have hoo : oi = o := by rw [hti] at ho; exact Option.some.inj (hoi.symm.trans (by simpa using ho))
      subst hoo
      have H := hop.mem t ht oi ho a w I.bel (fun k hk => I.frame k (fun u hu e => by
          have : (T.map (·.d)).contains k = true := by simpa using ⟨u, hu, e⟩
          rw [this] at hk; cases hk)) (fun k u hu hw => by
        have hu' := List.mem_of_getElem? hu
        obtain ⟨oj, hoj, e, he, hb, hon⟩ := Region.waitsFor_spec hw
        have : oj = oi := by rw [hti] at hoj; exact Option.some.inj (hoj.symm.trans hoi)
        subst this
        have h1 := hafter e he hb
        rw [hon] at h1
        exact I.facts u hu' h1)
      have step : ∀ (a' : Act) (w' : World), OneDone t.d a w (fun v w' => t.p (t.s.map fun k => if t.d = k then v else a.tmps.getD k undef) w' ∧ (t.i ∈ M → w.heap.size ≤ bl v)) .normal a' w' → wpAny P .any l.toArray Q (f + (l.length - n)) (listed.setIfInBounds i true) a' w' := by
        intro a' w' h
        obtain ⟨_, v, rfl, hbel, hp, hnew⟩ := h
        refine ih _ _ _ ⟨I.inv.set hi hin, I.defers, ?_, ?_, ?_, ?_, ?_⟩ ?_
        · rw [← I.size]; simp [Act.put]
        · intro k hk
          rw [put_get, if_neg (fun h => hk t ht h.1)]
          exact I.frame k hk
        · exact I.bel.trans (hbel.mono I.bel.size)
        · intro u hu hul
          by_cases hui : t.i = u.i
          · have hd : u.d = t.d ∨ True := .inr trivial
            unfold HOp.fact
            by_cases hut : u = t
            · subst hut
              have e : (u.s.map fun k => (a.put (some u.d) v).tmps.getD k undef) = u.s.map fun k => if u.d = k then v else a.tmps.getD k undef := by
                apply List.map_congr_left
                intro k _
                rw [put_get, I.size]
                by_cases hk : u.d = k
                · rw [if_pos ⟨hk, htd⟩, if_pos hk]
                · rw [if_neg (fun h => hk h.1), if_neg hk]
              rw [e]
              exact hp
            · exact absurd (hnodup t ht u hu hui).symm hut
          · unfold HOp.fact
            have hul2 : listed.getD u.i false = true := by rw [← getD_set_ne false (i := i) (j := u.i) (by rw [← hti]; exact hui)]; exact hul
            have h1 := hmono.mem u hu _ _ _ hbel (I.facts u hu hul2)
            have hnot : t.d ∉ u.s := by
              intro hin2
              have hw := (pair t ht u hu hui).2 hin2
              obtain ⟨ou, hou, e, he, hb, hon⟩ := Region.waitsFor_spec hw
              have := I.inv.closed u.i ou hou hul2 e he hb
              rw [hon, hti, getD_both hil] at this
              cases this
            have e : (u.s.map fun k => (a.put (some t.d) v).tmps.getD k undef) = u.s.map fun k => a.tmps.getD k undef := by
              apply List.map_congr_left
              intro k hk
              rw [put_get, if_neg (fun (h : t.d = k ∧ t.d < a.tmps.size) => hnot (by rw [h.1]; exact hk))]
            rw [e]
            exact h1
        · have self : (a.put (some t.d) v).tmps.getD t.d undef = v := by rw [put_get, I.size, if_pos ⟨rfl, htd⟩]
          have other : ∀ u ∈ T, t.i ≠ u.i → (a.put (some t.d) v).tmps.getD u.d undef = a.tmps.getD u.d undef := fun u hu hne => by
            rw [put_get, if_neg (fun h => (pair t ht u hu hne).1 h.1)]
          have was : ∀ u ∈ T, t.i ≠ u.i → (listed.setIfInBounds i true).getD u.i false = true → listed.getD u.i false = true := fun u hu hne h => by
            rw [← getD_set_ne false (i := i) (j := u.i) (by rw [← hti]; exact hne)]; exact h
          have small : ∀ u ∈ T, u.i ∈ M → listed.getD u.i false = true → bl (a.tmps.getD u.d undef) < w.heap.size := fun u hu hM hl => by
            obtain ⟨h1, h2⟩ := hlt u hu hM
            have h3 := I.facts u hu hl
            unfold HOp.fact at h3
            rw [h1] at h3
            exact h2 _ _ h3
          intro x hx y hy hxM hyM hxy hxl hyl
          by_cases h1 : t.i = x.i
          · have : x = t := (hnodup t ht x hx h1).symm
            subst this
            have h4 := small y hy hyM (was y hy hxy hyl)
            have h5 := hnew hxM
            rw [self, other y hy hxy]
            omega
          · by_cases h2 : t.i = y.i
            · have : y = t := (hnodup t ht y hy h2).symm
              subst this
              have h4 := small x hx hxM (was x hx h1 hxl)
              have h5 := hnew hyM
              rw [self, other x hx h1]
              omega
            · rw [other x hx h1, other y hy h2]
              exact I.ap x hx y hy hxM hyM hxy (was x hx h1 hxl) (was y hy h2 hyl)
        · have := todo_set hin hil; omega
      unfold wpList at H
      unfold wpOp
      rw [hoi]
      simp only
      by_cases hwant : Region.wanted oi (yielded l.toArray a.tmps) = true
      · rw [if_pos hwant] at H
        rw [if_pos hwant]
        left
        rcases H with H | ⟨_, a1, w1, h1, _⟩
        · exact wp_both (fun a' w' h => step a' w' h) (fun e a' w' he h => absurd h.1 he) H
        · cases h1
      · rw [if_neg hwant] at H
        rw [if_neg hwant]
        exact step _ _ H
  refine wp_region_any hm ?_
  have inv0 : HeadInv .any l.toArray n (Array.replicate l.toArray.size false) :=
    ⟨by simp, fun j oj _ hl => (by rw [getD_replicate_false] at hl; cases hl), fun t _ ht => getD_in (by simpa using ht) (getD_replicate_false _ _)⟩
  have I0 : FreeInvB l n T M bl a0 w0 (Array.replicate l.toArray.size false) a0 { w0 with drawn := w0.drawn + 1 } :=
    ⟨inv0, rfl, rfl, fun _ _ => rfl, Still.below 1, fun t _ hl => (by rw [getD_replicate_false] at hl; cases hl), fun t _ u _ _ _ _ hl => (by rw [getD_replicate_false] at hl; cases hl)⟩
  have ht0 : todo (Array.replicate l.toArray.size false) n = n := by
    unfold todo
    rw [List.filter_eq_self.2 (fun j hj => by
      have hj' := List.mem_range.1 hj
      have : (Array.replicate l.toArray.size false).getD j true = false := getD_in (by simp; omega) (getD_replicate_false _ _)
      rw [this]; rfl), List.length_range]
  have := key n _ _ _ I0 ht0
  rwa [show n + (l.length - n) = l.toArray.size by simp; omega] at this
end
end Go.Dx
end

/- the text P37 -/
section
/- Chapter 35: the reference's Step: taking a sheet. -/
set_option linter.unusedVariables false
namespace Go.Proofs.Ytdeknimelkdaeaa
open Go.RowKit Go.Dx Go.Al
section
variable {w0 w w' : World} {X F : List Nat} {m : RM} {S S' : Pr} {r : Nat}
def BlkF (w5 : World) (vs : List Value) (w : World) : Prop := ∃ b, vs = [.slice (some ⟨b, 0, none⟩) 25 25] ∧ Box w b 31 ((List.replicate 25 nilH).map hv) ∧ w5.heap.size ≤ b
def blkOf (v : Value) : Nat := match v with
  | .slice (some p) _ _ => p.block
  | _ => 0
theorem BlkF.mono (w5 : World) : ∀ vs (w w' : World), Below w.heap.size w w' → BlkF w5 vs w → BlkF w5 vs w' := fun vs w w' hb ⟨b, h1, h2, h3⟩ => ⟨b, h1, h2.under hb, h3⟩
theorem BlkF.lt {w5 w : World} {v : Value} (h : BlkF w5 [v] w) : blkOf v < w.heap.size := by
  obtain ⟨b, h1, h2, h3⟩ := h
  injection h1 with h1
  subst h1
  exact h2.lt
theorem blank_rows (w0 w : World) : RRows w0 w (List.replicate 25 nilH) blank := ⟨by rw [List.length_replicate]; rfl, fun i x r h1 h2 => by
  have e1 : x = nilH := by rw [List.getElem?_replicate] at h1; split at h1 <;> cases h1; rfl
  have e2 : r = [] := by unfold blank at h2; rw [List.getElem?_replicate] at h2; split at h2 <;> cases h2; rfl
  subst e1 e2
  exact .inl ⟨Sl.empty _ 1, fun q hq => by cases hq⟩⟩
theorem take_ok {S : Pr} (hm : S.mode = 0) (hT : (takeP S).2 = 0) : (takeP S).1.busy = true ∧ (takeP S).1.mode = 0 := by
  rcases take_cases S with ⟨hb, e⟩ | ⟨hb, hw, e⟩ | ⟨hb, hP, hw, e⟩ | ⟨x, l, P, hb, hw, hP, e⟩
  · rw [e]; exact ⟨hb, hm⟩
  · rw [e] at hT; cases hT
  · rw [e] at hT; cases hT
  · rw [e]; exact ⟨rfl, hm⟩
theorem step_go {S : Pr} (f : Nat) (hm : S.mode = 0) (hT : (takeP S).2 = 0) : stepP S f = if f = 2 then ({ (takeP S).1 with mode := 1 }, 23) else if f = 3 then ({ (takeP S).1 with mode := 2 }, 25) else (doneP (if f = 0 then embP (takeP S).1 else (takeP S).1), 0) := by
  unfold stepP
  rw [if_neg (by omega), if_neg (by omega), if_neg (by rw [hT]; simp)]
theorem RIn.take (h : RIn w0 w X m S) {x : Sht} {l : List Sht} {y : HS} {ws : List HS} (hw : S.waiting = x :: l) (hm : m.ws = y :: ws) {a : Option Addr} {c P : Nat} (hs : Sl w 2 a l.length c (ws.flatMap shc)) (ha : ∀ p, a = some p → ∃ q, m.wa = some q ∧ q.block = p.block)
    {g0 g1 : Nat} (x0 : Box w g0 31 ((List.replicate 25 nilH).map hv)) (x1 : Box w g1 31 ((List.replicate 25 nilH).map hv)) (hne : g0 ≠ g1) (h0 : g0 ∉ X) (h1 : g1 ∉ X) :
    RIn w0 w X ⟨a, c, ws, m.ta, m.tc, m.ts, y.1, y.2, (some ⟨g0, 0, none⟩, 25, 25), (some ⟨g1, 0, none⟩, 25, 25), 0, m.br, g0, g1, [g0, g1]⟩ ⟨x.1, x.2, blank, blank, 0, true, P, l, S.tray, S.mode⟩ := by
  have hww := h.ww
  rw [hw, hm] at hww
  have hy := hww.get 0 y x rfl rfl
  refine ⟨fun b hb => ?_, fun b hb => ?_, hs, fun b hb => ?_, h.tl, h.tx, ⟨by have := hww.len; simpa using this, fun i z s h2 h3 => hww.get (i + 1) z s h2 h3⟩, h.tt, fun _ =>
    ⟨rfl, hy.1, hy.2, rfl, rfl, rfl, hne, h0, h1, ⟨_, x0, blank_rows w0 w, by simp⟩, ⟨_, x1, blank_rows w0 w, by simp⟩⟩⟩
  · simp at hb
    rcases hb with rfl | rfl | hb
    · exact x0.lt
    · exact x1.lt
    · exact h.lt b (List.mem_append_right _ hb)
  · simp at hb
    rcases hb with rfl | rfl | hb
    · exact NoB.box x0 (by decide)
    · exact NoB.box x1 (by decide)
    · exact h.nob b (List.mem_append_right _ hb)
  · unfold blk at hb
    cases ha' : a with
    | none => rw [ha'] at hb; cases hb
    | some p =>
      rw [ha'] at hb
      simp at hb
      obtain ⟨q, h2, h3⟩ := ha p ha'
      exact h.wx b (by unfold blk; rw [h2]; simp; rw [hb, h3])
/-- what does not stand in the sheet in work may change -/
theorem RIn.alike (h : RIn w0 w X m S) (P md : Nat) : RIn w0 w X m ⟨S.w0, S.w1, S.d0, S.d1, S.rows, S.busy, P, S.waiting, S.tray, md⟩ :=
  ⟨h.lt, h.nob, h.wl, h.wx, h.tl, h.tx, h.ww, h.tt, fun hb => by
    have k := h.bz hb
    exact ⟨k.rows, k.t0, k.t1, k.e0, k.e1, k.gl, k.gg, k.n0, k.n1, k.f0, k.f1⟩⟩
theorem RIn.rowsTo (h : RIn w0 w X m S) (k : Nat) (d : Int) (hd : d = (k : Int)) : RIn w0 w X ⟨m.wa, m.wc, m.ws, m.ta, m.tc, m.ts, m.v0, m.v1, m.u0, m.u1, d, m.br, m.g0, m.g1, m.gs⟩ ⟨S.w0, S.w1, S.d0, S.d1, k, S.busy, S.paper, S.waiting, S.tray, S.mode⟩ :=
  ⟨h.lt, h.nob, h.wl, h.wx, h.tl, h.tx, h.ww, h.tt, fun hb => by
    have q := h.bz hb
    exact ⟨hd, q.t0, q.t1, q.e0, q.e1, q.gl, q.gg, q.n0, q.n1, q.f0, q.f1⟩⟩
/-- a row is laid into the front's, into the back's table -/
theorem RIn.emb0 (h : RIn w0 w X m S) (hb : S.busy = true) {k : List Hd} (hx : Box w m.g0 31 (k.map hv)) (hr : RRows w0 w k S.d0) (hl : k.length = 25) (i : Nat) {y : Hd} {rw_ : List UInt8} (hy : RRow w0 w y rw_)
    (x' : Box w' m.g0 31 ((k.map hv).set i (hv y))) (hg : w.grownBy w' (some m.g0)) : RIn w0 w' X m ⟨S.w0, S.w1, S.d0.set i rw_, S.d1, S.rows, S.busy, S.paper, S.waiting, S.tray, S.mode⟩ := by
  have q := h.bz hb
  have hf : Fr [m.g0] w w' := Fr.ofGrown hg
  have hn : ∀ b ∈ [m.g0], NoB w b := fun b hm => by simp at hm; subst hm; exact NoB.box hx (by decide)
  have hX : ∀ b ∈ X, b ∉ [m.g0] := fun b hb hm => by simp at hm; exact q.n0 (by rw [← hm]; exact hb)
  have hl2 : ∀ b ∈ X, b < w.heap.size := fun b hb => h.lt b (List.mem_append_right _ hb)
  obtain ⟨k1, x1, r1, l1⟩ := q.f1
  refine ⟨fun b hb => Nat.lt_of_lt_of_le (h.lt b hb) hf.size, fun b hb => ?_, sl_fr35 h.wl hf (fun b hb => ⟨hl2 b (h.wx b hb), hX b (h.wx b hb)⟩), h.wx, sl_fr35 h.tl hf (fun b hb => ⟨hl2 b (h.tx b hb), hX b (h.tx b hb)⟩), h.tx,
    h.ww.imp fun x p t => t.fr hf hn hX, h.tt.imp fun x p t => t.fr hf hn hX, fun _ => ⟨q.rows, q.t0.fr hf hn hX, q.t1.fr hf hn hX, q.e0, q.e1, q.gl, q.gg, q.n0, q.n1, ⟨k.set i y, by rw [List.map_set]; exact x', (hr.fr hf hn).set i (hy.fr hf hn), by rw [List.length_set]; exact hl⟩, ⟨k1, x1.grown hg (fun e => by injection e with e; exact q.gg e.symm), r1.fr hf hn, l1⟩⟩⟩
  by_cases e : b = m.g0
  · rw [e]; exact NoB.box x' (by decide)
  · exact (h.nob b hb).fr hf (h.lt b hb) (by simpa using e)
theorem RIn.emb1 (h : RIn w0 w X m S) (hb : S.busy = true) {k : List Hd} (hx : Box w m.g1 31 (k.map hv)) (hr : RRows w0 w k S.d1) (hl : k.length = 25) (i : Nat) {y : Hd} {rw_ : List UInt8} (hy : RRow w0 w y rw_)
    (x' : Box w' m.g1 31 ((k.map hv).set i (hv y))) (hg : w.grownBy w' (some m.g1)) : RIn w0 w' X m ⟨S.w0, S.w1, S.d0, S.d1.set i rw_, S.rows, S.busy, S.paper, S.waiting, S.tray, S.mode⟩ := by
  have q := h.bz hb
  have hf : Fr [m.g1] w w' := Fr.ofGrown hg
  have hn : ∀ b ∈ [m.g1], NoB w b := fun b hm => by simp at hm; subst hm; exact NoB.box hx (by decide)
  have hX : ∀ b ∈ X, b ∉ [m.g1] := fun b hb hm => by simp at hm; exact q.n1 (by rw [← hm]; exact hb)
  have hl2 : ∀ b ∈ X, b < w.heap.size := fun b hb => h.lt b (List.mem_append_right _ hb)
  obtain ⟨k1, x1, r1, l1⟩ := q.f0
  refine ⟨fun b hb => Nat.lt_of_lt_of_le (h.lt b hb) hf.size, fun b hb => ?_, sl_fr35 h.wl hf (fun b hb => ⟨hl2 b (h.wx b hb), hX b (h.wx b hb)⟩), h.wx, sl_fr35 h.tl hf (fun b hb => ⟨hl2 b (h.tx b hb), hX b (h.tx b hb)⟩), h.tx,
    h.ww.imp fun x p t => t.fr hf hn hX, h.tt.imp fun x p t => t.fr hf hn hX, fun _ => ⟨q.rows, q.t0.fr hf hn hX, q.t1.fr hf hn hX, q.e0, q.e1, q.gl, q.gg, q.n0, q.n1, ⟨k1, x1.grown hg (fun e => by injection e with e; exact q.gg e), r1.fr hf hn, l1⟩, ⟨k.set i y, by rw [List.map_set]; exact x', (hr.fr hf hn).set i (hy.fr hf hn), by rw [List.length_set]; exact hl⟩⟩⟩
  by_cases e : b = m.g1
  · rw [e]; exact NoB.box x' (by decide)
  · exact (h.nob b hb).fr hf (h.lt b hb) (by simpa using e)
end
set_option maxRecDepth 100000 in
set_option maxHeartbeats 8000000 in
theorem ref35_Step_go (w0 : World) (r : Nat) (X : List Nat) (m : RM) (S : Pr) (f : Nat) (w : World) (h : RAt w0 w r X m S) (hm : S.mode = 0) (hf : f ≤ 3) (hi : PInv S) (hT : (takeP S).2 = 0) (hbw : Below w0.heap.size w0 w) (hlo : ∀ b ∈ rfoot r X m, w0.heap.size ≤ b) :
    Calls Try.prog 46 #[.pointer (some ⟨r, 0, none⟩), .int .i64 (f : Int)] w fun e w' => e = .returned (.int .i64 (stepP S f).2) ∧ ∃ X' m', RAt w0 w' r X' m' (stepP S f).1 ∧ Mv w w' (rfoot r X m) (rfoot r X' m') ∧ m'.br = m.br := by
  have HH := hide h
  have HI := hide hi
  have HNr := hide (NoB.box h.box (by decide))
  have HB := h.box
  unfold rcells at HB
  rw [hm] at HB
  obtain ⟨T, hTe⟩ : ∃ T, Hid ((takeP S).1 = T) := ⟨_, hide rfl⟩
  have d0 : decide ((f : Int) < 0) = false := decide_eq_false (by omega)
  have d3 : decide ((3 : Int) < (f : Int)) = false := decide_eq_false (by omega)
  have c9 : w.cell? ⟨r, 9, none⟩ = some (.int .i64 0) := HB.at_ rfl
  have c3 : w.cell? ⟨r, 3, none⟩ = some (.bool S.busy) := HB.at_ rfl
  have HF := hide hf
  have hcase := take_cases S
  have hTok := hide (take_ok hm hT)
  have hTi := hide (inv_take hi)
  have hSt := hide (step_go f hm hT)
  rw [hTe.out] at hTok hTi hSt
  have HBW := hide hbw
  have HLO := hide hlo
  clear h hi hf hbw hlo
  go_enter Try.func46, Try.ntmps46
  go_upto_if 26 with fail
  go_cut [4] (fun v w' => v = .int .i64 0 ∧ ∃ X1 m1, RAt w0 w' r X1 m1 T ∧ Mv w w' (rfoot r X m) (rfoot r X1 m1) ∧ m1.br = m.br)
  case first =>
    rcases hcase with ⟨hb, e⟩ | ⟨hb, hw, e⟩ | ⟨hb, hP, hw, e⟩ | ⟨x, l, P, hb, hw, hP, e⟩
    · rw [hb] at c3
      rw [e] at hTe
      have hTS : Hid (S = T) := hTe
      clear e hTe hT d0 d3 c9 c3 hm HB
      simp only [hb]
      go_wp2_with fail
      go_meet
      exact ⟨rfl, X, m, by rw [← hTS.out]; exact HH.out, Mv.refl _ _, rfl⟩
    · rw [e] at hT; cases hT
    · rw [e] at hT; cases hT
    · rw [hb] at c3 HB
      rw [hP] at HB
      rw [hw] at HB
      rw [e] at hTe
      obtain ⟨y, ws, hws⟩ : ∃ y ws, m.ws = y :: ws := by
        have h1 := HH.out.inn.ww.len
        rw [hw] at h1
        cases hm' : m.ws with
        | nil => rw [hm'] at h1; simp at h1
        | cons y ws => exact ⟨y, ws, rfl⟩
      obtain ⟨N1, hN1⟩ : ∃ N1, Hid ((x :: l).length = N1) := ⟨_, hide rfl⟩
      have hNl : Hid (N1 = l.length + 1) := hide (by rw [← hN1.out]; rfl)
      have hN64 : N1 ≤ 64 := by have := HI.out.wait; rw [hw, hN1.out] at this; exact this
      have hN0 : ((N1 : Int) == 0) = false := by have := hNl.out; simp; omega
      have hNpos : 1 ≤ N1 := by have := hNl.out; omega
      obtain ⟨PP, hPP⟩ : ∃ PP, Hid (P + 1 = PP) := ⟨_, hide rfl⟩
      have hP0 : ((PP : Int) == 0) = false := by have := hPP.out; simp; omega
      have hPs : (PP : Int) - 1 = (P : Int) := by have := hPP.out; omega
      have hPb : PP ≤ 1000 := by have := HI.out.bud; rw [hP, hPP.out] at this; omega
      rw [hN1.out, hPP.out] at HB
      have c1 : w.cell? ⟨r, 1, none⟩ = some (.slice m.wa N1 m.wc) := HB.at_ rfl
      have c0 : w.cell? ⟨r, 0, none⟩ = some (.int .i64 (PP : Int)) := HB.at_ rfl
      have hWS := hide hws
      have HW := hide hw
      have HE := hide e
      have HBZ := hide hb
      have HM := hide hm
      clear e hT d0 d3 c9 hm hws hw hP
      simp only [hb]
      clear hb
      go_wp2_with (with_reducible refine hold_store ?_)
      refine hide ?_
      refine store_cell 3 _ _ 51 r 0 _ (.int .i64 (P : Int)) size_i35 HB rfl rfl rfl rfl (by show 0 < 11; omega) ?_; intro w1 HB1 gb1 zb1
      simp only [List.set_cons_succ, List.set_cons_zero] at HB1
      have F1 : Fr [r] w w1 := Fr.ofGrown gb1
      clear gb1 zb1
      go_wp2_with (with_reducible refine hold_store ?_)
      refine hide ?_
      refine store_cell 4 _ _ 51 r 3 _ (.bool true) size_bool1 HB1 rfl rfl rfl rfl (by show 3 < 11; omega) ?_; intro w2 HB2 gb2 zb2
      simp only [List.set_cons_succ, List.set_cons_zero] at HB2
      have F2 : Fr [r] w w2 := F1.on (Fr.ofGrown gb2) (fun b hb => .inl (by simpa using hb))
      clear gb2 zb2
      have I2 := HH.out.inn.fr1 F2 HNr.out HH.out.nr
      have WL2 : Sl w2 2 m.wa N1 m.wc ((y :: ws).flatMap shc) := by have h1 := I2.wl; rw [HW.out, hN1.out, hWS.out] at h1; exact h1
      have c1 : w2.cell? ⟨r, 1, none⟩ = some (.slice m.wa N1 m.wc) := HB2.at_ rfl
      clear HB HB1 F1 c0 c3 I2 hP0 hN0 hPs
      go_wp2_with (first
        | (with_reducible refine idx_sh 53 _ _ _ _ _ (y :: ws) rfl WL2 _ _ 0 rfl rfl y rfl _ _ rfl ?_; intro b0 o0 q0 q1 hbo)
        | (with_reducible refine load_sheet2 54 _ b0 o0 (o0 + 1) rfl _ _ q0 q1 rfl ?_)
        | (with_reducible refine hold_store ?_))
      refine hide ?_
      refine store_box 29 _ _ 51 r 4 _ [.slice y.1.1 y.1.2.1 y.1.2.2, .slice y.2.1 y.2.2.1 y.2.2.2] _ size_sheet HB2 rfl rfl rfl (by show 4 + 2 ≤ 11; omega) (by simp [Value.oneCell']) ?_; intro w3 HB3 gb3 zb3
      simp only [List.take_succ_cons, List.take_zero, List.length_cons, List.length_nil, List.drop_succ_cons, List.drop_zero, List.cons_append, List.nil_append, Nat.reduceAdd] at HB3
      have F3 : Fr [r] w w3 := F2.on (Fr.ofGrown gb3) (fun b hb => .inl (by simpa using hb))
      have I3 := HH.out.inn.fr1 F3 HNr.out HH.out.nr
      have WL3 : Sl w3 2 m.wa N1 m.wc ((y :: ws).flatMap shc) := by have h1 := I3.wl; rw [HW.out, hN1.out, hWS.out] at h1; exact h1
      have c1 : w3.cell? ⟨r, 1, none⟩ = some (.slice m.wa N1 m.wc) := HB3.at_ rfl
      have hw3 := F3.size
      clear HB2 F2 gb3 zb3 I3 WL2
      go_wp2_with (first
        | (with_reducible refine cut_lo 62 _ _ _ 29 Try.underlying25 2 size_sheet m.wa N1 m.wc _ rfl WL3 _ _ 1 rfl rfl hNpos ?_; intro a9 hs9 ha9)
        | (with_reducible refine hold_store ?_))
      refine hide ?_
      refine store_cell 25 _ _ 51 r 1 _ (.slice a9 (N1 - 1) (m.wc - 1)) size_shs HB3 rfl rfl rfl rfl (by show 1 < 11; omega) ?_; intro w4 HB4 gb4 zb4
      simp only [List.set_cons_succ, List.set_cons_zero] at HB4
      have F4 : Fr [r] w w4 := F3.on (Fr.ofGrown gb4) (fun b hb => .inl (by simpa using hb))
      have F34 : Fr [r] w3 w4 := Fr.ofGrown gb4
      clear gb4 zb4
      go_wp2_with (with_reducible refine hold_store ?_)
      refine hide ?_
      refine store_cell 3 _ _ 51 r 8 _ (.int .i64 0) size_i35 HB4 rfl rfl rfl rfl (by show 8 < 11; omega) ?_; intro w5 HB5 gb5 zb5
      simp only [List.set_cons_succ, List.set_cons_zero] at HB5
      have F5 : Fr [r] w w5 := F4.on (Fr.ofGrown gb5) (fun b hb => .inl (by simpa using hb))
      have F35 := hide (F34.on (Fr.ofGrown gb5) (fun b hb => .inl (by simpa using hb)))
      clear F34 gb5 zb5
      have HS9 := hide hs9
      have HA9 := hide ha9
      clear HB3 HB4 F3 F4 c1 WL3 hs9 ha9
      go_wp2_with fail
      refine wp_region_freeB 4 [⟨0, 68, [68], fun vs _ => vs = [.pointer (some ⟨r, 0, none⟩)]⟩, ⟨1, 69, [69], BlkF w5⟩, ⟨2, 70, [70], BlkF w5⟩, ⟨3, 71, [71, 69, 70], fun vs _ => ∃ u v, vs = [.agg #[u, v], u, v]⟩] [1, 2] blkOf (by kernel_rfl) (by kernel_rfl) ?_ ?_ ?_ ?_
      · simp only [All]
        exact ⟨fun _ _ _ _ h => h, BlkF.mono w5, BlkF.mono w5, fun _ _ _ _ h => h, trivial⟩
      · simp only [All]
        refine ⟨?_, ?_, ?_, ?_, trivial⟩
        · intro o ho a' w' hb hfr hdep
          obtain rfl := Option.some.inj ho
          have g0 : a'.tmps[0]?.getD undef = .pointer (some ⟨r, 0, none⟩) := by have h := hfr 0 (by kernel_rfl); simpa using h
          clear ho hfr hdep
          go_wp2_with fail
          exact ⟨rfl, _, rfl, Below.refl _ _, rfl, fun h => absurd h (by decide)⟩
        · intro o ho a' w' hb hfr hdep
          obtain rfl := Option.some.inj ho
          clear ho hfr hdep
          refine make_row 69 _ _ _ 31 (.slice none 0 0) 24 Try.underlying28 info_row rfl .i64 .i64 25 25 25 rfl rfl rfl rfl (by decide) (by decide) ?_
          intro w1 hr1 hb1 hz1
          refine wpList_nil ?_
          exact ⟨rfl, _, rfl, hb1, ⟨w'.heap.size, rfl, by have := row_boxP hr1; rw [List.map_replicate]; exact this, hb.size⟩, fun _ => Nat.le_refl _⟩
        · intro o ho a' w' hb hfr hdep
          obtain rfl := Option.some.inj ho
          clear ho hfr hdep
          refine make_row 70 _ _ _ 31 (.slice none 0 0) 24 Try.underlying28 info_row rfl .i64 .i64 25 25 25 rfl rfl rfl rfl (by decide) (by decide) ?_
          intro w1 hr1 hb1 hz1
          refine wpList_nil ?_
          exact ⟨rfl, _, rfl, hb1, ⟨w'.heap.size, rfl, by have := row_boxP hr1; rw [List.map_replicate]; exact this, hb.size⟩, fun _ => Nat.le_refl _⟩
        · intro o ho a' w' hb hfr hdep
          obtain rfl := Option.some.inj ho
          obtain ⟨b69, e69, -, -⟩ := hdep 1 _ rfl (by kernel_rfl)
          obtain ⟨b70, e70, -, -⟩ := hdep 2 _ rfl (by kernel_rfl)
          have g69 : a'.tmps[69]?.getD undef = .slice (some ⟨b69, 0, none⟩) 25 25 := by simpa using e69
          have g70 : a'.tmps[70]?.getD undef = .slice (some ⟨b70, 0, none⟩) 25 25 := by simpa using e70
          clear ho hfr hdep e69 e70
          go_wp2_with fail
          exact ⟨rfl, _, rfl, Below.refl _ _, ⟨.slice (some ⟨b69, 0, none⟩) 25 25, .slice (some ⟨b70, 0, none⟩) 25 25, by simp [g69, g70]⟩, fun h => absurd h (by decide)⟩
      · intro t ht hM
        simp only [List.mem_cons, List.not_mem_nil, or_false] at ht
        rcases ht with rfl | rfl | rfl | rfl
        · exact absurd hM (by simp)
        · exact ⟨rfl, fun v w h => BlkF.lt h⟩
        · exact ⟨rfl, fun v w h => BlkF.lt h⟩
        · exact absurd hM (by simp)
      · intro gg w6 hbl hap hp'
        have hne0 := hap ⟨1, 69, [69], BlkF w5⟩ (by simp) ⟨2, 70, [70], BlkF w5⟩ (by simp) (by simp) (by simp) (by simp)
        have p68 := hp' 0 _ rfl
        obtain ⟨g0, e69, x0, n0⟩ := hp' 1 _ rfl
        obtain ⟨g1, e70, x1, n1⟩ := hp' 2 _ rfl
        obtain ⟨u, v, e71⟩ := hp' 3 _ rfl
        clear hp' hap
        simp at p68 e69 e70 e71
        obtain ⟨p71, eu, ev⟩ := e71
        subst eu ev
        simp only [e69, e70, blkOf] at hne0 p71
        clear e69 e70
        simp only [List.drop_succ_cons, List.drop_zero, List.map_cons, List.map_nil, putAll, Act.put, List.setIfInBounds_toArray, List.set_cons_succ, List.set_cons_zero, List.cons_append, List.nil_append, p68, p71]
        clear p68 p71
        have HB6 := HB5.under hbl
        have F6 := F5.below hbl
        go_wp2_with (with_reducible refine hold_store ?_)
        refine hide ?_
        refine store_box 29 _ _ 51 r 6 _ [.slice (some ⟨g0, 0, none⟩) 25 25, .slice (some ⟨g1, 0, none⟩) 25 25] _ size_sheet HB6 rfl rfl rfl (by show 6 + 2 ≤ 11; omega) (by simp [Value.oneCell']) ?_; intro w7 HB7 gb7 zb7
        simp only [List.take_succ_cons, List.take_zero, List.length_cons, List.length_nil, List.drop_succ_cons, List.drop_zero, List.cons_append, List.nil_append, Nat.reduceAdd] at HB7
        have F7 := hide (F6.on (Fr.ofGrown gb7) (fun b hb => .inl (by simpa using hb)))
        have hr5 := HB5.lt
        have X0 := hide (x0.grown gb7 (fun e => by injection e with e; omega))
        have X1 := hide (x1.grown gb7 (fun e => by injection e with e; omega))
        have HS7 : Hid (Sl w7 2 a9 (N1 - 1) (m.wc - 1) (ws.flatMap shc)) := hide (by
          have h1 := HS9.out
          have h2 : ((y :: ws).flatMap shc).drop (1 * 2) = ws.flatMap shc := rfl
          rw [h2] at h1
          refine sl_fr35 h1 ((F35.out.below hbl).on (Fr.ofGrown gb7) (fun b hb => .inl (by simpa using hb))) (fun b hb => ?_)
          have h3 : b ∈ blk m.wa := by
            unfold blk at hb ⊢
            cases ha : a9 with
            | none => rw [ha] at hb; cases hb
            | some p =>
              rw [ha] at hb
              simp at hb
              obtain ⟨q, h4, h5⟩ := HA9.out p ha
              rw [h4]
              simp
              rw [hb, h5]
          have h6 := HH.out.inn.wx b h3
          refine ⟨Nat.lt_of_lt_of_le (HH.out.inn.lt b (List.mem_append_right _ h6)) hw3, fun hm => ?_⟩
          simp at hm
          exact HH.out.nr (by rw [← hm]; exact List.mem_append_right _ h6))
        have hsz := F5.size
        have HB7 := hide HB7
        clear HB5 HB6 F5 F6 gb7 zb7 x0 x1 hbl HS9
        go_wp2
        go_meet
        have hlt : ∀ b ∈ X, b < w5.heap.size := fun b hb => Nat.lt_of_lt_of_le (HH.out.inn.lt b (List.mem_append_right _ hb)) hsz
        have I7 := (HH.out.inn.fr1 F7.out HNr.out HH.out.nr).take (P := P) HW.out hWS.out (a := a9) (c := m.wc - 1) (by have h1 := HS7.out; rw [show N1 - 1 = l.length by have := hNl.out; omega] at h1; exact h1) HA9.out X0.out X1.out hne0 (fun hb => by have := hlt _ hb; omega) (fun hb => by have := hlt _ hb; omega)
        rw [hTe.out] at I7
        refine ⟨rfl, X, _, ⟨?_, ?_, I7⟩, ⟨F7.out.more (fun b hb => by simp at hb; rw [hb]; simp [rfoot]), ?_⟩, rfl⟩
        · rw [← hTe.out]
          have h1 := HB7.out
          rw [show N1 - 1 = l.length by have := hNl.out; omega] at h1
          simp only [rcells, HM.out]
          exact h1
        · intro hm
          simp at hm
          rcases hm with hm | hm | hm
          · omega
          · omega
          · exact HH.out.nr (List.mem_append_right _ hm)
        · intro b hb
          unfold rfoot at hb ⊢
          simp at hb ⊢
          rcases hb with hb | hb | hb | hb
          · exact .inl (.inl hb)
          · exact .inr (by omega)
          · exact .inr (by omega)
          · exact .inl (.inr (.inr hb))
  case rest =>
    obtain ⟨rfl, X1, m1, hA, hM, hbr⟩ := hcut
    obtain ⟨w1, rfl⟩ : ∃ w1 : World, w1 = wc := ⟨_, rfl⟩
    have HA := hide hA
    have HMv := hide hM
    have HB1 := hA.box
    unfold rcells at HB1
    rw [hTok.out.2] at HB1
    clear hA hM hcase hT d0 d3 c9 c3 HB hm
    have hf4 : f = 2 ∨ f = 3 ∨ f = 0 ∨ f = 1 := by have := HF.out; omega
    rcases hf4 with hf | hf | hf
    · subst hf
      have hS2 : stepP S 2 = ({ T with mode := 1 }, 23) := by rw [hSt.out]; rfl
      go_wp2_with (with_reducible refine hold_store ?_)
      refine hide ?_
      refine store_cell 3 _ _ 51 r 9 _ (.int .i64 1) size_i35 HB1 rfl rfl rfl rfl (by show 9 < 11; omega) ?_; intro w2 HB2 gb2 zb2
      simp only [List.set_cons_succ, List.set_cons_zero] at HB2
      have F2 : Fr [r] w1 w2 := Fr.ofGrown gb2
      clear gb2 zb2
      have HB2 := hide HB2
      have F2 := hide F2
      clear HB1
      go_wp2
      go_ret
      rw [hS2]
      exact ⟨rfl, X1, m1, ⟨HB2.out, HA.out.nr, (HA.out.inn.fr1 F2.out (NoB.box HA.out.box (by decide)) HA.out.nr).alike T.paper 1⟩, ⟨(HMv.out.fr.on F2.out (fun b hb => by simp at hb; rw [hb]; exact HMv.out.sub r (by simp [rfoot]))), HMv.out.sub⟩, hbr⟩
    · subst hf
      have hS2 : stepP S 3 = ({ T with mode := 2 }, 25) := by rw [hSt.out]; rfl
      go_wp2_with (with_reducible refine hold_store ?_)
      refine hide ?_
      refine store_cell 3 _ _ 51 r 9 _ (.int .i64 2) size_i35 HB1 rfl rfl rfl rfl (by show 9 < 11; omega) ?_; intro w2 HB2 gb2 zb2
      simp only [List.set_cons_succ, List.set_cons_zero] at HB2
      have F2 : Fr [r] w1 w2 := Fr.ofGrown gb2
      clear gb2 zb2
      have HB2 := hide HB2
      have F2 := hide F2
      clear HB1
      go_wp2
      go_ret
      rw [hS2]
      exact ⟨rfl, X1, m1, ⟨HB2.out, HA.out.nr, (HA.out.inn.fr1 F2.out (NoB.box HA.out.box (by decide)) HA.out.nr).alike T.paper 2⟩, ⟨(HMv.out.fr.on F2.out (fun b hb => by simp at hb; rw [hb]; exact HMv.out.sub r (by simp [rfoot]))), HMv.out.sub⟩, hbr⟩
    · obtain ⟨J, hJ⟩ : ∃ J, Hid (J = if f = 0 then 2 else 0) := ⟨_, hide rfl⟩
      obtain ⟨p0, p1, d0, d1, rows, busy, paper, waiting, tray, mode⟩ := T
      obtain ⟨hb1, hb2⟩ := hTok.out
      simp only at hb1 hb2
      subst hb1 hb2
      have hS2 : Hid (stepP S f = (doneP (emS p0 p1 d0 d1 rows true paper waiting tray 0 J), 0)) := hide (by
        rw [hSt.out, if_neg (by omega), if_neg (by omega), hJ.out]
        rcases hf with h0 | h0
        · rw [if_pos h0, if_pos h0]; rfl
        · rw [if_neg (by omega), if_neg (by omega)]; rfl)
      have q := HA.out.inn.bz rfl
      obtain ⟨wa, wc, ws, ta, tc, ts, ⟨va, vn, vc⟩, ⟨xa, xn, xc⟩, u0, u1, rw_, br, g0, g1, gs⟩ := m1
      obtain ⟨hr1, hr2, hr3⟩ := hTi.out.rows rfl
      have ht1 : tray.length ≤ 1000 := by have := hTi.out.bud; simp only at this; omega
      simp only at hr1 hr2 hr3
      have er := q.rows
      have e0 := q.e0
      have e1 := q.e1
      have el := q.gl
      simp only at er e0 e1 el
      subst er e0 e1 el
      clear q hTok hTi hSt HI
      have HA0 : Hid (RAt w0 w1 r X1 (⟨wa, wc, ws, ta, tc, ts, (va, vn, vc), (xa, xn, xc), (some ⟨g0, 0, none⟩, 25, 25), (some ⟨g1, 0, none⟩, 25, 25), (rows : Int), br, g0, g1, [g0, g1]⟩ : RM) (emS p0 p1 d0 d1 rows true paper waiting tray 0 0)) := HA
      have hbel := HMv.out.blw HBW.out.size HLO.out
      have HBW1 := hide (HBW.out.trans hbel)
      have HLO1 := hide (HMv.out.new HBW.out.size HLO.out)
      simp only at hbr
      clear HA HB1 hbel HBW HLO hTe
      go_upto_block 0 with fail
      go_cut [4] (fun v w' => v = .int .i64 0 ∧ RAt w0 w' r X1 (⟨wa, wc, ws, ta, tc, ts, (va, vn, vc), (xa, xn, xc), (some ⟨g0, 0, none⟩, 25, 25), (some ⟨g1, 0, none⟩, 25, 25), (rows : Int), br, g0, g1, [g0, g1]⟩ : RM) (emS p0 p1 d0 d1 rows true paper waiting tray 0 J) ∧ Fr [g0, g1] w1 w')
      case first =>
        rcases hf with hf | hf
        · subst hf
          have hJ2 : J = 2 := hJ.out
          subst hJ2
          clear hJ
          have z0 : ((0 : Nat) : Int) = 0 := rfl
          go_wp2_with fail
          go_loopg [5] 2 (fun g v w' => ∃ i : Nat, i ≤ 2 ∧ g = 2 - i ∧ v = .int .i64 (i : Int) ∧ RAt w0 w' r X1 (⟨wa, wc, ws, ta, tc, ts, (va, vn, vc), (xa, xn, xc), (some ⟨g0, 0, none⟩, 25, 25), (some ⟨g1, 0, none⟩, 25, 25), (rows : Int), br, g0, g1, [g0, g1]⟩ : RM) (emS p0 p1 d0 d1 rows true paper waiting tray 0 i) ∧ Fr [g0, g1] w1 w')
          case atStart => exact ⟨0, by omega, rfl, rfl, HA0.out, Fr.refl _ _⟩
          case round =>
            obtain ⟨i, hi2, rfl, rfl, hAr, hFr⟩ := hrel
            have hi3 : i = 0 ∨ i = 1 ∨ i = 2 := by omega
            clear hi2
            rcases hi3 with rfl | rfl | rfl
            · have HAr := hide hAr
              have HFr := hide hFr
              clear hAr hFr
              have HBr := HAr.out.box
              unfold rcells emS at HBr
              simp only at HBr
              have cV : wr.cell? ⟨r, 4, none⟩ = some (.slice va vn vc) := HBr.at_ rfl
              have cU : wr.cell? ⟨r, 6, none⟩ = some (.slice (some ⟨g0, 0, none⟩) 25 25) := HBr.at_ rfl
              have cR : wr.cell? ⟨r, 8, none⟩ = some (.int .i64 (rows : Int)) := HBr.at_ rfl
              have hbelr := HBW1.out.trans (HFr.out.blw HBW1.out.size (fun b hb => HLO1.out b (by simp at hb; rcases hb with h | h <;> simp [rfoot, h])))
              have tI : RPg w0 wr X1 (va, vn, vc) p0 := (HAr.out.inn.bz rfl).t0
              obtain ⟨hsV, hVs, hVr⟩ := tI.rows hbelr
              simp only at hVs
              have hVn : vn = p0.length := by rw [hVs.n_eq]; exact hVr.1
              have hVc := Nat.le_trans hVs.le hVs.cap
              unfold maxLen at hVc
              have HVN := hide hVn
              clear hVn tI HBr
              by_cases hrw : rows < vn
              · obtain ⟨rr, hrr⟩ : ∃ rr, p0[rows]? = some rr := ⟨p0[rows]'(by rw [← HVN.out]; exact hrw), by simp⟩
                obtain ⟨zz, hzz⟩ : ∃ zz, hsV[rows]? = some zz := ⟨hsV[rows]'(by rw [hVr.1, ← HVN.out]; exact hrw), by simp⟩
                obtain ⟨za, zn, zc⟩ := zz
                have HZ := hide (hVr.2 rows _ _ hzz hrr)
                have HU : Hid ((hsV.map hv)[rows]? = some (.slice za zn zc)) := hide (by rw [List.getElem?_map, hzz]; rfl)
                have HRD := hide (rowD_yes d0 hrr)
                clear hzz hrr hVr hbelr
                go_wp2
                go_quiet (fail)
                have SB : Below wr.heap.size wr (wr.drewN nq) := Still.below _
                replace HAr := hide (HAr.out.below SB)
                replace HFr := hide (HFr.out.below SB)
                replace hVs := hVs.below SB
                replace cV := cell_below cV SB
                replace cU := cell_below cU SB
                replace cR := cell_below cR SB
                replace HZ := hide (HZ.out.fr (F := []) (Fr.of SB) (by simp))
                clear SB
                generalize wr.drewN nq = w4 at *
                go_wp2
                refine wp_region_free 22 [⟨0, 104, [104], fun vs _ => vs = [.pointer (some ⟨r, 0, none⟩)]⟩, ⟨1, 105, [105], fun vs _ => vs = [.int .i64 0]⟩, ⟨2, 106, [106], fun vs _ => vs = [.pointer (some ⟨r, 0, none⟩)]⟩, ⟨3, 107, [107], fun vs _ => vs = [.pointer (some ⟨r, 6, none⟩)]⟩, ⟨4, 108, [108], fun vs _ => vs = [.pointer (some ⟨r, 6, none⟩)]⟩, ⟨5, 109, [109], fun vs _ => vs = [.slice (some ⟨g0, 0, none⟩) 25 25]⟩, ⟨6, 110, [110], fun vs _ => vs = [.pointer (some ⟨r, 0, none⟩)]⟩, ⟨7, 111, [111], fun vs _ => vs = [.pointer (some ⟨r, 0, none⟩)]⟩, ⟨8, 112, [112], fun vs _ => vs = [.pointer (some ⟨r, 8, none⟩)]⟩, ⟨9, 113, [113], fun vs _ => vs = [.int .i64 (rows : Int)]⟩, ⟨10, 114, [114], fun vs _ => vs = [.pointer (some ⟨r, 0, none⟩)]⟩, ⟨11, 115, [115], fun vs _ => vs = [.int .i64 0]⟩, ⟨12, 116, [116], fun vs _ => vs = [.pointer (some ⟨r, 0, none⟩)]⟩, ⟨13, 117, [117], fun vs _ => vs = [.pointer (some ⟨r, 4, none⟩)]⟩, ⟨14, 118, [118], fun vs _ => vs = [.pointer (some ⟨r, 4, none⟩)]⟩, ⟨15, 119, [119], fun vs _ => vs = [.slice va vn vc]⟩, ⟨16, 120, [120], fun vs _ => vs = [.pointer (some ⟨r, 0, none⟩)]⟩, ⟨17, 121, [121], fun vs _ => vs = [.pointer (some ⟨r, 0, none⟩)]⟩, ⟨18, 122, [122], fun vs _ => vs = [.pointer (some ⟨r, 8, none⟩)]⟩, ⟨19, 123, [123], fun vs _ => vs = [.int .i64 (rows : Int)]⟩, ⟨20, 124, [124], PtF (.slice za zn zc)⟩, ⟨21, 125, [125], fun vs _ => vs = [.slice za zn zc]⟩] (by kernel_rfl) (by kernel_rfl) ?_ ?_ ?_
                · simp only [All]
                  refine ⟨fun _ _ _ _ h => h, fun _ _ _ _ h => h, fun _ _ _ _ h => h, fun _ _ _ _ h => h, fun _ _ _ _ h => h, fun _ _ _ _ h => h, fun _ _ _ _ h => h, fun _ _ _ _ h => h, fun _ _ _ _ h => h, fun _ _ _ _ h => h, fun _ _ _ _ h => h, fun _ _ _ _ h => h, fun _ _ _ _ h => h, fun _ _ _ _ h => h, fun _ _ _ _ h => h, fun _ _ _ _ h => h, fun _ _ _ _ h => h, fun _ _ _ _ h => h, fun _ _ _ _ h => h, fun _ _ _ _ h => h, ?_, fun _ _ _ _ h => h, trivial⟩
                  · rintro vs w1 w2 hb ⟨b, o, h1, h2⟩
                    exact ⟨b, o, h1, cell_blw h2 hb⟩
                · simp only [All]
                  refine ⟨?_, ?_, ?_, ?_, ?_, ?_, ?_, ?_, ?_, ?_, ?_, ?_, ?_, ?_, ?_, ?_, ?_, ?_, ?_, ?_, ?_, ?_, trivial⟩
                  · intro o ho a' w' hb hfr hdep
                    obtain rfl := Option.some.inj ho
                    have g0 : a'.tmps[0]?.getD undef = .pointer (some ⟨r, 0, none⟩) := by have h := hfr 0 (by kernel_rfl); simpa using h
                    clear ho hfr hdep
                    go_wp2_with fail
                    exact ⟨rfl, _, rfl, Below.refl _ _, rfl⟩
                  · intro o ho a' w' hb hfr hdep
                    obtain rfl := Option.some.inj ho
                    have g5 : a'.tmps[5]?.getD undef = .int .i64 0 := by have h := hfr 5 (by kernel_rfl); simpa using h
                    clear ho hfr hdep
                    go_wp2_with fail
                    exact ⟨rfl, _, rfl, Below.refl _ _, rfl⟩
                  · intro o ho a' w' hb hfr hdep
                    obtain rfl := Option.some.inj ho
                    have g104 : a'.tmps[104]?.getD undef = .pointer (some ⟨r, 0, none⟩) := by have h := hdep 0 _ rfl (by kernel_rfl); simpa using h
                    clear ho hfr hdep
                    go_wp2_with fail
                    exact ⟨rfl, _, rfl, Below.refl _ _, rfl⟩
                  · intro o ho a' w' hb hfr hdep
                    obtain rfl := Option.some.inj ho
                    have g106 : a'.tmps[106]?.getD undef = .pointer (some ⟨r, 0, none⟩) := by have h := hdep 2 _ rfl (by kernel_rfl); simpa using h
                    clear ho hfr hdep
                    go_wp2_with fail
                    exact ⟨rfl, _, rfl, Below.refl _ _, rfl⟩
                  · intro o ho a' w' hb hfr hdep
                    obtain rfl := Option.some.inj ho
                    have g107 : a'.tmps[107]?.getD undef = .pointer (some ⟨r, 6, none⟩) := by have h := hdep 3 _ rfl (by kernel_rfl); simpa using h
                    have g105 : a'.tmps[105]?.getD undef = .int .i64 0 := by have h := hdep 1 _ rfl (by kernel_rfl); simpa using h
                    clear ho hfr hdep
                    go_wp2_with fail
                    exact ⟨rfl, _, rfl, Below.refl _ _, rfl⟩
                  · intro o ho a' w' hb hfr hdep
                    obtain rfl := Option.some.inj ho
                    have g108 : a'.tmps[108]?.getD undef = .pointer (some ⟨r, 6, none⟩) := by have h := hdep 4 _ rfl (by kernel_rfl); simpa using h
                    clear ho hfr hdep
                    have hcl := cell_below cU hb
                    go_wp2_with fail
                    exact ⟨rfl, _, rfl, Below.refl _ _, rfl⟩
                  · intro o ho a' w' hb hfr hdep
                    obtain rfl := Option.some.inj ho
                    have g0 : a'.tmps[0]?.getD undef = .pointer (some ⟨r, 0, none⟩) := by have h := hfr 0 (by kernel_rfl); simpa using h
                    clear ho hfr hdep
                    go_wp2_with fail
                    exact ⟨rfl, _, rfl, Below.refl _ _, rfl⟩
                  · intro o ho a' w' hb hfr hdep
                    obtain rfl := Option.some.inj ho
                    have g110 : a'.tmps[110]?.getD undef = .pointer (some ⟨r, 0, none⟩) := by have h := hdep 6 _ rfl (by kernel_rfl); simpa using h
                    clear ho hfr hdep
                    go_wp2_with fail
                    exact ⟨rfl, _, rfl, Below.refl _ _, rfl⟩
                  · intro o ho a' w' hb hfr hdep
                    obtain rfl := Option.some.inj ho
                    have g111 : a'.tmps[111]?.getD undef = .pointer (some ⟨r, 0, none⟩) := by have h := hdep 7 _ rfl (by kernel_rfl); simpa using h
                    clear ho hfr hdep
                    go_wp2_with fail
                    exact ⟨rfl, _, rfl, Below.refl _ _, rfl⟩
                  · intro o ho a' w' hb hfr hdep
                    obtain rfl := Option.some.inj ho
                    have g112 : a'.tmps[112]?.getD undef = .pointer (some ⟨r, 8, none⟩) := by have h := hdep 8 _ rfl (by kernel_rfl); simpa using h
                    clear ho hfr hdep
                    have hcl := cell_below cR hb
                    go_wp2_with fail
                    exact ⟨rfl, _, rfl, Below.refl _ _, rfl⟩
                  · intro o ho a' w' hb hfr hdep
                    obtain rfl := Option.some.inj ho
                    have g0 : a'.tmps[0]?.getD undef = .pointer (some ⟨r, 0, none⟩) := by have h := hfr 0 (by kernel_rfl); simpa using h
                    clear ho hfr hdep
                    go_wp2_with fail
                    exact ⟨rfl, _, rfl, Below.refl _ _, rfl⟩
                  · intro o ho a' w' hb hfr hdep
                    obtain rfl := Option.some.inj ho
                    have g5 : a'.tmps[5]?.getD undef = .int .i64 0 := by have h := hfr 5 (by kernel_rfl); simpa using h
                    clear ho hfr hdep
                    go_wp2_with fail
                    exact ⟨rfl, _, rfl, Below.refl _ _, rfl⟩
                  · intro o ho a' w' hb hfr hdep
                    obtain rfl := Option.some.inj ho
                    have g114 : a'.tmps[114]?.getD undef = .pointer (some ⟨r, 0, none⟩) := by have h := hdep 10 _ rfl (by kernel_rfl); simpa using h
                    clear ho hfr hdep
                    go_wp2_with fail
                    exact ⟨rfl, _, rfl, Below.refl _ _, rfl⟩
                  · intro o ho a' w' hb hfr hdep
                    obtain rfl := Option.some.inj ho
                    have g116 : a'.tmps[116]?.getD undef = .pointer (some ⟨r, 0, none⟩) := by have h := hdep 12 _ rfl (by kernel_rfl); simpa using h
                    clear ho hfr hdep
                    go_wp2_with fail
                    exact ⟨rfl, _, rfl, Below.refl _ _, rfl⟩
                  · intro o ho a' w' hb hfr hdep
                    obtain rfl := Option.some.inj ho
                    have g117 : a'.tmps[117]?.getD undef = .pointer (some ⟨r, 4, none⟩) := by have h := hdep 13 _ rfl (by kernel_rfl); simpa using h
                    have g115 : a'.tmps[115]?.getD undef = .int .i64 0 := by have h := hdep 11 _ rfl (by kernel_rfl); simpa using h
                    clear ho hfr hdep
                    go_wp2_with fail
                    exact ⟨rfl, _, rfl, Below.refl _ _, rfl⟩
                  · intro o ho a' w' hb hfr hdep
                    obtain rfl := Option.some.inj ho
                    have g118 : a'.tmps[118]?.getD undef = .pointer (some ⟨r, 4, none⟩) := by have h := hdep 14 _ rfl (by kernel_rfl); simpa using h
                    clear ho hfr hdep
                    have hcl := cell_below cV hb
                    go_wp2_with fail
                    exact ⟨rfl, _, rfl, Below.refl _ _, rfl⟩
                  · intro o ho a' w' hb hfr hdep
                    obtain rfl := Option.some.inj ho
                    have g0 : a'.tmps[0]?.getD undef = .pointer (some ⟨r, 0, none⟩) := by have h := hfr 0 (by kernel_rfl); simpa using h
                    clear ho hfr hdep
                    go_wp2_with fail
                    exact ⟨rfl, _, rfl, Below.refl _ _, rfl⟩
                  · intro o ho a' w' hb hfr hdep
                    obtain rfl := Option.some.inj ho
                    have g120 : a'.tmps[120]?.getD undef = .pointer (some ⟨r, 0, none⟩) := by have h := hdep 16 _ rfl (by kernel_rfl); simpa using h
                    clear ho hfr hdep
                    go_wp2_with fail
                    exact ⟨rfl, _, rfl, Below.refl _ _, rfl⟩
                  · intro o ho a' w' hb hfr hdep
                    obtain rfl := Option.some.inj ho
                    have g121 : a'.tmps[121]?.getD undef = .pointer (some ⟨r, 0, none⟩) := by have h := hdep 17 _ rfl (by kernel_rfl); simpa using h
                    clear ho hfr hdep
                    go_wp2_with fail
                    exact ⟨rfl, _, rfl, Below.refl _ _, rfl⟩
                  · intro o ho a' w' hb hfr hdep
                    obtain rfl := Option.some.inj ho
                    have g122 : a'.tmps[122]?.getD undef = .pointer (some ⟨r, 8, none⟩) := by have h := hdep 18 _ rfl (by kernel_rfl); simpa using h
                    clear ho hfr hdep
                    have hcl := cell_below cR hb
                    go_wp2_with fail
                    exact ⟨rfl, _, rfl, Below.refl _ _, rfl⟩
                  · intro o ho a' w' hb hfr hdep
                    obtain rfl := Option.some.inj ho
                    have g119 : a'.tmps[119]?.getD undef = .slice va vn vc := by have h := hdep 15 _ rfl (by kernel_rfl); simpa using h
                    have g123 : a'.tmps[123]?.getD undef = .int .i64 (rows : Int) := by have h := hdep 19 _ rfl (by kernel_rfl); simpa using h
                    clear ho hfr hdep
                    refine idx_p 124 _ _ _ _ _ hsV (by show a'.tmps.getD 119 undef = _; simpa using g119) (hVs.below hb) _ _ rows (by show a'.tmps.getD 123 undef = _; simpa using g123) rfl _ HU.out ?_
                    intro b o hcell hbo
                    exact ⟨rfl, _, rfl, Below.refl _ _, b, o, rfl, hcell⟩
                  · intro o ho a' w' hb hfr hdep
                    obtain rfl := Option.some.inj ho
                    obtain ⟨b124, o124, g124, c124⟩ := hdep 20 _ rfl (by kernel_rfl)
                    simp at g124
                    clear ho hfr hdep
                    have hcl := c124
                    go_wp2_with fail
                    exact ⟨rfl, _, rfl, Below.refl _ _, rfl⟩
                · intro gg w5 hbl hp'
                  have p109 := hp' 5 _ rfl
                  have p113 := hp' 9 _ rfl
                  have p125 := hp' 21 _ rfl
                  clear hp'
                  simp at p109 p113 p125
                  simp only [List.drop_succ_cons, List.drop_zero, List.map_cons, List.map_nil, putAll, Act.put, List.setIfInBounds_toArray, List.set_cons_succ, List.set_cons_zero, List.cons_append, List.nil_append, p109, p113, p125]
                  clear p109 p113 p125
                  have A5 := hide (HAr.out.below hbl)
                  go_wp2_with (with_reducible refine hold_store ?_)
                  refine hide ?_
                  obtain ⟨kk, xk, rk, lk⟩ := (A5.out.inn.bz rfl).f0
                  simp only at xk
                  refine store_cell 31 _ _ 31 g0 rows _ (.slice za zn zc) size_row xk rfl rfl rfl rfl (by rw [List.length_map, lk]; exact hr1) ?_; intro w6 x6 gb6 zb6
                  have zz : RRow w0 w5 (za, zn, zc) rr := HZ.out.fr (F := []) (Fr.of hbl) (by simp)
                  have I6 := A5.out.inn.emb0 rfl xk rk lk rows zz x6 gb6
                  have B6 := A5.out.box.grown gb6 (fun e => by injection e with e; exact A5.out.nr (by simp [← e]))
                  have A6 : Hid (RAt w0 w6 r X1 (⟨wa, wc, ws, ta, tc, ts, (va, vn, vc), (xa, xn, xc), (some ⟨g0, 0, none⟩, 25, 25), (some ⟨g1, 0, none⟩, 25, 25), (rows : Int), br, g0, g1, [g0, g1]⟩ : RM) (emS p0 p1 d0 d1 rows true paper waiting tray 0 1)) := hide (by
                    have e1 : (emS p0 p1 d0 d1 rows true paper waiting tray 0 1) = ⟨p0, p1, d0.set rows rr, d1, rows, true, paper, waiting, tray, 0⟩ := by
                      show (⟨p0, p1, rowD rows p0 d0, d1, rows, true, paper, waiting, tray, 0⟩ : Pr) = _
                      rw [HRD.out]
                    rw [e1]
                    exact ⟨B6, A5.out.nr, I6⟩)
                  have FR6 : Hid (Fr [g0, g1] w1 w6) := hide ((HFr.out.below hbl).grown gb6 (fun b hb => by cases hb; exact .inl (by simp)))
                  clear xk rk lk x6 gb6 zb6 zz I6 B6 hbl
                  go_wp2
                  go_roundg (2 - 1)
                  case measure => omega
                  case rel => exact ⟨1, by omega, rfl, rfl, A6.out, FR6.out⟩

              · have HRD : Hid ((emS p0 p1 d0 d1 rows true paper waiting tray 0 1) = (emS p0 p1 d0 d1 rows true paper waiting tray 0 0)) := hide (by
                  show (⟨p0, p1, rowD rows p0 d0, d1, rows, true, paper, waiting, tray, 0⟩ : Pr) = ⟨p0, p1, d0, d1, rows, true, paper, waiting, tray, 0⟩
                  rw [rowD_no d0 (by rw [← HVN.out]; exact hrw)])
                clear hVr hbelr
                go_wp2
                go_quiet (fail)
                go_wp2
                go_roundg (2 - 1)
                case measure => omega
                case rel => exact ⟨1, by omega, rfl, rfl, by rw [HRD.out]; exact HAr.out.below (Still.below _), HFr.out.below (Still.below _)⟩
            · have HAr := hide hAr
              have HFr := hide hFr
              clear hAr hFr
              have HBr := HAr.out.box
              unfold rcells emS at HBr
              simp only at HBr
              have cV : wr.cell? ⟨r, 5, none⟩ = some (.slice xa xn xc) := HBr.at_ rfl
              have cU : wr.cell? ⟨r, 7, none⟩ = some (.slice (some ⟨g1, 0, none⟩) 25 25) := HBr.at_ rfl
              have cR : wr.cell? ⟨r, 8, none⟩ = some (.int .i64 (rows : Int)) := HBr.at_ rfl
              have hbelr := HBW1.out.trans (HFr.out.blw HBW1.out.size (fun b hb => HLO1.out b (by simp at hb; rcases hb with h | h <;> simp [rfoot, h])))
              have tI : RPg w0 wr X1 (xa, xn, xc) p1 := (HAr.out.inn.bz rfl).t1
              obtain ⟨hsV, hVs, hVr⟩ := tI.rows hbelr
              simp only at hVs
              have hVn : xn = p1.length := by rw [hVs.n_eq]; exact hVr.1
              have hVc := Nat.le_trans hVs.le hVs.cap
              unfold maxLen at hVc
              have HVN := hide hVn
              clear hVn tI HBr
              by_cases hrw : rows < xn
              · obtain ⟨rr, hrr⟩ : ∃ rr, p1[rows]? = some rr := ⟨p1[rows]'(by rw [← HVN.out]; exact hrw), by simp⟩
                obtain ⟨zz, hzz⟩ : ∃ zz, hsV[rows]? = some zz := ⟨hsV[rows]'(by rw [hVr.1, ← HVN.out]; exact hrw), by simp⟩
                obtain ⟨za, zn, zc⟩ := zz
                have HZ := hide (hVr.2 rows _ _ hzz hrr)
                have HU : Hid ((hsV.map hv)[rows]? = some (.slice za zn zc)) := hide (by rw [List.getElem?_map, hzz]; rfl)
                have HRD := hide (rowD_yes d1 hrr)
                clear hzz hrr hVr hbelr
                go_wp2
                go_quiet (fail)
                have SB : Below wr.heap.size wr (wr.drewN nq) := Still.below _
                replace HAr := hide (HAr.out.below SB)
                replace HFr := hide (HFr.out.below SB)
                replace hVs := hVs.below SB
                replace cV := cell_below cV SB
                replace cU := cell_below cU SB
                replace cR := cell_below cR SB
                replace HZ := hide (HZ.out.fr (F := []) (Fr.of SB) (by simp))
                clear SB
                generalize wr.drewN nq = w4 at *
                go_wp2
                refine wp_region_free 22 [⟨0, 104, [104], fun vs _ => vs = [.pointer (some ⟨r, 0, none⟩)]⟩, ⟨1, 105, [105], fun vs _ => vs = [.int .i64 1]⟩, ⟨2, 106, [106], fun vs _ => vs = [.pointer (some ⟨r, 0, none⟩)]⟩, ⟨3, 107, [107], fun vs _ => vs = [.pointer (some ⟨r, 6, none⟩)]⟩, ⟨4, 108, [108], fun vs _ => vs = [.pointer (some ⟨r, 7, none⟩)]⟩, ⟨5, 109, [109], fun vs _ => vs = [.slice (some ⟨g1, 0, none⟩) 25 25]⟩, ⟨6, 110, [110], fun vs _ => vs = [.pointer (some ⟨r, 0, none⟩)]⟩, ⟨7, 111, [111], fun vs _ => vs = [.pointer (some ⟨r, 0, none⟩)]⟩, ⟨8, 112, [112], fun vs _ => vs = [.pointer (some ⟨r, 8, none⟩)]⟩, ⟨9, 113, [113], fun vs _ => vs = [.int .i64 (rows : Int)]⟩, ⟨10, 114, [114], fun vs _ => vs = [.pointer (some ⟨r, 0, none⟩)]⟩, ⟨11, 115, [115], fun vs _ => vs = [.int .i64 1]⟩, ⟨12, 116, [116], fun vs _ => vs = [.pointer (some ⟨r, 0, none⟩)]⟩, ⟨13, 117, [117], fun vs _ => vs = [.pointer (some ⟨r, 4, none⟩)]⟩, ⟨14, 118, [118], fun vs _ => vs = [.pointer (some ⟨r, 5, none⟩)]⟩, ⟨15, 119, [119], fun vs _ => vs = [.slice xa xn xc]⟩, ⟨16, 120, [120], fun vs _ => vs = [.pointer (some ⟨r, 0, none⟩)]⟩, ⟨17, 121, [121], fun vs _ => vs = [.pointer (some ⟨r, 0, none⟩)]⟩, ⟨18, 122, [122], fun vs _ => vs = [.pointer (some ⟨r, 8, none⟩)]⟩, ⟨19, 123, [123], fun vs _ => vs = [.int .i64 (rows : Int)]⟩, ⟨20, 124, [124], PtF (.slice za zn zc)⟩, ⟨21, 125, [125], fun vs _ => vs = [.slice za zn zc]⟩] (by kernel_rfl) (by kernel_rfl) ?_ ?_ ?_
                · simp only [All]
                  refine ⟨fun _ _ _ _ h => h, fun _ _ _ _ h => h, fun _ _ _ _ h => h, fun _ _ _ _ h => h, fun _ _ _ _ h => h, fun _ _ _ _ h => h, fun _ _ _ _ h => h, fun _ _ _ _ h => h, fun _ _ _ _ h => h, fun _ _ _ _ h => h, fun _ _ _ _ h => h, fun _ _ _ _ h => h, fun _ _ _ _ h => h, fun _ _ _ _ h => h, fun _ _ _ _ h => h, fun _ _ _ _ h => h, fun _ _ _ _ h => h, fun _ _ _ _ h => h, fun _ _ _ _ h => h, fun _ _ _ _ h => h, ?_, fun _ _ _ _ h => h, trivial⟩
                  · rintro vs w1 w2 hb ⟨b, o, h1, h2⟩
                    exact ⟨b, o, h1, cell_blw h2 hb⟩
                · simp only [All]
                  refine ⟨?_, ?_, ?_, ?_, ?_, ?_, ?_, ?_, ?_, ?_, ?_, ?_, ?_, ?_, ?_, ?_, ?_, ?_, ?_, ?_, ?_, ?_, trivial⟩
                  · intro o ho a' w' hb hfr hdep
                    obtain rfl := Option.some.inj ho
                    have g0 : a'.tmps[0]?.getD undef = .pointer (some ⟨r, 0, none⟩) := by have h := hfr 0 (by kernel_rfl); simpa using h
                    clear ho hfr hdep
                    go_wp2_with fail
                    exact ⟨rfl, _, rfl, Below.refl _ _, rfl⟩
                  · intro o ho a' w' hb hfr hdep
                    obtain rfl := Option.some.inj ho
                    have g5 : a'.tmps[5]?.getD undef = .int .i64 1 := by have h := hfr 5 (by kernel_rfl); simpa using h
                    clear ho hfr hdep
                    go_wp2_with fail
                    exact ⟨rfl, _, rfl, Below.refl _ _, rfl⟩
                  · intro o ho a' w' hb hfr hdep
                    obtain rfl := Option.some.inj ho
                    have g104 : a'.tmps[104]?.getD undef = .pointer (some ⟨r, 0, none⟩) := by have h := hdep 0 _ rfl (by kernel_rfl); simpa using h
                    clear ho hfr hdep
                    go_wp2_with fail
                    exact ⟨rfl, _, rfl, Below.refl _ _, rfl⟩
                  · intro o ho a' w' hb hfr hdep
                    obtain rfl := Option.some.inj ho
                    have g106 : a'.tmps[106]?.getD undef = .pointer (some ⟨r, 0, none⟩) := by have h := hdep 2 _ rfl (by kernel_rfl); simpa using h
                    clear ho hfr hdep
                    go_wp2_with fail
                    exact ⟨rfl, _, rfl, Below.refl _ _, rfl⟩
                  · intro o ho a' w' hb hfr hdep
                    obtain rfl := Option.some.inj ho
                    have g107 : a'.tmps[107]?.getD undef = .pointer (some ⟨r, 6, none⟩) := by have h := hdep 3 _ rfl (by kernel_rfl); simpa using h
                    have g105 : a'.tmps[105]?.getD undef = .int .i64 1 := by have h := hdep 1 _ rfl (by kernel_rfl); simpa using h
                    clear ho hfr hdep
                    go_wp2_with fail
                    exact ⟨rfl, _, rfl, Below.refl _ _, rfl⟩
                  · intro o ho a' w' hb hfr hdep
                    obtain rfl := Option.some.inj ho
                    have g108 : a'.tmps[108]?.getD undef = .pointer (some ⟨r, 7, none⟩) := by have h := hdep 4 _ rfl (by kernel_rfl); simpa using h
                    clear ho hfr hdep
                    have hcl := cell_below cU hb
                    go_wp2_with fail
                    exact ⟨rfl, _, rfl, Below.refl _ _, rfl⟩
                  · intro o ho a' w' hb hfr hdep
                    obtain rfl := Option.some.inj ho
                    have g0 : a'.tmps[0]?.getD undef = .pointer (some ⟨r, 0, none⟩) := by have h := hfr 0 (by kernel_rfl); simpa using h
                    clear ho hfr hdep
                    go_wp2_with fail
                    exact ⟨rfl, _, rfl, Below.refl _ _, rfl⟩
                  · intro o ho a' w' hb hfr hdep
                    obtain rfl := Option.some.inj ho
                    have g110 : a'.tmps[110]?.getD undef = .pointer (some ⟨r, 0, none⟩) := by have h := hdep 6 _ rfl (by kernel_rfl); simpa using h
                    clear ho hfr hdep
                    go_wp2_with fail
                    exact ⟨rfl, _, rfl, Below.refl _ _, rfl⟩
                  · intro o ho a' w' hb hfr hdep
                    obtain rfl := Option.some.inj ho
                    have g111 : a'.tmps[111]?.getD undef = .pointer (some ⟨r, 0, none⟩) := by have h := hdep 7 _ rfl (by kernel_rfl); simpa using h
                    clear ho hfr hdep
                    go_wp2_with fail
                    exact ⟨rfl, _, rfl, Below.refl _ _, rfl⟩
                  · intro o ho a' w' hb hfr hdep
                    obtain rfl := Option.some.inj ho
                    have g112 : a'.tmps[112]?.getD undef = .pointer (some ⟨r, 8, none⟩) := by have h := hdep 8 _ rfl (by kernel_rfl); simpa using h
                    clear ho hfr hdep
                    have hcl := cell_below cR hb
                    go_wp2_with fail
                    exact ⟨rfl, _, rfl, Below.refl _ _, rfl⟩
                  · intro o ho a' w' hb hfr hdep
                    obtain rfl := Option.some.inj ho
                    have g0 : a'.tmps[0]?.getD undef = .pointer (some ⟨r, 0, none⟩) := by have h := hfr 0 (by kernel_rfl); simpa using h
                    clear ho hfr hdep
                    go_wp2_with fail
                    exact ⟨rfl, _, rfl, Below.refl _ _, rfl⟩
                  · intro o ho a' w' hb hfr hdep
                    obtain rfl := Option.some.inj ho
                    have g5 : a'.tmps[5]?.getD undef = .int .i64 1 := by have h := hfr 5 (by kernel_rfl); simpa using h
                    clear ho hfr hdep
                    go_wp2_with fail
                    exact ⟨rfl, _, rfl, Below.refl _ _, rfl⟩
                  · intro o ho a' w' hb hfr hdep
                    obtain rfl := Option.some.inj ho
                    have g114 : a'.tmps[114]?.getD undef = .pointer (some ⟨r, 0, none⟩) := by have h := hdep 10 _ rfl (by kernel_rfl); simpa using h
                    clear ho hfr hdep
                    go_wp2_with fail
                    exact ⟨rfl, _, rfl, Below.refl _ _, rfl⟩
                  · intro o ho a' w' hb hfr hdep
                    obtain rfl := Option.some.inj ho
                    have g116 : a'.tmps[116]?.getD undef = .pointer (some ⟨r, 0, none⟩) := by have h := hdep 12 _ rfl (by kernel_rfl); simpa using h
                    clear ho hfr hdep
                    go_wp2_with fail
                    exact ⟨rfl, _, rfl, Below.refl _ _, rfl⟩
                  · intro o ho a' w' hb hfr hdep
                    obtain rfl := Option.some.inj ho
                    have g117 : a'.tmps[117]?.getD undef = .pointer (some ⟨r, 4, none⟩) := by have h := hdep 13 _ rfl (by kernel_rfl); simpa using h
                    have g115 : a'.tmps[115]?.getD undef = .int .i64 1 := by have h := hdep 11 _ rfl (by kernel_rfl); simpa using h
                    clear ho hfr hdep
                    go_wp2_with fail
                    exact ⟨rfl, _, rfl, Below.refl _ _, rfl⟩
                  · intro o ho a' w' hb hfr hdep
                    obtain rfl := Option.some.inj ho
                    have g118 : a'.tmps[118]?.getD undef = .pointer (some ⟨r, 5, none⟩) := by have h := hdep 14 _ rfl (by kernel_rfl); simpa using h
                    clear ho hfr hdep
                    have hcl := cell_below cV hb
                    go_wp2_with fail
                    exact ⟨rfl, _, rfl, Below.refl _ _, rfl⟩
                  · intro o ho a' w' hb hfr hdep
                    obtain rfl := Option.some.inj ho
                    have g0 : a'.tmps[0]?.getD undef = .pointer (some ⟨r, 0, none⟩) := by have h := hfr 0 (by kernel_rfl); simpa using h
                    clear ho hfr hdep
                    go_wp2_with fail
                    exact ⟨rfl, _, rfl, Below.refl _ _, rfl⟩
                  · intro o ho a' w' hb hfr hdep
                    obtain rfl := Option.some.inj ho
                    have g120 : a'.tmps[120]?.getD undef = .pointer (some ⟨r, 0, none⟩) := by have h := hdep 16 _ rfl (by kernel_rfl); simpa using h
                    clear ho hfr hdep
                    go_wp2_with fail
                    exact ⟨rfl, _, rfl, Below.refl _ _, rfl⟩
                  · intro o ho a' w' hb hfr hdep
                    obtain rfl := Option.some.inj ho
                    have g121 : a'.tmps[121]?.getD undef = .pointer (some ⟨r, 0, none⟩) := by have h := hdep 17 _ rfl (by kernel_rfl); simpa using h
                    clear ho hfr hdep
                    go_wp2_with fail
                    exact ⟨rfl, _, rfl, Below.refl _ _, rfl⟩
                  · intro o ho a' w' hb hfr hdep
                    obtain rfl := Option.some.inj ho
                    have g122 : a'.tmps[122]?.getD undef = .pointer (some ⟨r, 8, none⟩) := by have h := hdep 18 _ rfl (by kernel_rfl); simpa using h
                    clear ho hfr hdep
                    have hcl := cell_below cR hb
                    go_wp2_with fail
                    exact ⟨rfl, _, rfl, Below.refl _ _, rfl⟩
                  · intro o ho a' w' hb hfr hdep
                    obtain rfl := Option.some.inj ho
                    have g119 : a'.tmps[119]?.getD undef = .slice xa xn xc := by have h := hdep 15 _ rfl (by kernel_rfl); simpa using h
                    have g123 : a'.tmps[123]?.getD undef = .int .i64 (rows : Int) := by have h := hdep 19 _ rfl (by kernel_rfl); simpa using h
                    clear ho hfr hdep
                    refine idx_p 124 _ _ _ _ _ hsV (by show a'.tmps.getD 119 undef = _; simpa using g119) (hVs.below hb) _ _ rows (by show a'.tmps.getD 123 undef = _; simpa using g123) rfl _ HU.out ?_
                    intro b o hcell hbo
                    exact ⟨rfl, _, rfl, Below.refl _ _, b, o, rfl, hcell⟩
                  · intro o ho a' w' hb hfr hdep
                    obtain rfl := Option.some.inj ho
                    obtain ⟨b124, o124, g124, c124⟩ := hdep 20 _ rfl (by kernel_rfl)
                    simp at g124
                    clear ho hfr hdep
                    have hcl := c124
                    go_wp2_with fail
                    exact ⟨rfl, _, rfl, Below.refl _ _, rfl⟩
                · intro gg w5 hbl hp'
                  have p109 := hp' 5 _ rfl
                  have p113 := hp' 9 _ rfl
                  have p125 := hp' 21 _ rfl
                  clear hp'
                  simp at p109 p113 p125
                  simp only [List.drop_succ_cons, List.drop_zero, List.map_cons, List.map_nil, putAll, Act.put, List.setIfInBounds_toArray, List.set_cons_succ, List.set_cons_zero, List.cons_append, List.nil_append, p109, p113, p125]
                  clear p109 p113 p125
                  have A5 := hide (HAr.out.below hbl)
                  go_wp2_with (with_reducible refine hold_store ?_)
                  refine hide ?_
                  obtain ⟨kk, xk, rk, lk⟩ := (A5.out.inn.bz rfl).f1
                  simp only at xk
                  refine store_cell 31 _ _ 31 g1 rows _ (.slice za zn zc) size_row xk rfl rfl rfl rfl (by rw [List.length_map, lk]; exact hr1) ?_; intro w6 x6 gb6 zb6
                  have zz : RRow w0 w5 (za, zn, zc) rr := HZ.out.fr (F := []) (Fr.of hbl) (by simp)
                  have I6 := A5.out.inn.emb1 rfl xk rk lk rows zz x6 gb6
                  have B6 := A5.out.box.grown gb6 (fun e => by injection e with e; exact A5.out.nr (by simp [← e]))
                  have A6 : Hid (RAt w0 w6 r X1 (⟨wa, wc, ws, ta, tc, ts, (va, vn, vc), (xa, xn, xc), (some ⟨g0, 0, none⟩, 25, 25), (some ⟨g1, 0, none⟩, 25, 25), (rows : Int), br, g0, g1, [g0, g1]⟩ : RM) (emS p0 p1 d0 d1 rows true paper waiting tray 0 2)) := hide (by
                    have e1 : (emS p0 p1 d0 d1 rows true paper waiting tray 0 2) = ⟨p0, p1, rowD rows p0 d0, d1.set rows rr, rows, true, paper, waiting, tray, 0⟩ := by
                      show (⟨p0, p1, rowD rows p0 d0, rowD rows p1 d1, rows, true, paper, waiting, tray, 0⟩ : Pr) = _
                      rw [HRD.out]
                    rw [e1]
                    exact ⟨B6, A5.out.nr, I6⟩)
                  have FR6 : Hid (Fr [g0, g1] w1 w6) := hide ((HFr.out.below hbl).grown gb6 (fun b hb => by cases hb; exact .inl (by simp)))
                  clear xk rk lk x6 gb6 zb6 zz I6 B6 hbl
                  go_wp2
                  go_roundg (2 - 2)
                  case measure => omega
                  case rel => exact ⟨2, by omega, rfl, rfl, A6.out, FR6.out⟩

              · have HRD : Hid ((emS p0 p1 d0 d1 rows true paper waiting tray 0 2) = (emS p0 p1 d0 d1 rows true paper waiting tray 0 1)) := hide (by
                  show (⟨p0, p1, rowD rows p0 d0, rowD rows p1 d1, rows, true, paper, waiting, tray, 0⟩ : Pr) = ⟨p0, p1, rowD rows p0 d0, d1, rows, true, paper, waiting, tray, 0⟩
                  rw [rowD_no d1 (by rw [← HVN.out]; exact hrw)])
                clear hVr hbelr
                go_wp2
                go_quiet (fail)
                go_wp2
                go_roundg (2 - 2)
                case measure => omega
                case rel => exact ⟨2, by omega, rfl, rfl, by rw [HRD.out]; exact HAr.out.below (Still.below _), HFr.out.below (Still.below _)⟩
            · go_wp2_with fail
              go_meet
              exact ⟨rfl, hAr, hFr⟩
        · subst hf
          have hJ0 : J = 0 := hJ.out
          subst hJ0
          clear hJ
          go_wp2_with fail
          go_loopg [5] 0 (fun g v w' => g = 0 ∧ v = .int .i64 0 ∧ w1 = w')
          case atStart => exact ⟨rfl, rfl, rfl⟩
          case round =>
            obtain ⟨rfl, rfl, rfl⟩ := hrel
            go_wp2_with fail
            go_meet
            exact ⟨rfl, HA0.out, Fr.refl _ _⟩
      case rest =>
        obtain ⟨rfl, A2, F2⟩ := hcut
        obtain ⟨w2, rfl⟩ : ∃ w2 : World, w2 = wc := ⟨_, rfl⟩
        obtain ⟨T5, hT5⟩ : ∃ T5, Hid ((emS p0 p1 d0 d1 rows true paper waiting tray 0 J) = T5) := ⟨_, hide rfl⟩
        obtain ⟨m5, hm5⟩ : ∃ m5, Hid ((⟨wa, wc, ws, ta, tc, ts, (va, vn, vc), (xa, xn, xc), (some ⟨g0, 0, none⟩, 25, 25), (some ⟨g1, 0, none⟩, 25, 25), (rows : Int), br, g0, g1, [g0, g1]⟩ : RM) = m5) := ⟨_, hide rfl⟩
        have tb : T5.busy = true := by rw [← hT5.out]; rfl
        have tm : T5.mode = 0 := by rw [← hT5.out]; rfl
        have tr : T5.rows = rows := by rw [← hT5.out]; rfl
        have tl : T5.tray.length ≤ 1000 := by rw [← hT5.out]; exact ht1
        have hbr5 : Hid (m5.br = m.br) := hide (by rw [← hm5.out]; exact hbr)
        have hgs5 : Hid (m5.gs = [g0, g1]) := hide (by rw [← hm5.out])
        have hrw5 : Hid (m5.rw = (rows : Int)) := hide (by rw [← hm5.out])
        rw [hT5.out] at A2 hS2
        rw [hm5.out] at A2 HMv
        have MV2 : Hid (Mv w w2 (rfoot r X m) (rfoot r X1 m5)) := hide ⟨HMv.out.fr.on F2 (fun b hb => HMv.out.sub b (by
          simp at hb
          rcases hb with h | h <;> simp [rfoot, hgs5.out, h])), HMv.out.sub⟩
        obtain ⟨N, hN⟩ : ∃ N, Hid (T5.tray.length = N) := ⟨_, hide rfl⟩
        rw [hN.out] at tl
        obtain ⟨R1, hR1⟩ : ∃ R1, Hid (rows + 1 = R1) := ⟨_, hide rfl⟩
        have hRi : (rows : Int) + 1 = (R1 : Int) := by rw [← hR1.out]; rfl
        have AI := hide A2.inn
        have NR5 := hide A2.nr
        have NBR := hide (NoB.box A2.box (by decide))
        have HB := A2.box
        unfold rcells at HB
        rw [hN.out, tb, tm, hrw5.out] at HB
        have c8 : w2.cell? ⟨r, 8, none⟩ = some (.int .i64 (rows : Int)) := HB.at_ rfl
        have hR9 : R1 ≤ 25 := by have := hR1.out; omega
        have TR := hide tr
        have TB := hide tb
        have TM := hide tm
        clear A2 F2 HMv hT5 hm5 hJ ht1 hr1 hr2 hr3 HA0 hbr tr tb tm
        go_wp2_with (with_reducible refine hold_store ?_)
        refine hide ?_
        refine store_cell 3 _ _ 51 r 8 _ (.int .i64 (R1 : Int)) size_i35 HB rfl rfl rfl rfl (by show 8 < 11; omega) ?_; intro w3 HB3 gb3 zb3
        simp only [List.set_cons_succ, List.set_cons_zero] at HB3
        have F3 : Fr [r] w2 w3 := Fr.ofGrown gb3
        clear gb3 zb3
        have c8 : w3.cell? ⟨r, 8, none⟩ = some (.int .i64 (R1 : Int)) := HB3.at_ rfl
        have H23 : Hid (w2.heap.size ≤ w3.heap.size) := hide F3.size
        clear HB
        by_cases h25 : R1 = 25
        · have hD : Hid (doneP T5 = layP { T5 with rows := 25 }) := hide (by unfold doneP; rw [TR.out, hR1.out, h25, if_pos rfl])
          subst h25
          have HR : Hid (r < w3.heap.size) := hide HB3.lt
          have I3 := hide ((AI.out.fr1 F3 NBR.out NR5.out).rowsTo 25 ((25 : Nat) : Int) rfl)
          have TL : Hid (Sl w3 2 m5.ta N m5.tc (m5.ts.flatMap shc)) := hide (by have := (AI.out.fr1 F3 NBR.out NR5.out).tl; rw [← hN.out]; exact this)
          have z25 : ((25 : Nat) : Int) = 25 := rfl
          rw [z25] at c8 HB3
          clear hRi
          go_wp2_with fail
          --@
          have q2 : w3.cell? ⟨r, 2, none⟩ = some (.slice m5.ta N m5.tc) := HB3.at_ rfl
          have q6 : w3.cell? ⟨r, 6, none⟩ = some (.slice m5.u0.1 m5.u0.2.1 m5.u0.2.2) := HB3.at_ rfl
          have q7 : w3.cell? ⟨r, 7, none⟩ = some (.slice m5.u1.1 m5.u1.2.1 m5.u1.2.2) := HB3.at_ rfl
          refine wp_region_chain4 13 (RPs w3 4) (GPs w3 N m5.ts (m5.u0, m5.u1)) [⟨6, 145, [], fun _ _ => True⟩, ⟨12, 151, [], fun _ _ => True⟩] [⟨0, 139, [139], fun vs _ => vs = [.pointer (some ⟨r, 0, none⟩)]⟩, ⟨1, 140, [140], NilS w3⟩, ⟨2, 141, [141], fun vs _ => vs = [.pointer (some ⟨r, 0, none⟩)]⟩, ⟨3, 142, [142], fun vs _ => vs = [.pointer (some ⟨r, 0, none⟩)]⟩, ⟨4, 143, [143], fun vs _ => vs = [.pointer (some ⟨r, 2, none⟩)]⟩, ⟨5, 144, [144], fun vs _ => vs = [.slice m5.ta N m5.tc]⟩, ⟨7, 146, [146], fun vs _ => vs = [.pointer (some ⟨r, 0, none⟩)]⟩, ⟨8, 147, [147], fun vs _ => vs = [.pointer (some ⟨r, 0, none⟩)]⟩, ⟨9, 148, [148], fun vs _ => vs = [.pointer (some ⟨r, 6, none⟩)]⟩, ⟨10, 149, [149], fun vs _ => vs = [.agg #[.slice m5.u0.1 m5.u0.2.1 m5.u0.2.2, .slice m5.u1.1 m5.u1.2.1 m5.u1.2.2]]⟩, ⟨11, 150, [150], OneS (.slice m5.u0.1 m5.u0.2.1 m5.u0.2.2) (.slice m5.u1.1 m5.u1.2.1 m5.u1.2.2)⟩] (by kernel_rfl) (by kernel_rfl) ?_ (RPs.of w3 4) GPs.mono ?_ ?_ ?_ ?_
          · exact ⟨Still.below 1, fun h => absurd h (by decide), fun h => absurd h (by decide)⟩
          · simp only [All]
            refine ⟨(fun _ _ _ _ h => h), (fun vs u u' hr h => by obtain ⟨b, h1, h2, h3⟩ := h; exact ⟨b, h1, hr.box h2 (.inr (by decide)), h3⟩), (fun _ _ _ _ h => h), (fun _ _ _ _ h => h), (fun _ _ _ _ h => h), (fun _ _ _ _ h => h), (fun _ _ _ _ h => h), (fun _ _ _ _ h => h), (fun _ _ _ _ h => h), (fun _ _ _ _ h => h), (fun vs u u' hr h => by obtain ⟨b, h1, h2⟩ := h; exact ⟨b, h1, hr.box h2 (.inr (by simp))⟩), trivial⟩
          · intro m c hc o ho a w' hG hfr hdep
            rcases m with _ | _ | m
            · cases hc
              obtain rfl := Option.some.inj ho
              obtain ⟨b68, e68, x68, l68⟩ := hdep 1 _ rfl (by kernel_rfl)
              have g68 : a.tmps[140]?.getD undef = .slice (some ⟨b68, 0, none⟩) 0 0 := by simpa using e68
              have g70 : a.tmps[144]?.getD undef = .slice m5.ta N m5.tc := by have h := hdep 5 _ rfl (by kernel_rfl); simpa using h
              have hB := hG.1
              clear hfr hdep hG
              have o6 := TL.out.below hB
              refine app_sh_e rfl _ _ rfl w3.heap.size b68 (by show a.tmps.getD 140 undef = _; simpa using g68) x68 l68 m5.ta N m5.tc m5.ts (by show a.tmps.getD 144 undef = _; simpa using g70) o6 (by omega) ?_
              intro a7 c7 w7 ho7 hb7 hz7
              go_wp2_with fail
              exact ⟨rfl, _, rfl, RPs.of _ _ _ _ hb7, hB.trans (hb7.mono hB.size), fun _ => ⟨a7, c7, by simp, ho7, hz7.imp id (fun h => ⟨h.1, fun p hp => Nat.le_trans hB.size (h.2 p hp)⟩)⟩, fun h => absurd h (by decide)⟩
            · cases hc
              obtain rfl := Option.some.inj ho
              obtain ⟨a7, c7, e71, ho7, hz7⟩ := hG.2.1 rfl
              have g71 : a.tmps[145]?.getD undef = .slice a7 N c7 := by simpa using e71
              obtain ⟨b73, e73, x73⟩ := hdep 10 _ rfl (by kernel_rfl)
              have g73 : a.tmps[150]?.getD undef = .slice (some ⟨b73, 0, none⟩) 1 1 := by simpa using e73
              have hB := hG.1
              clear hfr hdep hG
              have hsl : Sl w' 2 (some ⟨b73, 0, none⟩) 1 1 ([(m5.u0, m5.u1)].flatMap shc) := sl_oneS x73
              refine app_shW rfl _ _ rfl w3.heap.size a7 N c7 m5.ts (by show a.tmps.getD 145 undef = _; simpa using g71) ho7 hB.size (some ⟨b73, 0, none⟩) 1 1 [(m5.u0, m5.u1)] (by show a.tmps.getD 150 undef = _; simpa using g73) hsl (by omega) ?_
              intro a8 c8 w8 ho8 hg8 hz8
              go_wp2_with fail
              exact ⟨rfl, _, rfl, rps_app hg8 hz8 ho7 hz7, below_app1 hB hg8 hz8 hz7, fun h => absurd h (by decide), fun _ => ⟨a8, c8, by simp, ho8⟩⟩
            · cases hc
          · simp only [All]
            refine ⟨?_, ?_, ?_, ?_, ?_, ?_, ?_, ?_, ?_, ?_, ?_, trivial⟩
            · intro o ho a' w' hfr hdep hst
              obtain rfl := Option.some.inj ho
              have g0 : a'.tmps[0]?.getD undef = .pointer (some ⟨r, 0, none⟩) := by have h := hfr 0 (by kernel_rfl); simpa using h
              clear ho hfr hdep hst
              go_wp2_with fail
              exact ⟨rfl, _, rfl, Below.refl _ _, rfl⟩
            · intro o ho a' w' hfr hdep hst
              obtain rfl := Option.some.inj ho
              obtain ⟨j, _, _, hG⟩ := hst
              clear ho hfr hdep
              refine build_nilS 140 ?_
              intro w6 x6 hb6
              exact ⟨rfl, _, rfl, hb6, _, rfl, x6, hG.1.size⟩
            · intro o ho a' w' hfr hdep hst
              obtain rfl := Option.some.inj ho
              have g0 : a'.tmps[0]?.getD undef = .pointer (some ⟨r, 0, none⟩) := by have h := hfr 0 (by kernel_rfl); simpa using h
              clear ho hfr hdep hst
              go_wp2_with fail
              exact ⟨rfl, _, rfl, Below.refl _ _, rfl⟩
            · intro o ho a' w' hfr hdep hst
              obtain rfl := Option.some.inj ho
              have g141 : a'.tmps[141]?.getD undef = .pointer (some ⟨r, 0, none⟩) := by have h := hdep 2 _ rfl (by kernel_rfl); simpa using h
              clear ho hfr hdep hst
              go_wp2_with fail
              exact ⟨rfl, _, rfl, Below.refl _ _, rfl⟩
            · intro o ho a' w' hfr hdep hst
              obtain rfl := Option.some.inj ho
              have g142 : a'.tmps[142]?.getD undef = .pointer (some ⟨r, 0, none⟩) := by have h := hdep 3 _ rfl (by kernel_rfl); simpa using h
              clear ho hfr hdep hst
              go_wp2_with fail
              exact ⟨rfl, _, rfl, Below.refl _ _, rfl⟩
            · intro o ho a' w' hfr hdep hst
              obtain rfl := Option.some.inj ho
              have g143 : a'.tmps[143]?.getD undef = .pointer (some ⟨r, 2, none⟩) := by have h := hdep 4 _ rfl (by kernel_rfl); simpa using h
              obtain ⟨j, _, _, hG⟩ := hst
              clear ho hfr hdep
              have hcl := cell_blw q2 hG.1
              go_wp2_with fail
              exact ⟨rfl, _, rfl, Below.refl _ _, rfl⟩
            · intro o ho a' w' hfr hdep hst
              obtain rfl := Option.some.inj ho
              have g0 : a'.tmps[0]?.getD undef = .pointer (some ⟨r, 0, none⟩) := by have h := hfr 0 (by kernel_rfl); simpa using h
              clear ho hfr hdep hst
              go_wp2_with fail
              exact ⟨rfl, _, rfl, Below.refl _ _, rfl⟩
            · intro o ho a' w' hfr hdep hst
              obtain rfl := Option.some.inj ho
              have g146 : a'.tmps[146]?.getD undef = .pointer (some ⟨r, 0, none⟩) := by have h := hdep 6 _ rfl (by kernel_rfl); simpa using h
              clear ho hfr hdep hst
              go_wp2_with fail
              exact ⟨rfl, _, rfl, Below.refl _ _, rfl⟩
            · intro o ho a' w' hfr hdep hst
              obtain rfl := Option.some.inj ho
              have g147 : a'.tmps[147]?.getD undef = .pointer (some ⟨r, 0, none⟩) := by have h := hdep 7 _ rfl (by kernel_rfl); simpa using h
              clear ho hfr hdep hst
              go_wp2_with fail
              exact ⟨rfl, _, rfl, Below.refl _ _, rfl⟩
            · intro o ho a' w' hfr hdep hst
              obtain rfl := Option.some.inj ho
              have g148 : a'.tmps[148]?.getD undef = .pointer (some ⟨r, 6, none⟩) := by have h := hdep 8 _ rfl (by kernel_rfl); simpa using h
              obtain ⟨j, _, _, hG⟩ := hst
              clear ho hfr hdep
              refine load_sheet2 149 _ r 6 7 (by show a'.tmps.getD 148 undef = _; simpa using g148) _ _ (cell_blw q6 hG.1) (cell_blw q7 hG.1) rfl ?_
              exact ⟨rfl, _, rfl, Below.refl _ _, rfl⟩
            · intro o ho a' w' hfr hdep hst
              obtain rfl := Option.some.inj ho
              have g149 : a'.tmps[149]?.getD undef = .agg #[.slice m5.u0.1 m5.u0.2.1 m5.u0.2.2, .slice m5.u1.1 m5.u1.2.1 m5.u1.2.2] := by have h := hdep 9 _ rfl (by kernel_rfl); simpa using h
              clear ho hfr hdep hst
              refine build_oneS 150 _ _ _ (by show a'.tmps.getD 149 undef = _; simpa using g149) ?_
              intro w6 x6 hb6
              exact ⟨rfl, _, rfl, hb6, _, rfl, x6⟩
          · intro gg w10 hG hp
            obtain ⟨a10, c10, e74, ho10⟩ := hG.2.2 (Nat.le_refl _)
            replace e74 : gg 151 = .slice a10 (N + 1) c10 := by simpa using e74
            have p0 := hp 0 _ rfl
            have b10 := hG.1
            clear hp hG
            simp at p0
            simp only [List.drop_succ_cons, List.drop_zero, List.map_cons, List.map_nil, putAll, Act.put, List.setIfInBounds_toArray, List.set_cons_succ, List.set_cons_zero, List.cons_append, List.nil_append, p0, e74]
            clear p0 e74
            have HB10 := HB3.under b10
            have F10 := F3.below b10
            have O10 := hide ho10
            obtain ⟨N1, hN1⟩ : ∃ N1, Hid (N + 1 = N1) := ⟨_, hide rfl⟩
            rw [hN1.out] at O10 ⊢
            clear ho10 q2 q6 q7
            go_wp2_with (with_reducible refine hold_store ?_)
            refine hide ?_
            refine store_cell 25 _ _ 51 r 2 _ (.slice a10 N1 c10) size_shs HB10 rfl rfl rfl rfl (by show 2 < 11; omega) ?_; intro w4 HB4 gb4 zb4
            simp only [List.set_cons_succ, List.set_cons_zero] at HB4
            have F4 : Fr [r] w2 w4 := F10.on (Fr.ofGrown gb4) (fun b hb => .inl (by simpa using hb))
            have FX : Fr [r] w10 w4 := Fr.ofGrown gb4
            clear gb4 zb4
            have OA : ∀ b ∈ (a10.map (·.block)).toList, b ∉ [r] := fun b hb hm => by
              have h1 := (own_lt O10.out b hb).1
              have h2 := HB3.lt
              simp at hm
              omega
            have O4 : Hid (Own w4 w3.heap.size 29 2 a10 N1 c10 ((m5.ts ++ [(m5.u0, m5.u1)]).flatMap shc)) := hide (own_fr O10.out FX OA)
            clear O10 HB10 F10 b10 OA FX
            go_wp2_with (with_reducible refine hold_store ?_)
            refine hide ?_
            refine store_cell 4 _ _ 51 r 3 _ (.bool false) size_bool1 HB4 rfl rfl rfl rfl (by show 3 < 11; omega) ?_; intro w5 HB5 gb5 zb5
            simp only [List.set_cons_succ, List.set_cons_zero] at HB5
            have F5 : Fr [r] w2 w5 := F4.on (Fr.ofGrown gb5) (fun b hb => .inl (by simpa using hb))
            have FY : Fr [r] w4 w5 := Fr.ofGrown gb5
            clear gb5 zb5
            have F45 : Fr [r] w4 w5 := FY
            have OA : ∀ b ∈ (a10.map (·.block)).toList, b ∉ [r] := fun b hb hm => by
              have h1 := (own_lt O4.out b hb).1
              have h2 := HR.out
              simp at hm
              omega
            have O5 := hide (own_fr O4.out F45 OA)
            have HB5 := hide HB5
            have F5 := hide F5
            clear HB3 HB4 F4 F3 F45 FY TL OA O4 c8
            go_wp2
            go_ret
            rw [hS2.out]
            have hb3 : N1 = (T5.tray ++ [(T5.d0, T5.d1)]).length := by rw [List.length_append, hN.out, ← hN1.out]; rfl
            have I0 := (AI.out.fr1 F5.out NBR.out NR5.out).rowsTo 25 ((25 : Nat) : Int) rfl
            have I5 := I0.lay TB.out (S' := layP { T5 with rows := 25 }) O5.out hb3 rfl rfl rfl ((25 : Nat) : Int)
            have gl := (I0.bz TB.out).gl
            simp only at gl
            refine ⟨rfl, m5.g0 :: m5.g1 :: (blk a10 ++ X1), ⟨m5.wa, m5.wc, m5.ws, a10, c10, m5.ts ++ [(m5.u0, m5.u1)], m5.v0, m5.v1, m5.u0, m5.u1, ((25 : Nat) : Int), m5.br, m5.g0, m5.g1, []⟩, ⟨?_, ?_, by rw [hD.out]; exact I5⟩, ⟨MV2.out.fr.on F5.out (fun b hb => by simp at hb; rw [hb]; exact MV2.out.sub r (by simp [rfoot])), ?_⟩, hbr5.out⟩
            · have h1 := HB5.out
              rw [hD.out]
              unfold rcells layP
              simp only [TM.out]
              rw [hb3] at h1
              exact h1
            · have h1 := NR5.out
              rw [gl] at h1
              intro h2
              have h3 : r ∉ blk a10 := fun hh => by
                have h4 := (own_lt O5.out r hh).1
                have h5 := HR.out
                omega
              simp at h1 h2
              rcases h2 with h2 | h2 | h2 | h2
              · exact h1.1 h2
              · exact h1.2.1 h2
              · exact h3 h2
              · exact h1.2.2 h2
            · intro b hb
              unfold rfoot at hb
              have hin : b = r ∨ b = m5.g0 ∨ b = m5.g1 ∨ b ∈ X1 ∨ b ∈ blk a10 := by
                simp at hb
                rcases hb with h | h | h | h | h
                · exact .inl h
                · exact .inr (.inl h)
                · exact .inr (.inr (.inl h))
                · exact .inr (.inr (.inr (.inr h)))
                · exact .inr (.inr (.inr (.inl h)))
              rcases hin with h | h | h | h | h
              · exact MV2.out.sub b (by simp [rfoot, h])
              · exact MV2.out.sub b (by simp [rfoot, gl, h])
              · exact MV2.out.sub b (by simp [rfoot, gl, h])
              · exact MV2.out.sub b (by simp [rfoot, h])
              · have h4 := (own_lt O5.out b h).1
                have h5 := MV2.out.fr.size
                have h6 := H23.out
                exact .inr (by omega)
        · have hD : Hid (doneP T5 = { T5 with rows := R1 }) := hide (by unfold doneP; rw [TR.out, hR1.out, if_neg h25])
          have h25i : ((R1 : Int) == 25) = false := by simp; omega
          clear h25
          have HB3 := hide HB3
          have F3 := hide F3
          go_wp2_with fail
          go_ret
          rw [hS2.out, hD.out]
          refine ⟨rfl, X1, ⟨m5.wa, m5.wc, m5.ws, m5.ta, m5.tc, m5.ts, m5.v0, m5.v1, m5.u0, m5.u1, (R1 : Int), m5.br, m5.g0, m5.g1, m5.gs⟩, ⟨?_, NR5.out, (AI.out.fr1 F3.out NBR.out NR5.out).rowsTo R1 (R1 : Int) rfl⟩, ⟨MV2.out.fr.on F3.out (fun b hb => by simp at hb; rw [hb]; exact MV2.out.sub r (by simp [rfoot])), MV2.out.sub⟩, hbr5.out⟩
          have h1 := HB3.out
          unfold rcells
          simp only [TB.out, TM.out, hN.out]
          exact h1
end Go.Proofs.Ytdeknimelkdaeaa
end

/- the text P38 -/
section
/- Chapter 35: the reference's Step, whole; SameTrays. -/
set_option linter.unusedVariables false
namespace Go.Proofs.Ytdeknimelkdaeaa
open Go.RowKit Go.Dx Go.Al
set_option maxRecDepth 100000 in
theorem ref35_Step_1 (w0 : World) (r : Nat) (X : List Nat) (m : RM) (S : Pr) (f : Nat) (w : World) (h : RAt w0 w r X m S) (hf : f ≤ 3) (hm : S.mode = 1) :
    Calls Try.prog 46 #[.pointer (some ⟨r, 0, none⟩), .int .i64 (f : Int)] w fun e w' => e = .returned (.int .i64 23) ∧ w' = w := by
  have HB := h.box
  unfold rcells at HB
  have d0 : decide ((f : Int) < 0) = false := decide_eq_false (by omega)
  have d3 : decide ((3 : Int) < (f : Int)) = false := decide_eq_false (by omega)
  rw [hm] at HB
  have c9 : w.cell? ⟨r, 9, none⟩ = some (.int .i64 1) := HB.at_ rfl
  clear h hf hm HB
  go_enter Try.func46, Try.ntmps46
  go_wp2_with fail
  go_ret
  exact ⟨rfl, rfl⟩
set_option maxRecDepth 100000 in
theorem ref35_Step_2 (w0 : World) (r : Nat) (X : List Nat) (m : RM) (S : Pr) (f : Nat) (w : World) (h : RAt w0 w r X m S) (hf : f ≤ 3) (hm : S.mode = 2) :
    Calls Try.prog 46 #[.pointer (some ⟨r, 0, none⟩), .int .i64 (f : Int)] w fun e w' => e = .returned (.int .i64 25) ∧ w' = w := by
  have HB := h.box
  unfold rcells at HB
  have d0 : decide ((f : Int) < 0) = false := decide_eq_false (by omega)
  have d3 : decide ((3 : Int) < (f : Int)) = false := decide_eq_false (by omega)
  rw [hm] at HB
  have c9 : w.cell? ⟨r, 9, none⟩ = some (.int .i64 2) := HB.at_ rfl
  clear h hf hm HB
  go_enter Try.func46, Try.ntmps46
  go_wp2_with fail
  go_ret
  exact ⟨rfl, rfl⟩
set_option maxRecDepth 100000 in
theorem ref35_Step_6 (w0 : World) (r : Nat) (X : List Nat) (m : RM) (S : Pr) (f : Nat) (w : World) (h : RAt w0 w r X m S) (hf : f ≤ 3) (hm : S.mode = 0) (hb : S.busy = false) (hw : S.waiting = []) :
    Calls Try.prog 46 #[.pointer (some ⟨r, 0, none⟩), .int .i64 (f : Int)] w fun e w' => e = .returned (.int .i64 6) ∧ w' = w := by
  have HB := h.box
  unfold rcells at HB
  have d0 : decide ((f : Int) < 0) = false := decide_eq_false (by omega)
  have d3 : decide ((3 : Int) < (f : Int)) = false := decide_eq_false (by omega)
  rw [hm] at HB
  have c9 : w.cell? ⟨r, 9, none⟩ = some (.int .i64 0) := HB.at_ rfl
  rw [hb] at HB
  have c3 : w.cell? ⟨r, 3, none⟩ = some (.bool false) := HB.at_ rfl
  rw [hw] at HB
  have c1 : w.cell? ⟨r, 1, none⟩ = some (.slice m.wa 0 m.wc) := HB.at_ rfl
  clear h hf hm HB hb hw
  go_enter Try.func46, Try.ntmps46
  go_wp2_with fail
  go_ret
  exact ⟨rfl, rfl⟩
set_option maxRecDepth 100000 in
theorem ref35_Step_11 (w0 : World) (r : Nat) (X : List Nat) (m : RM) (S : Pr) (f : Nat) (w : World) (h : RAt w0 w r X m S) (hf : f ≤ 3) (hm : S.mode = 0) (hb : S.busy = false) (hw : S.waiting ≠ []) (hP : S.paper = 0) :
    Calls Try.prog 46 #[.pointer (some ⟨r, 0, none⟩), .int .i64 (f : Int)] w fun e w' => e = .returned (.int .i64 11) ∧ w' = w := by
  have HB := h.box
  unfold rcells at HB
  have d0 : decide ((f : Int) < 0) = false := decide_eq_false (by omega)
  have d3 : decide ((3 : Int) < (f : Int)) = false := decide_eq_false (by omega)
  rw [hm] at HB
  have c9 : w.cell? ⟨r, 9, none⟩ = some (.int .i64 0) := HB.at_ rfl
  rw [hb] at HB
  have c3 : w.cell? ⟨r, 3, none⟩ = some (.bool false) := HB.at_ rfl
  rw [hP] at HB
  obtain ⟨n, hn⟩ : ∃ n, S.waiting.length = n := ⟨_, rfl⟩
  rw [hn] at HB
  have hn0 : ((n : Int) == 0) = false := by
    cases hw' : S.waiting with
    | nil => exact absurd hw' hw
    | cons x l => rw [hw'] at hn; simp at hn; simp; omega
  have c1 : w.cell? ⟨r, 1, none⟩ = some (.slice m.wa n m.wc) := HB.at_ rfl
  have c0 : w.cell? ⟨r, 0, none⟩ = some (.int .i64 0) := HB.at_ rfl
  clear h hf hm HB hb hw hP hn
  go_enter Try.func46, Try.ntmps46
  go_wp2_with fail
  go_ret
  exact ⟨rfl, rfl⟩
set_option maxRecDepth 100000 in
theorem ref35_Step_bad (r : Nat) (f : Int) (w : World) (h : f < 0 ∨ 3 < f) :
    Calls Try.prog 46 #[.pointer (some ⟨r, 0, none⟩), .int .i64 f] w fun e w' => e = .returned (.int .i64 1) ∧ w' = w := by
  by_cases h1 : f < 0
  · have d1 : decide (f < 0) = true := decide_eq_true h1
    clear h h1
    go_enter Try.func46, Try.ntmps46
    go_wp2_with fail
    go_ret
    exact ⟨rfl, rfl⟩
  · have d1 : decide (f < 0) = false := decide_eq_false h1
    have d2 : decide (3 < f) = true := decide_eq_true (by rcases h with h | h; exact absurd h h1; exact h)
    clear h h1
    go_enter Try.func46, Try.ntmps46
    go_wp2_with fail
    go_ret
    exact ⟨rfl, rfl⟩
theorem ref35_Step (w0 : World) (r : Nat) (X : List Nat) (m : RM) (S : Pr) (f : Nat) (w : World) (h : RAt w0 w r X m S) (hi : PInv S) (hf : f ≤ 3) (hbw : Below w0.heap.size w0 w) (hlo : ∀ b ∈ rfoot r X m, w0.heap.size ≤ b) :
    Calls Try.prog 46 #[.pointer (some ⟨r, 0, none⟩), .int .i64 (f : Int)] w fun e w' => e = .returned (.int .i64 (stepP S f).2) ∧ ∃ X' m', RAt w0 w' r X' m' (stepP S f).1 ∧ Mv w w' (rfoot r X m) (rfoot r X' m') ∧ m'.br = m.br := by
  have same : ∀ {k : Int}, stepP S f = (S, k) → (Calls Try.prog 46 #[.pointer (some ⟨r, 0, none⟩), .int .i64 (f : Int)] w fun e w' => e = .returned (.int .i64 k) ∧ w' = w) →
      Calls Try.prog 46 #[.pointer (some ⟨r, 0, none⟩), .int .i64 (f : Int)] w fun e w' => e = .returned (.int .i64 (stepP S f).2) ∧ ∃ X' m', RAt w0 w' r X' m' (stepP S f).1 ∧ Mv w w' (rfoot r X m) (rfoot r X' m') ∧ m'.br = m.br := fun e c => by
    rw [e]
    refine c.mono ?_
    rintro e w' ⟨rfl, rfl⟩
    exact ⟨rfl, X, m, h, Mv.refl _ _, rfl⟩
  by_cases m1 : S.mode = 1
  · exact same (by unfold stepP; rw [if_pos m1]) (ref35_Step_1 w0 r X m S f w h hf m1)
  · by_cases m2 : S.mode = 2
    · exact same (by unfold stepP; rw [if_neg m1, if_pos m2]) (ref35_Step_2 w0 r X m S f w h hf m2)
    · have hm : S.mode = 0 := by have := hi.mode; omega
      by_cases ht : (takeP S).2 = 0
      · exact ref35_Step_go w0 r X m S f w h hm hf hi ht hbw hlo
      · have e1 : stepP S f = takeP S := by unfold stepP; rw [if_neg m1, if_neg m2, if_pos (by simpa using ht)]
        rcases take_cases S with ⟨_, e⟩ | ⟨hb, hw, e⟩ | ⟨hb, hP, hw, e⟩ | ⟨x, l, P, _, hw, hP, e⟩
        · rw [e] at ht; exact absurd rfl ht
        · exact same (by rw [e1, e]) (ref35_Step_6 w0 r X m S f w h hf hm hb hw)
        · exact same (by rw [e1, e]) (ref35_Step_11 w0 r X m S f w h hf hm hb hw hP)
        · rw [e] at ht; exact absurd rfl ht
set_option maxRecDepth 100000 in
set_option maxHeartbeats 4000000 in
theorem ref35_SameTrays (L : List Sht) (ws1 ws2 : List HS) (a1 a2 : Option Addr) (n1 n2 c1 c2 : Nat) (w : World) (h1 : Shp w a1 n1 c1 ws1 L) (h2 : Shp w a2 n2 c2 ws2 L) (hn : L.length ≤ 1000000) :
    Calls Try.prog 21 #[.slice a1 n1 c1, .slice a2 n2 c2] w fun e w' => e = .returned (.bool true) ∧ Below w.heap.size w w' := by
  obtain rfl := h1.n_eq
  obtain rfl := h2.n_eq
  obtain ⟨N, hN⟩ : ∃ N, Hid (L.length = N) := ⟨_, hide rfl⟩
  rw [hN.out] at h1 h2 hn ⊢
  have H1 := hide h1
  have H2 := hide h2
  have dn : ((N : Int) != (N : Int)) = false := by simp
  clear h1 h2
  go_enter Try.func21, Try.ntmps21
  go_wp2_with fail
  go_loopg [5] N (fun gh v w' => ∃ k : Nat, k ≤ N ∧ gh = N - k ∧ v = .int .i64 (k : Int) ∧ Below w.heap.size w w')
  case atStart => exact ⟨0, by omega, by omega, rfl, Below.refl _ _⟩
  case round =>
    obtain ⟨k, hk, hg, rfl, hbw⟩ := hrel
    have HG := hide hg
    clear hg
    by_cases hkl : k < N
    · obtain ⟨s, hs⟩ : ∃ s, L[k]? = some s := ⟨L[k]'(by rw [hN.out]; exact hkl), by simp⟩
      obtain ⟨⟨⟨s0, s1, s2⟩, ⟨s3, s4, s5⟩⟩, hy1, ⟨q0, Q0⟩, ⟨q1, Q1⟩⟩ := (H1.out.below hbw).at_ hs
      obtain ⟨⟨⟨t0, t1, t2⟩, ⟨t3, t4, t5⟩⟩, hy2, ⟨u0, U0⟩, ⟨u1, U1⟩⟩ := (H2.out.below hbw).at_ hs
      have HY1 := hide hy1
      have HY2 := hide hy2
      have H1r := (H1.out.below hbw).top
      have H2r := (H2.out.below hbw).top
      have hE0 := hide (fun (w3 : World) (hb : Below wr.heap.size wr w3) => show Calls Try.prog 32 #[.slice s0 s1 s2, .slice t0 t1 t2] w3 (Still (.bool true) w3) from by
        have h := ref_Equal s.1 s.1 q0 u0 s0 t0 s1 t1 s2 t2 w3 (Q0.below hb) (U0.below hb)
        rw [decide_eq_true rfl] at h
        exact h)
      have hE1 := hide (fun (w3 : World) (hb : Below wr.heap.size wr w3) => show Calls Try.prog 32 #[.slice s3 s4 s5, .slice t3 t4 t5] w3 (Still (.bool true) w3) from by
        have h := ref_Equal s.2 s.2 q1 u1 s3 t3 s4 t4 s5 t5 w3 (Q1.below hb) (U1.below hb)
        rw [decide_eq_true rfl] at h
        exact h)
      have hsh1 : shc ((s0, s1, s2), (s3, s4, s5)) = [.slice s0 s1 s2, .slice s3 s4 s5] := rfl
      have hsh2 : shc ((t0, t1, t2), (t3, t4, t5)) = [.slice t0 t1 t2, .slice t3 t4 t5] := rfl
      clear hy1 hy2 Q0 Q1 U0 U1 hs
      go_wp2_with fail
      --@
      refine wp_region_free 25 [⟨0, 17, [17], fun vs _ => vs = [.slice a1 N c1]⟩, ⟨1, 18, [18], fun vs _ => vs = [.int .i64 (k : Int)]⟩, ⟨2, 19, [19], PtS (.slice s0 s1 s2) (.slice s3 s4 s5)⟩, ⟨3, 20, [20], PtF (.slice s0 s1 s2)⟩, ⟨4, 21, [21], fun vs _ => vs = [.slice s0 s1 s2]⟩, ⟨5, 22, [22], fun vs _ => vs = [.slice a2 N c2]⟩, ⟨6, 23, [23], fun vs _ => vs = [.int .i64 (k : Int)]⟩, ⟨7, 24, [24], PtS (.slice t0 t1 t2) (.slice t3 t4 t5)⟩, ⟨8, 25, [25], PtF (.slice t0 t1 t2)⟩, ⟨9, 26, [26], fun vs _ => vs = [.slice t0 t1 t2]⟩, ⟨10, 27, [27], fun vs _ => vs = [.bool true]⟩, ⟨11, 28, [28], fun vs _ => vs = [.bool false]⟩, ⟨12, 29, [29], fun vs _ => vs = [.bool false]⟩, ⟨13, 30, [30], fun vs _ => vs = [.slice a1 N c1]⟩, ⟨14, 31, [31], fun vs _ => vs = [.int .i64 (k : Int)]⟩, ⟨15, 32, [32], PtS (.slice s0 s1 s2) (.slice s3 s4 s5)⟩, ⟨16, 33, [33], PtF (.slice s3 s4 s5)⟩, ⟨17, 34, [34], fun vs _ => vs = [.slice s3 s4 s5]⟩, ⟨18, 35, [35], fun vs _ => vs = [.slice a2 N c2]⟩, ⟨19, 36, [36], fun vs _ => vs = [.int .i64 (k : Int)]⟩, ⟨20, 37, [37], PtS (.slice t0 t1 t2) (.slice t3 t4 t5)⟩, ⟨21, 38, [38], PtF (.slice t3 t4 t5)⟩, ⟨22, 39, [39], fun vs _ => vs = [.slice t3 t4 t5]⟩, ⟨23, 40, [40], fun vs _ => vs = [.bool true]⟩, ⟨24, 41, [41], fun vs _ => vs = [.bool false]⟩] (by kernel_rfl) (by kernel_rfl) ?_ ?_ ?_
      · simp only [All]
        refine ⟨fun _ _ _ _ h => h, fun _ _ _ _ h => h, ?_, ?_, fun _ _ _ _ h => h, fun _ _ _ _ h => h, fun _ _ _ _ h => h, ?_, ?_, fun _ _ _ _ h => h, fun _ _ _ _ h => h, fun _ _ _ _ h => h, fun _ _ _ _ h => h, fun _ _ _ _ h => h, fun _ _ _ _ h => h, ?_, ?_, fun _ _ _ _ h => h, fun _ _ _ _ h => h, fun _ _ _ _ h => h, ?_, ?_, fun _ _ _ _ h => h, fun _ _ _ _ h => h, fun _ _ _ _ h => h, trivial⟩
        · rintro vs w1 w2 hb ⟨b, o, h1, h2, h3⟩
          exact ⟨b, o, h1, cell_blw h2 hb, cell_blw h3 hb⟩
        · rintro vs w1 w2 hb ⟨b, o, h1, h2⟩
          exact ⟨b, o, h1, cell_blw h2 hb⟩
        · rintro vs w1 w2 hb ⟨b, o, h1, h2, h3⟩
          exact ⟨b, o, h1, cell_blw h2 hb, cell_blw h3 hb⟩
        · rintro vs w1 w2 hb ⟨b, o, h1, h2⟩
          exact ⟨b, o, h1, cell_blw h2 hb⟩
        · rintro vs w1 w2 hb ⟨b, o, h1, h2, h3⟩
          exact ⟨b, o, h1, cell_blw h2 hb, cell_blw h3 hb⟩
        · rintro vs w1 w2 hb ⟨b, o, h1, h2⟩
          exact ⟨b, o, h1, cell_blw h2 hb⟩
        · rintro vs w1 w2 hb ⟨b, o, h1, h2, h3⟩
          exact ⟨b, o, h1, cell_blw h2 hb, cell_blw h3 hb⟩
        · rintro vs w1 w2 hb ⟨b, o, h1, h2⟩
          exact ⟨b, o, h1, cell_blw h2 hb⟩
      · simp only [All]
        refine ⟨?_, ?_, ?_, ?_, ?_, ?_, ?_, ?_, ?_, ?_, ?_, ?_, ?_, ?_, ?_, ?_, ?_, ?_, ?_, ?_, ?_, ?_, ?_, ?_, ?_, trivial⟩
        · intro o ho a' w' hb hfr hdep
          obtain rfl := Option.some.inj ho
          have g0 : a'.tmps[0]?.getD undef = .slice a1 N c1 := by have h := hfr 0 (by kernel_rfl); simpa using h
          clear ho hfr hdep
          go_wp2_with fail
          exact ⟨rfl, _, rfl, Below.refl _ _, rfl⟩
        · intro o ho a' w' hb hfr hdep
          obtain rfl := Option.some.inj ho
          have g5 : a'.tmps[5]?.getD undef = .int .i64 (k : Int) := by have h := hfr 5 (by kernel_rfl); simpa using h
          clear ho hfr hdep
          go_wp2_with fail
          exact ⟨rfl, _, rfl, Below.refl _ _, rfl⟩
        · intro o ho a' w' hb hfr hdep
          obtain rfl := Option.some.inj ho
          have g17 : a'.tmps[17]?.getD undef = .slice a1 N c1 := by have h := hdep 0 _ rfl (by kernel_rfl); simpa using h
          have g18 : a'.tmps[18]?.getD undef = .int .i64 (k : Int) := by have h := hdep 1 _ rfl (by kernel_rfl); simpa using h
          clear ho hfr hdep
          refine idx_sh 19 _ _ _ _ _ ws1 (by show a'.tmps.getD 17 undef = _; simpa using g17) (H1r.below hb) _ _ k (by show a'.tmps.getD 18 undef = _; simpa using g18) rfl _ HY1.out _ _ hsh1 ?_
          intro b o hc0 hc1 hbo
          exact ⟨rfl, _, rfl, Below.refl _ _, b, o, rfl, hc0, hc1⟩
        · intro o ho a' w' hb hfr hdep
          obtain rfl := Option.some.inj ho
          obtain ⟨b19, o19, g19, c19, k19⟩ := hdep 2 _ rfl (by kernel_rfl)
          simp at g19
          clear ho hfr hdep
          go_wp2_with fail
          exact ⟨rfl, _, rfl, Below.refl _ _, b19, o19, rfl, c19⟩
        · intro o ho a' w' hb hfr hdep
          obtain rfl := Option.some.inj ho
          obtain ⟨b20, o20, g20, c20⟩ := hdep 3 _ rfl (by kernel_rfl)
          simp at g20
          clear ho hfr hdep
          have hcl := c20
          go_wp2_with fail
          exact ⟨rfl, _, rfl, Below.refl _ _, rfl⟩
        · intro o ho a' w' hb hfr hdep
          obtain rfl := Option.some.inj ho
          have g1 : a'.tmps[1]?.getD undef = .slice a2 N c2 := by have h := hfr 1 (by kernel_rfl); simpa using h
          clear ho hfr hdep
          go_wp2_with fail
          exact ⟨rfl, _, rfl, Below.refl _ _, rfl⟩
        · intro o ho a' w' hb hfr hdep
          obtain rfl := Option.some.inj ho
          have g5 : a'.tmps[5]?.getD undef = .int .i64 (k : Int) := by have h := hfr 5 (by kernel_rfl); simpa using h
          clear ho hfr hdep
          go_wp2_with fail
          exact ⟨rfl, _, rfl, Below.refl _ _, rfl⟩
        · intro o ho a' w' hb hfr hdep
          obtain rfl := Option.some.inj ho
          have g22 : a'.tmps[22]?.getD undef = .slice a2 N c2 := by have h := hdep 5 _ rfl (by kernel_rfl); simpa using h
          have g23 : a'.tmps[23]?.getD undef = .int .i64 (k : Int) := by have h := hdep 6 _ rfl (by kernel_rfl); simpa using h
          clear ho hfr hdep
          refine idx_sh 24 _ _ _ _ _ ws2 (by show a'.tmps.getD 22 undef = _; simpa using g22) (H2r.below hb) _ _ k (by show a'.tmps.getD 23 undef = _; simpa using g23) rfl _ HY2.out _ _ hsh2 ?_
          intro b o hc0 hc1 hbo
          exact ⟨rfl, _, rfl, Below.refl _ _, b, o, rfl, hc0, hc1⟩
        · intro o ho a' w' hb hfr hdep
          obtain rfl := Option.some.inj ho
          obtain ⟨b24, o24, g24, c24, k24⟩ := hdep 7 _ rfl (by kernel_rfl)
          simp at g24
          clear ho hfr hdep
          go_wp2_with fail
          exact ⟨rfl, _, rfl, Below.refl _ _, b24, o24, rfl, c24⟩
        · intro o ho a' w' hb hfr hdep
          obtain rfl := Option.some.inj ho
          obtain ⟨b25, o25, g25, c25⟩ := hdep 8 _ rfl (by kernel_rfl)
          simp at g25
          clear ho hfr hdep
          have hcl := c25
          go_wp2_with fail
          exact ⟨rfl, _, rfl, Below.refl _ _, rfl⟩
        · intro o ho a' w' hb hfr hdep
          obtain rfl := Option.some.inj ho
          have g21 : a'.tmps[21]?.getD undef = .slice s0 s1 s2 := by have h := hdep 4 _ rfl (by kernel_rfl); simpa using h
          have g26 : a'.tmps[26]?.getD undef = .slice t0 t1 t2 := by have h := hdep 9 _ rfl (by kernel_rfl); simpa using h
          clear ho hfr hdep
          go_wp2_with (go_at_call 32; refine (hE0.out _ hb).mono ?_; rintro e w2 ⟨rfl, n2, rfl⟩)
          exact ⟨rfl, _, rfl, Still.below _, rfl⟩
        · intro o ho a' w' hb hfr hdep
          obtain rfl := Option.some.inj ho
          have g27 : a'.tmps[27]?.getD undef = .bool true := by have h := hdep 10 _ rfl (by kernel_rfl); simpa using h
          clear ho hfr hdep
          go_wp2_with fail
          exact ⟨rfl, _, rfl, Below.refl _ _, rfl⟩
        · intro o ho a' w' hb hfr hdep
          obtain rfl := Option.some.inj ho
          have g28 : a'.tmps[28]?.getD undef = .bool false := by have h := hdep 11 _ rfl (by kernel_rfl); simpa using h
          clear ho hfr hdep
          go_wp2_with fail
          exact ⟨rfl, _, rfl, Below.refl _ _, rfl⟩
        · intro o ho a' w' hb hfr hdep
          obtain rfl := Option.some.inj ho
          have g0 : a'.tmps[0]?.getD undef = .slice a1 N c1 := by have h := hfr 0 (by kernel_rfl); simpa using h
          have g29 : a'.tmps[29]?.getD undef = .bool false := by have h := hdep 12 _ rfl (by kernel_rfl); simpa using h
          have q29 := opt_bool g29
          clear ho hfr hdep
          refine unguard_any (by simp [Region.wanted, yielded, q29]) ?_
          go_wp2_with fail
          exact ⟨rfl, _, rfl, Below.refl _ _, rfl⟩
        · intro o ho a' w' hb hfr hdep
          obtain rfl := Option.some.inj ho
          have g5 : a'.tmps[5]?.getD undef = .int .i64 (k : Int) := by have h := hfr 5 (by kernel_rfl); simpa using h
          have g29 : a'.tmps[29]?.getD undef = .bool false := by have h := hdep 12 _ rfl (by kernel_rfl); simpa using h
          have q29 := opt_bool g29
          clear ho hfr hdep
          refine unguard_any (by simp [Region.wanted, yielded, q29]) ?_
          go_wp2_with fail
          exact ⟨rfl, _, rfl, Below.refl _ _, rfl⟩
        · intro o ho a' w' hb hfr hdep
          obtain rfl := Option.some.inj ho
          have g30 : a'.tmps[30]?.getD undef = .slice a1 N c1 := by have h := hdep 13 _ rfl (by kernel_rfl); simpa using h
          have g31 : a'.tmps[31]?.getD undef = .int .i64 (k : Int) := by have h := hdep 14 _ rfl (by kernel_rfl); simpa using h
          have g29 : a'.tmps[29]?.getD undef = .bool false := by have h := hdep 12 _ rfl (by kernel_rfl); simpa using h
          have q29 := opt_bool g29
          clear ho hfr hdep
          refine unguard_any (by simp [Region.wanted, yielded, q29]) ?_
          refine idx_sh 32 _ _ _ _ _ ws1 (by show a'.tmps.getD 30 undef = _; simpa using g30) (H1r.below hb) _ _ k (by show a'.tmps.getD 31 undef = _; simpa using g31) rfl _ HY1.out _ _ hsh1 ?_
          intro b o hc0 hc1 hbo
          exact ⟨rfl, _, rfl, Below.refl _ _, b, o, rfl, hc0, hc1⟩
        · intro o ho a' w' hb hfr hdep
          obtain rfl := Option.some.inj ho
          obtain ⟨b32, o32, g32, c32, k32⟩ := hdep 15 _ rfl (by kernel_rfl)
          simp at g32
          have g29 : a'.tmps[29]?.getD undef = .bool false := by have h := hdep 12 _ rfl (by kernel_rfl); simpa using h
          have q29 := opt_bool g29
          clear ho hfr hdep
          refine unguard_any (by simp [Region.wanted, yielded, q29]) ?_
          go_wp2_with fail
          exact ⟨rfl, _, rfl, Below.refl _ _, b32, o32 + 1, rfl, k32⟩
        · intro o ho a' w' hb hfr hdep
          obtain rfl := Option.some.inj ho
          obtain ⟨b33, o33, g33, c33⟩ := hdep 16 _ rfl (by kernel_rfl)
          simp at g33
          have g29 : a'.tmps[29]?.getD undef = .bool false := by have h := hdep 12 _ rfl (by kernel_rfl); simpa using h
          have q29 := opt_bool g29
          clear ho hfr hdep
          refine unguard_any (by simp [Region.wanted, yielded, q29]) ?_
          have hcl := c33
          go_wp2_with fail
          exact ⟨rfl, _, rfl, Below.refl _ _, rfl⟩
        · intro o ho a' w' hb hfr hdep
          obtain rfl := Option.some.inj ho
          have g1 : a'.tmps[1]?.getD undef = .slice a2 N c2 := by have h := hfr 1 (by kernel_rfl); simpa using h
          have g29 : a'.tmps[29]?.getD undef = .bool false := by have h := hdep 12 _ rfl (by kernel_rfl); simpa using h
          have q29 := opt_bool g29
          clear ho hfr hdep
          refine unguard_any (by simp [Region.wanted, yielded, q29]) ?_
          go_wp2_with fail
          exact ⟨rfl, _, rfl, Below.refl _ _, rfl⟩
        · intro o ho a' w' hb hfr hdep
          obtain rfl := Option.some.inj ho
          have g5 : a'.tmps[5]?.getD undef = .int .i64 (k : Int) := by have h := hfr 5 (by kernel_rfl); simpa using h
          have g29 : a'.tmps[29]?.getD undef = .bool false := by have h := hdep 12 _ rfl (by kernel_rfl); simpa using h
          have q29 := opt_bool g29
          clear ho hfr hdep
          refine unguard_any (by simp [Region.wanted, yielded, q29]) ?_
          go_wp2_with fail
          exact ⟨rfl, _, rfl, Below.refl _ _, rfl⟩
        · intro o ho a' w' hb hfr hdep
          obtain rfl := Option.some.inj ho
          have g35 : a'.tmps[35]?.getD undef = .slice a2 N c2 := by have h := hdep 18 _ rfl (by kernel_rfl); simpa using h
          have g36 : a'.tmps[36]?.getD undef = .int .i64 (k : Int) := by have h := hdep 19 _ rfl (by kernel_rfl); simpa using h
          have g29 : a'.tmps[29]?.getD undef = .bool false := by have h := hdep 12 _ rfl (by kernel_rfl); simpa using h
          have q29 := opt_bool g29
          clear ho hfr hdep
          refine unguard_any (by simp [Region.wanted, yielded, q29]) ?_
          refine idx_sh 37 _ _ _ _ _ ws2 (by show a'.tmps.getD 35 undef = _; simpa using g35) (H2r.below hb) _ _ k (by show a'.tmps.getD 36 undef = _; simpa using g36) rfl _ HY2.out _ _ hsh2 ?_
          intro b o hc0 hc1 hbo
          exact ⟨rfl, _, rfl, Below.refl _ _, b, o, rfl, hc0, hc1⟩
        · intro o ho a' w' hb hfr hdep
          obtain rfl := Option.some.inj ho
          obtain ⟨b37, o37, g37, c37, k37⟩ := hdep 20 _ rfl (by kernel_rfl)
          simp at g37
          have g29 : a'.tmps[29]?.getD undef = .bool false := by have h := hdep 12 _ rfl (by kernel_rfl); simpa using h
          have q29 := opt_bool g29
          clear ho hfr hdep
          refine unguard_any (by simp [Region.wanted, yielded, q29]) ?_
          go_wp2_with fail
          exact ⟨rfl, _, rfl, Below.refl _ _, b37, o37 + 1, rfl, k37⟩
        · intro o ho a' w' hb hfr hdep
          obtain rfl := Option.some.inj ho
          obtain ⟨b38, o38, g38, c38⟩ := hdep 21 _ rfl (by kernel_rfl)
          simp at g38
          have g29 : a'.tmps[29]?.getD undef = .bool false := by have h := hdep 12 _ rfl (by kernel_rfl); simpa using h
          have q29 := opt_bool g29
          clear ho hfr hdep
          refine unguard_any (by simp [Region.wanted, yielded, q29]) ?_
          have hcl := c38
          go_wp2_with fail
          exact ⟨rfl, _, rfl, Below.refl _ _, rfl⟩
        · intro o ho a' w' hb hfr hdep
          obtain rfl := Option.some.inj ho
          have g34 : a'.tmps[34]?.getD undef = .slice s3 s4 s5 := by have h := hdep 17 _ rfl (by kernel_rfl); simpa using h
          have g39 : a'.tmps[39]?.getD undef = .slice t3 t4 t5 := by have h := hdep 22 _ rfl (by kernel_rfl); simpa using h
          have g29 : a'.tmps[29]?.getD undef = .bool false := by have h := hdep 12 _ rfl (by kernel_rfl); simpa using h
          have q29 := opt_bool g29
          clear ho hfr hdep
          refine unguard_any (by simp [Region.wanted, yielded, q29]) ?_
          go_wp2_with (go_at_call 32; refine (hE1.out _ hb).mono ?_; rintro e w2 ⟨rfl, n2, rfl⟩)
          exact ⟨rfl, _, rfl, Still.below _, rfl⟩
        · intro o ho a' w' hb hfr hdep
          obtain rfl := Option.some.inj ho
          have g40 : a'.tmps[40]?.getD undef = .bool true := by have h := hdep 23 _ rfl (by kernel_rfl); simpa using h
          have g29 : a'.tmps[29]?.getD undef = .bool false := by have h := hdep 12 _ rfl (by kernel_rfl); simpa using h
          have q29 := opt_bool g29
          clear ho hfr hdep
          refine unguard_any (by simp [Region.wanted, yielded, q29]) ?_
          go_wp2_with fail
          exact ⟨rfl, _, rfl, Below.refl _ _, rfl⟩
      · intro gg w5 hbl hp'
        have p29 := hp' 12 _ rfl
        have p41 := hp' 24 _ rfl
        clear hp'
        simp at p29 p41
        simp only [List.drop_succ_cons, List.drop_zero, List.map_cons, List.map_nil, putAll, Act.put, List.setIfInBounds_toArray, List.set_cons_succ, List.set_cons_zero, List.cons_append, List.nil_append, p29, p41]
        clear p29 p41
        have hb5 := hbw.trans (hbl.mono hbw.size)
        go_wp2
        go_roundg (N - (k + 1))
        case measure => have := HG.out; omega
        case rel => exact ⟨k + 1, by omega, rfl, by go_num, hb5⟩
    · obtain rfl : k = N := by omega
      go_wp2_with fail
      go_ret
      exact ⟨rfl, hbw⟩
end Go.Proofs.Ytdeknimelkdaeaa
end
