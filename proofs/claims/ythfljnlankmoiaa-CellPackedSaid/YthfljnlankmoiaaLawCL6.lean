/- The contracts of the functions that the law reaches, joined into one text. -/
import Derived.Test.YthfljnlankmoiaaBaseC22C
import Derived.OpenShut
import Derived.Deep.Slices
import Derived.Deep.Strs
import Derived.SizedLaws

/- the text Row2 -/
section
/- How the arguments of a law read: slices of integers, of strings, of arrays of integers, with the form's own reach. No program. -/
namespace Go.Dx
open Go.RowKit Go.WideShapes Go.ChangeShapes Go.Deep

/-- no part is longer than the form lets it be -/
def Sized {H : Type} (P : Program) (t : TypeId) (d : DataW H) : Prop := ∀ n ∈ d.weights P t, n ≤ reachBytes
section
variable {H : Type} {enc : TypeId × Value → H} {P : Program} {w : World}
theorem sized_at {ts : List TypeId} {ds : List (DataW H)} (hwt : (DataW.weightsEach P ts ds).all (· ≤ reachBytes) = true) (j : Nat) {t : TypeId} {d : DataW H} (ht : ts[j]? = some t) (hd : ds[j]? = some d) : Sized P t d :=
  fun n hn => by simpa using List.all_eq_true.1 hwt _ (DataW.weights_mem_each ht hd n hn)
theorem sized_all {e : TypeId} : ∀ {l : List (DataW H)} {d : DataW H}, d ∈ l → ∀ n ∈ d.weights P e, n ∈ DataW.weightsAll P e l
  | x :: l, d, hd, n, hn => by
    simp only [DataW.weightsAll, List.mem_append]
    rcases List.mem_cons.1 hd with rfl | h
    · exact .inl hn
    · exact .inr (sized_all h n hn)
theorem Sized.slice {t e : TypeId} {elems spare : List (DataW H)} (h : Sized P t (.slice elems spare)) (hu : P.underlying t = some (.slice e)) :
    (elems.length + spare.length) * P.bytesOf e ≤ reachBytes ∧ (∀ d ∈ elems, Sized P e d) :=
  ⟨h _ (by simp [DataW.weights, hu]), fun d hd n hn => h n (by simp only [DataW.weights, hu, List.mem_cons, List.mem_append]; exact .inr (.inl (sized_all hd n hn)))⟩
theorem Sized.string {t : TypeId} {b : List UInt8} (h : Sized P t (DataW.lit (H := H) (.string b))) : b.length ≤ reachBytes := h _ (by simp [DataW.weights])

theorem add_cells {a : Addr} {n : Nat} : a.add n = a.add n := rfl

theorem trod_ints {t e : TypeId} {k : IntKind} (ht : P.underlying t = some (.slice e)) (he : P.underlying e = some (.int k)) (hc : P.cellsOf e = 1) (hb : 0 < P.bytesOf e) {a : Option Addr} {len cap : Nat} {d : DataW H} {p : List MemPlace}
    (hs : Sized P t d) (h : DataW.Trod enc P w 0 (fun _ => true) true t (.slice a len cap) d p) :
    ∃ zs : List Int, Sl w 1 a len cap (zs.map (Value.int k)) ∧ (∀ n ∈ zs, (Lit.int k n).wf = true) ∧ len ≤ reachBytes := by
  obtain ⟨fuel, hf⟩ := h
  rcases open_ints ht he hc hf with ⟨hcs, _⟩ | ⟨x, l, c, zs, hcs, _, hl, hm, hz, hx, hcell, hwz⟩
  · simp [Value.cells] at hcs
    obtain ⟨rfl, rfl, rfl⟩ := hcs
    exact ⟨[], Sl.empty w 1, by simp, Nat.zero_le _⟩
  · simp [Value.cells] at hcs
    obtain ⟨rfl, rfl, rfl⟩ := hcs
    have hz2 : zs.length = cap := by simpa using hz
    have hd := congrArg Prod.fst hx
    simp only at hd
    subst hd
    refine ⟨zs.take len, ⟨by simp; omega, hl, hm, (fun h => by cases h), ?_⟩, fun n hn => hwz n (List.mem_of_mem_take hn), ?_⟩
    · intro q hq j u hj
      cases hq
      rw [List.getElem?_map, List.getElem?_take] at hj
      by_cases hlt : j < len
      · rw [if_pos hlt] at hj
        have hjz : j < zs.length := by omega
        rw [List.getElem?_eq_getElem hjz] at hj
        simp at hj
        rw [hcell j hjz, ← hj, List.getD_eq_getElem?_getD, List.getElem?_eq_getElem hjz]
        rfl
      · rw [if_neg hlt] at hj; cases hj
    · have hsz := (hs.slice ht).1
      rw [show ∀ (k : IntKind) (l : List Int), (lits (H := H) k l).length = l.length from fun k l => by simp [lits], List.length_take, show min len zs.length = len by omega] at hsz
      exact Nat.le_trans (Nat.le_trans (Nat.le_add_right _ _) (Nat.le_mul_of_pos_right _ hb)) hsz

theorem trod_bytes {t e : TypeId} (ht : P.underlying t = some (.slice e)) (he : P.underlying e = some (.int .u8)) (hc : P.cellsOf e = 1) (hb : 0 < P.bytesOf e) {a : Option Addr} {len cap : Nat} {d : DataW H} {p : List MemPlace}
    (hs : Sized P t d) (h : DataW.Trod enc P w 0 (fun _ => true) true t (.slice a len cap) d p) :
    ∃ l : List UInt8, Sl w 1 a len cap (l.map B8) ∧ len ≤ reachBytes := by
  obtain ⟨zs, h1, h2, h3⟩ := trod_ints ht he hc hb hs h
  refine ⟨zs.map fun n => UInt8.ofNat n.toNat, ?_, h3⟩
  have e : (zs.map fun n => UInt8.ofNat n.toNat).map B8 = zs.map (Value.int .u8) := by
    rw [List.map_map]
    apply List.map_congr_left
    intro n hn
    have hb : 0 ≤ n ∧ n ≤ 255 := bounds_u8 (h2 n hn)
    show Value.int .u8 ((UInt8.ofNat n.toNat).toNat : Int) = _
    rw [UInt8.toNat_ofNat']
    congr 1
    omega
  rw [e]
  exact h1
theorem trod_i64s {t e : TypeId} (ht : P.underlying t = some (.slice e)) (he : P.underlying e = some (.int .i64)) (hc : P.cellsOf e = 1) (hb : 0 < P.bytesOf e) {a : Option Addr} {len cap : Nat} {d : DataW H} {p : List MemPlace}
    (hs : Sized P t d) (h : DataW.Trod enc P w 0 (fun _ => true) true t (.slice a len cap) d p) :
    ∃ l : List Int, Sl w 1 a len cap (l.map I64) ∧ (∀ n ∈ l, -9223372036854775808 ≤ n ∧ n ≤ 9223372036854775807) ∧ len ≤ reachBytes := by
  obtain ⟨zs, h1, h2, h3⟩ := trod_ints ht he hc hb hs h
  exact ⟨zs, h1, fun n hn => bounds_i64 (h2 n hn), h3⟩

theorem trod_strs {t e : TypeId} (ht : P.underlying t = some (.slice e)) (he : P.underlying e = some .string) (hc : P.cellsOf e = 1) (hb : 0 < P.bytesOf e) {a : Option Addr} {len cap : Nat} {d : DataW H} {p : List MemPlace}
    (hs : Sized P t d) (h : DataW.Trod enc P w 0 (fun _ => true) true t (.slice a len cap) d p) :
    ∃ l : List ByteArray, Sl w 1 a len cap (l.map Value.string) ∧ (∀ s ∈ l, s.size ≤ reachBytes) ∧ len ≤ reachBytes ∧ (l = [] ∨ ∃ sp, d = .slice (l.map fun s => .lit (.string s.data.toList)) sp) := by
  obtain ⟨fuel, hf⟩ := h
  rcases open_strs ht he hc hf with ⟨hcs, _⟩ | ⟨x, l, c, m, Sx, hcs, _, hl, hm, hmm, hx, hcell⟩
  · simp [Value.cells] at hcs
    obtain ⟨rfl, rfl, rfl⟩ := hcs
    exact ⟨[], Sl.empty w 1, by simp, Nat.zero_le _, .inl rfl⟩
  · simp [Value.cells] at hcs
    obtain ⟨rfl, rfl, rfl⟩ := hcs
    simp only [if_true] at hmm
    subst hmm
    have hd := congrArg Prod.fst hx
    simp only at hd
    subst hd
    obtain ⟨z1, z2⟩ := hs.slice ht
    refine ⟨(List.range len).map Sx, ⟨by simp, hl, hm, (fun h => by cases h), ?_⟩, ?_, ?_, .inr ⟨_, by rw [List.map_map]; rfl⟩⟩
    · intro q hq j u hj
      cases hq
      have hlt : j < len := by have := (List.getElem?_eq_some_iff.1 hj).1; simpa using this
      rw [(hcell j (by omega)).1]
      simp [hlt] at hj
      rw [hj]
    · intro s hs
      obtain ⟨i, hi, rfl⟩ := List.mem_map.1 hs
      have := Sized.string (z2 _ (List.mem_map.2 ⟨i, hi, rfl⟩))
      rwa [show (Sx i).data.toList.length = (Sx i).size from Array.length_toList] at this
    · simp only [List.length_map, List.length_range] at z1
      exact Nat.le_trans (Nat.le_trans (Nat.le_add_right _ _) (Nat.le_mul_of_pos_right _ hb)) z1

theorem trod_arr {t e n : Nat} {k : IntKind} {base : Nat} {spare : Nat → Bool} {held : Bool} {fuel : Nat} {cs : List Value} {x : DataW H × List MemPlace} (ht : P.underlying t = some (.array n e)) (he : P.underlying e = some (.int k)) (hc : P.cellsOf e = 1) (hct : P.cellsOf t = n)
    (h : DataW.trod enc P w base spare held fuel t cs = some x) : cs.length = n ∧ ∀ i, i < n → ∃ z, cs[i]? = some (.int k z) ∧ (Lit.int k z).wf = true := by
  obtain ⟨xs, m, _, _, hl, hxl, hi⟩ := DataW.trod_array ht h
  rw [hct] at hl
  refine ⟨hl, fun i hin => ?_⟩
  have h1 := hi i hin
  rw [hc, Nat.mul_one, List.getElem?_eq_getElem (by omega)] at h1
  obtain ⟨z, hz, _, hw⟩ := DataW.trod_int he h1
  refine ⟨z, ?_, hw⟩
  have := congrArg (·[0]?) hz
  simpa [List.getElem?_take, List.getElem?_drop] using this

theorem trod_arrs {t e q n : Nat} {k : IntKind} (ht : P.underlying t = some (.slice e)) (he : P.underlying e = some (.array n q)) (hq : P.underlying q = some (.int k)) (hc : P.cellsOf q = 1) (hce : P.cellsOf e = n) (hb : 0 < P.bytesOf e) (hn0 : 0 < n)
    {a : Option Addr} {len cap : Nat} {d : DataW H} {p : List MemPlace} (hs : Sized P t d) (h : DataW.Trod enc P w 0 (fun _ => true) true t (.slice a len cap) d p) :
    ∃ zs : List Int, Sl w n a len cap (zs.map (Value.int k)) ∧ (∀ n ∈ zs, (Lit.int k n).wf = true) ∧ len ≤ reachBytes := by
  obtain ⟨fuel, hf⟩ := h
  rcases open_slice ht hf with ⟨hcs, _⟩ | ⟨x, l, c, m, g, D, Pl, hcs, _, hl, hm, hmm, hx, hel⟩
  · simp [Value.cells] at hcs
    obtain ⟨rfl, rfl, rfl⟩ := hcs
    exact ⟨[], Sl.empty w n, by simp, Nat.zero_le _⟩
  · simp [Value.cells] at hcs
    obtain ⟨rfl, rfl, rfl⟩ := hcs
    simp only [if_true] at hmm
    subst hmm
    have hd := congrArg Prod.fst hx
    simp only at hd
    subst hd
    obtain ⟨z1, z2⟩ := hs.slice ht
    have each : ∀ j, j < len * n → ∃ z, w.cell? (x.add j) = some (.int k z) ∧ (Lit.int k z).wf = true := by
      intro j hj
      have hi : j / n < len := (Nat.div_lt_iff_lt_mul hn0).2 hj
      obtain ⟨cs', h1, h2⟩ := hel (j / n) (by omega)
      rw [hce] at h1
      obtain ⟨_, hcl, hat⟩ := World.cells?_some h1
      have hr : j % n < n := Nat.mod_lt _ hn0
      obtain ⟨z, hz, hwz⟩ := (trod_arr he hq hc hce h2).2 (j % n) hr
      refine ⟨z, ?_, hwz⟩
      have := hat (j % n) hr
      rw [sl_add, Nat.div_add_mod'] at this
      rw [this, hz]
    obtain ⟨Z, hZ⟩ := choose_lt each
    refine ⟨(List.range (len * n)).map Z, ⟨by simp, hl, hm, (fun h => by cases h), ?_⟩, ?_, ?_⟩
    · intro q hq j u hj
      cases hq
      have hlt : j < len * n := by have := (List.getElem?_eq_some_iff.1 hj).1; simpa using this
      rw [(hZ j hlt).1]
      simp [hlt] at hj
      rw [hj]
    · intro z hz
      obtain ⟨i, hi, rfl⟩ := List.mem_map.1 hz
      exact (hZ i (List.mem_range.1 hi)).2
    · simp only [List.length_map, List.length_range] at z1
      exact Nat.le_trans (Nat.le_trans (Nat.le_add_right _ _) (Nat.le_mul_of_pos_right _ hb)) z1
theorem bytes_of_wf {zs : List Int} (h : ∀ n ∈ zs, (Lit.int .u8 n).wf = true) : ∃ l : List UInt8, l.map B8 = zs.map (Value.int .u8) := by
  refine ⟨zs.map fun n => UInt8.ofNat n.toNat, ?_⟩
  rw [List.map_map]
  apply List.map_congr_left
  intro n hn
  have hb : 0 ≤ n ∧ n ≤ 255 := bounds_u8 (h n hn)
  show Value.int .u8 ((UInt8.ofNat n.toNat).toNat : Int) = _
  rw [UInt8.toNat_ofNat']
  congr 1
  omega
end
end Go.Dx
end

/- the text CP5 -/
section
/- A page without what counts as nothing: zeros at the ends of lines, empty lines at the end. Plain; no program in sight. -/
set_option linter.unusedVariables false
namespace Go.Proofs.Ythfljnlankmoiaa

def trimEnd {α : Type} [DecidableEq α] (z : α) : List α → List α
  | [] => []
  | x :: l => if trimEnd z l = [] ∧ x = z then [] else x :: trimEnd z l
section
variable {α : Type} [DecidableEq α] {z : α}
theorem trim_nil_iff : ∀ (l : List α), trimEnd z l = [] ↔ ∀ k : Nat, l[k]?.getD z = z := by
  intro l
  induction l with
  | nil => simp [trimEnd]
  | cons x l ih =>
    unfold trimEnd
    constructor
    · intro h
      split at h
      · rename_i hh
        intro k
        cases k with
        | zero => simp [hh.2]
        | succ k => simpa using (ih.1 hh.1) k
      · cases h
    · intro h
      have h0 : x = z := by simpa using h 0
      have h1 : trimEnd z l = [] := ih.2 (fun k => by simpa using h (k + 1))
      rw [if_pos ⟨h1, h0⟩]
theorem trim_cons_eq (x y : α) (l m : List α) : trimEnd z (x :: l) = trimEnd z (y :: m) ↔ x = y ∧ trimEnd z l = trimEnd z m := by
  show (if trimEnd z l = [] ∧ x = z then [] else x :: trimEnd z l) = (if trimEnd z m = [] ∧ y = z then [] else y :: trimEnd z m) ↔ _
  split <;> split
  · rename_i h1 h2
    exact ⟨fun _ => ⟨h1.2.trans h2.2.symm, h1.1.trans h2.1.symm⟩, fun _ => rfl⟩
  · rename_i h1 h2
    refine ⟨fun h => (by cases h), fun h => absurd ⟨h.2.symm.trans h1.1, h.1.symm.trans h1.2⟩ h2⟩
  · rename_i h1 h2
    refine ⟨fun h => (by cases h), fun h => absurd ⟨h.2.trans h2.1, h.1.trans h2.2⟩ h1⟩
  · exact ⟨fun h => (by injection h with a b; exact ⟨a, b⟩), fun h => by rw [h.1, h.2]⟩
theorem trim_eq_iff : ∀ (l m : List α), trimEnd z l = trimEnd z m ↔ ∀ k : Nat, l[k]?.getD z = m[k]?.getD z := by
  intro l
  induction l with
  | nil =>
    intro m
    have := trim_nil_iff (z := z) m
    constructor
    · intro h k
      rw [this.1 h.symm k]; rfl
    · intro h
      exact (this.2 (fun k => (h k).symm)).symm
  | cons x l ih =>
    intro m
    cases m with
    | nil =>
      have := trim_nil_iff (z := z) (x :: l)
      constructor
      · intro h k
        rw [this.1 h k]; rfl
      · intro h
        exact this.2 (fun k => h k)
    | cons y m =>
      rw [trim_cons_eq, ih m]
      constructor
      · rintro ⟨rfl, h⟩ k
        cases k with
        | zero => rfl
        | succ k => simpa using h k
      · intro h
        exact ⟨by simpa using h 0, fun k => by simpa using h (k + 1)⟩
theorem trim_snoc_z (l : List α) : trimEnd z (l ++ [z]) = trimEnd z l := by
  rw [trim_eq_iff]
  intro k
  rw [List.getElem?_append]
  split
  · rfl
  · rename_i h
    rw [List.getElem?_eq_none (by omega : l.length ≤ k)]
    cases e : k - l.length with
    | zero => rfl
    | succ j => rfl
theorem trim_snoc_ne {x : α} (h : x ≠ z) : ∀ l : List α, trimEnd z (l ++ [x]) = l ++ [x] := by
  intro l
  induction l with
  | nil => simp [trimEnd, h]
  | cons y l ih =>
    rw [List.cons_append]
    unfold trimEnd
    rw [ih, if_neg (by simp)]
theorem trim_len (l : List α) : (trimEnd z l).length ≤ l.length := by
  induction l with
  | nil => simp [trimEnd]
  | cons x l ih => unfold trimEnd; split <;> simp <;> omega
end
def plainL (p : List (List UInt8)) : List (List UInt8) := trimEnd [] (p.map (trimEnd 0))
theorem plain_eq_iff (p q : List (List UInt8)) : plainL p = plainL q ↔ ∀ Y X, pcell p Y X = pcell q Y X := by
  unfold plainL
  rw [trim_eq_iff]
  have key : ∀ (r : List (List UInt8)) Y, (r.map (trimEnd 0))[Y]?.getD [] = trimEnd 0 (r.getD Y []) := by
    intro r Y
    rw [List.getElem?_map, List.getD_eq_getElem?_getD]
    cases r[Y]? <;> rfl
  constructor
  · intro h Y X
    have := h Y
    rw [key, key, trim_eq_iff] at this
    unfold pcell
    rw [List.getD_eq_getElem?_getD, List.getD_eq_getElem?_getD]
    exact this X
  · intro h Y
    rw [key, key, trim_eq_iff]
    intro X
    have := h Y X
    unfold pcell at this
    rw [List.getD_eq_getElem?_getD, List.getD_eq_getElem?_getD] at this
    exact this
def fitsB (p : List (List UInt8)) (long : List UInt8 → Bool) : Bool := decide (p.length ≤ 25) && !p.any long
end Go.Proofs.Ythfljnlankmoiaa
end

/- the text C28 -/
section
namespace Go.Proofs.Ythfljnlankmoiaa
open Go.RowKit Go.Dx

/-- a line that does not fit -/
def longRow (r : List UInt8) : Bool := decide (40 < r.length) || !validB r
def fits (p : List (List UInt8)) : Bool := fitsB p longRow

set_option maxHeartbeats 400000 in
theorem cell_Fits1 (l : List UInt8) (a : Option Addr) (n c : Nat) (w : World) (hs : Sl w 1 a n c (l.map B8)) :
    Calls Try.prog 66 #[.slice a n c] w fun e w' => e = .returned (.bool (longRow l)) ∧ w = w' := by
  unfold longRow
  have hc := cell_Valid l a n c w hs
  obtain rfl := hs.n_eq
  generalize validB l = v at hc ⊢
  by_cases h : 40 < l.length
  · have e : decide (40 < (l.length : Int)) = true := decide_eq_true (by omega)
    have e2 : decide (40 < l.length) = true := decide_eq_true h
    go_enter Try.func66, Try.ntmps66
    go_wp2_with fail
    go_ret
    exact ⟨by simp [e2], rfl⟩
  · have e : decide (40 < (l.length : Int)) = false := decide_eq_false (by omega)
    have e2 : decide (40 < l.length) = false := decide_eq_false h
    go_enter Try.func66, Try.ntmps66
    go_wp2_with (go_at_call 16; refine hc.mono ?_; rintro e w2 ⟨rfl, rfl⟩)
    go_ret
    exact ⟨by simp [e2], rfl⟩

set_option maxHeartbeats 400000 in
theorem index_pages (p : List (List UInt8)) (hs : List Hd) (a : Option Addr) (n c : Nat) (w : World) (hp : Pg w a n c hs p) :
    Calls Try.prog 74 #[.slice a n c, fnv 66] w fun e w' => ∃ i : Int, e = .returned (.int .i64 i) ∧ decide (0 ≤ i) = p.any longRow ∧ w = w' := by
  unfold fnv
  obtain rfl := hp.n_eq
  have hm1 := Nat.le_trans hp.top.le hp.top.cap
  unfold maxLen at hm1
  go_enter Try.func74, Try.ntmps74
  go_wp2_with fail
  go_loopg [8] p.length (fun g i w' => ∃ (k : Nat), k ≤ p.length ∧ g = p.length - k ∧ (p.take k).any longRow = false ∧ i = .int .i64 k ∧ w = w')
  case atStart => exact ⟨0, by omega, by omega, rfl, rfl, rfl⟩
  case round =>
    obtain ⟨k, hk, hg, ht, rfl, rfl⟩ := hrel
    have HG := hide hg
    have HT := hide ht
    clear hg ht
    by_cases hkl : k < p.length
    · obtain ⟨x, hx⟩ : ∃ x, p[k]? = some x := ⟨p[k], by simp [hkl]⟩
      obtain ⟨a', c', hu, hsx⟩ := hp.get hx
      have HH := hide hx
      have HU := hide hu
      clear hx hu
      cases hq : longRow x
      · have HN := hide (any_take_no HH.out HT.out hq)
        have hc := cell_Fits1 x _ _ _ w hsx
        rw [hq] at hc
        clear hq
        go_wp2_with (first
          | (with_reducible refine idx_p 14 _ _ _ _ _ hs rfl hp.top _ _ k rfl rfl _ HU.out ?_; intro b o hcell hbo)
          | (go_at_call 66; refine hc.mono ?_; rintro e w2 ⟨rfl, rfl⟩))
        go_roundg (p.length - (k + 1))
        case measure => have := HG.out; omega
        case rel => exact ⟨k + 1, by omega, rfl, HN.out, by go_num, rfl⟩
      · have HN := hide (any_of_get HH.out hq)
        have hc := cell_Fits1 x _ _ _ w hsx
        rw [hq] at hc
        clear hq
        go_wp2_with (first
          | (with_reducible refine idx_p 14 _ _ _ _ _ hs rfl hp.top _ _ k rfl rfl _ HU.out ?_; intro b o hcell hbo)
          | (go_at_call 66; refine hc.mono ?_; rintro e w2 ⟨rfl, rfl⟩))
        go_ret
        exact ⟨_, rfl, by rw [HN.out]; exact decide_eq_true (by omega), rfl⟩
    · obtain rfl : k = p.length := by omega
      go_wp2
      go_ret
      have := HT.out
      rw [List.take_length] at this
      exact ⟨_, rfl, by rw [this]; rfl, rfl⟩
set_option maxHeartbeats 400000 in
theorem contains_pages (p : List (List UInt8)) (hs : List Hd) (a : Option Addr) (n c : Nat) (w : World) (hp : Pg w a n c hs p) :
    Calls Try.prog 65 #[.slice a n c, fnv 66] w fun e w' => e = .returned (.bool (p.any longRow)) ∧ w = w' := by
  have hc := index_pages p hs a n c w hp
  unfold fnv at hc ⊢
  go_enter Try.func65, Try.ntmps65
  go_wp2_with (go_at_call 74; refine hc.mono ?_; rintro e w2 ⟨i, rfl, hi, rfl⟩)
  go_ret
  exact ⟨by rw [← hi]; rfl, rfl⟩
set_option maxHeartbeats 400000 in
theorem cell_Fits (p : List (List UInt8)) (hs : List Hd) (a : Option Addr) (n c : Nat) (w : World) (hp : Pg w a n c hs p) :
    Calls Try.prog 40 #[.slice a n c] w fun e w' => e = .returned (.bool (fits p)) ∧ w = w' := by
  unfold fits fitsB
  have hc := contains_pages p hs a n c w hp
  unfold fnv at hc
  obtain rfl := hp.n_eq
  generalize p.any longRow = v at hc ⊢
  by_cases h : p.length ≤ 25
  · have e : decide ((p.length : Int) ≤ 25) = true := decide_eq_true (by omega)
    have e2 : decide (p.length ≤ 25) = true := decide_eq_true h
    go_enter Try.func40, Try.ntmps40
    go_wp2_with (go_at_call 65; refine hc.mono ?_; rintro e w2 ⟨rfl, rfl⟩)
    go_ret
    exact ⟨by simp [e2], rfl⟩
  · have e : decide ((p.length : Int) ≤ 25) = false := decide_eq_false (by omega)
    have e2 : decide (p.length ≤ 25) = false := decide_eq_false h
    go_enter Try.func40, Try.ntmps40
    go_wp2_with fail
    go_ret
    exact ⟨by simp [e2], rfl⟩
theorem longRow_len {x : List UInt8} (h : 40 < x.length) : longRow x = true := by unfold longRow; simp [h]
theorem longRow_of {x : List UInt8} (h : ¬ 40 < x.length) : longRow x = !validB x := by unfold longRow; simp [h]
set_option maxHeartbeats 800000 in
theorem ref_Fits (p : List (List UInt8)) (hs : List Hd) (a : Option Addr) (n c : Nat) (w : World) (hp : Pg w a n c hs p) :
    Calls Try.prog 41 #[.slice a n c] w fun e w' => e = .returned (.bool (fits p)) ∧ w = w' := by
  unfold fits fitsB
  obtain rfl := hp.n_eq
  have hm1 := Nat.le_trans hp.top.le hp.top.cap
  unfold maxLen at hm1
  by_cases h : p.length ≤ 25
  · have HE := hide (decide_eq_true h)
    go_enter Try.func41, Try.ntmps41
    go_wp2_with fail
    go_loopg [3] p.length (fun g i w' => ∃ (k : Nat), k ≤ p.length ∧ g = p.length - k ∧ (p.take k).any longRow = false ∧ i = .int .i64 k ∧ w = w')
    case atStart => exact ⟨0, by omega, by omega, rfl, rfl, rfl⟩
    case round =>
      obtain ⟨k, hk, hg, ht, rfl, rfl⟩ := hrel
      have HG := hide hg
      have HT := hide ht
      clear hg ht
      by_cases hkl : k < p.length
      · obtain ⟨x, hx⟩ : ∃ x, p[k]? = some x := ⟨p[k], by simp [hkl]⟩
        obtain ⟨a', c', hu, hsx⟩ := hp.get hx
        have HH := hide hx
        have HU := hide hu
        clear hx hu
        have hxm := Nat.le_trans hsx.le hsx.cap
        unfold maxLen at hxm
        by_cases h40 : 40 < x.length
        · have HN := hide (any_of_get HH.out (longRow_len h40))
          have e : decide (40 < (x.length : Int)) = true := decide_eq_true (by omega)
          go_wp2_with (with_reducible refine idx_p 15 _ _ _ _ _ hs rfl hp.top _ _ k rfl rfl _ HU.out ?_; intro b o hcell hbo)
          go_ret
          exact ⟨by rw [HN.out, HE.out]; rfl, rfl⟩
        · have HV := longRow_of h40
          have e : decide (40 < (x.length : Int)) = false := decide_eq_false (by omega)
          have hc := ref_Valid x _ _ _ w hsx
          obtain ⟨b1, o1, hab, hb1, hc1⟩ := hp.top.ex (by rw [List.length_map, hp.len]; omega)
          subst hab
          have hx1 : w.cell? ⟨b1, o1 + k, none⟩ = some (.slice a' x.length c') := hc1 k _ HU.out
          clear hc1
          cases hv : validB x
          · rw [hv] at HV hc
            have HN := hide (any_of_get HH.out HV)
            clear hv HV
            go_wp2_with (go_at_call 18; refine hc.mono ?_; rintro e w2 ⟨rfl, rfl⟩)
            go_ret
            exact ⟨by rw [HN.out, HE.out]; rfl, rfl⟩
          · rw [hv] at HV hc
            have HN := hide (any_take_no HH.out HT.out HV)
            clear hv HV
            go_wp2_with (go_at_call 18; refine hc.mono ?_; rintro e w2 ⟨rfl, rfl⟩)
            go_roundg (p.length - (k + 1))
            case measure => have := HG.out; omega
            case rel => exact ⟨k + 1, by omega, rfl, HN.out, by go_num, rfl⟩
      · obtain rfl : k = p.length := by omega
        go_wp2
        go_ret
        have := HT.out
        rw [List.take_length] at this
        exact ⟨by rw [this, HE.out]; rfl, rfl⟩
  · have HE := hide (decide_eq_false h)
    go_enter Try.func41, Try.ntmps41
    go_wp2_with fail
    go_ret
    exact ⟨by rw [HE.out]; rfl, rfl⟩
end Go.Proofs.Ythfljnlankmoiaa
end

/- the text C29 -/
section
namespace Go.Proofs.Ythfljnlankmoiaa
open Go.RowKit Go.Dx

set_option maxHeartbeats 400000 in
theorem eq_bytes (l1 l2 : List UInt8) (a1 a2 : Option Addr) (n1 n2 c1 c2 : Nat) (w : World) (h1 : Sl w 1 a1 n1 c1 (l1.map B8)) (h2 : Sl w 1 a2 n2 c2 (l2.map B8)) :
    Calls Try.prog 64 #[.slice a1 n1 c1, .slice a2 n2 c2] w (Still (.bool (decide (l1 = l2))) w) := by
  obtain rfl := h1.n_eq
  obtain rfl := h2.n_eq
  have hm1 := Nat.le_trans h1.le h1.cap
  have hm2 := Nat.le_trans h2.le h2.cap
  unfold maxLen at hm1 hm2
  by_cases hlen : l1.length = l2.length
  · have hb := eq_nat hlen
    have hle1 : l1.length ≤ l2.length := by omega
    have hle2 : l2.length ≤ l1.length := by omega
    have HL := hide hlen
    clear hlen
    go_enter Try.func64, Try.ntmps64
    go_wp2
    go_loopg [13] l1.length (fun g i w' => ∃ (k n : Nat), k ≤ l1.length ∧ g = l1.length - k ∧ l1.take k = l2.take k ∧ i = .int .i64 k ∧ w' = w.drewN n)
    case atStart => exact ⟨0, 0, by omega, by omega, rfl, rfl, rfl⟩
    case round =>
      obtain ⟨k, nq, hk, hg, ht, rfl, rfl⟩ := hrel
      have HG := hide hg
      have HT := hide ht
      clear hg ht
      by_cases hkl : k < l1.length
      · obtain ⟨b1, o1, rfl, hb1, hc1⟩ := h1.ex (by simp; omega)
        obtain ⟨b2, o2, rfl, hb2, hc2⟩ := h2.ex (by simp; omega)
        obtain ⟨x, hx⟩ : ∃ x, l1[k]? = some x := ⟨l1[k], by simp [hkl]⟩
        obtain ⟨y, hy⟩ : ∃ y, l2[k]? = some y := ⟨l2[k]'(by omega), by simp⟩
        have hx1 : w.cell? ⟨b1, o1 + k, none⟩ = some (.int .u8 (x.toNat : Int)) := hc1 k _ (by rw [List.getElem?_map, hx]; rfl)
        have hy1 : w.cell? ⟨b2, o2 + k, none⟩ = some (.int .u8 (y.toNat : Int)) := hc2 k _ (by rw [List.getElem?_map, hy]; rfl)
        have HX := hide (same_step hx hy HT.out)
        clear hc1 hc2 hx hy
        by_cases hxy : x = y
        · have HE := hide (HX.out.1 hxy)
          subst hxy
          have hn : ((x.toNat : Int) != (x.toNat : Int)) = false := by simp
          go_wp2
          go_quiet (fail)
          go_wp2
          go_roundg (l1.length - (k + 1))
          case measure => have := HG.out; omega
          case rel => exact ⟨k + 1, _, by omega, rfl, HE.out, by go_num, by first | rfl | exact World.drewN_drewN _ _ _⟩
        · have hn : ((x.toNat : Int) != (y.toNat : Int)) = true := neq_nat (fun e => hxy (UInt8.toNat_inj.1 e))
          have HE := hide (ne_of_take (fun e => hxy (HX.out.2 e)))
          have hne : Value.bool (decide (l1 = l2)) = .bool false := by rw [decide_eq_false HE.out]
          have HN := hide hne
          clear hne hxy
          go_wp2
          go_quiet (fail)
          go_wp2
          go_ret
          exact ⟨by rw [HN.out]; rfl, _, World.drewN_drewN _ _ _⟩
      · obtain rfl : k = l1.length := by omega
        go_wp2
        go_ret
        have : l1 = l2 := by have := HT.out; rw [List.take_length, List.take_of_length_le (by omega)] at this; exact this
        exact ⟨by rw [decide_eq_true this]; rfl, _, rfl⟩
  · have hb := neq_nat hlen
    have HN := hide (decide_eq_false (fun e : l1 = l2 => hlen (by rw [e])))
    clear hlen
    go_enter Try.func64, Try.ntmps64
    go_wp2
    go_ret
    exact ⟨by rw [HN.out]; rfl, 0, rfl⟩




theorem cuthi_p {w : World} {ops : Array Oper} {rest : List Oper} {act : Act} {Q : Exit → Act → World → Prop} {ty : TypeId} {pos : String} {after : Array Edge} (d : Nat) (x hi : Operand) (a : Option Addr) (n c : Nat) (hs : List Hd) (hx : act.eval x = .slice a n c) (ht : Sl w 1 a n c (hs.map hv)) (ku : IntKind) (uv : Int) (u : Nat) (hu : act.eval hi = .int ku uv)
    (huv : uv = (u : Int)) (hun : u ≤ n) (hK : Sl w 1 a u c ((hs.take u).map hv) → wpList Try.prog ops Q rest (act.put (some d) (.slice a u c)) w) :
    wpList Try.prog ops Q ({ dst := some d, op := .slice 41 x none (some hi) none, type := ty, pos := pos, after := after, guard := none } :: rest) act w :=
  cut_hi d 41 x hi 23 Try.underlying41 1 size_row a n c _ hx ht ku uv u hu huv hun (fun h => hK (by rw [Nat.mul_one, ← List.map_take] at h; exact h))

set_option maxHeartbeats 400000 in
theorem eqf_pages (p q : List (List UInt8)) (h1 h2 : List Hd) (a1 a2 : Option Addr) (n1 n2 c1 c2 : Nat) (w : World) (hp : Pg w a1 n1 c1 h1 p) (hq : Pg w a2 n2 c2 h2 q) :
    Calls Try.prog 62 #[.slice a1 n1 c1, .slice a2 n2 c2, fnv 64] w fun e w' => e = .returned (.bool (decide (p = q))) ∧ Below w.heap.size w w' := by
  unfold fnv
  obtain rfl := hp.n_eq
  obtain rfl := hq.n_eq
  have hm1 := Nat.le_trans hp.top.le hp.top.cap
  have hm2 := Nat.le_trans hq.top.le hq.top.cap
  unfold maxLen at hm1 hm2
  by_cases hlen : p.length = q.length
  · have hb := eq_nat hlen
    have hle1 : p.length ≤ q.length := by omega
    have hle2 : q.length ≤ p.length := by omega
    have HL := hide hlen
    clear hlen
    go_enter Try.func62, Try.ntmps62
    go_wp2_with fail
    go_loopg [17] p.length (fun g i w' => ∃ (k : Nat), k ≤ p.length ∧ g = p.length - k ∧ p.take k = q.take k ∧ i = .int .i64 k ∧ Below w.heap.size w w')
    case atStart => exact ⟨0, by omega, by omega, rfl, rfl, Below.refl _ _⟩
    case round =>
      obtain ⟨k, hk, hg, ht, rfl, hbk⟩ := hrel
      have HG := hide hg
      have HT := hide ht
      clear hg ht
      by_cases hkl : k < p.length
      · obtain ⟨x, hx⟩ : ∃ x, p[k]? = some x := ⟨p[k], by simp [hkl]⟩
        obtain ⟨y, hy⟩ : ∃ y, q[k]? = some y := ⟨q[k]'(by omega), by simp⟩
        obtain ⟨ax, cx, hux, hsx⟩ := hp.get hx
        obtain ⟨ay, cy, huy, hsy⟩ := hq.get hy
        have HX := hide (same_step' hx hy HT.out)
        have HUX := hide hux
        have HUY := hide huy
        have hcall := (eq_bytes x y _ _ _ _ _ _ wr (hsx.below hbk) (hsy.below hbk)).mono (R' := fun e w' => e = .returned (.bool (decide (x = y))) ∧ Below wr.heap.size wr w') (fun e w' ⟨g1, m, g2⟩ => ⟨g1, g2 ▸ Still.below m⟩)
        have ht1 := hp.top.below hbk
        have ht2 := hq.top.below hbk
        clear hx hy hux huy
        by_cases hxy : x = y
        · have HE := hide (HX.out.1 hxy)
          rw [decide_eq_true hxy] at hcall
          clear hxy
          go_wp2_with (first
            | (with_reducible refine idx_p 20 _ _ _ _ _ h1 rfl ht1 _ _ k rfl rfl _ HUX.out ?_; intro b o hcell hbo)
            | (with_reducible refine idx_p 24 _ _ _ _ _ h2 rfl ht2 _ _ k rfl rfl _ HUY.out ?_; intro b2 o2 hcell2 hbo2)
            | (go_at_call 64; refine hcall.mono ?_; rintro e w2 ⟨rfl, hb2⟩))
          go_roundg (p.length - (k + 1))
          case measure => have := HG.out; omega
          case rel => exact ⟨k + 1, by omega, rfl, HE.out, by go_num, hbk.trans (hb2.mono hbk.size)⟩
        · have HE := hide (ne_of_take' (fun e => hxy (HX.out.2 e)))
          have HN := hide (decide_eq_false HE.out)
          rw [decide_eq_false hxy] at hcall
          clear hxy
          go_wp2_with (first
            | (with_reducible refine idx_p 20 _ _ _ _ _ h1 rfl ht1 _ _ k rfl rfl _ HUX.out ?_; intro b o hcell hbo)
            | (with_reducible refine idx_p 24 _ _ _ _ _ h2 rfl ht2 _ _ k rfl rfl _ HUY.out ?_; intro b2 o2 hcell2 hbo2)
            | (go_at_call 64; refine hcall.mono ?_; rintro e w2 ⟨rfl, hb2⟩))
          go_ret
          exact ⟨by rw [HN.out]; rfl, hbk.trans (hb2.mono hbk.size)⟩
      · obtain rfl : k = p.length := by omega
        go_wp2
        go_ret
        have : p = q := by have := HT.out; rw [List.take_length, List.take_of_length_le (by omega)] at this; exact this
        exact ⟨by rw [decide_eq_true this]; rfl, hbk⟩
  · have hb := neq_nat hlen
    have HN := hide (decide_eq_false (fun e : p = q => hlen (by rw [e])))
    clear hlen
    go_enter Try.func62, Try.ntmps62
    go_wp2
    go_ret
    exact ⟨by rw [HN.out]; rfl, Below.refl _ _⟩

/-- What a call hands back that returns a page. -/
def GivesP (q : List (List UInt8)) (w : World) (r : Ending) (w' : World) : Prop := ∃ a c hs, r = .returned (.slice a q.length c) ∧ Pg w' a q.length c hs q ∧ Below w.heap.size w w'
/-- the lines that some headers show -/
def RowsOf (w : World) (hs : List Hd) (q : List (List UInt8)) : Prop := ∀ (i : Nat) (h : Hd) (r : List UInt8), hs[i]? = some h → q[i]? = some r → Sl w 1 h.1 h.2.1 h.2.2 (r.map B8)
theorem RowsOf.push {w : World} {hs : List Hd} {q : List (List UInt8)} {h : Hd} {r : List UInt8} (H : RowsOf w hs q) (hl : hs.length = q.length) (hr : Sl w 1 h.1 h.2.1 h.2.2 (r.map B8)) : RowsOf w (hs ++ [h]) (q ++ [r]) := by
  intro i x s hx hs'
  rw [List.getElem?_append] at hx hs'
  by_cases hi : i < hs.length
  · rw [if_pos hi] at hx
    rw [if_pos (by rw [← hl]; exact hi)] at hs'
    exact H i x s hx hs'
  · rw [if_neg hi] at hx
    rw [if_neg (by rw [← hl]; exact hi), ← hl] at hs'
    have e : i - hs.length = 0 := by have := (List.getElem?_eq_some_iff.1 hx).1; simp at this; omega
    rw [e] at hx hs'
    simp at hx hs'
    subst hx hs'
    exact hr
theorem map_snoc {α β : Type} {f : α → β} {l : List α} {k : Nat} {x : α} (h : l[k]? = some x) : (l.take (k + 1)).map f = (l.take k).map f ++ [f x] := by rw [take_snoc h, List.map_append]; rfl

theorem RowsOf.take {w : World} {hs : List Hd} {q : List (List UInt8)} (H : RowsOf w hs q) (m : Nat) : RowsOf w (hs.take m) (q.take m) := by
  intro i h r hh hr
  rw [List.getElem?_take] at hh hr
  by_cases hi : i < m
  · rw [if_pos hi] at hh hr
    exact H i h r hh hr
  · rw [if_neg hi] at hh
    cases hh
theorem plain_exit {w w' : World} {B : Nat} {p Q : List (List UInt8)} {hs2 : List Hd} {a2 : Option Addr} {n c2 m : Nat} (hQ : p.map (trimEnd 0) = Q) (hn : p.length = n) (hm : m ≤ n) (hl : hs2.length = n) (hS : Q.take m = trimEnd [] Q) (hown : Own w' B 23 1 a2 n c2 (hs2.map hv)) (hrows : RowsOf w hs2 Q) (hbk : Below w.heap.size w w') :
    GivesP (plainL p) w (.returned (.slice a2 m c2)) w' := by
  have e : plainL p = Q.take m := by unfold plainL; rw [hQ, hS]
  have hql : Q.length = n := by rw [← hQ, List.length_map]; exact hn
  have hlen : (Q.take m).length = m := by rw [List.length_take]; omega
  rw [e]
  refine ⟨a2, c2, hs2.take m, by rw [hlen], ?_, hbk⟩
  rw [hlen]
  refine ⟨?_, by rw [hlen, List.length_take]; omega, fun i h r hh hr => (hrows.take m i h r hh hr).below hbk⟩
  have := hown.sl.take m hm
  rw [← List.map_take] at this
  exact this

set_option maxRecDepth 100000 in
set_option maxHeartbeats 1000000 in
theorem cell_plain (p : List (List UInt8)) (hs : List Hd) (a : Option Addr) (n c : Nat) (w : World) (hp : Pg w a n c hs p) (hpl : p.length ≤ 1000000) :
    Calls Try.prog 63 #[.slice a n c] w (GivesP (plainL p) w) := by
  obtain rfl := hp.n_eq
  have hm1 := Nat.le_trans hp.top.le hp.top.cap
  unfold maxLen at hm1
  go_enter Try.func63, Try.ntmps63
  go_wp2_with fail
  go_loopg [3, 9] p.length (fun g s i w' => ∃ (k : Nat) (a2 : Option Addr) (c2 : Nat) (hs2 : List Hd), k ≤ p.length ∧ g = p.length - k ∧ hs2.length = k ∧ i = .int .i64 k ∧ s = .slice a2 k c2 ∧ Own w' w.heap.size 23 1 a2 k c2 (hs2.map hv) ∧ RowsOf w hs2 ((p.take k).map (trimEnd 0)) ∧ Below w.heap.size w w')
  case atStart => exact ⟨0, none, 0, [], by omega, by omega, rfl, rfl, rfl, Own.nil _ _ _ _, (fun i h r h1 => by cases h1), Below.refl _ _⟩
  case round =>
    obtain ⟨k, a2, c2, hs2, hk, hg, hl2, rfl, rfl, hown, hrows, hbk⟩ := hrel
    have HG := hide hg
    have HL2 := hide hl2
    have HR := hide hrows
    clear hg hl2 hrows
    by_cases hkl : k < p.length
    · obtain ⟨x, hx⟩ : ∃ x, p[k]? = some x := ⟨p[k], by simp [hkl]⟩
      obtain ⟨ax, cx, hux, hsx⟩ := hp.get hx
      have HX := hide hx
      have HUX := hide hux
      have ht1 := hp.top.below hbk
      have hsw := hsx.below hbk
      have hxm := Nat.le_trans hsx.le hsx.cap
      unfold maxLen at hxm
      clear hx hux
      go_wp2_with (with_reducible refine idx_p 11 _ _ _ _ _ hs rfl ht1 _ _ k rfl rfl _ HUX.out ?_; intro b o hcell hbo)
      clear hcell hbo
      go_loopg [6] x.length (fun g i w' => ∃ (m : Nat), m ≤ x.length ∧ g = m ∧ i = .int .i64 m ∧ Hid (trimEnd 0 (x.take m) = trimEnd 0 x) ∧ wr = w')
      case atStart => exact ⟨x.length, Nat.le_refl _, rfl, rfl, hide (by rw [List.take_length]), rfl⟩
      case round =>
        obtain ⟨m, hm, hg1, rfl, HT, rfl⟩ := hrel
        have HG1 := hide hg1
        clear hg1
        have stop : Hid (x.take m = trimEnd 0 x) → True := fun _ => trivial
        rcases Nat.eq_zero_or_pos m with hm0 | hm0
        · subst hm0
          have HS : Hid (x.take 0 = trimEnd 0 x) := by show _ = _; rw [← HT.out]; rfl
          clear HT
          go_wp2_with (at_builtin; refine append_lit rfl _ _ 41 rfl 23 (.slice none 0 0) 1 24 Try.underlying41 info_row rfl w w.heap.size a2 k c2 _ rfl hown 1 [hv (ax, 0, cx)] rfl rfl (by simp [hv, Value.oneCell']) (by omega) (by unfold maxLen; omega) hbk.size hbk ?_; intro a' c' w' ho' hgr' hb')
          go_roundg (p.length - (k + 1))
          case measure => have := HG.out; omega
          case rel =>
            have hrow := hsx.take (0) hm
            rw [← List.map_take, HS.out] at hrow
            refine ⟨k + 1, a', c', hs2 ++ [(ax, 0, cx)], by omega, rfl, by rw [List.length_append, HL2.out]; rfl, by go_num, rfl, by rw [List.map_append]; exact ho', ?_, hb'⟩
            rw [map_snoc HX.out]
            exact HR.out.push (by rw [HL2.out, List.length_map, List.length_take]; omega) hrow
        · obtain ⟨kk, rfl⟩ : ∃ kk, m = kk + 1 := ⟨m - 1, by omega⟩
          obtain ⟨u, hu⟩ : ∃ u, x[kk]? = some u := ⟨x[kk]'(by omega), by simp⟩
          obtain ⟨b1, o1, hab, hb1, hc1⟩ := hsw.ex (by rw [List.length_map]; omega)
          subst hab
          have hx1 : wr.cell? ⟨b1, o1 + kk, none⟩ = some (.int .u8 (u.toNat : Int)) := hc1 kk _ (by rw [List.getElem?_map, hu]; rfl)
          have HU := hide hu
          clear hc1 hu
          by_cases hu0 : u = 0
          · have HN : Hid (trimEnd 0 (x.take kk) = trimEnd 0 x) := by show _ = _; rw [← HT.out, take_snoc HU.out, hu0, trim_snoc_z]
            subst hu0
            go_wp2_with fail
            go_roundg kk
            case measure => have := HG1.out; omega
            case rel => exact ⟨kk, by omega, rfl, by go_num, HN, rfl⟩
          · have HS : Hid (x.take (kk + 1) = trimEnd 0 x) := by show _ = _; rw [← HT.out, take_snoc HU.out, trim_snoc_ne hu0]
            have hne : ((u.toNat : Int) == 0) = false := by have : u.toNat ≠ 0 := fun e => hu0 (UInt8.toNat_inj.1 e); simp; exact this
            go_wp2_with (first
              | (with_reducible refine cuthi_b 30 _ _ _ _ _ x rfl hsw _ _ (kk + 1) rfl rfl (by omega) ?_; intro hcut)
              | (at_builtin; refine append_lit rfl _ _ 41 rfl 23 (.slice none 0 0) 1 24 Try.underlying41 info_row rfl w w.heap.size a2 k c2 _ rfl hown 1 [hv (some ⟨b1, o1, none⟩, kk + 1, cx)] rfl rfl (by simp [hv, Value.oneCell']) (by omega) (by unfold maxLen; omega) hbk.size hbk ?_; intro a' c' w' ho' hgr' hb'))
            go_roundg (p.length - (k + 1))
            case measure => have := HG.out; omega
            case rel =>
              have hrow := hsx.take (kk + 1) hm
              rw [← List.map_take, HS.out] at hrow
              refine ⟨k + 1, a', c', hs2 ++ [(some ⟨b1, o1, none⟩, kk + 1, cx)], by omega, rfl, by rw [List.length_append, HL2.out]; rfl, by go_num, rfl, by rw [List.map_append]; exact ho', ?_, hb'⟩
              rw [map_snoc HX.out]
              exact HR.out.push (by rw [HL2.out, List.length_map, List.length_take]; omega) hrow
    · obtain rfl : k = p.length := by omega
      have hrows := HR.out
      rw [List.take_length] at hrows
      obtain ⟨Q, HQ⟩ : ∃ Q, Hid (p.map (trimEnd 0) = Q) := ⟨_, hide rfl⟩
      rw [HQ.out] at hrows
      have HQL : Hid (Q.length = p.length) := by show _ = _; rw [← HQ.out, List.length_map]
      clear HR
      go_wp2_with fail
      go_loopg [3] p.length (fun g s w' => ∃ (m : Nat), m ≤ p.length ∧ g = m ∧ s = .slice a2 m c2 ∧ Hid (trimEnd [] (Q.take m) = trimEnd [] Q) ∧ wr = w')
      case atStart => exact ⟨p.length, Nat.le_refl _, rfl, rfl, hide (by rw [← HQL.out, List.take_length]), rfl⟩
      case round =>
        obtain ⟨m, hm, hg1, rfl, HT, rfl⟩ := hrel
        have HG1 := hide hg1
        clear hg1
        rcases Nat.eq_zero_or_pos m with hm0 | hm0
        · subst hm0
          have HS : Hid (Q.take 0 = trimEnd [] Q) := by show _ = _; rw [← HT.out]; rfl
          clear HT
          go_wp2_with fail
          go_ret
          exact plain_exit HQ.out rfl hm HL2.out HS.out hown hrows hbk
        · obtain ⟨kk, rfl⟩ : ∃ kk, m = kk + 1 := ⟨m - 1, by omega⟩
          obtain ⟨r, hr⟩ : ∃ r, Q[kk]? = some r := ⟨Q[kk]'(by rw [HQL.out]; omega), by simp⟩
          obtain ⟨⟨xa, xn, xc⟩, hh⟩ : ∃ h, hs2[kk]? = some h := ⟨hs2[kk]'(by rw [HL2.out]; omega), by simp⟩
          have hsr := hrows kk _ _ hh hr
          obtain rfl : xn = r.length := hsr.n_eq
          obtain ⟨b1, o1, hab, hb1, hc1⟩ := hown.sl.ex (by rw [List.length_map, HL2.out]; omega)
          subst hab
          have hx1 : wr.cell? ⟨b1, o1 + kk, none⟩ = some (.slice xa r.length xc) := hc1 kk _ (by rw [List.getElem?_map, hh]; rfl)
          have ht1 := hown.sl.take (kk + 1) hm
          rw [← List.map_take] at ht1
          have HRR := hide hr
          clear hc1 hr hh
          by_cases hr0 : r = []
          · have HN : Hid (trimEnd [] (Q.take kk) = trimEnd [] Q) := by show _ = _; rw [← HT.out, take_snoc HRR.out, hr0, trim_snoc_z]
            subst hr0
            go_wp2_with (with_reducible refine cuthi_p 51 _ _ _ _ _ (hs2.take (kk + 1)) rfl ht1 _ _ kk rfl (by go_num) (by omega) ?_; intro hcut)
            go_roundg kk
            case measure => have := HG1.out; omega
            case rel => exact ⟨kk, by omega, rfl, rfl, HN, rfl⟩
          · have HS : Hid (Q.take (kk + 1) = trimEnd [] Q) := by show _ = _; rw [← HT.out, take_snoc HRR.out, trim_snoc_ne hr0]
            have hne : ((r.length : Int) == 0) = false := by have : r.length ≠ 0 := fun e => hr0 (List.eq_nil_of_length_eq_zero e); simp; exact hr0
            have hne0 : 0 < r.length := Nat.pos_of_ne_zero (fun e => hr0 (List.eq_nil_of_length_eq_zero e))
            go_wp2_with fail
            go_ret
            exact plain_exit HQ.out rfl hm HL2.out HS.out hown hrows hbk

set_option maxHeartbeats 400000 in
theorem cell_Same (p q : List (List UInt8)) (h1 h2 : List Hd) (a1 a2 : Option Addr) (n1 n2 c1 c2 : Nat) (w : World) (hp : Pg w a1 n1 c1 h1 p) (hq : Pg w a2 n2 c2 h2 q) (hpl : p.length ≤ 1000000) (hql : q.length ≤ 1000000) :
    Calls Try.prog 38 #[.slice a1 n1 c1, .slice a2 n2 c2] w fun e w' => e = .returned (.bool (decide (plainL p = plainL q))) ∧ Below w.heap.size w w' := by
  go_enter Try.func38, Try.ntmps38
  go_wp2_with fail
  refine (cell_plain p h1 a1 n1 c1 w hp hpl).mono ?_
  rintro e w1 ⟨a3, c3, h3, rfl, hpp, hb⟩
  have hq1 := hq.below hb
  go_wp2_with fail
  refine (cell_plain q h2 a2 n2 c2 w1 hq1 hql).mono ?_
  rintro e w2 ⟨a4, c4, h4, rfl, hpq, hb2⟩
  have hpp2 := hpp.below hb2
  have hb3 := hb.trans (hb2.mono hb.size)
  have hc := eqf_pages (plainL p) (plainL q) h3 h4 _ _ _ _ _ _ w2 hpp2 hpq
  unfold fnv at hc
  go_wp2_with fail
  refine hc.mono ?_
  rintro e w3 ⟨rfl, hb4⟩
  go_wp2_with fail
  go_ret
  exact ⟨rfl, hb3.trans (hb4.mono hb3.size)⟩
end Go.Proofs.Ythfljnlankmoiaa
end

/- the text CL1 -/
section
namespace Go.Proofs.Ythfljnlankmoiaa
open Go.RowKit Go.Dx

theorem of_dots_fin : ∀ n : Fin 256, ofL (dotsL (UInt8.ofNat n.val)) = (n.val % 64, 0) := by decide +kernel
theorem of_dots (u : UInt8) : ofL (dotsL u) = (u.toNat % 64, 0) := by
  have h := of_dots_fin ⟨u.toNat, u.toNat_lt⟩
  rw [of_u8] at h; exact h
theorem back_back_fin : ∀ n : Fin 256, (backC (backC (UInt8.ofNat n.val))).toNat = n.val % 64 := by decide +kernel
theorem back_back (u : UInt8) : (backC (backC u)).toNat = u.toNat % 64 := by
  have h := back_back_fin ⟨u.toNat, u.toNat_lt⟩
  rw [of_u8] at h; exact h
theorem back_dots_fin : ∀ n : Fin 256, (dotsL (backC (UInt8.ofNat n.val))).length = (dotsL (UInt8.ofNat n.val)).length := by decide +kernel
theorem back_dots (u : UInt8) : (dotsL (backC u)).length = (dotsL u).length := by
  have h := back_dots_fin ⟨u.toNat, u.toNat_lt⟩
  rw [of_u8] at h; exact h
theorem refOf_at {l : List Int} {r : Nat × Int} (h : ofL l = r) {a : Option Addr} {n c : Nat} {w : World} (hs : Sl w 1 a n c (l.map I64)) :
    Calls Try.prog 10 #[.slice a n c] w fun e w' => e = .returned (ROf r) ∧ Below w.heap.size w w' := by
  subst h; exact (ref_Of l a n c w hs).mono fun e w' ⟨h1, n, h2⟩ => ⟨h1, h2 ▸ Still.below n⟩
theorem refDots_at {u : UInt8} {v : Int} {l : List Int} (hv : (u.toNat : Int) = v) (h : dotsL u = l) {w : World} :
    Calls Try.prog 13 #[.int .u8 v] w (Gives 3 1 l.length (l.map I64) w) := by subst hv h; exact ref_Dots u w
theorem refBack_at {u : UInt8} {v k : Int} (hv : (u.toNat : Int) = v) (h : ((backC u).toNat : Int) = k) {w : World} :
    Calls Try.prog 15 #[.int .u8 v] w fun e w' => e = .returned (.int .u8 k) ∧ Below w.heap.size w w' := by subst hv h; exact ref_Back u w
theorem few_at {l r : List UInt8} {m : Nat} {v : Int} (hv : (m : Int) = v) (h : l.take m = r) (hm : m ≤ 1000000) {a : Option Addr} {n c : Nat} {w : World} (hs : Sl w 1 a n c (l.map B8)) :
    Calls Try.prog 17 #[.slice a n c, .int .i64 v] w (Gives 5 1 r.length (r.map B8) w) := by subst hv h; exact law4_few l m a n c w hs hm
theorem Valid_at {l : List UInt8} {v : Bool} (h : validB l = v) {a : Option Addr} {n c : Nat} {w : World} (hs : Sl w 1 a n c (l.map B8)) :
    Calls Try.prog 16 #[.slice a n c] w fun e w' => e = .returned (.bool v) ∧ w = w' := by subst h; exact cell_Valid l a n c w hs
theorem refValid_at {l : List UInt8} {v : Bool} (h : validB l = v) {a : Option Addr} {n c : Nat} {w : World} (hs : Sl w 1 a n c (l.map B8)) :
    Calls Try.prog 18 #[.slice a n c] w fun e w' => e = .returned (.bool v) ∧ w = w' := by subst h; exact ref_Valid l a n c w hs

set_option maxRecDepth 100000 in
set_option maxHeartbeats 2000000 in
theorem walk_CellDots (u : UInt8) (l : List Int) (a : Option Addr) (n c : Nat) (k : List UInt8) (a2 : Option Addr) (n2 c2 : Nat) (w : World) (hs : Sl w 1 a n c (l.map I64)) (hk : Sl w 1 a2 n2 c2 (k.map B8)) :
    Calls Try.prog 3 #[.int .u8 (u.toNat : Int), .slice a n c, .slice a2 n2 c2] w fun e w' => e = .returned (.bool true) ∧ Below w.heap.size w w' := by
  have hcap := Nat.le_trans hs.le hs.cap
  unfold maxLen at hcap
  obtain rfl := hs.n_eq
  obtain ⟨m, hm, hml⟩ : ∃ m, m = min l.length 8 ∧ m ≤ l.length := ⟨_, rfl, by omega⟩
  have hst : Sl w 1 a m c ((l.take m).map I64) := by have := hs.take m hml; rw [← List.map_take] at this; exact this
  obtain ⟨s, Hs⟩ : ∃ s, Hid (ofL (l.take m) = s) := ⟨_, hide rfl⟩
  obtain ⟨o, x⟩ := s
  obtain ⟨ds, Hds⟩ : ∃ ds, Hid (dotsL u = ds) := ⟨_, hide rfl⟩
  obtain ⟨bc, Hbc⟩ : ∃ bc, Hid (backC u = bc) := ⟨_, hide rfl⟩
  obtain ⟨kt, Hkt⟩ : ∃ kt, Hid (k.take 40 = kt) := ⟨_, hide rfl⟩
  obtain ⟨v, Hv⟩ : ∃ v, Hid (validB kt = v) := ⟨_, hide rfl⟩
  obtain ⟨r, Hr⟩ : ∃ r, Hid (u.toNat % 64 = r) := ⟨_, hide rfl⟩
  have n1 : ((o : Int) != (o : Int)) = false := by simp
  have n2' : (x != x) = false := by simp
  have n3 : ((bc.toNat : Int) != (bc.toNat : Int)) = false := by simp
  have n4 : (v != v) = false := by simp
  have n5 : ((r : Int) == (u.toNat : Int) % 64) = true := by rw [← Hr.out]; simp
  have b0 : Below w.heap.size w w ∧ w.heap.size ≤ w.heap.size := ⟨Below.refl _ _, Nat.le_refl _⟩
  have MM : Hid ((min (l.length : Int) 8).toNat = m) := by show _ = _; omega
  have hle := hs.le
  have hc1 : 0 ≤ min (l.length : Int) 8 := by omega
  have hc2 : min (l.length : Int) 8 ≤ (c : Int) := by omega
  clear hm hml hle
  go_enter Try.func3, Try.ntmps3
  go_wp2_with fail
  rw [MM.out]
  refine (Of_at Hs.out hst).mono ?_
  rintro e w1 ⟨rfl, rfl⟩
  go_wp2_with fail
  refine (refOf_at Hs.out hst).mono ?_
  rintro e w1 ⟨rfl, hb⟩
  have b1 := bs0 b0 hb
  clear hb b0
  go_wp2_with fail
  refine (Dots_at rfl Hds.out).mono ?_
  rintro e w2 ⟨a3, c3, rfl, o3, hb⟩
  have b2 := bs0 b1 hb
  clear hb b1
  go_wp2_with fail
  refine (refDots_at rfl Hds.out).mono ?_
  rintro e w3 ⟨a4, c4, rfl, o4, hb⟩
  have b3 := bs0 b2 hb
  have o3' := o3.sl.below hb
  clear hb b2 o3
  go_wp2_with fail
  refine (SameInts_at (l1 := ds) (l2 := ds) (r := true) (by simp) o3' o4.sl).mono ?_
  rintro e w4 ⟨rfl, hb⟩
  have b4 := bs0 b3 hb
  clear hb b3 o3' o4
  go_wp2_with fail
  refine (Back_at rfl (by rw [Hbc.out])).mono ?_
  rintro e w5 ⟨rfl, rfl⟩
  go_wp2_with fail
  refine (refBack_at rfl (by rw [Hbc.out])).mono ?_
  rintro e w5 ⟨rfl, hb⟩
  have b5 := bs0 b4 hb
  clear hb b4
  go_wp2_with fail
  refine (few_at (m := 40) rfl Hkt.out (by omega) (hk.below b5.1)).mono ?_
  rintro e w6 ⟨a5, c5, rfl, o5, hb⟩
  have b6 := bs0 b5 hb
  clear hb b5
  go_wp2_with fail
  refine (Valid_at Hv.out o5.sl).mono ?_
  rintro e w7 ⟨rfl, rfl⟩
  go_wp2_with fail
  refine (few_at (m := 40) rfl Hkt.out (by omega) (hk.below b6.1)).mono ?_
  rintro e w7 ⟨a6, c6, rfl, o6, hb⟩
  have b7 := bs0 b6 hb
  clear hb b6 o5
  go_wp2_with fail
  refine (refValid_at Hv.out o6.sl).mono ?_
  rintro e w8 ⟨rfl, rfl⟩
  clear o6
  go_wp2_with fail
  refine (Dots_at rfl Hds.out).mono ?_
  rintro e w8 ⟨a7, c7, rfl, o7, hb⟩
  have b8 := bs0 b7 hb
  clear hb b7
  go_wp2_with fail
  refine (Of_at (l := ds) (r := (r, 0)) (by rw [← Hds.out, of_dots, Hr.out]) o7.sl).mono ?_
  rintro e w9 ⟨rfl, rfl⟩
  clear o7
  go_wp2_with fail
  refine (Back_at rfl (by rw [Hbc.out])).mono ?_
  rintro e w9 ⟨rfl, rfl⟩
  go_wp2_with fail
  refine (Back_at rfl (k := (r : Int)) (by rw [← Hbc.out, back_back, Hr.out])).mono ?_
  rintro e w9 ⟨rfl, rfl⟩
  go_wp2_with fail
  refine (Back_at rfl (by rw [Hbc.out])).mono ?_
  rintro e w9 ⟨rfl, rfl⟩
  go_wp2_with fail
  refine (Dots_at rfl rfl).mono ?_
  rintro e w9 ⟨a8, c8, rfl, o8, hb⟩
  have b9 := bs0 b8 hb
  have hlen : (dotsL bc).length = ds.length := by rw [← Hbc.out, back_dots, Hds.out]
  rw [hlen]
  clear hb b8 o8 hlen
  go_wp2_with fail
  refine (Dots_at rfl Hds.out).mono ?_
  rintro e w10 ⟨a9, c9, rfl, o9, hb⟩
  have b10 := bs0 b9 hb
  clear hb b9 o9
  go_wp2_with fail
  refine (law4_lives _).mono ?_
  rintro e w11 ⟨rfl, hb⟩
  have b11 := bs0 b10 hb
  go_wp2_with fail
  go_ret
  exact ⟨rfl, b11.1⟩
end Go.Proofs.Ythfljnlankmoiaa
end

/- the text C23 -/
section
namespace Go.Proofs.Ythfljnlankmoiaa
open Go.RowKit Go.Dx

/-- a number below m out of another, out of a list -/
def aroundF (n : Int) (m : Nat) : Nat := ((if n < 0 then -(n + 1) else n) % (m : Int)).toNat
def atF (l : List Int) (i : Int) (m : Nat) : Nat := if i < 0 ∨ (l.length : Int) ≤ i then 0 else aroundF (l.getD i.toNat 0) m
theorem aroundF_eq {n : Int} {m : Nat} (hm : 1 ≤ m) : (if n < 0 then -(n + 1) else n) % (m : Int) = (aroundF n m : Int) := by
  have h3 := Int.emod_nonneg (if n < 0 then -(n + 1) else n) (show (m : Int) ≠ 0 by omega)
  unfold aroundF; omega
theorem aroundF_lt {n : Int} {m : Nat} (hm : 1 ≤ m) : aroundF n m < m := by
  have h2 := Int.emod_lt_of_pos (if n < 0 then -(n + 1) else n) (show (0 : Int) < m by omega)
  have h3 := aroundF_eq (n := n) hm
  omega
theorem atF_lt {l : List Int} {i : Int} {m : Nat} (hm : 1 ≤ m) : atF l i m < m := by
  unfold atF; split
  · omega
  · exact aroundF_lt hm
set_option maxHeartbeats 400000 in
theorem ref_Around (n v : Int) (m : Nat) (w : World) (hv : (m : Int) = v) (h0 : -9223372036854775808 ≤ n) (h1 : n ≤ 9223372036854775807) (hm : 1 ≤ m) (hm2 : m ≤ 1000000000) :
    Calls Try.prog 25 #[.int .i64 n, .int .i64 v] w fun e w' => e = .returned (.int .i64 (aroundF n m : Nat)) ∧ w = w' := by
  subst hv
  have hr := aroundF_eq (n := n) hm
  obtain ⟨r, HR⟩ : ∃ r, Hid (aroundF n m = r) := ⟨_, hide rfl⟩
  rw [HR.out] at hr ⊢
  by_cases hn : n < 0
  · rw [if_pos hn] at hr
    have HH := hide hr
    clear hr
    go_enter Try.func25, Try.ntmps25
    go_wp2
    go_ret
    exact ⟨by rw [← HH.out, ← Int.tmod_eq_emod_of_nonneg (by omega), Int.neg_tmod]; rfl, rfl⟩
  · rw [if_neg hn] at hr
    have HH := hide hr
    clear hr
    go_enter Try.func25, Try.ntmps25
    go_wp2
    go_ret
    exact ⟨by rw [← HH.out]; rfl, rfl⟩
set_option maxHeartbeats 400000 in
theorem ref_At (l : List Int) (a : Option Addr) (n c : Nat) (i v : Int) (m : Nat) (w : World) (hs : Sl w 1 a n c (l.map I64)) (hl : ∀ x ∈ l, -9223372036854775808 ≤ x ∧ x ≤ 9223372036854775807) (hv : (m : Int) = v) (hm : 1 ≤ m) (hm2 : m ≤ 1000000000) :
    Calls Try.prog 55 #[.slice a n c, .int .i64 i, .int .i64 v] w fun e w' => e = .returned (.int .i64 (atF l i m : Nat)) ∧ w = w' := by
  obtain rfl := hs.n_eq
  have hcap := Nat.le_trans hs.le hs.cap
  unfold maxLen at hcap
  obtain ⟨r, HR⟩ : ∃ r, Hid (atF l i m = r) := ⟨_, hide rfl⟩
  rw [HR.out]
  by_cases h1 : i < 0
  · have d1 : decide (i < 0) = true := decide_eq_true h1
    have HE : Hid (r = 0) := by show _ = _; rw [← HR.out]; exact if_pos (.inl h1)
    go_enter Try.func55, Try.ntmps55
    go_wp2
    go_ret
    exact ⟨by rw [HE.out]; first | done | rfl, rfl⟩
  · have d1 : decide (i < 0) = false := decide_eq_false h1
    by_cases h2 : (l.length : Int) ≤ i
    · have d2 : decide ((l.length : Int) ≤ i) = true := decide_eq_true h2
      have HE : Hid (r = 0) := by show _ = _; rw [← HR.out]; exact if_pos (.inr h2)
      go_enter Try.func55, Try.ntmps55
      go_wp2
      go_ret
      exact ⟨by rw [HE.out]; first | done | rfl, rfl⟩
    · have d2 : decide ((l.length : Int) ≤ i) = false := decide_eq_false h2
      have HE0 : Hid (r = aroundF (l.getD i.toNat 0) m) := by
        show _ = _; rw [← HR.out]; exact if_neg (by omega)
      obtain ⟨k, rfl⟩ := Int.eq_ofNat_of_zero_le (show 0 ≤ i by omega)
      have hk : k < l.length := by omega
      obtain ⟨x, hx⟩ : ∃ x, l[k]? = some x := ⟨l[k], by simp [hk]⟩
      obtain ⟨hx1, hx2⟩ := hl x (List.mem_of_getElem? hx)
      have HE : Hid (r = aroundF x m) := by
        show _ = _; rw [HE0.out, Int.toNat_natCast, List.getD_eq_getElem?_getD, hx]; rfl
      have HX := hide hx
      clear hx HE0
      go_enter Try.func55, Try.ntmps55
      go_wp2_with (first
        | (with_reducible refine idx_i 17 _ _ _ _ _ l rfl hs _ _ k rfl rfl x HX.out ?_; intro b o hcell hbo)
        | (go_at_call 25; refine (ref_Around x _ m _ hv hx1 hx2 hm hm2).mono ?_; rintro e w2 ⟨rfl, rfl⟩))
      go_ret
      exact ⟨by rw [HE.out]; first | done | rfl, rfl⟩
theorem At_at {l : List Int} {i v : Int} {m r : Nat} (h : atF l i m = r) (hv : (m : Int) = v) (hm : 1 ≤ m) (hm2 : m ≤ 1000000000) (hl : ∀ x ∈ l, -9223372036854775808 ≤ x ∧ x ≤ 9223372036854775807) {a : Option Addr} {n c : Nat} {w : World} (hs : Sl w 1 a n c (l.map I64)) :
    Calls Try.prog 55 #[.slice a n c, .int .i64 i, .int .i64 v] w fun e w' => e = .returned (.int .i64 (r : Int)) ∧ w = w' := by
  subst h; exact ref_At l a n c i v m w hs hl hv hm hm2
theorem Around_at {n v : Int} {m r : Nat} (h : aroundF n m = r) (hv : (m : Int) = v) (hm : 1 ≤ m) (hm2 : m ≤ 1000000000) (h0 : -9223372036854775808 ≤ n) (h1 : n ≤ 9223372036854775807) {w : World} :
    Calls Try.prog 25 #[.int .i64 n, .int .i64 v] w fun e w' => e = .returned (.int .i64 (r : Int)) ∧ w = w' := by
  subst h; exact ref_Around n v m w hv h0 h1 hm hm2
end Go.Proofs.Ythfljnlankmoiaa
end

/- the text C24 -/
section
namespace Go.Proofs.Ythfljnlankmoiaa
open Go.RowKit Go.Dx

/-- the memory while a raster's dots are appended -/
structure RAW (w w' : World) (W H : Nat) (a : Option Addr) (m c : Nat) (bs : List Bool) : Prop where
  res : Box w' w.heap.size 36 [.int .i64 0, .int .i64 0, .slice none 0 0]
  ras : Box w' (w.heap.size + 1) 36 [.int .i64 W, .int .i64 H, .slice a m c]
  own : Own w' (w.heap.size + 2) 4 1 a m c (bs.map Value.bool)
  bel : Below w.heap.size w w'
theorem RAW.under {w w' w2 : World} {W H m c : Nat} {a : Option Addr} {bs : List Bool} (h : RAW w w' W H a m c bs) (hb : Below w'.heap.size w' w2) : RAW w w2 W H a m c bs :=
  ⟨h.res.under hb, h.ras.under hb, h.own.below hb, h.bel.trans (hb.mono h.bel.size)⟩
theorem RAW.lt {w w' : World} {W H m c : Nat} {a : Option Addr} {bs : List Bool} (h : RAW w w' W H a m c bs) : w.heap.size + 2 ≤ w'.heap.size := h.ras.lt
theorem RAW.ne {w w' : World} {W H m c : Nat} {a : Option Addr} {bs : List Bool} (h : RAW w w' W H a m c bs) : ∀ b, b < w.heap.size + 2 → some b ≠ a.map (·.block) := by
  intro b hb
  cases a with
  | none => simp
  | some q => have := h.own.base.1; simp; omega
theorem RAW.keep {w w' w2 : World} {W H m c : Nat} {a : Option Addr} {bs : List Bool} (h : RAW w w' W H a m c bs) (hg : w'.grownBy w2 (a.map (·.block))) : Box w2 (w.heap.size + 1) 36 [.int .i64 W, .int .i64 H, .slice a m c] :=
  h.ras.grown hg (h.ne _ (by omega))
theorem RAW.put {w w' w2 : World} {W H m c c' : Nat} {a a' : Option Addr} {bs : List Bool} {v : Bool} (h : RAW w w' W H a m c bs) (ho : Own w2 (w.heap.size + 2) 4 1 a' (m + 1) c' (bs.map Value.bool ++ [.bool v])) (hg : w'.grownBy w2 (a.map (·.block))) :
    RAW w (w2.setCell ⟨w.heap.size + 1, 2, none⟩ (.slice a' (m + 1) c')) W H a' (m + 1) c' (bs ++ [v]) := by
  have hne := h.ne
  refine ⟨(h.res.grown hg (hne _ (by omega))).far (by simp) _, (h.ras.grown hg (hne _ (by omega))).put 2 _, ?_, ?_⟩
  · rw [List.map_append]
    exact ownsRow_setCell_below ho (by simp) _
  · refine ((h.bel.grown hg h.bel.size ?_).setCell (p := ⟨w.heap.size + 1, 2, none⟩) (by simp) _)
    intro k hk
    cases a with
    | none => cases hk
    | some q => have := h.own.base.1; simp at hk; omega

/-- What a call hands back that returns a small valid raster. -/
def GivesRas (w : World) (r : Ending) (w' : World) : Prop :=
  ∃ (W H : Nat) (bs : List Bool) (a : Option Addr) (c : Nat), W ≤ 14 ∧ H ≤ 13 ∧ bs.length = W * H ∧ r = .returned (RV W H a (W * H) c) ∧ Sl w' 1 a (W * H) c (bs.map Value.bool) ∧ Below w.heap.size w w'

set_option maxRecDepth 100000 in
set_option maxHeartbeats 1000000 in
theorem ref_Raster (l : List Int) (a : Option Addr) (n c : Nat) (w : World) (hs : Sl w 1 a n c (l.map I64)) (hl : ∀ x ∈ l, -9223372036854775808 ≤ x ∧ x ≤ 9223372036854775807) :
    Calls Try.prog 20 #[.slice a n c] w (GivesRas w) := by
  obtain ⟨W, HW⟩ : ∃ W, Hid (atF l 0 15 = W) := ⟨_, hide rfl⟩
  obtain ⟨H, HH⟩ : ∃ H, Hid (atF l 1 14 = H) := ⟨_, hide rfl⟩
  have hW : W ≤ 14 := by rw [← HW.out]; have := atF_lt (l := l) (i := 0) (m := 15) (by omega); omega
  have hH : H ≤ 13 := by rw [← HH.out]; have := atF_lt (l := l) (i := 1) (m := 14) (by omega); omega
  obtain ⟨N, HN⟩ : ∃ N, Hid (W * H = N) := ⟨_, hide rfl⟩
  have hN : N ≤ 182 := by rw [← HN.out]; exact Nat.mul_le_mul hW hH
  have HL := hide hl
  clear hl
  have hq := fun (i v : Int) (m r : Nat) (h : atF l i m = r) (hv : (m : Int) = v) (h1 : 1 ≤ m) (h2 : m ≤ 1000000000) (w' : World) (hb : Below w.heap.size w w') => At_at h hv h1 h2 HL.out (hs.below hb)
  have HQ := hide hq
  clear hq
  go_enter Try.func20, Try.ntmps20
  go_wp2_with fail
  refine (HQ.out 0 _ 15 W HW.out rfl (by omega) (by omega) _ (bl1 w _)).mono ?_
  rintro e w1 ⟨rfl, rfl⟩
  go_wp2_with fail
  refine (HQ.out 1 _ 14 H HH.out rfl (by omega) (by omega) _ (bl1 w _)).mono ?_
  rintro e w1 ⟨rfl, rfl⟩
  go_wp2_with fail
  have hU0 : RAW w ((w.alloc (.cells #[.int .i64 0, .int .i64 0, .slice none 0 0] 36)).alloc (.cells #[.int .i64 W, .int .i64 H, .slice none 0 0] 36)) W H none 0 0 [] :=
    ⟨un_box0 (Below.refl _ _), un_box (Below.refl _ _), Own.nil _ _ _ _, bl2 _ _ _⟩
  go_loopg [4] N (fun g i w' => ∃ (k : Nat) (a2 : Option Addr) (c2 : Nat) (bs : List Bool), k ≤ N ∧ g = N - k ∧ bs.length = k ∧ i = .int .i64 k ∧ RAW w w' W H a2 k c2 bs)
  case atStart => exact ⟨0, none, 0, [], by omega, by omega, rfl, rfl, hU0⟩
  case round =>
    clear hU0
    obtain ⟨m, a2, c2, bs, hm, hg, hbs, rfl, hU1⟩ := hrel
    have HG := hide hg
    have HBS := hide hbs
    clear hg hbs
    have e0 := hU1.ras.at_ (j := 0) rfl
    have e1 := hU1.ras.at_ (j := 1) rfl
    have MN : Hid (wrap64 ((W : Int) * (H : Int)) = (N : Int)) := by
      show _ = _
      rw [← Int.natCast_mul, HN.out]; exact IntWalk.wrap64_in _ (by omega)
    by_cases hml : m < N
    · obtain ⟨p, Hp⟩ : ∃ p, Hid (p = m % 37) := ⟨_, rfl⟩
      obtain ⟨d, Hd⟩ : ∃ d, Hid (d = m / 37) := ⟨_, rfl⟩
      obtain ⟨r, Hr⟩ : ∃ r, Hid (atF l (2 + (p : Int)) 1000 = r) := ⟨_, hide rfl⟩
      have hr : r < 1000 := by rw [← Hr.out]; exact atF_lt (by omega)
      obtain ⟨q, Hq⟩ : ∃ q, Hid (q = r / (1 + d)) := ⟨_, rfl⟩
      have hp37 : p < 37 := by rw [Hp.out]; omega
      have hd5 : d ≤ 5 := by rw [Hd.out]; omega
      have hq1 : q < 1000 := by rw [Hq.out]; exact Nat.lt_of_le_of_lt (Nat.div_le_self _ _) hr
      obtain ⟨t, Ht⟩ : ∃ t, Hid (t = q % 2) := ⟨_, rfl⟩
      obtain ⟨v, Hv⟩ : ∃ v, Hid (((t : Int) == 1) = v) := ⟨_, hide rfl⟩
      have Mp : Hid ((m : Int) % 37 = (p : Int)) := by show _ = _; rw [Hp.out]; omega
      have Md : Hid ((m : Int) / 37 = (d : Int)) := by show _ = _; rw [Hd.out]; omega
      have Mq : Hid ((r : Int) / (1 + (d : Int)) = (q : Int)) := by
        show _ = _
        rw [Hq.out, show (1 + (d : Int)) = ((1 + d : Nat) : Int) by omega, Int.natCast_ediv]
      have Mt : Hid ((q : Int) % 2 = (t : Int)) := by show _ = _; rw [Ht.out]; omega
      have hcall : ∀ w', Below wr.heap.size wr w' → Calls Try.prog 55 #[.slice a n c, .int .i64 (2 + (p : Int)), .int .i64 1000] w' fun e w2 => e = .returned (.int .i64 (r : Int)) ∧ w' = w2 := fun w' hb =>
        HQ.out _ _ 1000 r Hr.out rfl (by omega) (by omega) w' (hU1.bel.trans (hb.mono hU1.bel.size))
      have mN := MN.out
      go_wp2_with fail
      clear mN
      refine wp_region_free 14 [⟨0, 19, [19], fun vs _ => vs = [.pointer (some ⟨w.heap.size + 1, 2, none⟩)]⟩, ⟨1, 20, [20], fun vs _ => vs = [.slice a2 m c2]⟩, ⟨2, 21, [21], fun vs _ => vs = [.slice a n c]⟩, ⟨3, 22, [22], fun vs _ => vs = [.int .i64 (m : Int)]⟩, ⟨4, 23, [23], fun vs _ => vs = [.int .i64 (p : Int)]⟩, ⟨5, 24, [24], fun vs _ => vs = [.int .i64 (2 + (p : Int))]⟩, ⟨6, 25, [25], fun vs _ => vs = [.int .i64 (r : Int)]⟩, ⟨7, 26, [26], fun vs _ => vs = [.int .i64 (m : Int)]⟩, ⟨8, 27, [27], fun vs _ => vs = [.int .i64 (d : Int)]⟩, ⟨9, 28, [28], fun vs _ => vs = [.int .i64 (1 + (d : Int))]⟩, ⟨10, 29, [29], fun vs _ => vs = [.int .i64 (q : Int)]⟩, ⟨11, 30, [30], fun vs _ => vs = [.int .i64 (t : Int)]⟩, ⟨12, 31, [31], fun vs _ => vs = [.bool v]⟩, ⟨13, 32, [32], fun vs w => ∃ b, vs = [.slice (some ⟨b, 0, none⟩) 1 1] ∧ Sl w 1 (some ⟨b, 0, none⟩) 1 1 [.bool v]⟩] (by kernel_rfl) (by kernel_rfl) ?_ ?_ ?_
      · simp only [All]
        refine ⟨fun _ _ _ _ h => h, fun _ _ _ _ h => h, fun _ _ _ _ h => h, fun _ _ _ _ h => h, fun _ _ _ _ h => h, fun _ _ _ _ h => h, fun _ _ _ _ h => h, fun _ _ _ _ h => h, fun _ _ _ _ h => h, fun _ _ _ _ h => h, fun _ _ _ _ h => h, fun _ _ _ _ h => h, fun _ _ _ _ h => h, ?_, trivial⟩
        · rintro vs w w' hb ⟨b, h1, h2⟩
          exact ⟨b, h1, h2.below hb⟩
      · simp only [All]
        refine ⟨?_, ?_, ?_, ?_, ?_, ?_, ?_, ?_, ?_, ?_, ?_, ?_, ?_, ?_, trivial⟩
        · intro o ho a' w' hb hfr hdep
          obtain rfl := Option.some.inj ho
          have g3 : a'.tmps[3]?.getD undef = .pointer (some ⟨w.heap.size + 1, 0, none⟩) := by have h := hfr 3 (by kernel_rfl); simpa using h
          clear ho hfr hdep
          go_wp2_with fail
          exact ⟨rfl, _, rfl, Below.refl _ _, rfl⟩
        · intro o ho a' w' hb hfr hdep
          obtain rfl := Option.some.inj ho
          have g19 : a'.tmps[19]?.getD undef = .pointer (some ⟨w.heap.size + 1, 2, none⟩) := by have h := hdep 0 _ rfl (by kernel_rfl); simpa using h
          clear ho hfr hdep
          have hq := (hU1.ras.under hb).at_ (j := 2) rfl
          go_wp2_with fail
          exact ⟨rfl, _, rfl, Below.refl _ _, rfl⟩
        · intro o ho a' w' hb hfr hdep
          obtain rfl := Option.some.inj ho
          have g0 : a'.tmps[0]?.getD undef = .slice a n c := by have h := hfr 0 (by kernel_rfl); simpa using h
          clear ho hfr hdep
          go_wp2_with fail
          exact ⟨rfl, _, rfl, Below.refl _ _, rfl⟩
        · intro o ho a' w' hb hfr hdep
          obtain rfl := Option.some.inj ho
          have g4 : a'.tmps[4]?.getD undef = .int .i64 (m : Int) := by have h := hfr 4 (by kernel_rfl); simpa using h
          clear ho hfr hdep
          go_wp2_with fail
          exact ⟨rfl, _, rfl, Below.refl _ _, rfl⟩
        · intro o ho a' w' hb hfr hdep
          obtain rfl := Option.some.inj ho
          have g22 : a'.tmps[22]?.getD undef = .int .i64 (m : Int) := by have h := hdep 3 _ rfl (by kernel_rfl); simpa using h
          clear ho hfr hdep
          go_wp2_with fail
          exact ⟨rfl, _, rfl, Below.refl _ _, by show [Value.int .i64 ((m : Int) % 37)] = _; rw [Mp.out]⟩
        · intro o ho a' w' hb hfr hdep
          obtain rfl := Option.some.inj ho
          have g23 : a'.tmps[23]?.getD undef = .int .i64 (p : Int) := by have h := hdep 4 _ rfl (by kernel_rfl); simpa using h
          clear ho hfr hdep
          go_wp2_with fail
          exact ⟨rfl, _, rfl, Below.refl _ _, rfl⟩
        · intro o ho a' w' hb hfr hdep
          obtain rfl := Option.some.inj ho
          have g21 : a'.tmps[21]?.getD undef = .slice a n c := by have h := hdep 2 _ rfl (by kernel_rfl); simpa using h
          have g24 : a'.tmps[24]?.getD undef = .int .i64 (2 + (p : Int)) := by have h := hdep 5 _ rfl (by kernel_rfl); simpa using h
          clear ho hfr hdep
          go_wp2_with fail
          refine (hcall _ hb).mono ?_
          rintro e w2 ⟨rfl, rfl⟩
          go_wp2_with fail
          exact ⟨rfl, _, rfl, Below.refl _ _, rfl⟩
        · intro o ho a' w' hb hfr hdep
          obtain rfl := Option.some.inj ho
          have g4 : a'.tmps[4]?.getD undef = .int .i64 (m : Int) := by have h := hfr 4 (by kernel_rfl); simpa using h
          clear ho hfr hdep
          go_wp2_with fail
          exact ⟨rfl, _, rfl, Below.refl _ _, rfl⟩
        · intro o ho a' w' hb hfr hdep
          obtain rfl := Option.some.inj ho
          have g26 : a'.tmps[26]?.getD undef = .int .i64 (m : Int) := by have h := hdep 7 _ rfl (by kernel_rfl); simpa using h
          clear ho hfr hdep
          have md := Md.out
          go_wp2_with fail
          exact ⟨rfl, _, rfl, Below.refl _ _, rfl⟩
        · intro o ho a' w' hb hfr hdep
          obtain rfl := Option.some.inj ho
          have g27 : a'.tmps[27]?.getD undef = .int .i64 (d : Int) := by have h := hdep 8 _ rfl (by kernel_rfl); simpa using h
          clear ho hfr hdep
          go_wp2_with fail
          exact ⟨rfl, _, rfl, Below.refl _ _, rfl⟩
        · intro o ho a' w' hb hfr hdep
          obtain rfl := Option.some.inj ho
          have g25 : a'.tmps[25]?.getD undef = .int .i64 (r : Int) := by have h := hdep 6 _ rfl (by kernel_rfl); simpa using h
          have g28 : a'.tmps[28]?.getD undef = .int .i64 (1 + (d : Int)) := by have h := hdep 9 _ rfl (by kernel_rfl); simpa using h
          clear ho hfr hdep
          have mq := Mq.out
          go_wp2_with fail
          exact ⟨rfl, _, rfl, Below.refl _ _, rfl⟩
        · intro o ho a' w' hb hfr hdep
          obtain rfl := Option.some.inj ho
          have g29 : a'.tmps[29]?.getD undef = .int .i64 (q : Int) := by have h := hdep 10 _ rfl (by kernel_rfl); simpa using h
          clear ho hfr hdep
          go_wp2_with fail
          exact ⟨rfl, _, rfl, Below.refl _ _, by show [Value.int .i64 ((q : Int) % 2)] = _; rw [Mt.out]⟩
        · intro o ho a' w' hb hfr hdep
          obtain rfl := Option.some.inj ho
          have g30 : a'.tmps[30]?.getD undef = .int .i64 (t : Int) := by have h := hdep 11 _ rfl (by kernel_rfl); simpa using h
          clear ho hfr hdep
          have hv := Hv.out
          go_wp2_with fail
          exact ⟨rfl, _, rfl, Below.refl _ _, rfl⟩
        · intro o ho a' w' hb hfr hdep
          obtain rfl := Option.some.inj ho
          have g31 : a'.tmps[31]?.getD undef = .bool v := by have h := hdep 12 _ rfl (by kernel_rfl); simpa using h
          clear ho hfr hdep
          go_wp2_with fail
          exact ⟨rfl, _, rfl, bl1 _ _, _, rfl, Sl.fresh _ _ 1 1 [.bool v] rfl (by unfold maxLen; omega)⟩
      · intro g w2 hb hp
        have p1 := hp 1 _ rfl
        obtain ⟨b, p16, hsb⟩ := hp 13 _ rfl
        clear hp
        simp at p1 p16
        simp only [List.map_cons, List.map_nil, putAll, Act.put, List.setIfInBounds_toArray, List.set_cons_succ, List.set_cons_zero, p1, p16]
        have hU2 := hU1.under hb
        refine append_own rfl _ _ 34 rfl 4 (.bool false) 1 1 Try.underlying34 info_bool rfl w2 (w.heap.size + 2) a2 m c2 _ (by rfl) hU2.own _ 1 1 [.bool v] (by rfl) hsb (by simp [Value.oneCell']) (by omega) (by unfold maxLen; omega) hU2.lt (Below.refl _ _) ?_
        intro a' c' w3 ho' hgr' hb'
        have hr3 := hU2.keep hgr'
        have e2 := hr3.at_ (j := 2) rfl
        have e3 := hr3.free 2
        go_wp2
        go_roundg (N - (m + 1))
        case measure => have := HG.out; omega
        case rel => exact ⟨m + 1, a', c', bs ++ [v], by omega, rfl, by rw [List.length_append, HBS.out]; rfl, by go_num, hU2.put ho' hgr'⟩
    · obtain rfl : N = m := by omega
      have mN := MN.out
      go_wp2_with (first
        | (with_reducible refine load_box 35 36 _ 36 _ 0 _ [.int .i64 W, .int .i64 H, .slice a2 N c2] isAgg_raster (size_raster _ _ _) hU1.ras rfl (fun j u hj => by rw [Nat.zero_add]; exact hj) ?_)
        | (with_reducible refine store_all 36 _ _ 36 _ _ [.int .i64 W, .int .i64 H, .slice a2 N c2] _ (size_raster _ _ _) hU1.res rfl rfl rfl (Eq.refl 3) (by simp [Value.oneCell']) ?_; intro w7 hx7 hg7 hs7))
      have hne : ∀ q, a2 = some q → some q.block ≠ some w.heap.size := by
        intro q hq
        subst hq
        have := hU1.own.base.1
        simp; omega
      refine bodyPost_ret (run_results_cell rfl rfl isAgg_raster (size_raster _ _ _) hx7) rfl ⟨W, H, bs, a2, c2, hW, hH, by rw [HBS.out, HN.out], by rw [HN.out], by rw [HN.out]; exact hU1.own.sl.grown hg7 hne, hU1.bel.grown hg7 hU1.bel.size (fun k hk => by cases hk; exact Nat.le_refl _)⟩
end Go.Proofs.Ythfljnlankmoiaa
end

/- the text C25 -/
section
namespace Go.Proofs.Ythfljnlankmoiaa
open Go.RowKit Go.Dx

/-- What a call hands back that returns whatever raster. -/
def GivesAny (w : World) (r : Ending) (w' : World) : Prop :=
  ∃ (W H : Int) (bs : List Bool) (a : Option Addr) (n c : Nat), r = .returned (RV W H a n c) ∧ Sl w' 1 a n c (bs.map Value.bool) ∧ Below w.heap.size w w'
theorem bent_sl {w w7 : World} {a : Option Addr} {n c : Nat} {bs : List Value} (hs : Sl w 1 a n c bs) (hb : Below w.heap.size w w7) : Sl w7 1 a n c bs := hs.below hb

set_option maxRecDepth 100000 in
set_option maxHeartbeats 1000000 in
theorem law4_bent (W H how b : Int) (bs : List Bool) (a : Option Addr) (n c : Nat) (w : World) (hs : Sl w 1 a n c (bs.map Value.bool)) (h0 : -9223372036854775808 ≤ how) (h1 : how ≤ 9223372036854775807) (hn : n ≤ 1000000) :
    Calls Try.prog 21 #[RV W H a n c, .int .i64 how, .int .i64 b] w (GivesAny w) := by
  obtain ⟨k, Hk⟩ : ∃ k, Hid (aroundF how 5 = k) := ⟨_, hide rfl⟩
  have hk : k < 5 := by rw [← Hk.out]; exact aroundF_lt (by omega)
  have hk5 : k = 0 ∨ k = 1 ∨ k = 2 ∨ k = 3 ∨ k = 4 := by omega
  have HA := hide (fun w => Around_at Hk.out rfl (by omega) (by omega) h0 h1 (w := w))
  clear hk
  go_enter Try.func21, Try.ntmps21
  go_wp2_with fail
  refine (HA.out _).mono ?_
  rintro e w1 ⟨rfl, hw⟩
  have x0 : Box w1 w.heap.size 36 [.int .i64 W, .int .i64 H, .slice a n c] := by rw [← hw]; exact un_box0 (Below.refl _ _)
  have x1 : Box w1 (w.heap.size + 1) 36 [.int .i64 0, .int .i64 0, .slice none 0 0] := by rw [← hw]; exact un_box (Below.refl _ _)
  have hb : Below w.heap.size w w1 := by rw [← hw]; exact bl2 w _ _
  clear hw HA Hk
  have e0 := x0.at_ (j := 0) rfl
  have e1 := x0.at_ (j := 1) rfl
  have e2 := x0.at_ (j := 2) rfl
  have f0 := x0.free 0
  have f1 := x0.free 1
  have f2 := x0.free 2
  have hlt := x1.lt
  rcases hk5 with rfl | rfl | rfl | rfl | rfl
  · have y0 : Box (w1.setCell ⟨w.heap.size, 0, none⟩ (.int .i64 b)) w.heap.size 36 [.int .i64 b, .int .i64 H, .slice a n c] := x0.put 0 _
    have y1 := x1.far (p := ⟨w.heap.size, 0, none⟩) (by simp) (.int .i64 b)
    have hb2 := hb.setCell (p := ⟨w.heap.size, 0, none⟩) (Nat.le_refl _) (.int .i64 b)
    go_wp2_with (first
      | (with_reducible refine load_box 30 36 _ 36 _ 0 _ [.int .i64 b, .int .i64 H, .slice a n c] isAgg_raster (size_raster _ _ _) y0 rfl (fun j u hj => by rw [Nat.zero_add]; exact hj) ?_)
      | (with_reducible refine store_all 36 _ _ 36 _ _ [.int .i64 b, .int .i64 H, .slice a n c] _ (size_raster _ _ _) y1 rfl rfl rfl (Eq.refl 3) (by simp [Value.oneCell']) ?_; intro w7 hx7 hg7 hs7))
    have hb7 := hb2.grown hg7 hb2.size (fun k hk => by cases hk; exact Nat.le_succ _)
    refine bodyPost_ret (run_results_cell rfl rfl isAgg_raster (size_raster _ _ _) hx7) rfl ⟨b, H, bs, a, n, c, rfl, hs.below hb7, hb7⟩
  · have y0 : Box (w1.setCell ⟨w.heap.size, 1, none⟩ (.int .i64 b)) w.heap.size 36 [.int .i64 W, .int .i64 b, .slice a n c] := x0.put 1 _
    have y1 := x1.far (p := ⟨w.heap.size, 1, none⟩) (by simp) (.int .i64 b)
    have hb2 := hb.setCell (p := ⟨w.heap.size, 1, none⟩) (Nat.le_refl _) (.int .i64 b)
    go_wp2_with (first
      | (with_reducible refine load_box 30 36 _ 36 _ 0 _ [.int .i64 W, .int .i64 b, .slice a n c] isAgg_raster (size_raster _ _ _) y0 rfl (fun j u hj => by rw [Nat.zero_add]; exact hj) ?_)
      | (with_reducible refine store_all 36 _ _ 36 _ _ [.int .i64 W, .int .i64 b, .slice a n c] _ (size_raster _ _ _) y1 rfl rfl rfl (Eq.refl 3) (by simp [Value.oneCell']) ?_; intro w7 hx7 hg7 hs7))
    have hb7 := hb2.grown hg7 hb2.size (fun k hk => by cases hk; exact Nat.le_succ _)
    refine bodyPost_ret (run_results_cell rfl rfl isAgg_raster (size_raster _ _ _) hx7) rfl ⟨W, b, bs, a, n, c, rfl, hs.below hb7, hb7⟩
  · have hs1 := hs.below hb
    have hnl := hs.n_eq
    have HNL := hide hnl
    clear hnl
    have e2' : (w1.alloc (.cells #[] 4)).cell? ⟨w.heap.size, 2, none⟩ = some (.slice a n c) := (x0.alloc _).at_ rfl
    have hown := Own.built w1 w1.heap.size 4 1 0 #[] (Nat.le_refl _) rfl (by decide)
    go_wp2_with (first
      | (at_builtin; refine append_own rfl _ _ 34 rfl 4 (.bool false) 1 1 Try.underlying34 info_bool rfl w1 w1.heap.size _ 0 0 _ rfl hown a n c (bs.map Value.bool) rfl (hs1.alloc _) (one_map _ (fun _ => rfl) _) (by omega) (by unfold maxLen; omega) (by simp) ((Below.refl _ _).alloc (Nat.le_refl _) _) ?_; intro a3 c3 w3 ho3 hgr3 hb3; rw [Nat.zero_add, List.nil_append] at ho3)
      | (at_builtin; refine append_lit rfl _ _ 34 rfl 4 (.bool false) 1 1 Try.underlying34 info_bool rfl w1 w1.heap.size _ _ _ _ rfl ho3 1 [.bool true] rfl rfl (by simp [Value.oneCell']) (by omega) (by unfold maxLen; omega) hb3.size hb3 ?_; intro a4 c4 w4 ho4 hgr4 hb4; have z0 := x0.under hb4; have z1 := x1.under hb4; have g2 := z0.at_ (j := 2) rfl; have g3 := z0.free 2; have y0 : Box (w4.setCell ⟨w.heap.size, 2, none⟩ (.slice a4 (n + 1) c4)) w.heap.size 36 [.int .i64 W, .int .i64 H, .slice a4 (n + 1) c4] := z0.put 2 _; have y1 := z1.far (p := ⟨w.heap.size, 2, none⟩) (by simp) (.slice a4 (n + 1) c4))
      | (with_reducible refine load_box 30 36 _ 36 _ 0 _ [.int .i64 W, .int .i64 H, .slice a4 (n + 1) c4] isAgg_raster (size_raster _ _ _) y0 rfl (fun j u hj => by rw [Nat.zero_add]; exact hj) ?_)
      | (with_reducible refine store_all 36 _ _ 36 _ _ [.int .i64 W, .int .i64 H, .slice a4 (n + 1) c4] _ (size_raster _ _ _) y1 rfl rfl rfl (Eq.refl 3) (by simp [Value.oneCell']) ?_; intro w7 hx7 hg7 hs7))
    have hbw := hb.trans (hb4.mono hb.size)
    have hb7 := ((hbw.setCell (p := ⟨w.heap.size, 2, none⟩) (Nat.le_refl _) (.slice a4 (n + 1) c4)).grown hg7 (by rw [Deep.nblk_setCell]; exact hbw.size) (fun k hk => by cases hk; exact Nat.le_succ _))
    refine bodyPost_ret (run_results_cell rfl rfl isAgg_raster (size_raster _ _ _) hx7) rfl ⟨W, H, bs ++ [true], a4, n + 1, c4, rfl, ?_, hb7⟩
    have ho5 := ownsRow_setCell_below ho4 (a := ⟨w.heap.size, 2, none⟩) (by simp; omega) (.slice a4 (n + 1) c4)
    rw [List.map_append]
    refine (Own.sl (B := w1.heap.size) (e := 4) ho5).grown hg7 ?_
    intro q hq
    subst hq
    have := (Own.base (e := 4) ho4).1
    simp; omega
  · go_wp2_with (with_reducible refine store_all 36 _ _ 36 _ _ [.int .i64 0, .int .i64 b, .slice none 0 0] _ (size_raster _ _ _) x1 rfl rfl rfl (Eq.refl 3) (by simp [Value.oneCell']) ?_; intro w7 hx7 hg7 hs7)
    have hb7 := hb.grown hg7 hb.size (fun k hk => by cases hk; exact Nat.le_succ _)
    refine bodyPost_ret (run_results_cell rfl rfl isAgg_raster (size_raster _ _ _) hx7) rfl ⟨0, b, [], none, 0, 0, rfl, Sl.empty _ _, hb7⟩
  · go_wp2_with (first
      | (with_reducible refine load_box 30 36 _ 36 _ 0 _ [.int .i64 W, .int .i64 H, .slice a n c] isAgg_raster (size_raster _ _ _) x0 rfl (fun j u hj => by rw [Nat.zero_add]; exact hj) ?_)
      | (with_reducible refine store_all 36 _ _ 36 _ _ [.int .i64 W, .int .i64 H, .slice a n c] _ (size_raster _ _ _) x1 rfl rfl rfl (Eq.refl 3) (by simp [Value.oneCell']) ?_; intro w7 hx7 hg7 hs7))
    have hb7 := hb.grown hg7 hb.size (fun k hk => by cases hk; exact Nat.le_succ _)
    refine bodyPost_ret (run_results_cell rfl rfl isAgg_raster (size_raster _ _ _) hx7) rfl ⟨W, H, bs, a, n, c, rfl, hs.below hb7, hb7⟩
end Go.Proofs.Ythfljnlankmoiaa
end

/- the text Pg2 -/
section
/- A store into a slice that a call owns; a row of an owned page replaced. -/
namespace Go.Dx
open Go.RowKit
theorem Own.put {w : World} {B : Nat} {e : TypeId} {p : Addr} {n c : Nat} {xs : List Value} (h : Own w B e 1 (some p) n c xs) {i : Nat} (v : Value) : Own (w.setCell ⟨p.block, i, none⟩ v) B e 1 (some p) n c (xs.set i v) := by
  refine ⟨by rw [List.length_set]; exact h.1, ?_⟩
  rcases h.2 with ⟨h1, _⟩ | ⟨g, cap, cur, h1, h2, h3, h4, h5, h6, h7⟩
  · cases h1
  · injection h1 with h1 hn hc
    injection h1 with h1
    subst h1
    refine .inr ⟨g, cap, cur.setIfInBounds i v, by rw [hc], h2, ?_, h4, h5, by simpa using h6, ?_⟩
    · simp [World.setCell, Array.getElem?_modify, h3]
    · rw [Array.toList_setIfInBounds, ← h7, Nat.mul_one, List.take_set]
theorem Own.free {w : World} {B : Nat} {e : TypeId} {p : Addr} {n c : Nat} {sz : Nat} {xs : List Value} (h : Own w B e sz (some p) n c xs) (j : Nat) : w.frozen? ⟨p.block, j, none⟩ = false := by
  rcases h.2 with ⟨h1, _⟩ | ⟨g, cap, cur, h1, h2, h3, _⟩
  · cases h1
  · injection h1 with h1 hn hc
    injection h1 with h1
    subst h1
    simp [World.frozen?, h3]
theorem Own.at_ {w : World} {B : Nat} {e : TypeId} {b : Nat} {n c : Nat} {xs : List Value} (h : Own w B e 1 (some ⟨b, 0, none⟩) n c xs) {j : Nat} {v : Value} (hj : xs[j]? = some v) : w.cell? ⟨b, j, none⟩ = some v := by
  have := h.sl.cell ⟨b, 0, none⟩ rfl j v hj
  rw [Addr.add_lit, Nat.zero_add] at this
  exact this
theorem Own.zero {w : World} {B : Nat} {e : TypeId} {p : Addr} {n c : Nat} {sz : Nat} {xs : List Value} (h : Own w B e sz (some p) n c xs) : p = ⟨p.block, 0, none⟩ := by
  rcases h.2 with ⟨h1, _⟩ | ⟨g, cap, cur, h1, _⟩
  · cases h1
  · injection h1 with h1 hn hc
    injection h1 with h1
    subst h1; rfl
theorem Own.set_other {w : World} {B : Nat} {e : TypeId} {a : Option Addr} {n c : Nat} {sz : Nat} {xs : List Value} (h : Own w B e sz a n c xs) {p : Addr} (hp : ∀ q, a = some q → q.block ≠ p.block) (v : Value) : Own (w.setCell p v) B e sz a n c xs := by
  refine ⟨h.1, ?_⟩
  rcases h.2 with h1 | ⟨g, cap, cur, h1, h2, h3, r⟩
  · exact .inl h1
  · refine .inr ⟨g, cap, cur, h1, h2, ?_, r⟩
    injection h1 with h1
    rw [Below.heap_setCell w p v g (hp _ h1)]
    exact h3
end Go.Dx
namespace Go.Proofs.Ythfljnlankmoiaa
open Go.RowKit Go.Dx
theorem OPage.top_kept {w w' : World} {B : Nat} {t : Addr} {c : Nat} {hs : List Hd} {p : List (List UInt8)} {i : Nat} {x : Hd} (h : OPage w B (some t) c hs p) (hi : hs[i]? = some x)
    (hg : w.grownBy w' (x.1.map (·.block))) : Own w' B 23 1 (some t) p.length c (hs.map hv) := by
  have hil : i < hs.length := (List.getElem?_eq_some_iff.1 hi).1
  have hp : i < p.length := by rw [← h.len]; exact hil
  refine h.top.kept hg fun q hq => ?_
  cases hq
  have ho := h.row i x p[i] hi (by simp [hp])
  cases hx : x.1 with
  | none => simp
  | some q' =>
    rw [hx] at ho
    have := own_ne h.top ho (by decide)
    simpa using this
/-- one row of an owned page replaced by another that is owned -/
theorem OPage.replace {w w' : World} {B : Nat} {t : Addr} {c : Nat} {hs : List Hd} {p : List (List UInt8)} {i : Nat} {x y : Hd} {r : List UInt8} (h : OPage w B (some t) c hs p) (hi : hs[i]? = some x)
    (hg : w.grownBy w' (x.1.map (·.block))) (hne : ∀ j z, hs[j]? = some z → j ≠ i → ∀ q q', z.1 = some q → x.1 = some q' → q.block ≠ q'.block) (hy : Own w' B 5 1 y.1 y.2.1 y.2.2 (r.map B8)) :
    OPage (w'.setCell ⟨t.block, i, none⟩ (hv y)) B (some t) c (hs.set i y) (p.set i r) := by
  have hil : i < hs.length := (List.getElem?_eq_some_iff.1 hi).1
  have hxi := h.row i x
  have ht : Own w' B 23 1 (some t) p.length c (hs.map hv) := by
    refine h.top.kept hg fun q hq => ?_
    cases hq
    have hp : i < p.length := by rw [← h.len]; exact hil
    have ho := hxi p[i] hi (by simp [hp])
    cases hx : x.1 with
    | none => simp
    | some q' =>
      rw [hx] at ho
      have := own_ne h.top ho (by decide)
      simpa using this
  refine ⟨?_, by rw [List.length_set, List.length_set]; exact h.len, ?_⟩
  · have := ht.put (i := i) (hv y)
    rw [List.length_set, List.map_set]; exact this
  · intro j z s hz hs'
    rw [List.getElem?_set] at hz hs'
    by_cases hj : i = j
    · subst hj
      rw [if_pos rfl, if_pos hil] at hz
      rw [if_pos rfl, if_pos (by rw [← h.len]; exact hil)] at hs'
      cases hz; cases hs'
      refine hy.set_other (fun q hq => ?_) _
      rw [hq] at hy
      have := own_ne hy ht (by decide)
      exact this
    · rw [if_neg hj] at hz hs'
      have ho := h.row j z s hz hs'
      have ho' : Own w' B 5 1 z.1 z.2.1 z.2.2 (s.map B8) := ho.kept hg fun q hq => by
        cases hx : x.1 with
        | none => simp
        | some q' =>
          have := hne j z hz (fun e => hj e.symm) q q' hq hx
          simpa using this
      refine ho'.set_other (fun q hq => ?_) _
      rw [hq] at ho'
      have := own_ne ho' ht (by decide)
      exact this
end Go.Proofs.Ythfljnlankmoiaa
end

/- the text C26 -/
section
namespace Go.Proofs.Ythfljnlankmoiaa
open Go.RowKit Go.Dx

/-- the rows lie in pairwise different blocks -/
def Apart (hs : List Hd) : Prop := ∀ (i j : Nat) (x y : Hd), hs[i]? = some x → hs[j]? = some y → i ≠ j → ∀ p q, x.1 = some p → y.1 = some q → p.block ≠ q.block
theorem Apart.nil : Apart [] := fun i j x y h => by cases h
/-- every row lies below block B -/
def Under (B : Nat) (hs : List Hd) : Prop := ∀ (i : Nat) (x : Hd), hs[i]? = some x → ∀ p, x.1 = some p → p.block < B
theorem Under.nil (B : Nat) : Under B [] := fun i x h => by cases h
theorem Under.mono {B B' : Nat} {hs : List Hd} (h : Under B hs) (hB : B ≤ B') : Under B' hs := fun i x hx p hp => Nat.lt_of_lt_of_le (h i x hx p hp) hB
theorem Apart.push {B : Nat} {hs : List Hd} {y : Hd} (h : Apart hs) (hu : Under B hs) (hy : ∀ q, y.1 = some q → B ≤ q.block) : Apart (hs ++ [y]) := by
  intro i j x z hx hz hij p q hp hq
  rw [List.getElem?_append] at hx hz
  by_cases hi : i < hs.length
  · rw [if_pos hi] at hx
    by_cases hj : j < hs.length
    · rw [if_pos hj] at hz
      exact h i j x z hx hz hij p q hp hq
    · rw [if_neg hj] at hz
      have e : j - hs.length = 0 := by have := (List.getElem?_eq_some_iff.1 hz).1; simp at this; omega
      rw [e] at hz
      simp at hz
      subst hz
      have := hu i x hx p hp
      have := hy q hq
      omega
  · rw [if_neg hi] at hx
    have e : i - hs.length = 0 := by have := (List.getElem?_eq_some_iff.1 hx).1; simp at this; omega
    rw [e] at hx
    simp at hx
    subst hx
    by_cases hj : j < hs.length
    · rw [if_pos hj] at hz
      have := hu j z hz q hq
      have := hy p hp
      omega
    · rw [if_neg hj] at hz
      have e2 : j - hs.length = 0 := by have := (List.getElem?_eq_some_iff.1 hz).1; simp at this; omega
      omega
theorem Under.push {B : Nat} {hs : List Hd} {y : Hd} (h : Under B hs) (hy : ∀ q, y.1 = some q → q.block < B) : Under B (hs ++ [y]) := by
  intro i x hx p hp
  rw [List.getElem?_append] at hx
  by_cases hi : i < hs.length
  · rw [if_pos hi] at hx
    exact h i x hx p hp
  · rw [if_neg hi] at hx
    have e : i - hs.length = 0 := by have := (List.getElem?_eq_some_iff.1 hx).1; simp at this; omega
    rw [e] at hx
    simp at hx
    subst hx
    exact hy p hp

/-- What a call hands back that returns a small page. -/
def GivesPage (w : World) (r : Ending) (w' : World) : Prop :=
  ∃ (p : List (List UInt8)) (a : Option Addr) (c : Nat) (hs : List Hd), p.length ≤ 5 ∧ (∀ l ∈ p, l.length ≤ 10) ∧ r = .returned (.slice a p.length c) ∧ OPage w' w.heap.size a c hs p ∧ Below w.heap.size w w'
end Go.Proofs.Ythfljnlankmoiaa
end

/- the text Free2 -/
section
/- A region that draws its order, in whose head one operation (an append, a store) changes what lies there: TP. What it waits for (TE) comes before it; what may come at any time (TL) leaves the world as it is. No program in sight. -/
set_option linter.unusedVariables false
namespace Go.Dx
open Go.RowKit

theorem grown_of_below {w w' : World} (h : Below w.heap.size w w') (row : Option Nat) : w.grownBy w' row := ⟨h.os, h.tape, h.output, h.size, fun k hk _ => h.block k hk⟩
theorem grown_trans {a b c : World} {row : Option Nat} (h : a.grownBy b row) (k : b.grownBy c row) : a.grownBy c row :=
  ⟨k.os.trans h.os, k.tape.trans h.tape, k.output.trans h.output, Nat.le_trans h.size k.size, fun i hi hr => (k.block i (Nat.lt_of_lt_of_le hi h.size) hr).trans (h.block i hi hr)⟩
/-- what an operation leaves that does not touch the world -/
def OneStill (d : Nat) (a : Act) (w : World) (R : Value → World → Prop) (e : Exit) (a' : Act) (w' : World) : Prop := e = .normal ∧ ∃ v, a' = a.put (some d) v ∧ w' = w ∧ R v w'
def OneTurn (d : Nat) (a : Act) (R : Value → World → Prop) (e : Exit) (a' : Act) (w' : World) : Prop := e = .normal ∧ ∃ v, a' = a.put (some d) v ∧ R v w'

structure MidInv (l : List Oper) (n p : Nat) (T : List HOp) (a0 : Act) (w0 : World) (G : World → Prop) (listed : Array Bool) (a : Act) (w : World) : Prop where
  inv : HeadInv .any l.toArray n listed
  defers : a.defers = a0.defers
  size : a.tmps.size = a0.tmps.size
  frame : ∀ k, (∀ t ∈ T, t.d ≠ k) → a.tmps.getD k undef = a0.tmps.getD k undef
  pre : listed.getD p false = false → Below w0.heap.size w0 w
  post : listed.getD p false = true → G w
  facts : ∀ t ∈ T, listed.getD t.i false = true → t.fact a w

section
variable {P : Program}
theorem wp_region_mid {id : Nat} {Q : Exit → Act → World → Prop} {a0 : Act} {w0 : World} {l : List Oper} (n : Nat) (L G : World → Prop) (TP : HOp) (TE TL : List HOp) (hm : P.follows .mixedOrders = true)
    (hB : (headOk l n ((TP :: (TE ++ TL)).map fun t => (t.i, t.d, t.s)) a0.tmps.size && (TE.all fun t => Region.waitsFor .any l.toArray TP.i t.i && t.i != TP.i)) = true)
    (hL1 : ∀ w, Below w0.heap.size w0 w → L w) (hL2 : ∀ w, G w → L w)
    (hmono : All (fun t : HOp => ∀ vs w w', Below w.heap.size w w' → t.p vs w → t.p vs w') (TE ++ TL))
    (hopP : ∀ o, l[TP.i]? = some o → ∀ (a : Act) (w : World), Below w0.heap.size w0 w →
      (∀ k, ((TP :: (TE ++ TL)).map (·.d)).contains k = false → a.tmps.getD k undef = a0.tmps.getD k undef) →
      (∀ (k : Nat) (u : HOp), (TP :: (TE ++ TL))[k]? = some u → Region.waitsFor .any l.toArray TP.i u.i = true → u.p (u.s.map fun k => a.tmps.getD k undef) w) →
      wpList P l.toArray (OneTurn TP.d a fun v w' => TP.p (TP.s.map fun k => if TP.d = k then v else a.tmps.getD k undef) w' ∧ G w' ∧ All (fun u : HOp => ∀ vs, u.p vs w → u.p vs w') (TE ++ TL)) [o] a w)
    (hopE : All (fun t : HOp => ∀ o, l[t.i]? = some o → ∀ (a : Act) (w : World), Below w0.heap.size w0 w →
      (∀ k, ((TP :: (TE ++ TL)).map (·.d)).contains k = false → a.tmps.getD k undef = a0.tmps.getD k undef) →
      (∀ (k : Nat) (u : HOp), (TP :: (TE ++ TL))[k]? = some u → Region.waitsFor .any l.toArray t.i u.i = true → u.p (u.s.map fun k => a.tmps.getD k undef) w) →
      wpList P l.toArray (OneDone t.d a w fun v w' => t.p (t.s.map fun k => if t.d = k then v else a.tmps.getD k undef) w') [o] a w) TE)
    (hopL : All (fun t : HOp => ∀ o, l[t.i]? = some o → ∀ (a : Act) (w : World), L w →
      (∀ k, ((TP :: (TE ++ TL)).map (·.d)).contains k = false → a.tmps.getD k undef = a0.tmps.getD k undef) →
      (∀ (k : Nat) (u : HOp), (TP :: (TE ++ TL))[k]? = some u → Region.waitsFor .any l.toArray t.i u.i = true → u.p (u.s.map fun k => a.tmps.getD k undef) w) →
      wpList P l.toArray (OneStill t.d a w fun v w' => t.p (t.s.map fun k => if t.d = k then v else a.tmps.getD k undef) w') [o] a w) TL)
    (hend : ∀ (g : Nat → Value) (w : World), G w → (∀ (k : Nat) (u : HOp), (TP :: (TE ++ TL))[k]? = some u → u.p (u.s.map fun k => if k ∈ (TP :: (TE ++ TL)).map (·.d) then g k else a0.tmps.getD k undef) w) →
      wpList P l.toArray Q (l.drop n) (putAll a0 (((TP :: (TE ++ TL)).map (·.d)).map fun d => (d, g d))) w) : (Code.region id l.toArray true).wp P Q a0 w0 := by
  obtain ⟨T, hTdef⟩ : ∃ T, TP :: (TE ++ TL) = T := ⟨_, rfl⟩
  have memP : TP ∈ T := by rw [← hTdef]; exact List.mem_cons_self
  have split : ∀ t ∈ T, t = TP ∨ t ∈ TE ∨ t ∈ TL := by
    intro t ht
    rw [← hTdef] at ht
    rcases List.mem_cons.1 ht with h | h
    · exact .inl h
    · exact .inr (List.mem_append.1 h)
  have rest : ∀ t ∈ T, t ≠ TP → t ∈ TE ++ TL := by
    intro t ht hne
    rw [← hTdef] at ht
    rcases List.mem_cons.1 ht with h | h
    · exact absurd h hne
    · exact h
  rw [hTdef] at hB hopP hopE hopL hend
  rw [Bool.and_eq_true] at hB
  obtain ⟨hB, hE⟩ := hB
  have hE1 : ∀ t ∈ TE, Region.waitsFor .any l.toArray TP.i t.i = true ∧ t.i ≠ TP.i := by
    intro t ht
    have := List.all_eq_true.1 hE t ht
    simpa using this
  simp only [headOk, Bool.and_eq_true, decide_eq_true_eq] at hB
  obtain ⟨⟨⟨⟨⟨⟨⟨hnd, hn⟩, hs⟩, hc⟩, hseq⟩, hcov⟩, hT⟩, hpair⟩ := hB
  have hnodup : ∀ t ∈ T, ∀ u ∈ T, t.i = u.i → t = u := inj_nodup (·.i) T (by rw [List.map_map] at hnd; exact hnd)
  have hn' : n < l.toArray.size := by simpa using hn
  have cover : ∀ j, j < n → ∃ t ∈ T, t.i = j := by
    intro j hj
    have h := List.all_eq_true.1 hcov j (List.mem_range.2 hj)
    obtain ⟨x, hx, he⟩ := List.any_eq_true.1 h
    obtain ⟨t, ht, rfl⟩ := List.mem_map.1 hx
    exact ⟨t, ht, by simpa using he⟩
  have own : ∀ t ∈ T, t.i < n ∧ t.d < a0.tmps.size ∧ ∃ o, l[t.i]? = some o ∧ o.dst = some t.d ∧ ∀ e ∈ o.after, Region.binds .any e = true → e.on < t.i := by
    intro t ht
    have h := List.all_eq_true.1 hT _ (List.mem_map.2 ⟨t, ht, rfl⟩)
    simp only [Bool.and_eq_true, decide_eq_true_eq] at h
    obtain ⟨⟨h1, h2⟩, h3⟩ := h
    refine ⟨h1, h2, ?_⟩
    cases ho : l[t.i]? with
    | none => rw [ho] at h3; cases h3
    | some o =>
      rw [ho] at h3
      simp only [Bool.and_eq_true, beq_iff_eq] at h3
      refine ⟨o, rfl, h3.1, fun e he hb => ?_⟩
      have := Array.all_eq_true_iff_forall_mem.1 h3.2 e he
      simpa [hb] using this
  have pair : ∀ t ∈ T, ∀ u ∈ T, t.i ≠ u.i → t.d ≠ u.d ∧ (t.d ∈ u.s → Region.waitsFor .any l.toArray u.i t.i = true) := by
    intro t ht u hu hne
    have h := List.all_eq_true.1 (List.all_eq_true.1 hpair _ (List.mem_map.2 ⟨t, ht, rfl⟩)) _ (List.mem_map.2 ⟨u, hu, rfl⟩)
    simp only [Bool.or_eq_true, beq_iff_eq, hne, false_or, Bool.and_eq_true, bne_iff_ne, ne_eq, Bool.not_eq_true'] at h
    refine ⟨h.1, fun hin => ?_⟩
    rcases h.2 with h2 | h2
    · have : u.s.contains t.d = true := by simpa using hin
      rw [this] at h2; cases h2
    · exact h2
  have key : ∀ (f : Nat) (listed : Array Bool) (a : Act) (w : World), MidInv l n TP.i T a0 w0 G listed a w → todo listed n = f → wpAny P .any l.toArray Q (f + (l.length - n)) listed a w := by
    intro f
    induction f with
    | zero =>
      intro listed a w I h0
      have hall : ∀ j, j < n → listed.getD j true = true := by
        intro j hj
        cases hb : listed.getD j true with
        | true => rfl
        | false =>
          have : j ∈ (List.range n).filter fun j => !listed.getD j true := List.mem_filter.2 ⟨List.mem_range.2 hj, by rw [hb]; rfl⟩
          unfold todo at h0
          rw [List.eq_nil_of_length_eq_zero h0] at this
          cases this
      have hlist : listed = (List.replicate n true ++ List.replicate (l.length - n) false).toArray := by
        have hsz := I.inv.size
        apply Array.ext
        · simp at hsz ⊢; omega
        · intro j h1 h2
          by_cases hj : j < n
          · have := hall j hj
            simp [Array.getD, h1] at this
            simp [this, List.getElem_append_left, hj]
          · have := I.inv.tail j (by omega) (by rw [← hsz]; exact h1)
            simp [Array.getD, h1] at this
            simp only [this, List.getElem_toArray]
            rw [List.getElem_append_right (by simp; omega)]
            simp
      have ha : a = putAll a0 ((T.map (·.d)).map fun d => (d, a.tmps.getD d undef)) := by
        have hd : ∀ d ∈ T.map (·.d), d < a0.tmps.size := by
          intro d hd
          obtain ⟨t, ht, rfl⟩ := List.mem_map.1 hd
          exact (own t ht).2.1
        refine act_ext (by rw [putAll_defers]; exact I.defers) (by rw [putAll_size]; exact I.size) (fun k => ?_)
        rw [putAll_get (fun d => a.tmps.getD d undef) _ _ _ hd]
        by_cases h : k ∈ T.map (·.d)
        · rw [if_pos h]
        · rw [if_neg h]
          exact I.frame k (fun t ht e => h (List.mem_map.2 ⟨t, ht, e⟩))
      have hlp : listed.getD TP.i false = true := by
        have := hall TP.i (own TP memP).1
        rcases Nat.lt_or_ge TP.i listed.size with h' | h'
        · simp [h'] at this ⊢; exact this
        · have := I.inv.size; have := (own TP memP).1; omega
      have hfin := hend (fun d => a.tmps.getD d undef) w (I.post hlp) (fun k u hu => by
        have hu' := List.mem_of_getElem? hu
        have h1 := I.facts u hu' (by
          have := hall u.i (own u hu').1
          rcases Nat.lt_or_ge u.i listed.size with h' | h'
          · simp [h'] at this ⊢; exact this
          · have := I.inv.size; have := (own u hu').1; omega)
        unfold HOp.fact at h1
        have e : (u.s.map fun k => if k ∈ T.map (·.d) then a.tmps.getD k undef else a0.tmps.getD k undef) = u.s.map fun k => a.tmps.getD k undef := by
          apply List.map_congr_left
          intro k _
          by_cases h : k ∈ T.map (·.d)
          · rw [if_pos h]
          · rw [if_neg h]
            exact (I.frame k (fun t ht e => h (List.mem_map.2 ⟨t, ht, e⟩))).symm
        rw [e]
        exact h1)
      rw [← ha] at hfin
      rw [Nat.zero_add]
      have hseq' : Region.seqB .any l.toArray (l.drop n).length n listed = true := by rw [hlist, List.length_drop]; exact hseq
      have := wpAny_of_seq (md := .any) (Q' := Q) (l.drop n) n listed a w (fun j => by simp [List.getElem?_drop]) hseq' hfin
      rwa [List.length_drop] at this
    | succ f ih =>
      intro listed a w I hf
      have hex : ∃ j, j < n ∧ listed.getD j true = false := by
        cases hL : (List.range n).filter fun j => !listed.getD j true with
        | nil => unfold todo at hf; rw [hL] at hf; cases hf
        | cons j L =>
          have : j ∈ (List.range n).filter fun j => !listed.getD j true := by rw [hL]; exact List.mem_cons_self
          obtain ⟨h1, h2⟩ := List.mem_filter.1 this
          exact ⟨j, List.mem_range.1 h1, by simpa using h2⟩
      have hready : Region.ready .any l.toArray listed ≠ [] := by
        have hmin : ∀ m j, j ≤ m → j < n → listed.getD j true = false → ∃ i, i ∈ Region.ready .any l.toArray listed := by
          intro m
          induction m with
          | zero =>
            intro j hj hjn hjl
            have hj0 : j = 0 := by omega
            subst hj0
            obtain ⟨t, ht, hti⟩ := cover 0 hjn
            obtain ⟨_, _, o, ho, _, hb⟩ := own t ht
            rw [hti] at ho hb
            exact ⟨0, mem_ready.2 ⟨hjl, o, by simpa using ho, fun e he hbe => absurd (hb e he hbe) (by omega)⟩⟩
          | succ m ihm =>
            intro j hj hjn hjl
            obtain ⟨t, ht, hti⟩ := cover j hjn
            obtain ⟨_, _, o, ho, _, hb⟩ := own t ht
            rw [hti] at ho hb
            by_cases hall : ∀ e ∈ o.after, Region.binds .any e = true → listed.getD e.on false = true
            · exact ⟨j, mem_ready.2 ⟨hjl, o, by simpa using ho, hall⟩⟩
            · simp only [Classical.not_forall] at hall
              obtain ⟨e, he, hbe, hne⟩ := hall
              have hlt := hb e he hbe
              have hes : e.on < listed.size := by rw [I.inv.size]; simp; omega
              exact ihm e.on (by omega) (by omega) (getD_in hes (by simpa using hne))
        obtain ⟨j, hj, hjl⟩ := hex
        obtain ⟨i, hi⟩ := hmin j j (Nat.le_refl _) hj hjl
        intro h
        rw [h] at hi
        cases hi
      rw [show f + 1 + (l.length - n) = (f + (l.length - n)) + 1 by omega]
      refine ⟨fun h => absurd h hready, fun i hi => ?_⟩
      have hin : i < n := by
        rcases Nat.lt_or_ge i n with h | h
        · exact h
        · obtain ⟨j, hj, hjl⟩ := hex
          exact absurd hi (tail_waits hs hc hn' I.inv _ j rfl hj hjl i h)
      obtain ⟨t, ht, hti⟩ := cover i hin
      obtain ⟨_, htd, o, ho, hdst, _⟩ := own t ht
      obtain ⟨hil, oi, hoi, hafter⟩ := mem_ready.1 hi
      have hoo : oi = o := by rw [hti] at ho; exact Option.some.inj (hoi.symm.trans (by simpa using ho))
      subst hoo
      have hframe : ∀ k, (T.map (·.d)).contains k = false → a.tmps.getD k undef = a0.tmps.getD k undef := fun k hk => I.frame k (fun u hu e => by
          have : (T.map (·.d)).contains k = true := by simpa using ⟨u, hu, e⟩
          rw [this] at hk; cases hk)
      have hfacts : ∀ (k : Nat) (u : HOp), T[k]? = some u → Region.waitsFor .any l.toArray t.i u.i = true → u.p (u.s.map fun k => a.tmps.getD k undef) w := fun k u hu hw => by
        have hu' := List.mem_of_getElem? hu
        obtain ⟨oj, hoj, e, he, hb, hon⟩ := Region.waitsFor_spec hw
        have : oj = oi := by rw [hti] at hoj; exact Option.some.inj (hoj.symm.trans hoi)
        subst this
        have h1 := hafter e he hb
        rw [hon] at h1
        exact I.facts u hu' h1
      have step0 : ∀ (v : Value) (w' : World), (t.i ≠ TP.i → (listed.getD TP.i false = false → Below w0.heap.size w0 w') ∧ (listed.getD TP.i false = true → G w')) → (t.i = TP.i → G w') →
          (∀ u ∈ T, u ≠ t → listed.getD u.i false = true → ∀ vs, u.p vs w → u.p vs w') → t.p (t.s.map fun k => if t.d = k then v else a.tmps.getD k undef) w' → wpAny P .any l.toArray Q (f + (l.length - n)) (listed.setIfInBounds i true) (a.put (some t.d) v) w' := by
        intro v w' hph hG hsurv hp
        refine ih _ _ _ ⟨I.inv.set hi hin, I.defers, ?_, ?_, ?_, ?_, ?_⟩ ?_
        · rw [← I.size]; simp [Act.put]
        · intro k hk
          rw [put_get, if_neg (fun h => hk t ht h.1)]
          exact I.frame k hk
        · intro hl
          by_cases hip : t.i = TP.i
          · exfalso
            rw [← hip, hti] at hl
            have hlt : i < listed.size := by rw [I.inv.size]; omega
            simp [hlt] at hl
          · rw [getD_set_ne false (by rw [← hti]; exact hip)] at hl
            exact (hph hip).1 hl
        · intro hl
          by_cases hip : t.i = TP.i
          · exact hG hip
          · rw [getD_set_ne false (by rw [← hti]; exact hip)] at hl
            exact (hph hip).2 hl
        · intro u hu hul
          by_cases hui : t.i = u.i
          · unfold HOp.fact
            by_cases hut : u = t
            · subst hut
              have e : (u.s.map fun k => (a.put (some u.d) v).tmps.getD k undef) = u.s.map fun k => if u.d = k then v else a.tmps.getD k undef := by
                apply List.map_congr_left
                intro k _
                rw [put_get, I.size]
                by_cases hk : u.d = k
                · rw [if_pos ⟨hk, htd⟩, if_pos hk]
                · rw [if_neg (fun h => hk h.1), if_neg hk]
              rw [e]
              exact hp
            · exact absurd (hnodup t ht u hu hui).symm hut
          · unfold HOp.fact
            have hul2 : listed.getD u.i false = true := by rw [← getD_set_ne false (i := i) (j := u.i) (by rw [← hti]; exact hui)]; exact hul
            have h1 := hsurv u hu (fun e => hui (by rw [e])) hul2 _ (I.facts u hu hul2)
            have hnot : t.d ∉ u.s := by
              intro hin2
              have hw := (pair t ht u hu hui).2 hin2
              obtain ⟨ou, hou, e, he, hb, hon⟩ := Region.waitsFor_spec hw
              have := I.inv.closed u.i ou hou hul2 e he hb
              rw [hon, hti, getD_both hil] at this
              cases this
            have e : (u.s.map fun k => (a.put (some t.d) v).tmps.getD k undef) = u.s.map fun k => a.tmps.getD k undef := by
              apply List.map_congr_left
              intro k hk
              rw [put_get, if_neg (fun (h : t.d = k ∧ t.d < a.tmps.size) => hnot (by rw [h.1]; exact hk))]
            rw [e]
            exact h1
        · have := todo_set hin hil; omega
      have fin : ∀ (R : Exit → Act → World → Prop), (∀ e a' w', R e a' w' → e = .normal) → (∀ a' w', R .normal a' w' → wpAny P .any l.toArray Q (f + (l.length - n)) (listed.setIfInBounds i true) a' w') → wpList P l.toArray R [oi] a w → wpOp P l.toArray Q i (fun a' w' => wpAny P .any l.toArray Q (f + (l.length - n)) (listed.setIfInBounds i true) a' w') a w := by
        intro R hR step H
        unfold wpList at H
        unfold wpOp
        rw [hoi]
        simp only
        by_cases hwant : Region.wanted oi (yielded l.toArray a.tmps) = true
        · rw [if_pos hwant] at H
          rw [if_pos hwant]
          left
          rcases H with H | ⟨_, a1, w1, h1⟩
          · exact wp_both (fun a' w' h => step a' w' h) (fun e a' w' he h => absurd (hR _ _ _ h) he) H
          · exact absurd (hR _ _ _ h1) (by simp)
        · rw [if_neg hwant] at H
          rw [if_neg hwant]
          exact step _ _ H
      have prep : t.i = TP.i ∨ t ∈ TE → listed.getD TP.i false = false := by
        intro h
        rcases h with h | h
        · rw [h] at hti
          rw [hti]
          exact getD_both hil
        · cases hlp : listed.getD TP.i false with
          | false => rfl
          | true =>
            obtain ⟨hw, _⟩ := hE1 t h
            obtain ⟨ou, hou, e, he, hb, hon⟩ := Region.waitsFor_spec hw
            have := I.inv.closed TP.i ou hou hlp e he hb
            rw [hon, hti, getD_both hil] at this
            cases this
      by_cases htP : t = TP
      · subst htP
        have hpre := prep (.inl rfl)
        refine fin _ ?_ ?_ (hopP oi ho a w (I.pre hpre) hframe hfacts)
        · exact fun e a' w' h => h.1
        · rintro a' w' ⟨_, v, rfl, hp, hG, hS⟩
          refine step0 v w' (fun h => absurd rfl h) (fun _ => hG) (fun u hu hne _ => hS.mem u (rest u hu hne)) hp
      · have hipP : t.i ≠ TP.i := fun h => htP (hnodup t ht TP memP h)
        rcases split t ht with h | h | h
        · exact absurd h htP
        · have hpre := prep (.inr h)
          refine fin _ ?_ ?_ (hopE.mem t h oi ho a w (I.pre hpre) hframe hfacts)
          · exact fun e a' w' h => h.1
          · rintro a' w' ⟨_, v, rfl, hbel, hp⟩
            refine step0 v w' (fun _ => ⟨fun _ => (I.pre hpre).trans (hbel.mono (I.pre hpre).size), fun h => by rw [hpre] at h; cases h⟩) (fun h => absurd h hipP) (fun u hu hne hul => ?_) hp
            have huP : u ≠ TP := fun e => by rw [e, hpre] at hul; cases hul
            exact fun vs hv => hmono.mem u (rest u hu huP) vs w w' hbel hv
        · have hLw : L w := by
            cases hlp : listed.getD TP.i false with
            | false => exact hL1 w (I.pre hlp)
            | true => exact hL2 w (I.post hlp)
          refine fin _ ?_ ?_ (hopL.mem t h oi ho a w hLw hframe hfacts)
          · exact fun e a' w' h => h.1
          · rintro a' w' ⟨_, v, rfl, rfl, hp⟩
            exact step0 v _ (fun _ => ⟨I.pre, I.post⟩) (fun h => absurd h hipP) (fun u hu hne hul vs hv => hv) hp
  refine wp_region_any hm ?_
  have inv0 : HeadInv .any l.toArray n (Array.replicate l.toArray.size false) :=
    ⟨by simp, fun j oj _ hl => (by rw [getD_replicate_false] at hl; cases hl), fun t _ ht => getD_in (by simpa using ht) (getD_replicate_false _ _)⟩
  have I0 : MidInv l n TP.i T a0 w0 G (Array.replicate l.toArray.size false) a0 { w0 with drawn := w0.drawn + 1 } :=
    ⟨inv0, rfl, rfl, fun _ _ => rfl, fun _ => Still.below 1, fun hl => (by rw [getD_replicate_false] at hl; cases hl), fun t _ hl => (by rw [getD_replicate_false] at hl; cases hl)⟩
  have ht0 : todo (Array.replicate l.toArray.size false) n = n := by
    unfold todo
    rw [List.filter_eq_self.2 (fun j hj => by
      have hj' := List.mem_range.1 hj
      have : (Array.replicate l.toArray.size false).getD j true = false := getD_in (by simp; omega) (getD_replicate_false _ _)
      rw [this]; rfl), List.length_range]
  have := key n _ _ _ I0 ht0
  rwa [show n + (l.length - n) = l.toArray.size by simp; omega] at this
end
end Go.Dx
end

/- the text C27 -/
section
namespace Go.Proofs.Ythfljnlankmoiaa
open Go.RowKit Go.Dx

theorem u8_small {m : Nat} (h : m < 256) : B8 (UInt8.ofNat m) = .int .u8 (m : Int) := by
  show Value.int .u8 ((UInt8.ofNat m).toNat : Int) = _
  rw [UInt8.toNat_ofNat', Nat.mod_eq_of_lt h]
theorem OPage.under {w : World} {B : Nat} {a : Option Addr} {c : Nat} {hs : List Hd} {p : List (List UInt8)} (h : OPage w B a c hs p) : Under w.heap.size hs := by
  intro i x hx q hq
  have hi : i < p.length := by rw [← h.len]; exact (List.getElem?_eq_some_iff.1 hx).1
  have ho := h.row i x p[i] hx (by simp [hi])
  rw [hq] at ho
  exact ho.base.2
set_option maxRecDepth 100000 in
set_option maxHeartbeats 1000000 in
theorem ref_Page (l : List Int) (a : Option Addr) (n c : Nat) (w : World) (hs : Sl w 1 a n c (l.map I64)) (hl : ∀ x ∈ l, -9223372036854775808 ≤ x ∧ x ≤ 9223372036854775807) :
    Calls Try.prog 26 #[.slice a n c] w (GivesPage w) := by
  obtain ⟨K, HK⟩ : ∃ K, Hid (atF l 0 6 = K) := ⟨_, hide rfl⟩
  have hK : K < 6 := by rw [← HK.out]; exact atF_lt (by omega)
  have HQ : Hid (∀ (i v : Int) (m r : Nat), atF l i m = r → (m : Int) = v → 1 ≤ m → m ≤ 1000000000 → ∀ w', Below w.heap.size w w' → Calls Try.prog 55 #[.slice a n c, .int .i64 i, .int .i64 v] w' fun e w2 => e = .returned (.int .i64 (r : Int)) ∧ w' = w2) :=
    fun i v m r h hv h1 h2 w' hb => At_at h hv h1 h2 hl (hs.below hb)
  clear hl
  go_enter Try.func26, Try.ntmps26
  go_wp2_with fail
  refine (HQ.out 0 _ 6 K HK.out rfl (by omega) (by omega) _ (Below.refl _ _)).mono ?_
  rintro e w1 ⟨rfl, rfl⟩
  go_wp2_with fail
  go_loopg [3, 5] K (fun g x i w' => ∃ (k : Nat) (a2 : Option Addr) (c2 : Nat) (hs : List Hd) (p : List (List UInt8)), k ≤ K ∧ g = K - k ∧ p.length = k ∧ (∀ r ∈ p, r.length ≤ 9) ∧ i = .int .i64 k ∧ x = .slice a2 k c2 ∧ OPage w' w.heap.size a2 c2 hs p ∧ Apart hs ∧ Under w'.heap.size hs ∧ Below w.heap.size w w')
  case atStart => exact ⟨0, none, 0, [], [], by omega, by omega, rfl, by simp, rfl, rfl, OPage.nil _ _, Apart.nil, Under.nil _, Below.refl _ _⟩
  case round =>
    obtain ⟨k, a2, c2, hs2, p, hk, hg, hpk, hpr, rfl, rfl, hop, hap, hun, hbk⟩ := hrel
    have HG := hide hg
    have HPK := hide hpk
    have HPR := hide hpr
    clear hg hpk hpr
    by_cases hkl : k < K
    · obtain ⟨wd, Hwd⟩ : ∃ wd, Hid (atF l (1 + (k : Int)) 10 = wd) := ⟨_, hide rfl⟩
      have hwd : wd < 10 := by rw [← Hwd.out]; exact atF_lt (by omega)
      obtain ⟨wy, rfl⟩ : ∃ wy : World, wy = wr := ⟨_, rfl⟩
      go_wp2_with fail
      refine (HQ.out _ _ 10 wd Hwd.out rfl (by omega) (by omega) _ hbk).mono ?_
      rintro e w1 ⟨rfl, rfl⟩
      go_wp2_with fail
      go_loopg [6, 8] wd (fun g x i w' => ∃ (j : Nat) (a3 : Option Addr) (c3 : Nat) (xs : List UInt8), j ≤ wd ∧ g = wd - j ∧ xs.length = j ∧ i = .int .i64 j ∧ x = .slice a3 j c3 ∧ Own w' wy.heap.size 5 1 a3 j c3 (xs.map B8) ∧ Below wy.heap.size wy w')
      case atStart => exact ⟨0, none, 0, [], by omega, by omega, rfl, rfl, rfl, Own.nil _ _ _ _, Below.refl _ _⟩
      case round =>
        obtain ⟨j, a3, c3, xs, hj, hg1, hxl, rfl, rfl, hox, hbj⟩ := hrel
        have HG1 := hide hg1
        have HXL := hide hxl
        clear hg1 hxl
        by_cases hjl : j < wd
        · obtain ⟨m, Hm⟩ : ∃ m, Hid (atF l (6 + 9 * (k : Int) + (j : Int)) 80 = m) := ⟨_, hide rfl⟩
          have hm : m < 80 := by rw [← Hm.out]; exact atF_lt (by omega)
          go_wp2_with fail
          refine (HQ.out _ _ 80 m Hm.out rfl (by omega) (by omega) _ (hbk.trans (hbj.mono hbk.size))).mono ?_
          rintro e w1 ⟨rfl, rfl⟩
          by_cases h64 : 64 ≤ m
          · go_wp2_with (at_builtin; refine app_b rfl _ _ rfl wy wy.heap.size _ _ _ _ rfl hox _ rfl (by omega) hbj.size hbj ?_; intro a' c' w' ho' hgr' hb')
            go_roundg (wd - (j + 1))
            case measure => have := HG1.out; omega
            case rel => exact ⟨j + 1, a', c', xs ++ [UInt8.ofNat 0], by omega, rfl, by rw [List.length_append, HXL.out]; rfl, by go_num, rfl, by rw [List.map_append]; exact ho', hb'⟩
          · go_wp2_with (at_builtin; refine app_b rfl _ _ rfl wy wy.heap.size _ _ _ _ rfl hox _ rfl (by omega) hbj.size hbj ?_; intro a' c' w' ho' hgr' hb')
            go_roundg (wd - (j + 1))
            case measure => have := HG1.out; omega
            case rel => exact ⟨j + 1, a', c', xs ++ [UInt8.ofNat m], by omega, rfl, by rw [List.length_append, HXL.out]; rfl, by go_num, rfl, by rw [List.map_append]; show Own _ _ _ _ _ _ _ (xs.map B8 ++ [B8 (UInt8.ofNat m)]); rw [u8_small (by omega)]; exact ho', hb'⟩
        · obtain rfl : wd = j := by omega
          have hnew : ∀ q, (a3, wd, c3).1 = some q → wy.heap.size ≤ q.block := fun q hq => by
            have hq' : a3 = some q := hq
            subst hq'
            exact hox.base.1
          go_wp2_with (at_builtin; refine app_p rfl _ _ rfl w w.heap.size _ _ _ hs2 p HPK.out rfl (hop.below hbj) (a3, wd, c3) xs (hox.mono hbk.size) rfl (by omega) (Nat.le_trans hbk.size hbj.size) (hbk.trans (hbj.mono hbk.size)) ?_; intro a' c' w' ho' hb')
          go_roundg (K - (k + 1))
          case measure => have := HG.out; omega
          case rel =>
            refine ⟨k + 1, a', c', hs2 ++ [(a3, wd, c3)], p ++ [xs], by omega, rfl, by rw [List.length_append, HPK.out]; rfl, ?_, by go_num, rfl, ho', hap.push hun hnew, ho'.under, hb'⟩
            intro r hr
            rcases List.mem_append.1 hr with h | h
            · exact HPR.out r h
            · rw [List.mem_singleton.1 h, HXL.out]; omega
    · obtain rfl : K = k := by omega
      have HKL : Hid (hs2.length = K) := hide (by rw [hop.len, HPK.out])
      by_cases hK0 : K = 0
      · obtain ⟨s, Hs⟩ : ∃ s, Hid (atF l 51 12 = s) := ⟨_, hide rfl⟩
        have hs12 : s < 12 := by rw [← Hs.out]; exact atF_lt (by omega)
        subst hK0
        by_cases hs0 : s = 0
        · subst hs0
          go_wp2_with fail
          refine (HQ.out _ _ 12 0 Hs.out rfl (by omega) (by omega) _ hbk).mono ?_
          rintro e w1 ⟨rfl, rfl⟩
          go_wp2_with fail
          go_ret
          exact ⟨p, a2, c2, hs2, by rw [HPK.out]; omega, fun l h => Nat.le_succ_of_le (HPR.out l h), by rw [HPK.out]; rfl, hop, hbk⟩
        · go_wp2_with fail
          refine (HQ.out _ _ 12 s Hs.out rfl (by omega) (by omega) _ hbk).mono ?_
          rintro e w1 ⟨rfl, rfl⟩
          go_wp2_with fail
          go_ret
          exact ⟨p, a2, c2, hs2, by rw [HPK.out]; omega, fun l h => Nat.le_succ_of_le (HPR.out l h), by rw [HPK.out]; rfl, hop, hbk⟩
      obtain ⟨s, Hs⟩ : ∃ s, Hid (atF l 51 12 = s) := ⟨_, hide rfl⟩
      have hs12 : s < 12 := by rw [← Hs.out]; exact atF_lt (by omega)
      by_cases hs0 : ¬ s = 0
      · go_wp2_with fail
        refine (HQ.out _ _ 12 s Hs.out rfl (by omega) (by omega) _ hbk).mono ?_
        rintro e w1 ⟨rfl, rfl⟩
        go_wp2_with fail
        go_ret
        exact ⟨p, a2, c2, hs2, by rw [HPK.out]; omega, fun l h => Nat.le_succ_of_le (HPR.out l h), by rw [HPK.out]; rfl, hop, hbk⟩
      obtain rfl := Decidable.not_not.1 hs0
      obtain ⟨kk, HKK⟩ : ∃ kk : Nat, Hid ((K : Int) - 1 = (kk : Int)) := ⟨K - 1, hide (by omega)⟩
      have hkk : kk < K := by have := HKK.out; omega
      obtain ⟨⟨xa, xn, xc⟩, hx⟩ : ∃ x, hs2[kk]? = some x := ⟨hs2[kk]'(by rw [HKL.out]; exact hkk), by simp [HKL.out, hkk]⟩
      have hpl : kk < p.length := by rw [HPK.out]; exact hkk
      obtain ⟨r, hr⟩ : ∃ r, p[kk]? = some r := ⟨p[kk]'hpl, by simp [hpl]⟩
      have hrow := hop.row kk _ _ hx hr
      have hrl := HPR.out r (List.mem_of_getElem? hr)
      have hxn : xn ≤ 9 := by have := hrow.len; simp at this; omega
      have hat : (hs2.map hv)[kk]? = some (.slice xa xn xc) := by rw [List.getElem?_map, hx]; rfl
      have hcall : ∀ w', Below w.heap.size w w' → Calls Try.prog 55 #[.slice a n c, .int .i64 52, .int .i64 192] w' fun e w2 => e = .returned (.int .i64 (atF l 52 192 : Int)) ∧ w' = w2 := fun w' hb =>
        HQ.out _ _ 192 _ rfl rfl (by omega) (by omega) w' hb
      have hm := atF_lt (l := l) (i := 52) (m := 192) (by omega)
      generalize atF l 52 192 = m at hcall hm
      obtain ⟨q, Mq⟩ : ∃ q : Nat, Hid (64 + (m : Int) = (q : Int)) := ⟨64 + m, hide (by omega)⟩
      have hq : q < 256 := by have := Mq.out; omega
      obtain ⟨tb, rfl⟩ : ∃ tb, a2 = some ⟨tb, 0, none⟩ := by
        cases a2 with
        | none => have := hop.top.sl.nil rfl; have := hop.top.sl.le; have := HPK.out; omega
        | some t => exact ⟨t.block, congrArg some hop.top.zero⟩
      go_wp2_with fail
      refine (HQ.out _ _ 12 0 Hs.out rfl (by omega) (by omega) _ hbk).mono ?_
      rintro e w1 ⟨rfl, rfl⟩
      go_wp2_with fail
      refine wp_region_mid 14 (Below w.heap.size w) (fun w' => wr.grownBy w' (xa.map (·.block)) ∧ Below w.heap.size w w') ⟨13, 64, [64], fun vs w' => ∃ a' c', vs = [.slice a' (xn + 1) c'] ∧ Own w' w.heap.size 5 1 a' (xn + 1) c' ((r ++ [UInt8.ofNat q]).map B8)⟩ [⟨7, 58, [58], fun vs _ => vs = [.slice xa xn xc]⟩, ⟨12, 63, [63], fun vs w => ∃ b, vs = [.slice (some ⟨b, 0, none⟩) 1 1] ∧ wr.heap.size ≤ b ∧ b < w.heap.size ∧ Sl w 1 (some ⟨b, 0, none⟩) 1 1 [.int .u8 (q : Int)]⟩] [⟨0, 51, [51], fun vs _ => vs = [.slice (some ⟨tb, 0, none⟩) K c2]⟩, ⟨1, 52, [52], fun vs _ => vs = [.int .i64 (K : Int)]⟩, ⟨2, 53, [53], fun vs _ => vs = [.int .i64 (kk : Int)]⟩, ⟨3, 54, [54], fun vs _ => vs = [.slice (some ⟨tb, 0, none⟩) K c2]⟩, ⟨4, 55, [55], fun vs _ => vs = [.int .i64 (K : Int)]⟩, ⟨5, 56, [56], fun vs _ => vs = [.int .i64 (kk : Int)]⟩, ⟨6, 57, [57], fun vs _ => vs = [.pointer (some ⟨tb, kk, none⟩)]⟩, ⟨8, 59, [59], fun vs _ => vs = [.slice a n c]⟩, ⟨9, 60, [60], fun vs _ => vs = [.int .i64 (m : Int)]⟩, ⟨10, 61, [61], fun vs _ => vs = [.int .i64 (q : Int)]⟩, ⟨11, 62, [62], fun vs _ => vs = [.int .u8 (q : Int)]⟩] (by kernel_rfl) (by kernel_rfl) ?_ ?_ ?_ ?_ ?_ ?_ ?_
      · exact fun w' h => hbk.trans (h.mono hbk.size)
      · exact fun w' h => h.2
      · simp only [All, List.cons_append, List.nil_append]
        refine ⟨fun _ _ _ _ h => h, ?_, fun _ _ _ _ h => h, fun _ _ _ _ h => h, fun _ _ _ _ h => h, fun _ _ _ _ h => h, fun _ _ _ _ h => h, fun _ _ _ _ h => h, fun _ _ _ _ h => h, fun _ _ _ _ h => h, fun _ _ _ _ h => h, fun _ _ _ _ h => h, fun _ _ _ _ h => h, trivial⟩
        · rintro vs w w' hb ⟨b, h1, h0, h3, h2⟩
          exact ⟨b, h1, h0, Nat.lt_of_lt_of_le h3 hb.size, h2.below hb⟩
      · intro o ho a' w' hb hfr hdep
        obtain rfl := Option.some.inj ho
        have g58 : a'.tmps[58]?.getD undef = .slice xa xn xc := by have h := hdep 1 _ rfl (by kernel_rfl); simpa using h
        obtain ⟨b, g63, hb0, hb1, hsb⟩ := hdep 2 _ rfl (by kernel_rfl)
        simp at g63
        clear ho hfr hdep
        have hbw := hbk.trans (hb.mono hbk.size)
        refine append_own rfl _ _ 23 rfl 5 (.int .u8 0) 1 1 Try.underlying23 info_u8 rfl w w.heap.size xa xn xc _ (by show a'.tmps.getD 58 undef = _; simpa using g58) (hrow.below hb) _ 1 1 [.int .u8 (q : Int)] (by show a'.tmps.getD 63 undef = _; simpa using g63) hsb (by simp [Value.oneCell']) (by omega) (by unfold maxLen; omega) hbw.size hbw ?_
        intro a3 c3 w3 ho' hgr' hb'
        rw [← u8_small hq] at ho'
        go_wp2
        refine ⟨rfl, _, rfl, ⟨a3, c3, rfl, ho'⟩, ⟨grown_trans (grown_of_below hb _) hgr', hb'⟩, ?_⟩
        simp only [All]
        refine ⟨fun _ h => h, ?_, fun _ h => h, fun _ h => h, fun _ h => h, fun _ h => h, fun _ h => h, fun _ h => h, fun _ h => h, fun _ h => h, fun _ h => h, fun _ h => h, fun _ h => h, trivial⟩
        rintro vs ⟨b2, h1, h0, h3, h2⟩
        refine ⟨b2, h1, h0, Nat.lt_of_lt_of_le h3 hgr'.size, h2.grown hgr' ?_⟩
        intro q2 hq2 e2
        cases hq2
        cases hxa : xa with
        | none => rw [hxa] at e2; cases e2
        | some q3 =>
          rw [hxa] at e2 hrow
          have := hrow.base
          simp at e2
          omega
      · simp only [All]
        refine ⟨?_, ?_, trivial⟩
        · intro o ho a' w' hb hfr hdep
          obtain rfl := Option.some.inj ho
          have g57 : a'.tmps[57]?.getD undef = .pointer (some ⟨tb, kk, none⟩) := by have h := hdep 9 _ rfl (by kernel_rfl); simpa using h
          clear ho hfr hdep
          have hq := (hop.top.below hb).at_ hat
          go_wp2_with fail
          exact ⟨rfl, _, rfl, Below.refl _ _, rfl⟩
        · intro o ho a' w' hb hfr hdep
          obtain rfl := Option.some.inj ho
          have g62 : a'.tmps[62]?.getD undef = .int .u8 (q : Int) := by have h := hdep 13 _ rfl (by kernel_rfl); simpa using h
          clear ho hfr hdep
          go_wp2_with fail
          exact ⟨rfl, _, rfl, bl1 _ _, _, rfl, hb.size, by simp, Sl.fresh _ _ 1 1 [.int .u8 (q : Int)] rfl (by unfold maxLen; omega)⟩
      · simp only [All]
        refine ⟨?_, ?_, ?_, ?_, ?_, ?_, ?_, ?_, ?_, ?_, ?_, trivial⟩
        · intro o ho a' w' hb hfr hdep
          obtain rfl := Option.some.inj ho
          have g3 : a'.tmps[3]?.getD undef = .slice (some ⟨tb, 0, none⟩) K c2 := by have h := hfr 3 (by kernel_rfl); simpa using h
          clear ho hfr hdep
          go_wp2_with fail
          exact ⟨rfl, _, rfl, rfl, rfl⟩
        · intro o ho a' w' hb hfr hdep
          obtain rfl := Option.some.inj ho
          have g4 : a'.tmps[4]?.getD undef = .int .i64 (K : Int) := by have h := hfr 4 (by kernel_rfl); simpa using h
          clear ho hfr hdep
          go_wp2_with fail
          exact ⟨rfl, _, rfl, rfl, rfl⟩
        · intro o ho a' w' hb hfr hdep
          obtain rfl := Option.some.inj ho
          have g52 : a'.tmps[52]?.getD undef = .int .i64 (K : Int) := by have h := hdep 4 _ rfl (by kernel_rfl); simpa using h
          clear ho hfr hdep
          go_wp2_with fail
          exact ⟨rfl, _, rfl, rfl, by show [Value.int .i64 ((K : Int) - 1)] = _; rw [HKK.out]⟩
        · intro o ho a' w' hb hfr hdep
          obtain rfl := Option.some.inj ho
          have g3 : a'.tmps[3]?.getD undef = .slice (some ⟨tb, 0, none⟩) K c2 := by have h := hfr 3 (by kernel_rfl); simpa using h
          clear ho hfr hdep
          go_wp2_with fail
          exact ⟨rfl, _, rfl, rfl, rfl⟩
        · intro o ho a' w' hb hfr hdep
          obtain rfl := Option.some.inj ho
          have g4 : a'.tmps[4]?.getD undef = .int .i64 (K : Int) := by have h := hfr 4 (by kernel_rfl); simpa using h
          clear ho hfr hdep
          go_wp2_with fail
          exact ⟨rfl, _, rfl, rfl, rfl⟩
        · intro o ho a' w' hb hfr hdep
          obtain rfl := Option.some.inj ho
          have g55 : a'.tmps[55]?.getD undef = .int .i64 (K : Int) := by have h := hdep 7 _ rfl (by kernel_rfl); simpa using h
          clear ho hfr hdep
          go_wp2_with fail
          exact ⟨rfl, _, rfl, rfl, by show [Value.int .i64 ((K : Int) - 1)] = _; rw [HKK.out]⟩
        · intro o ho a' w' hb hfr hdep
          obtain rfl := Option.some.inj ho
          have g54 : a'.tmps[54]?.getD undef = .slice (some ⟨tb, 0, none⟩) K c2 := by have h := hdep 6 _ rfl (by kernel_rfl); simpa using h
          have g56 : a'.tmps[56]?.getD undef = .int .i64 (kk : Int) := by have h := hdep 8 _ rfl (by kernel_rfl); simpa using h
          clear ho hfr hdep
          go_wp2_with fail
          exact ⟨rfl, _, rfl, rfl, rfl⟩
        · intro o ho a' w' hb hfr hdep
          obtain rfl := Option.some.inj ho
          have g0 : a'.tmps[0]?.getD undef = .slice a n c := by have h := hfr 0 (by kernel_rfl); simpa using h
          clear ho hfr hdep
          go_wp2_with fail
          exact ⟨rfl, _, rfl, rfl, rfl⟩
        · intro o ho a' w' hb hfr hdep
          obtain rfl := Option.some.inj ho
          have g59 : a'.tmps[59]?.getD undef = .slice a n c := by have h := hdep 10 _ rfl (by kernel_rfl); simpa using h
          clear ho hfr hdep
          go_wp2_with fail
          refine (hcall _ hb).mono ?_
          rintro e w2 ⟨rfl, rfl⟩
          go_wp2_with fail
          exact ⟨rfl, _, rfl, rfl, rfl⟩
        · intro o ho a' w' hb hfr hdep
          obtain rfl := Option.some.inj ho
          have g60 : a'.tmps[60]?.getD undef = .int .i64 (m : Int) := by have h := hdep 11 _ rfl (by kernel_rfl); simpa using h
          clear ho hfr hdep
          go_wp2_with fail
          exact ⟨rfl, _, rfl, rfl, by show [Value.int .i64 (64 + (m : Int))] = _; rw [Mq.out]⟩
        · intro o ho a' w' hb hfr hdep
          obtain rfl := Option.some.inj ho
          have g61 : a'.tmps[61]?.getD undef = .int .i64 (q : Int) := by have h := hdep 12 _ rfl (by kernel_rfl); simpa using h
          clear ho hfr hdep
          go_wp2_with fail
          exact ⟨rfl, _, rfl, rfl, rfl⟩
      · intro g w2 hG hp
        obtain ⟨a', c', p64, ho'⟩ := hp 0 _ rfl
        have p51 := hp 3 _ rfl
        have p53 := hp 5 _ rfl
        clear hp
        simp at p51 p53 p64
        simp only [List.map_cons, List.map_nil, List.cons_append, List.nil_append, putAll, Act.put, List.setIfInBounds_toArray, List.set_cons_succ, List.set_cons_zero, p51, p53, p64]
        have ht := hop.top_kept hx hG.1
        have hat2 := ht.at_ hat
        have hfr2 := ht.free kk
        go_wp2
        go_ret
        refine ⟨p.set kk (r ++ [UInt8.ofNat q]), some ⟨tb, 0, none⟩, c2, hs2.set kk (a', xn + 1, c'), by rw [List.length_set, HPK.out]; omega, ?_, by rw [List.length_set, HPK.out]; rfl, ?_, hG.2.setCell (p := ⟨tb, kk, none⟩) ht.base.1 _⟩
        · intro x hx
          rcases List.mem_or_eq_of_mem_set hx with h | h
          · exact Nat.le_succ_of_le (HPR.out x h)
          · rw [h, List.length_append]; simp; omega
        · exact hop.replace (y := (a', xn + 1, c')) (r := r ++ [UInt8.ofNat q]) hx hG.1 (fun j z hz hne q q' hq hq' => hap j kk z _ hz hx hne q q' hq hq') ho' 
end Go.Proofs.Ythfljnlankmoiaa
end

/- the text CP6 -/
section
/- Plain laws: what is packed and unpacked again. No program in sight. -/
set_option linter.unusedVariables false
namespace Go.Proofs.Ythfljnlankmoiaa
open Go.RowKit Go.Dx

/-- a sum -/
def S : Nat → (Nat → Nat) → Nat
  | 0, _ => 0
  | k + 1, f => S k f + f k
theorem S_congr {f g : Nat → Nat} : ∀ {m : Nat}, (∀ i, i < m → f i = g i) → S m f = S m g
  | 0, _ => rfl
  | m + 1, h => by
    show S m f + f m = S m g + g m
    rw [S_congr (fun i hi => h i (by omega)), h m (by omega)]
theorem S_add (f g : Nat → Nat) : ∀ m, S m (fun i => f i + g i) = S m f + S m g
  | 0 => rfl
  | m + 1 => by
    show S m (fun i => f i + g i) + (f m + g m) = (S m f + f m) + (S m g + g m)
    rw [S_add f g m]; omega
theorem S_two (f : Nat → Nat) : ∀ m, S (2 * m) f = S m fun i => f (2 * i) + f (2 * i + 1)
  | 0 => rfl
  | m + 1 => by
    show S (2 * m) f + f (2 * m) + f (2 * m + 1) = S m (fun i => f (2 * i) + f (2 * i + 1)) + (f (2 * m) + f (2 * m + 1))
    rw [S_two f m]; omega
theorem S_three (f : Nat → Nat) : ∀ m, S (3 * m) f = S m fun i => f (3 * i) + f (3 * i + 1) + f (3 * i + 2)
  | 0 => rfl
  | m + 1 => by
    show S (3 * m) f + f (3 * m) + f (3 * m + 1) + f (3 * m + 2) = S m (fun i => f (3 * i) + f (3 * i + 1) + f (3 * i + 2)) + (f (3 * m) + f (3 * m + 1) + f (3 * m + 2))
    rw [S_three f m]; omega
def one (b : Bool) : Nat := if b then 1 else 0

theorem cellAt_lt (W H : Nat) (b : List Bool) (Y X : Nat) : cellAt W H b Y X < 64 := six_lt _
theorem pack_row {W H : Nat} {b : List Bool} {Y : Nat} (hY : Y < (H + 2) / 3) : (packL W H b)[Y]? = some (packRow W H b Y) := by
  unfold packL; rw [List.getElem?_map, List.getElem?_range hY]; rfl
theorem pack_cell (W H : Nat) (b : List Bool) (Y X : Nat) : pcell (packL W H b) Y X = UInt8.ofNat (cellAt W H b Y X) := by
  unfold pcell
  rw [List.getD_eq_getElem?_getD, List.getD_eq_getElem?_getD]
  by_cases hY : Y < (H + 2) / 3
  · rw [pack_row hY]
    simp only [Option.getD_some]
    by_cases hX : X < (W + 1) / 2
    · unfold packRow
      rw [List.getElem?_map, List.getElem?_range hX]; rfl
    · have h0 : cellAt W H b Y X = 0 := six_none fun d hd => by unfold dotAt; simp; omega
      rw [h0, List.getElem?_eq_none (by unfold packRow; simp; omega)]; rfl
  · have h0 : cellAt W H b Y X = 0 := six_none fun d hd => by unfold dotAt; simp; omega
    rw [h0, List.getElem?_eq_none (l := packL W H b) (by unfold packL; simp; omega)]; rfl
theorem dot_cell (W H : Nat) (b : List Bool) (Y X d : Nat) (hd : d < 6) : dot (UInt8.ofNat (cellAt W H b Y X)) d = dotAt W H b (2 * X + d / 3) (3 * Y + d % 3) := by
  unfold dot
  rw [u8_six _ (cellAt_lt W H b Y X)]
  exact six_get _ d hd
theorem rdot_pack (W H : Nat) (b : List Bool) (V i : Nat) : rdot (packL W H b) V i = dotAt W H b (i % V) (i / V) := by
  unfold rdot
  rw [pack_cell, dot_cell _ _ _ _ _ _ (six_idx i V)]
  have e1 : 2 * (i % V / 2) + (i / V % 3 + 3 * (i % V % 2)) / 3 = i % V := by omega
  have e2 : 3 * (i / V / 3) + (i / V % 3 + 3 * (i % V % 2)) % 3 = i / V := by omega
  rw [e1, e2]
theorem rbits_get {p : List (List UInt8)} {V N i : Nat} (h : i < N) : (rbits p V N)[i]? = some (rdot p V i) := by
  unfold rbits; rw [List.getElem?_map, List.getElem?_range h]; rfl
/-- the dots of the unpacked raster -/
theorem back_dot (W H : Nat) (b : List Bool) {V K x y : Nat} (hx : x < V) (hy : y < K) : dotAt V K (rbits (packL W H b) V (V * K)) x y = dotAt W H b x y := by
  rw [dotAt_in hx hy (rbits_get (idx_lt hx hy)), rdot_pack]
  obtain ⟨e1, e2⟩ := (divmod (by omega) hx).1 (rfl : y * V + x = y * V + x)
  rw [← e1, ← e2]
theorem no_valid {l : List UInt8} (h : ∀ c ∈ l, c.toNat < 64) : validB l = true := by
  unfold validB
  rw [Bool.not_eq_true']
  rw [List.any_eq_false]
  intro c hc
  have := h c hc
  unfold noCell
  simp; omega
theorem pack_valid (W H : Nat) (b : List Bool) : (packL W H b).any (fun l => !validB l) = false := by
  rw [List.any_eq_false]
  intro l hl
  obtain ⟨Y, _, rfl⟩ := List.mem_map.1 hl
  rw [no_valid]
  · simp
  · intro c hc
    obtain ⟨X, _, rfl⟩ := List.mem_map.1 hc
    rw [u8_six _ (cellAt_lt W H b Y X)]; exact cellAt_lt W H b Y X
theorem pack_len (W H : Nat) (b : List Bool) : (packL W H b).length = (H + 2) / 3 := by unfold packL; simp
theorem pack_wide_le (W H : Nat) (b : List Bool) : wideL (packL W H b) ≤ (W + 1) / 2 := by
  refine wideL_le fun l hl => ?_
  obtain ⟨Y, _, rfl⟩ := List.mem_map.1 hl
  unfold packRow; simp
theorem pack_wide {W H : Nat} (b : List Bool) (hH : 0 < H) : wideL (packL W H b) = (W + 1) / 2 := by
  refine Nat.le_antisymm (pack_wide_le W H b) ?_
  have h : packRow W H b 0 ∈ packL W H b := List.mem_of_getElem? (pack_row (by omega))
  have := wideL_ge h
  have e : (packRow W H b 0).length = (W + 1) / 2 := by unfold packRow; simp
  omega
/-- the number of dots -/
theorem dots_count (c : UInt8) : (dotsL c).length = (one (dot c 0) + one (dot c 3)) + (one (dot c 1) + one (dot c 4)) + (one (dot c 2) + one (dot c 5)) := by
  unfold dotsL dotsTo
  rw [List.length_map]
  have e : List.range 6 = [0, 1, 2, 3, 4, 5] := by decide
  rw [e]
  simp only [List.filter_cons, List.filter_nil]
  generalize dot c 0 = b0
  generalize dot c 1 = b1
  generalize dot c 2 = b2
  generalize dot c 3 = b3
  generalize dot c 4 = b4
  generalize dot c 5 = b5
  cases b0 <;> cases b1 <;> cases b2 <;> cases b3 <;> cases b4 <;> cases b5 <;> rfl
theorem cM_append (s t : List UInt8) : cM (s ++ t) = cM s + cM t := by unfold cM; rw [List.map_append, List.sum_append]
theorem cM_range (g : Nat → UInt8) : ∀ m, cM ((List.range m).map g) = S m fun X => (dotsL (g X)).length
  | 0 => rfl
  | m + 1 => by
    rw [List.range_succ, List.map_append, cM_append, cM_range g m]
    show _ + cM [g m] = S m _ + (dotsL (g m)).length
    congr 1
theorem cM_rows (g : Nat → List UInt8) : ∀ m, cM ((List.range m).map g).flatten = S m fun Y => cM (g Y)
  | 0 => rfl
  | m + 1 => by
    rw [List.range_succ, List.map_append, List.flatten_append, cM_append, cM_rows g m]
    show _ + cM [g m].flatten = S m _ + cM (g m)
    congr 1
    simp
theorem pack_count (W H : Nat) (b : List Bool) : cM (packL W H b).flatten = S (3 * ((H + 2) / 3)) fun y => S (2 * wideL (packL W H b)) fun x => one (dotAt W H b x y) := by
  by_cases hH : H = 0
  · subst hH; rfl
  rw [pack_wide b (by omega)]
  unfold packL
  rw [cM_rows, S_three]
  refine S_congr fun Y _ => ?_
  unfold packRow
  rw [cM_range, S_two, S_two, S_two, ← S_add, ← S_add]
  refine S_congr fun X _ => ?_
  rw [dots_count, dot_cell _ _ _ _ _ 0 (by omega), dot_cell _ _ _ _ _ 1 (by omega), dot_cell _ _ _ _ _ 2 (by omega), dot_cell _ _ _ _ _ 3 (by omega), dot_cell _ _ _ _ _ 4 (by omega), dot_cell _ _ _ _ _ 5 (by omega)]
  rfl
/-- a page that is unpacked and packed again -/
theorem six_dot_fin : ∀ n : Fin 64, six (dot (UInt8.ofNat n.val)) = n.val := by decide +kernel
theorem six_dot {c : UInt8} (h : c.toNat < 64) : six (dot c) = c.toNat := by
  have := six_dot_fin ⟨c.toNat, h⟩
  rw [of_u8] at this; exact this
theorem rdot_at (p : List (List UInt8)) {V Y X d : Nat} (hd : d < 6) (hX : 2 * X + 1 < V) : rdot p V ((3 * Y + d % 3) * V + (2 * X + d / 3)) = dot (pcell p Y X) d := by
  have hx : 2 * X + d / 3 < V := by omega
  obtain ⟨e1, e2⟩ := (divmod (by omega) hx).1 (rfl : (3 * Y + d % 3) * V + (2 * X + d / 3) = (3 * Y + d % 3) * V + (2 * X + d / 3))
  unfold rdot
  rw [← e1, ← e2]
  have f1 : (3 * Y + d % 3) / 3 = Y := by omega
  have f2 : (2 * X + d / 3) / 2 = X := by omega
  have f3 : (3 * Y + d % 3) % 3 + 3 * ((2 * X + d / 3) % 2) = d := by omega
  rw [f1, f2, f3]
theorem valid_cell {p : List (List UInt8)} (hv : p.any (fun l => !validB l) = false) (Y X : Nat) : (pcell p Y X).toNat < 64 := by
  unfold pcell
  rw [List.getD_eq_getElem?_getD, List.getD_eq_getElem?_getD]
  cases hr : p[Y]? with
  | none => simp
  | some r =>
    simp only [Option.getD_some]
    cases hc : r[X]? with
    | none => simp
    | some c =>
      have h1 := List.any_eq_false.1 hv r (List.mem_of_getElem? hr)
      have h2 : r.any noCell = false := by unfold validB at h1; simpa using h1
      have h3 := List.any_eq_false.1 h2 c (List.mem_of_getElem? hc)
      unfold noCell at h3
      simp at h3 ⊢; omega
theorem again_cell {p : List (List UInt8)} (hv : p.any (fun l => !validB l) = false) (Y X : Nat) : pcell (packL (2 * wideL p) (3 * p.length) (rbits p (2 * wideL p) (2 * wideL p * (3 * p.length)))) Y X = pcell p Y X := by
  rw [pack_cell]
  by_cases hY : Y < p.length
  · by_cases hX : X < wideL p
    · have e : cellAt (2 * wideL p) (3 * p.length) (rbits p (2 * wideL p) (2 * wideL p * (3 * p.length))) Y X = six (dot (pcell p Y X)) := six_congr fun d hd => by
        have hx : 2 * X + d / 3 < 2 * wideL p := by omega
        have hy : 3 * Y + d % 3 < 3 * p.length := by omega
        rw [dotAt_in hx hy (rbits_get (idx_lt hx hy)), rdot_at p hd (by omega)]
      rw [e, six_dot (valid_cell hv Y X), of_u8]
    · have h0 : cellAt (2 * wideL p) (3 * p.length) (rbits p (2 * wideL p) (2 * wideL p * (3 * p.length))) Y X = 0 := six_none fun d hd => by unfold dotAt; simp; omega
      have hr : p[Y]? = some p[Y] := by simp [hY]
      have := wideL_ge (List.mem_of_getElem? hr)
      rw [h0, pcell_out hr (by omega)]; rfl
  · have h0 : cellAt (2 * wideL p) (3 * p.length) (rbits p (2 * wideL p) (2 * wideL p * (3 * p.length))) Y X = 0 := six_none fun d hd => by unfold dotAt; simp; omega
    rw [h0]
    unfold pcell
    rw [List.getD_eq_getElem?_getD (l := p), List.getElem?_eq_none (by omega)]; rfl
theorem again_plain {p : List (List UInt8)} (hv : p.any (fun l => !validB l) = false) : plainL (packL (2 * wideL p) (3 * p.length) (rbits p (2 * wideL p) (2 * wideL p * (3 * p.length)))) = plainL p := (plain_eq_iff _ _).2 (again_cell hv)
end Go.Proofs.Ythfljnlankmoiaa
end

/- the text CL6 -/
section
namespace Go.Proofs.Ythfljnlankmoiaa
open Go.RowKit Go.Dx

theorem flatten_le {b : Nat} : ∀ {p : List (List UInt8)}, (∀ r ∈ p, r.length ≤ b) → p.flatten.length ≤ p.length * b := by
  intro p
  induction p with
  | nil => intro _; simp
  | cons r p ih =>
    intro h
    have h1 := h r List.mem_cons_self
    have h2 := ih (fun s hs => h s (List.mem_cons_of_mem _ hs))
    simp only [List.flatten_cons, List.length_append, List.length_cons, Nat.add_mul, Nat.one_mul]
    omega
theorem pack_proper {W H : Nat} {bs : List Bool} (hW : W ≤ 65536) (hH : H ≤ 65536) (hWH : W * H ≤ 65536) (hl : bs.length = W * H) : packR (W : Int) (H : Int) bs = (packL W H bs, 0) := by
  have h : properB (W : Int) (H : Int) (bs.length : Int) = true := by
    unfold properB
    refine decide_eq_true ⟨by omega, by omega, by omega, by omega, ?_, ?_⟩
    · rw [← Int.natCast_mul]; omega
    · rw [← Int.natCast_mul]; omega
  rw [packR_yes h]; rfl
theorem Same6_at {p q : List (List UInt8)} {v : Bool} (h : decide (plainL p = plainL q) = v) (hpl : p.length ≤ 1000000) (hql : q.length ≤ 1000000) {h1 h2 : List Hd} {a1 a2 : Option Addr} {n1 n2 c1 c2 : Nat} {w : World} (hp : Pg w a1 n1 c1 h1 p) (hq : Pg w a2 n2 c2 h2 q) :
    Calls Try.prog 38 #[.slice a1 n1 c1, .slice a2 n2 c2] w fun e w' => e = .returned (.bool v) ∧ Below w.heap.size w w' := by subst h; exact cell_Same p q h1 h2 a1 a2 n1 n2 c1 c2 w hp hq hpl hql
theorem Dot_at {W H x y : Nat} {b : List Bool} {v : Bool} (h : dotAt W H b x y = v) (hb : b.length = W * H) (hWH : W * H ≤ 65536) (hx : x ≤ 1000000) (hy : y ≤ 1000000) {a : Option Addr} {n c : Nat} {w : World} (hs : Sl w 1 a n c (b.map Value.bool)) :
    Calls Try.prog 36 #[RV W H a n c, .int .i64 x, .int .i64 y] w fun e w' => e = .returned (.bool v) ∧ Below w.heap.size w w' := by subst h; exact ref_Dot W H x y b a n c w hs hb hWH hx hy

set_option maxRecDepth 100000 in
set_option maxHeartbeats 4000000 in
theorem walk_CellPacked (l k : List Int) (a1 : Option Addr) (n1 c1 : Nat) (a2 : Option Addr) (n2 c2 : Nat) (w : World) (hl : Sl w 1 a1 n1 c1 (l.map I64)) (hk : Sl w 1 a2 n2 c2 (k.map I64))
    (ll : ∀ x ∈ l, -9223372036854775808 ≤ x ∧ x ≤ 9223372036854775807) (lk : ∀ x ∈ k, -9223372036854775808 ≤ x ∧ x ≤ 9223372036854775807) :
    Calls Try.prog 6 #[.slice a1 n1 c1, .slice a2 n2 c2] w fun e w' => e = .returned (.bool true) ∧ Below w.heap.size w w' := by
  have hRas := hide (ref_Raster l a1 n1 c1 w hl ll)
  go_enter Try.func6, Try.ntmps6
  go_wp2_with fail
  refine hRas.out.mono ?_
  rintro e w1 ⟨W, H, bs, a, c, hW, hH, hbl, rfl, hsr, hb⟩
  have HWH : Hid (W * H ≤ 182) := hide (Nat.le_trans (Nat.mul_le_mul hW hH) (by decide))
  have HP0 := hide (pack_proper (W := W) (H := H) (by omega) (by omega) (Nat.le_trans HWH.out (by decide)) hbl)
  have HBL := hide hbl
  obtain ⟨n, Hn⟩ : ∃ n, Hid (W * H = n) := ⟨_, hide rfl⟩
  rw [Hn.out] at hsr ⊢
  obtain ⟨P, HP⟩ : ∃ P, Hid (packL W H bs = P) := ⟨_, hide rfl⟩
  rw [HP.out] at HP0
  obtain ⟨V, HV⟩ : ∃ V, Hid (wideL P = V) := ⟨_, hide rfl⟩
  obtain ⟨K, HK⟩ : ∃ K, Hid (P.length = K) := ⟨_, hide rfl⟩
  have hV7 : V ≤ 7 := by rw [← HV.out, ← HP.out]; have := pack_wide_le W H bs; omega
  have HK2 : Hid (K = (H + 2) / 3) := by show _ = _; rw [← HK.out, ← HP.out, pack_len]
  have hK5 : K ≤ 5 := by rw [HK2.out]; omega
  have HPV : Hid (P.any (fun l => !validB l) = false) := hide (by rw [← HP.out]; exact pack_valid W H bs)
  have HVK : Hid (2 * V * (3 * K) ≤ 65536) := hide (Nat.le_trans (Nat.mul_le_mul (Nat.mul_le_mul_left 2 hV7) (Nat.mul_le_mul_left 3 hK5)) (by decide))
  obtain ⟨BB, HBB⟩ : ∃ BB, Hid (rbits P (2 * V) (2 * V * (3 * K)) = BB) := ⟨_, hide rfl⟩
  have HBBl : Hid (BB.length = 2 * V * (3 * K)) := by show _ = _; rw [← HBB.out, rbits_len]
  have HU : Hid (unpackL P = (2 * V, 3 * K, BB, 0)) := by
    show _ = _
    rw [unpackL_yes HPV.out (by rw [HV.out, HK.out]; have := HVK.out; omega), HV.out, HK.out, HBB.out]
  obtain ⟨V2, HV2⟩ : ∃ V2, Hid (2 * V = V2) := ⟨_, hide rfl⟩
  obtain ⟨K3, HK3⟩ : ∃ K3, Hid (3 * K = K3) := ⟨_, hide rfl⟩
  obtain ⟨N2, HN2⟩ : ∃ N2, Hid (V2 * K3 = N2) := ⟨_, hide rfl⟩
  rw [HV2.out, HK3.out] at HU HBBl HVK
  have hV14 : V2 ≤ 14 := by rw [← HV2.out]; omega
  have hK15 : K3 ≤ 15 := by rw [← HK3.out]; omega
  have hN : N2 ≤ 65536 := by rw [← HN2.out]; exact HVK.out
  have HBN : Hid (BB.length = N2) := by show _ = _; rw [HBBl.out, HN2.out]
  have hP6 : P.length ≤ 1000000 := by rw [HK.out]; omega
  have hPw : wideL P ≤ 1000000 := by rw [HV.out]; omega
  have HFl : Hid (P.flatten.length ≤ 1000000) := hide (Nat.le_trans (flatten_le (fun r h => wideL_ge h)) (by rw [HK.out, HV.out]; exact Nat.le_trans (Nat.mul_le_mul hK5 hV7) (by decide)))
  -- the dots agree
  have HD : Hid (∀ x y, x < V2 → y < K3 → dotAt V2 K3 BB x y = dotAt W H bs x y) := hide (fun x y hx hy => by
    rw [← HBB.out, HV2.out, HK3.out, ← HP.out]; exact back_dot W H bs hx hy)
  have HC : Hid (cM P.flatten = S K3 fun y => S V2 fun x => one (dotAt W H bs x y)) := by
    show _ = _
    have h := pack_count W H bs
    rw [HP.out, HV.out, HV2.out, ← HK2.out, HK3.out] at h
    exact h
  have x0 : Box (w1.alloc (.cells #[.int .i64 (W : Int), .int .i64 (H : Int), .slice a n c] 36)) w1.heap.size 36 [.int .i64 W, .int .i64 H, .slice a n c] := Box.new _ _ _
  have hb1 := (hb.alloc hb.size (.cells #[.int .i64 (W : Int), .int .i64 (H : Int), .slice a n c] 36))
  have hs1 := hsr.alloc (.cells #[.int .i64 (W : Int), .int .i64 (H : Int), .slice a n c] 36)
  have e0 : (w1.alloc (.cells #[.int .i64 (W : Int), .int .i64 (H : Int), .slice a n c] 36)).cell? ⟨w1.heap.size, 0, none⟩ = some (.int .i64 W) := x0.at_ rfl
  have e1 : (w1.alloc (.cells #[.int .i64 (W : Int), .int .i64 (H : Int), .slice a n c] 36)).cell? ⟨w1.heap.size, 1, none⟩ = some (.int .i64 H) := x0.at_ rfl
  have e2 : (w1.alloc (.cells #[.int .i64 (W : Int), .int .i64 (H : Int), .slice a n c] 36)).cell? ⟨w1.heap.size, 2, none⟩ = some (.slice a n c) := x0.at_ rfl
  clear hRas hsr hb hl ll hbl
  go_wp2_with fail
  clear e0 e1 e2
  generalize w1.alloc (.cells #[.int .i64 (W : Int), .int .i64 (H : Int), .slice a n c] 36) = w2 at *
  generalize w1.heap.size = R at *
  have b2 : Below w.heap.size w w2 ∧ w.heap.size ≤ w2.heap.size := ⟨hb1, hb1.size⟩
  refine (Pack_at HP0.out hs1).mono ?_
  rintro e w3 ⟨ap, cp, hdp, rfl, hpp, hb⟩
  rw [show (P, (0 : Int)).1.length = K from HK.out] at hpp ⊢
  have b3 := bs0 b2 hb
  have x3 := x0.under hb
  have hs3 := hs1.below hb
  clear hb1 hb b2 x0 hs1 HP0
  go_wp2_with fail
  refine (Unpack_at HU.out hPw hP6 hpp).mono ?_
  rintro e w4 ⟨aq, nq, cq, rfl, hsq, hb⟩
  have b4 := bs0 b3 hb
  obtain rfl : nq = BB.length := hsq.n_eq
  rw [HBN.out] at hsq ⊢
  have hpp4 := (hpp.below hb).below (bl1 w4 (.cells #[.int .i64 (V2 : Int), .int .i64 (K3 : Int), .slice aq N2 cq] 36))
  have x4 := (x3.under hb).alloc (.cells #[.int .i64 (V2 : Int), .int .i64 (K3 : Int), .slice aq N2 cq] 36)
  have y4 : Box (w4.alloc (.cells #[.int .i64 (V2 : Int), .int .i64 (K3 : Int), .slice aq N2 cq] 36)) w4.heap.size 36 [.int .i64 V2, .int .i64 K3, .slice aq N2 cq] := Box.new _ _ _
  have hs4 := (hs3.below hb).alloc (.cells #[.int .i64 (V2 : Int), .int .i64 (K3 : Int), .slice aq N2 cq] 36)
  have hq4 := hsq.alloc (.cells #[.int .i64 (V2 : Int), .int .i64 (K3 : Int), .slice aq N2 cq] 36)
  have b5 : Below w.heap.size w (w4.alloc (.cells #[.int .i64 (V2 : Int), .int .i64 (K3 : Int), .slice aq N2 cq] 36)) ∧ w.heap.size ≤ (w4.alloc (.cells #[.int .i64 (V2 : Int), .int .i64 (K3 : Int), .slice aq N2 cq] 36)).heap.size := ⟨b4.1.alloc b4.2 _, (b4.1.alloc b4.2 _).size⟩
  clear hb b3 b4 x3 hs3 hpp hsq
  go_upto_region 4 with (fail)
  generalize w4.alloc (.cells #[.int .i64 (V2 : Int), .int .i64 (K3 : Int), .slice aq N2 cq] 36) = w5 at *
  generalize w4.heap.size = Z at *
  have f0 := x4.at_ (j := 0) rfl
  have f1 := x4.at_ (j := 1) rfl
  have g0 := y4.at_ (j := 0) rfl
  have g1 := y4.at_ (j := 1) rfl
  have g2 := y4.at_ (j := 2) rfl
  have hw : IntKind.i64.wrap ((V2 : Int) * (K3 : Int)) = (N2 : Int) := by rw [← Int.natCast_mul, HN2.out]; rw [IntKind.wrap_i64]; omega
  have hne : ((N2 : Int) != (N2 : Int)) = false := by simp
  go_upto_region 6 with (fail)
  clear hw hne g2
  go_cut [77] from 49 to 77 (fun s w' => s = .bool false ∧ w5 = w')
  case first =>
    have hE2 : ((K3 : Int) != ((H : Int) + 2) / 3 * 3) = false := by
      have h1 := HK2.out
      have h2 := HK3.out
      simp; omega
    have hE1 : 0 < H → ((V2 : Int) != (W : Int) + (W : Int) % 2) = false := fun hH0 => by
      have h1 := pack_wide bs hH0 (W := W)
      rw [HP.out, HV.out] at h1
      have h2 := HV2.out
      simp; omega
    rcases Nat.eq_zero_or_pos H with hH0 | hH0 <;> rcases Nat.eq_zero_or_pos W with hW0 | hW0
    · subst hH0
      subst hW0
      go_wp2_with fail
      go_meet
      exact ⟨rfl, rfl⟩
    · subst hH0
      have d2 : decide (0 < (W : Int)) = true := decide_eq_true (by omega)
      have hz : ((K3 : Int) != 0) = false := by
        have h1 := HK2.out
        have h2 := HK3.out
        simp; omega
      go_wp2_with fail
      go_meet
      exact ⟨rfl, rfl⟩
    · subst hW0
      have d1 : decide (0 < (H : Int)) = true := decide_eq_true (by omega)
      have hz : ((V2 : Int) != 0) = false := by
        have h1 := pack_wide bs hH0 (W := 0)
        rw [HP.out, HV.out] at h1
        have h2 := HV2.out
        simp; omega
      clear hE1
      go_wp2_with fail
      go_meet
      exact ⟨rfl, rfl⟩
    · have d1 : decide (0 < (H : Int)) = true := decide_eq_true (by omega)
      have d2 : decide (0 < (W : Int)) = true := decide_eq_true (by omega)
      have hE1 := hE1 hH0
      go_wp2_with fail
      go_meet
      exact ⟨rfl, rfl⟩
  case rest =>
    obtain ⟨rfl, rfl⟩ := hcut
    clear f0 f1 g0 g1
    go_wp2_with fail
    go_loopg [10, 11] K3 (fun g cnt y' w' => ∃ (y m : Nat), y ≤ K3 ∧ g = K3 - y ∧ y' = .int .i64 y ∧ cnt = .int .i64 m ∧ Hid (m = S y fun y => S V2 fun x => one (dotAt W H bs x y)) ∧ m ≤ 14 * y ∧ Below w5.heap.size w5 w')
    case atStart => exact ⟨0, 0, by omega, by omega, rfl, rfl, hide rfl, by omega, Below.refl _ _⟩
    case round =>
      obtain ⟨y, m, hy, hg, rfl, rfl, HM, hm, hbk⟩ := hrel
      have HG := hide hg
      clear hg
      have g1 := (y4.under hbk).at_ (j := 1) rfl
      by_cases hyK : y < K3
      · go_wp2_with fail
        clear g1
        go_loopg [10, 12] V2 (fun g cnt x' w' => ∃ (x m2 : Nat), x ≤ V2 ∧ g = V2 - x ∧ x' = .int .i64 x ∧ cnt = .int .i64 m2 ∧ Hid (m2 = m + S x fun x => one (dotAt W H bs x y)) ∧ m2 ≤ 14 * y + x ∧ Below w5.heap.size w5 w')
        case atStart => exact ⟨0, m, by omega, by omega, rfl, rfl, hide rfl, by omega, hbk⟩
        case round =>
          clear hbk
          obtain ⟨x, m2, hx, hg1, rfl, rfl, HM2, hm2, hbk⟩ := hrel
          have HG1 := hide hg1
          clear hg1
          have g0 := (y4.under hbk).at_ (j := 0) rfl
          by_cases hxV : x < V2
          · obtain ⟨v, Hv⟩ : ∃ v, Hid (dotAt W H bs x y = v) := ⟨_, hide rfl⟩
            have Hv2 : Hid (dotAt V2 K3 BB x y = v) := hide (by rw [HD.out x y hxV hyK, Hv.out])
            have evv : (v != v) = false := by simp
            have hsq' : ∀ w', Below wr.heap.size wr w' → Below w5.heap.size w5 w' := fun w' h => hbk.trans (h.mono hbk.size)
            go_wp2_with fail
            clear g0
            refine wp_region_free 8 [⟨0, 90, [90], fun vs _ => vs = [RV V2 K3 aq N2 cq]⟩, ⟨1, 91, [91], fun vs _ => vs = [.int .i64 (x : Int)]⟩, ⟨2, 92, [92], fun vs _ => vs = [.int .i64 (y : Int)]⟩, ⟨3, 93, [93], fun vs _ => vs = [.bool v]⟩, ⟨4, 94, [94], fun vs _ => vs = [RV W H a n c]⟩, ⟨5, 95, [95], fun vs _ => vs = [.int .i64 (x : Int)]⟩, ⟨6, 96, [96], fun vs _ => vs = [.int .i64 (y : Int)]⟩, ⟨7, 97, [97], fun vs _ => vs = [.bool v]⟩] (by kernel_rfl) (by kernel_rfl) ?_ ?_ ?_
            · simp only [All]
              refine ⟨fun _ _ _ _ h => h, fun _ _ _ _ h => h, fun _ _ _ _ h => h, fun _ _ _ _ h => h, fun _ _ _ _ h => h, fun _ _ _ _ h => h, fun _ _ _ _ h => h, fun _ _ _ _ h => h, trivial⟩
            · simp only [All]
              refine ⟨?_, ?_, ?_, ?_, ?_, ?_, ?_, ?_, trivial⟩
              · intro o ho a' w' hb hfr hdep
                obtain rfl := Option.some.inj ho
                have g8 : a'.tmps[8]?.getD undef = .pointer (some ⟨Z, 0, none⟩) := by have h := hfr 8 (by kernel_rfl); simpa using h
                clear ho hfr hdep
                have z3 := y4.under (hsq' _ hb)
                refine load_box 90 36 _ 36 _ 0 _ [.int .i64 V2, .int .i64 K3, .slice aq N2 cq] isAgg_raster (size_raster _ _ _) z3 (by show a'.tmps.getD 8 undef = _; simpa using g8) (fun j u hj => by rw [Nat.zero_add]; exact hj) ?_
                go_wp2_with fail
                exact ⟨rfl, _, rfl, Below.refl _ _, rfl⟩
              · intro o ho a' w' hb hfr hdep
                obtain rfl := Option.some.inj ho
                have g12 : a'.tmps[12]?.getD undef = .int .i64 (x : Int) := by have h := hfr 12 (by kernel_rfl); simpa using h
                clear ho hfr hdep
                go_wp2_with fail
                exact ⟨rfl, _, rfl, Below.refl _ _, rfl⟩
              · intro o ho a' w' hb hfr hdep
                obtain rfl := Option.some.inj ho
                have g11 : a'.tmps[11]?.getD undef = .int .i64 (y : Int) := by have h := hfr 11 (by kernel_rfl); simpa using h
                clear ho hfr hdep
                go_wp2_with fail
                exact ⟨rfl, _, rfl, Below.refl _ _, rfl⟩
              · intro o ho a' w' hb hfr hdep
                obtain rfl := Option.some.inj ho
                have g90 : a'.tmps[90]?.getD undef = RV V2 K3 aq N2 cq := by have h := hdep 0 _ rfl (by kernel_rfl); simpa using h
                have g91 : a'.tmps[91]?.getD undef = .int .i64 (x : Int) := by have h := hdep 1 _ rfl (by kernel_rfl); simpa using h
                have g92 : a'.tmps[92]?.getD undef = .int .i64 (y : Int) := by have h := hdep 2 _ rfl (by kernel_rfl); simpa using h
                clear ho hfr hdep
                go_wp2_with fail
                refine (Dot_at Hv2.out HBBl.out HVK.out (by omega) (by omega) (hq4.below (hsq' _ hb))).mono ?_
                rintro e w2 ⟨rfl, h2⟩
                go_wp2_with fail
                exact ⟨rfl, _, rfl, h2, rfl⟩
              · intro o ho a' w' hb hfr hdep
                obtain rfl := Option.some.inj ho
                have g5 : a'.tmps[5]?.getD undef = .pointer (some ⟨R, 0, none⟩) := by have h := hfr 5 (by kernel_rfl); simpa using h
                clear ho hfr hdep
                have z3 := x4.under (hsq' _ hb)
                refine load_box 94 36 _ 36 _ 0 _ [.int .i64 W, .int .i64 H, .slice a n c] isAgg_raster (size_raster _ _ _) z3 (by show a'.tmps.getD 5 undef = _; simpa using g5) (fun j u hj => by rw [Nat.zero_add]; exact hj) ?_
                go_wp2_with fail
                exact ⟨rfl, _, rfl, Below.refl _ _, rfl⟩
              · intro o ho a' w' hb hfr hdep
                obtain rfl := Option.some.inj ho
                have g12 : a'.tmps[12]?.getD undef = .int .i64 (x : Int) := by have h := hfr 12 (by kernel_rfl); simpa using h
                clear ho hfr hdep
                go_wp2_with fail
                exact ⟨rfl, _, rfl, Below.refl _ _, rfl⟩
              · intro o ho a' w' hb hfr hdep
                obtain rfl := Option.some.inj ho
                have g11 : a'.tmps[11]?.getD undef = .int .i64 (y : Int) := by have h := hfr 11 (by kernel_rfl); simpa using h
                clear ho hfr hdep
                go_wp2_with fail
                exact ⟨rfl, _, rfl, Below.refl _ _, rfl⟩
              · intro o ho a' w' hb hfr hdep
                obtain rfl := Option.some.inj ho
                have g94 : a'.tmps[94]?.getD undef = RV W H a n c := by have h := hdep 4 _ rfl (by kernel_rfl); simpa using h
                have g95 : a'.tmps[95]?.getD undef = .int .i64 (x : Int) := by have h := hdep 5 _ rfl (by kernel_rfl); simpa using h
                have g96 : a'.tmps[96]?.getD undef = .int .i64 (y : Int) := by have h := hdep 6 _ rfl (by kernel_rfl); simpa using h
                clear ho hfr hdep
                go_wp2_with fail
                refine (Dot_at Hv.out HBL.out (Nat.le_trans HWH.out (by decide)) (by omega) (by omega) (hs4.below (hsq' _ hb))).mono ?_
                rintro e w2 ⟨rfl, h2⟩
                go_wp2_with fail
                exact ⟨rfl, _, rfl, h2, rfl⟩
            · intro g w2 hb hp
              have p1 := hp 3 _ rfl
              have p2 := hp 7 _ rfl
              clear hp
              simp at p1 p2
              simp only [List.map_cons, List.map_nil, putAll, Act.put, List.setIfInBounds_toArray, List.set_cons_succ, List.set_cons_zero, p1, p2]
              have hb6 := hsq' _ hb
              have f0 := (x4.under hb6).at_ (j := 0) rfl
              have f1 := (x4.under hb6).at_ (j := 1) rfl
              have f2 := (x4.under hb6).at_ (j := 2) rfl
              go_wp2_with fail
              clear f0 f1 f2
              refine (Dot_at Hv.out HBL.out (Nat.le_trans HWH.out (by decide)) (by omega) (by omega) (hs4.below hb6)).mono ?_
              rintro e w7 ⟨rfl, hb7⟩
              have hb8 := hb6.trans (hb7.mono hb6.size)
              cases v
              · go_wp2_with fail
                go_roundg (V2 - (x + 1))
                case measure => have := HG1.out; omega
                case rel => exact ⟨x + 1, m2, by omega, rfl, by go_num, rfl, hide (by rw [HM2.out]; show _ = m + (S x _ + one (dotAt W H bs x y)); rw [Hv.out]; rfl), by omega, hb8⟩
              · go_wp2_with fail
                go_roundg (V2 - (x + 1))
                case measure => have := HG1.out; omega
                case rel => exact ⟨x + 1, m2 + 1, by omega, rfl, by go_num, by go_num, hide (by rw [HM2.out]; show _ = m + (S x _ + one (dotAt W H bs x y)); rw [Hv.out]; rfl), by omega, hb8⟩
          · obtain rfl : V2 = x := by omega
            go_wp2_with fail
            go_roundg (K3 - (y + 1))
            case measure => have := HG.out; omega
            case rel => exact ⟨y + 1, m2, by omega, rfl, by go_num, rfl, hide (by rw [HM2.out, HM.out]; rfl), by omega, hbk⟩
      · obtain rfl : K3 = y := by omega
        have b0 : Below w5.heap.size w5 wr ∧ w5.heap.size ≤ wr.heap.size := ⟨hbk, hbk.size⟩
        obtain ⟨cn, Hcn⟩ : ∃ cn, Hid ((cN P.flatten : Int) = cn) := ⟨_, hide rfl⟩
        have Hcm : Hid ((cM P.flatten : Int) = (m : Int)) := by show _ = _; rw [HC.out, HM.out]
        have emm : ((m : Int) == (m : Int)) = true := by simp
        go_wp2_with fail
        refine (Count_at Hcn.out Hcm.out HFl.out (hpp4.below b0.1)).mono ?_
        rintro e w6 ⟨rfl, hb⟩
        have b6 := bs0 b0 hb
        have hk6 := hk.below (b5.1.trans (b6.1.mono b5.2))
        clear hb b0 g1 x4 y4 hs4 hq4 hpp4 HM HC HD
        go_wp2_with fail
        refine (ref_Page k a2 n2 c2 w6 hk6 lk).mono ?_
        rintro e w7 ⟨q, aq2, cq2, hdq, hq5, hq10, rfl, hoq, hb⟩
        have b7 := bs0 b6 hb
        have hqq := hoq.pg
        have hqw : wideL q ≤ 10 := wideL_le hq10
        clear hb hoq b6 hk6 hk lk
        have hqw6 : wideL q ≤ 1000000 := Nat.le_trans hqw (by decide)
        have hql6 : q.length ≤ 1000000 := Nat.le_trans hq5 (by decide)
        have hprod : 2 * wideL q * (3 * q.length) ≤ 300 := Nat.le_trans (Nat.mul_le_mul (Nat.mul_le_mul_left 2 hqw) (Nat.mul_le_mul_left 3 hq5)) (by decide)
        cases hv : q.any (fun l => !validB l)
        · have hlim : ¬ (65536 < 2 * wideL q ∨ 65536 < 3 * q.length ∨ 65536 < 2 * wideL q * (3 * q.length)) := by omega
          have hpl := again_plain hv
          have huq := unpackL_yes hv hlim
          obtain ⟨B2, HB2⟩ : ∃ B2, Hid (rbits q (2 * wideL q) (2 * wideL q * (3 * q.length)) = B2) := ⟨_, hide rfl⟩
          have hbl : B2.length = 2 * wideL q * (3 * q.length) := by rw [← HB2.out, rbits_len]
          rw [HB2.out] at hpl huq
          obtain ⟨U, HU1⟩ : ∃ U, Hid (2 * wideL q = U) := ⟨_, hide rfl⟩
          obtain ⟨L, HL1⟩ : ∃ L, Hid (3 * q.length = L) := ⟨_, hide rfl⟩
          have hU : U ≤ 20 := by rw [← HU1.out]; omega
          have hL : L ≤ 15 := by rw [← HL1.out]; omega
          rw [HU1.out, HL1.out] at hpl huq hbl hprod
          have HUQ := hide huq
          have HPk := hide (pack_proper (by omega) (by omega) (by omega) hbl)
          obtain ⟨P2, HP2⟩ : ∃ P2, Hid (packL U L B2 = P2) := ⟨_, hide rfl⟩
          have hP2 : P2.length ≤ 1000000 := by rw [← HP2.out, pack_len]; omega
          rw [HP2.out] at HPk hpl
          have HSm := hide (decide_eq_true hpl)
          clear hpl huq hbl hv hlim hprod
          go_wp2_with fail
          refine (Unpack_at HUQ.out hqw6 hql6 hqq).mono ?_
          rintro e w8 ⟨a8, n8, c8, rfl, hs8, hb⟩
          have b8 := bs0 b7 hb
          have hqq8 := (hqq.below hb).below (bl1 w8 (.cells #[.int .i64 (U : Int), .int .i64 (L : Int), .slice a8 n8 c8] 36))
          have hs9 := hs8.alloc (.cells #[.int .i64 (U : Int), .int .i64 (L : Int), .slice a8 n8 c8] 36)
          have x8 : Box (w8.alloc (.cells #[.int .i64 (U : Int), .int .i64 (L : Int), .slice a8 n8 c8] 36)) w8.heap.size 36 [.int .i64 U, .int .i64 L, .slice a8 n8 c8] := Box.new _ _ _
          have e0 : (w8.alloc (.cells #[.int .i64 (U : Int), .int .i64 (L : Int), .slice a8 n8 c8] 36)).cell? ⟨w8.heap.size, 0, none⟩ = some (.int .i64 U) := x8.at_ rfl
          have e1 : (w8.alloc (.cells #[.int .i64 (U : Int), .int .i64 (L : Int), .slice a8 n8 c8] 36)).cell? ⟨w8.heap.size, 1, none⟩ = some (.int .i64 L) := x8.at_ rfl
          have e2 : (w8.alloc (.cells #[.int .i64 (U : Int), .int .i64 (L : Int), .slice a8 n8 c8] 36)).cell? ⟨w8.heap.size, 2, none⟩ = some (.slice a8 n8 c8) := x8.at_ rfl
          clear hb hs8
          go_wp2_with fail
          clear e0 e1 e2 x8
          refine (Pack_at HPk.out hs9).mono ?_
          rintro e w9 ⟨a9, c9, hd9, rfl, hp9, hb⟩
          have b9 := bstep b8 hb
          have hqq9 := hqq8.below hb
          go_wp2_with fail
          refine (Same6_at HSm.out hP2 hql6 hp9 hqq9).mono ?_
          rintro e w10 ⟨rfl, hb2⟩
          have b10 := bs0 b9 hb2
          go_wp2_with fail
          refine (law4_lives w10).mono ?_
          rintro e w11 ⟨rfl, hb3⟩
          have b11 := bs0 b10 hb3
          go_wp2_with fail
          go_ret
          exact ⟨rfl, b5.1.trans (b11.1.mono b5.2)⟩
        · have HUQ := hide (unpackL_bad hv)
          clear hv hprod
          go_wp2_with fail
          refine (Unpack_at HUQ.out hqw6 hql6 hqq).mono ?_
          rintro e w8 ⟨a8, n8, c8, rfl, hs8, hb⟩
          have b8 := bs0 b7 hb
          clear hs8
          go_wp2_with fail
          refine (law4_lives _).mono ?_
          rintro e w11 ⟨rfl, hb3⟩
          have b11 := bstep b8 hb3
          go_wp2_with fail
          go_ret
          exact ⟨rfl, b5.1.trans (b11.1.mono b5.2)⟩
end Go.Proofs.Ythfljnlankmoiaa
end
