/- The contracts of the functions that the law reaches, joined into one text. -/
import Derived.Test.YthfljnlankmoiaaBaseC22C
import Derived.OpenShut
import Derived.Deep.Slices
import Derived.Deep.Strs
import Derived.SizedLaws

/- the text Row2 -/
section
/- How the arguments of a law read: slices of integers, of strings, of arrays of integers, with the form's own reach. No program. -/
namespace Go.Dx
open Go.RowKit Go.WideShapes Go.ChangeShapes Go.Deep

/-- no part is longer than the form lets it be -/
def Sized {H : Type} (P : Program) (t : TypeId) (d : DataW H) : Prop := ∀ n ∈ d.weights P t, n ≤ reachBytes
section
variable {H : Type} {enc : TypeId × Value → H} {P : Program} {w : World}
theorem sized_at {ts : List TypeId} {ds : List (DataW H)} (hwt : (DataW.weightsEach P ts ds).all (· ≤ reachBytes) = true) (j : Nat) {t : TypeId} {d : DataW H} (ht : ts[j]? = some t) (hd : ds[j]? = some d) : Sized P t d :=
  fun n hn => by simpa using List.all_eq_true.1 hwt _ (DataW.weights_mem_each ht hd n hn)
theorem sized_all {e : TypeId} : ∀ {l : List (DataW H)} {d : DataW H}, d ∈ l → ∀ n ∈ d.weights P e, n ∈ DataW.weightsAll P e l
  | x :: l, d, hd, n, hn => by
    simp only [DataW.weightsAll, List.mem_append]
    rcases List.mem_cons.1 hd with rfl | h
    · exact .inl hn
    · exact .inr (sized_all h n hn)
theorem Sized.slice {t e : TypeId} {elems spare : List (DataW H)} (h : Sized P t (.slice elems spare)) (hu : P.underlying t = some (.slice e)) :
    (elems.length + spare.length) * P.bytesOf e ≤ reachBytes ∧ (∀ d ∈ elems, Sized P e d) :=
  ⟨h _ (by simp [DataW.weights, hu]), fun d hd n hn => h n (by simp only [DataW.weights, hu, List.mem_cons, List.mem_append]; exact .inr (.inl (sized_all hd n hn)))⟩
theorem Sized.string {t : TypeId} {b : List UInt8} (h : Sized P t (DataW.lit (H := H) (.string b))) : b.length ≤ reachBytes := h _ (by simp [DataW.weights])

theorem add_cells {a : Addr} {n : Nat} : a.add n = a.add n := rfl

theorem trod_ints {t e : TypeId} {k : IntKind} (ht : P.underlying t = some (.slice e)) (he : P.underlying e = some (.int k)) (hc : P.cellsOf e = 1) (hb : 0 < P.bytesOf e) {a : Option Addr} {len cap : Nat} {d : DataW H} {p : List MemPlace}
    (hs : Sized P t d) (h : DataW.Trod enc P w 0 (fun _ => true) true t (.slice a len cap) d p) :
    ∃ zs : List Int, Sl w 1 a len cap (zs.map (Value.int k)) ∧ (∀ n ∈ zs, (Lit.int k n).wf = true) ∧ len ≤ reachBytes := by
  obtain ⟨fuel, hf⟩ := h
  rcases open_ints ht he hc hf with ⟨hcs, _⟩ | ⟨x, l, c, zs, hcs, _, hl, hm, hz, hx, hcell, hwz⟩
  · simp [Value.cells] at hcs
    obtain ⟨rfl, rfl, rfl⟩ := hcs
    exact ⟨[], Sl.empty w 1, by simp, Nat.zero_le _⟩
  · simp [Value.cells] at hcs
    obtain ⟨rfl, rfl, rfl⟩ := hcs
    have hz2 : zs.length = cap := by simpa using hz
    have hd := congrArg Prod.fst hx
    simp only at hd
    subst hd
    refine ⟨zs.take len, ⟨by simp; omega, hl, hm, (fun h => by cases h), ?_⟩, fun n hn => hwz n (List.mem_of_mem_take hn), ?_⟩
    · intro q hq j u hj
      cases hq
      rw [List.getElem?_map, List.getElem?_take] at hj
      by_cases hlt : j < len
      · rw [if_pos hlt] at hj
        have hjz : j < zs.length := by omega
        rw [List.getElem?_eq_getElem hjz] at hj
        simp at hj
        rw [hcell j hjz, ← hj, List.getD_eq_getElem?_getD, List.getElem?_eq_getElem hjz]
        rfl
      · rw [if_neg hlt] at hj; cases hj
    · have hsz := (hs.slice ht).1
      rw [show ∀ (k : IntKind) (l : List Int), (lits (H := H) k l).length = l.length from fun k l => by simp [lits], List.length_take, show min len zs.length = len by omega] at hsz
      exact Nat.le_trans (Nat.le_trans (Nat.le_add_right _ _) (Nat.le_mul_of_pos_right _ hb)) hsz

theorem trod_bytes {t e : TypeId} (ht : P.underlying t = some (.slice e)) (he : P.underlying e = some (.int .u8)) (hc : P.cellsOf e = 1) (hb : 0 < P.bytesOf e) {a : Option Addr} {len cap : Nat} {d : DataW H} {p : List MemPlace}
    (hs : Sized P t d) (h : DataW.Trod enc P w 0 (fun _ => true) true t (.slice a len cap) d p) :
    ∃ l : List UInt8, Sl w 1 a len cap (l.map B8) ∧ len ≤ reachBytes := by
  obtain ⟨zs, h1, h2, h3⟩ := trod_ints ht he hc hb hs h
  refine ⟨zs.map fun n => UInt8.ofNat n.toNat, ?_, h3⟩
  have e : (zs.map fun n => UInt8.ofNat n.toNat).map B8 = zs.map (Value.int .u8) := by
    rw [List.map_map]
    apply List.map_congr_left
    intro n hn
    have hb : 0 ≤ n ∧ n ≤ 255 := bounds_u8 (h2 n hn)
    show Value.int .u8 ((UInt8.ofNat n.toNat).toNat : Int) = _
    rw [UInt8.toNat_ofNat']
    congr 1
    omega
  rw [e]
  exact h1
theorem trod_i64s {t e : TypeId} (ht : P.underlying t = some (.slice e)) (he : P.underlying e = some (.int .i64)) (hc : P.cellsOf e = 1) (hb : 0 < P.bytesOf e) {a : Option Addr} {len cap : Nat} {d : DataW H} {p : List MemPlace}
    (hs : Sized P t d) (h : DataW.Trod enc P w 0 (fun _ => true) true t (.slice a len cap) d p) :
    ∃ l : List Int, Sl w 1 a len cap (l.map I64) ∧ (∀ n ∈ l, -9223372036854775808 ≤ n ∧ n ≤ 9223372036854775807) ∧ len ≤ reachBytes := by
  obtain ⟨zs, h1, h2, h3⟩ := trod_ints ht he hc hb hs h
  exact ⟨zs, h1, fun n hn => bounds_i64 (h2 n hn), h3⟩

theorem trod_strs {t e : TypeId} (ht : P.underlying t = some (.slice e)) (he : P.underlying e = some .string) (hc : P.cellsOf e = 1) (hb : 0 < P.bytesOf e) {a : Option Addr} {len cap : Nat} {d : DataW H} {p : List MemPlace}
    (hs : Sized P t d) (h : DataW.Trod enc P w 0 (fun _ => true) true t (.slice a len cap) d p) :
    ∃ l : List ByteArray, Sl w 1 a len cap (l.map Value.string) ∧ (∀ s ∈ l, s.size ≤ reachBytes) ∧ len ≤ reachBytes ∧ (l = [] ∨ ∃ sp, d = .slice (l.map fun s => .lit (.string s.data.toList)) sp) := by
  obtain ⟨fuel, hf⟩ := h
  rcases open_strs ht he hc hf with ⟨hcs, _⟩ | ⟨x, l, c, m, Sx, hcs, _, hl, hm, hmm, hx, hcell⟩
  · simp [Value.cells] at hcs
    obtain ⟨rfl, rfl, rfl⟩ := hcs
    exact ⟨[], Sl.empty w 1, by simp, Nat.zero_le _, .inl rfl⟩
  · simp [Value.cells] at hcs
    obtain ⟨rfl, rfl, rfl⟩ := hcs
    simp only [if_true] at hmm
    subst hmm
    have hd := congrArg Prod.fst hx
    simp only at hd
    subst hd
    obtain ⟨z1, z2⟩ := hs.slice ht
    refine ⟨(List.range len).map Sx, ⟨by simp, hl, hm, (fun h => by cases h), ?_⟩, ?_, ?_, .inr ⟨_, by rw [List.map_map]; rfl⟩⟩
    · intro q hq j u hj
      cases hq
      have hlt : j < len := by have := (List.getElem?_eq_some_iff.1 hj).1; simpa using this
      rw [(hcell j (by omega)).1]
      simp [hlt] at hj
      rw [hj]
    · intro s hs
      obtain ⟨i, hi, rfl⟩ := List.mem_map.1 hs
      have := Sized.string (z2 _ (List.mem_map.2 ⟨i, hi, rfl⟩))
      rwa [show (Sx i).data.toList.length = (Sx i).size from Array.length_toList] at this
    · simp only [List.length_map, List.length_range] at z1
      exact Nat.le_trans (Nat.le_trans (Nat.le_add_right _ _) (Nat.le_mul_of_pos_right _ hb)) z1

theorem trod_arr {t e n : Nat} {k : IntKind} {base : Nat} {spare : Nat → Bool} {held : Bool} {fuel : Nat} {cs : List Value} {x : DataW H × List MemPlace} (ht : P.underlying t = some (.array n e)) (he : P.underlying e = some (.int k)) (hc : P.cellsOf e = 1) (hct : P.cellsOf t = n)
    (h : DataW.trod enc P w base spare held fuel t cs = some x) : cs.length = n ∧ ∀ i, i < n → ∃ z, cs[i]? = some (.int k z) ∧ (Lit.int k z).wf = true := by
  obtain ⟨xs, m, _, _, hl, hxl, hi⟩ := DataW.trod_array ht h
  rw [hct] at hl
  refine ⟨hl, fun i hin => ?_⟩
  have h1 := hi i hin
  rw [hc, Nat.mul_one, List.getElem?_eq_getElem (by omega)] at h1
  obtain ⟨z, hz, _, hw⟩ := DataW.trod_int he h1
  refine ⟨z, ?_, hw⟩
  have := congrArg (·[0]?) hz
  simpa [List.getElem?_take, List.getElem?_drop] using this

theorem trod_arrs {t e q n : Nat} {k : IntKind} (ht : P.underlying t = some (.slice e)) (he : P.underlying e = some (.array n q)) (hq : P.underlying q = some (.int k)) (hc : P.cellsOf q = 1) (hce : P.cellsOf e = n) (hb : 0 < P.bytesOf e) (hn0 : 0 < n)
    {a : Option Addr} {len cap : Nat} {d : DataW H} {p : List MemPlace} (hs : Sized P t d) (h : DataW.Trod enc P w 0 (fun _ => true) true t (.slice a len cap) d p) :
    ∃ zs : List Int, Sl w n a len cap (zs.map (Value.int k)) ∧ (∀ n ∈ zs, (Lit.int k n).wf = true) ∧ len ≤ reachBytes := by
  obtain ⟨fuel, hf⟩ := h
  rcases open_slice ht hf with ⟨hcs, _⟩ | ⟨x, l, c, m, g, D, Pl, hcs, _, hl, hm, hmm, hx, hel⟩
  · simp [Value.cells] at hcs
    obtain ⟨rfl, rfl, rfl⟩ := hcs
    exact ⟨[], Sl.empty w n, by simp, Nat.zero_le _⟩
  · simp [Value.cells] at hcs
    obtain ⟨rfl, rfl, rfl⟩ := hcs
    simp only [if_true] at hmm
    subst hmm
    have hd := congrArg Prod.fst hx
    simp only at hd
    subst hd
    obtain ⟨z1, z2⟩ := hs.slice ht
    have each : ∀ j, j < len * n → ∃ z, w.cell? (x.add j) = some (.int k z) ∧ (Lit.int k z).wf = true := by
      intro j hj
      have hi : j / n < len := (Nat.div_lt_iff_lt_mul hn0).2 hj
      obtain ⟨cs', h1, h2⟩ := hel (j / n) (by omega)
      rw [hce] at h1
      obtain ⟨_, hcl, hat⟩ := World.cells?_some h1
      have hr : j % n < n := Nat.mod_lt _ hn0
      obtain ⟨z, hz, hwz⟩ := (trod_arr he hq hc hce h2).2 (j % n) hr
      refine ⟨z, ?_, hwz⟩
      have := hat (j % n) hr
      rw [sl_add, Nat.div_add_mod'] at this
      rw [this, hz]
    obtain ⟨Z, hZ⟩ := choose_lt each
    refine ⟨(List.range (len * n)).map Z, ⟨by simp, hl, hm, (fun h => by cases h), ?_⟩, ?_, ?_⟩
    · intro q hq j u hj
      cases hq
      have hlt : j < len * n := by have := (List.getElem?_eq_some_iff.1 hj).1; simpa using this
      rw [(hZ j hlt).1]
      simp [hlt] at hj
      rw [hj]
    · intro z hz
      obtain ⟨i, hi, rfl⟩ := List.mem_map.1 hz
      exact (hZ i (List.mem_range.1 hi)).2
    · simp only [List.length_map, List.length_range] at z1
      exact Nat.le_trans (Nat.le_trans (Nat.le_add_right _ _) (Nat.le_mul_of_pos_right _ hb)) z1
theorem bytes_of_wf {zs : List Int} (h : ∀ n ∈ zs, (Lit.int .u8 n).wf = true) : ∃ l : List UInt8, l.map B8 = zs.map (Value.int .u8) := by
  refine ⟨zs.map fun n => UInt8.ofNat n.toNat, ?_⟩
  rw [List.map_map]
  apply List.map_congr_left
  intro n hn
  have hb : 0 ≤ n ∧ n ≤ 255 := bounds_u8 (h n hn)
  show Value.int .u8 ((UInt8.ofNat n.toNat).toNat : Int) = _
  rw [UInt8.toNat_ofNat']
  congr 1
  omega
end
end Go.Dx
end

/- the text CL1 -/
section
namespace Go.Proofs.Ythfljnlankmoiaa
open Go.RowKit Go.Dx

theorem of_dots_fin : ∀ n : Fin 256, ofL (dotsL (UInt8.ofNat n.val)) = (n.val % 64, 0) := by decide +kernel
theorem of_dots (u : UInt8) : ofL (dotsL u) = (u.toNat % 64, 0) := by
  have h := of_dots_fin ⟨u.toNat, u.toNat_lt⟩
  rw [of_u8] at h; exact h
theorem back_back_fin : ∀ n : Fin 256, (backC (backC (UInt8.ofNat n.val))).toNat = n.val % 64 := by decide +kernel
theorem back_back (u : UInt8) : (backC (backC u)).toNat = u.toNat % 64 := by
  have h := back_back_fin ⟨u.toNat, u.toNat_lt⟩
  rw [of_u8] at h; exact h
theorem back_dots_fin : ∀ n : Fin 256, (dotsL (backC (UInt8.ofNat n.val))).length = (dotsL (UInt8.ofNat n.val)).length := by decide +kernel
theorem back_dots (u : UInt8) : (dotsL (backC u)).length = (dotsL u).length := by
  have h := back_dots_fin ⟨u.toNat, u.toNat_lt⟩
  rw [of_u8] at h; exact h
theorem refOf_at {l : List Int} {r : Nat × Int} (h : ofL l = r) {a : Option Addr} {n c : Nat} {w : World} (hs : Sl w 1 a n c (l.map I64)) :
    Calls Try.prog 10 #[.slice a n c] w fun e w' => e = .returned (ROf r) ∧ Below w.heap.size w w' := by
  subst h; exact (ref_Of l a n c w hs).mono fun e w' ⟨h1, n, h2⟩ => ⟨h1, h2 ▸ Still.below n⟩
theorem refDots_at {u : UInt8} {v : Int} {l : List Int} (hv : (u.toNat : Int) = v) (h : dotsL u = l) {w : World} :
    Calls Try.prog 13 #[.int .u8 v] w (Gives 3 1 l.length (l.map I64) w) := by subst hv h; exact ref_Dots u w
theorem refBack_at {u : UInt8} {v k : Int} (hv : (u.toNat : Int) = v) (h : ((backC u).toNat : Int) = k) {w : World} :
    Calls Try.prog 15 #[.int .u8 v] w fun e w' => e = .returned (.int .u8 k) ∧ Below w.heap.size w w' := by subst hv h; exact ref_Back u w
theorem few_at {l r : List UInt8} {m : Nat} {v : Int} (hv : (m : Int) = v) (h : l.take m = r) (hm : m ≤ 1000000) {a : Option Addr} {n c : Nat} {w : World} (hs : Sl w 1 a n c (l.map B8)) :
    Calls Try.prog 17 #[.slice a n c, .int .i64 v] w (Gives 5 1 r.length (r.map B8) w) := by subst hv h; exact law4_few l m a n c w hs hm
theorem Valid_at {l : List UInt8} {v : Bool} (h : validB l = v) {a : Option Addr} {n c : Nat} {w : World} (hs : Sl w 1 a n c (l.map B8)) :
    Calls Try.prog 16 #[.slice a n c] w fun e w' => e = .returned (.bool v) ∧ w = w' := by subst h; exact cell_Valid l a n c w hs
theorem refValid_at {l : List UInt8} {v : Bool} (h : validB l = v) {a : Option Addr} {n c : Nat} {w : World} (hs : Sl w 1 a n c (l.map B8)) :
    Calls Try.prog 18 #[.slice a n c] w fun e w' => e = .returned (.bool v) ∧ w = w' := by subst h; exact ref_Valid l a n c w hs

set_option maxRecDepth 100000 in
set_option maxHeartbeats 2000000 in
theorem walk_CellDots (u : UInt8) (l : List Int) (a : Option Addr) (n c : Nat) (k : List UInt8) (a2 : Option Addr) (n2 c2 : Nat) (w : World) (hs : Sl w 1 a n c (l.map I64)) (hk : Sl w 1 a2 n2 c2 (k.map B8)) :
    Calls Try.prog 3 #[.int .u8 (u.toNat : Int), .slice a n c, .slice a2 n2 c2] w fun e w' => e = .returned (.bool true) ∧ Below w.heap.size w w' := by
  have hcap := Nat.le_trans hs.le hs.cap
  unfold maxLen at hcap
  obtain rfl := hs.n_eq
  obtain ⟨m, hm, hml⟩ : ∃ m, m = min l.length 8 ∧ m ≤ l.length := ⟨_, rfl, by omega⟩
  have hst : Sl w 1 a m c ((l.take m).map I64) := by have := hs.take m hml; rw [← List.map_take] at this; exact this
  obtain ⟨s, Hs⟩ : ∃ s, Hid (ofL (l.take m) = s) := ⟨_, hide rfl⟩
  obtain ⟨o, x⟩ := s
  obtain ⟨ds, Hds⟩ : ∃ ds, Hid (dotsL u = ds) := ⟨_, hide rfl⟩
  obtain ⟨bc, Hbc⟩ : ∃ bc, Hid (backC u = bc) := ⟨_, hide rfl⟩
  obtain ⟨kt, Hkt⟩ : ∃ kt, Hid (k.take 40 = kt) := ⟨_, hide rfl⟩
  obtain ⟨v, Hv⟩ : ∃ v, Hid (validB kt = v) := ⟨_, hide rfl⟩
  obtain ⟨r, Hr⟩ : ∃ r, Hid (u.toNat % 64 = r) := ⟨_, hide rfl⟩
  have n1 : ((o : Int) != (o : Int)) = false := by simp
  have n2' : (x != x) = false := by simp
  have n3 : ((bc.toNat : Int) != (bc.toNat : Int)) = false := by simp
  have n4 : (v != v) = false := by simp
  have n5 : ((r : Int) == (u.toNat : Int) % 64) = true := by rw [← Hr.out]; simp
  have b0 : Below w.heap.size w w ∧ w.heap.size ≤ w.heap.size := ⟨Below.refl _ _, Nat.le_refl _⟩
  have MM : Hid ((min (l.length : Int) 8).toNat = m) := by show _ = _; omega
  have hle := hs.le
  have hc1 : 0 ≤ min (l.length : Int) 8 := by omega
  have hc2 : min (l.length : Int) 8 ≤ (c : Int) := by omega
  clear hm hml hle
  go_enter Try.func3, Try.ntmps3
  go_wp2_with fail
  rw [MM.out]
  refine (Of_at Hs.out hst).mono ?_
  rintro e w1 ⟨rfl, rfl⟩
  go_wp2_with fail
  refine (refOf_at Hs.out hst).mono ?_
  rintro e w1 ⟨rfl, hb⟩
  have b1 := bs0 b0 hb
  clear hb b0
  go_wp2_with fail
  refine (Dots_at rfl Hds.out).mono ?_
  rintro e w2 ⟨a3, c3, rfl, o3, hb⟩
  have b2 := bs0 b1 hb
  clear hb b1
  go_wp2_with fail
  refine (refDots_at rfl Hds.out).mono ?_
  rintro e w3 ⟨a4, c4, rfl, o4, hb⟩
  have b3 := bs0 b2 hb
  have o3' := o3.sl.below hb
  clear hb b2 o3
  go_wp2_with fail
  refine (SameInts_at (l1 := ds) (l2 := ds) (r := true) (by simp) o3' o4.sl).mono ?_
  rintro e w4 ⟨rfl, hb⟩
  have b4 := bs0 b3 hb
  clear hb b3 o3' o4
  go_wp2_with fail
  refine (Back_at rfl (by rw [Hbc.out])).mono ?_
  rintro e w5 ⟨rfl, rfl⟩
  go_wp2_with fail
  refine (refBack_at rfl (by rw [Hbc.out])).mono ?_
  rintro e w5 ⟨rfl, hb⟩
  have b5 := bs0 b4 hb
  clear hb b4
  go_wp2_with fail
  refine (few_at (m := 40) rfl Hkt.out (by omega) (hk.below b5.1)).mono ?_
  rintro e w6 ⟨a5, c5, rfl, o5, hb⟩
  have b6 := bs0 b5 hb
  clear hb b5
  go_wp2_with fail
  refine (Valid_at Hv.out o5.sl).mono ?_
  rintro e w7 ⟨rfl, rfl⟩
  go_wp2_with fail
  refine (few_at (m := 40) rfl Hkt.out (by omega) (hk.below b6.1)).mono ?_
  rintro e w7 ⟨a6, c6, rfl, o6, hb⟩
  have b7 := bs0 b6 hb
  clear hb b6 o5
  go_wp2_with fail
  refine (refValid_at Hv.out o6.sl).mono ?_
  rintro e w8 ⟨rfl, rfl⟩
  clear o6
  go_wp2_with fail
  refine (Dots_at rfl Hds.out).mono ?_
  rintro e w8 ⟨a7, c7, rfl, o7, hb⟩
  have b8 := bs0 b7 hb
  clear hb b7
  go_wp2_with fail
  refine (Of_at (l := ds) (r := (r, 0)) (by rw [← Hds.out, of_dots, Hr.out]) o7.sl).mono ?_
  rintro e w9 ⟨rfl, rfl⟩
  clear o7
  go_wp2_with fail
  refine (Back_at rfl (by rw [Hbc.out])).mono ?_
  rintro e w9 ⟨rfl, rfl⟩
  go_wp2_with fail
  refine (Back_at rfl (k := (r : Int)) (by rw [← Hbc.out, back_back, Hr.out])).mono ?_
  rintro e w9 ⟨rfl, rfl⟩
  go_wp2_with fail
  refine (Back_at rfl (by rw [Hbc.out])).mono ?_
  rintro e w9 ⟨rfl, rfl⟩
  go_wp2_with fail
  refine (Dots_at rfl rfl).mono ?_
  rintro e w9 ⟨a8, c8, rfl, o8, hb⟩
  have b9 := bs0 b8 hb
  have hlen : (dotsL bc).length = ds.length := by rw [← Hbc.out, back_dots, Hds.out]
  rw [hlen]
  clear hb b8 o8 hlen
  go_wp2_with fail
  refine (Dots_at rfl Hds.out).mono ?_
  rintro e w10 ⟨a9, c9, rfl, o9, hb⟩
  have b10 := bs0 b9 hb
  clear hb b9 o9
  go_wp2_with fail
  refine (law4_lives _).mono ?_
  rintro e w11 ⟨rfl, hb⟩
  have b11 := bs0 b10 hb
  go_wp2_with fail
  go_ret
  exact ⟨rfl, b11.1⟩
end Go.Proofs.Ythfljnlankmoiaa
end

/- the text CL2 -/
section
namespace Go.Proofs.Ythfljnlankmoiaa
open Go.RowKit Go.Dx

/-- a string cut to at most m bytes -/
theorem str_cut (s : ByteArray) (m : Nat) : s.extract 0 m = ⟨(s.data.toList.take m).toArray⟩ := by
  apply ByteArray.ext
  apply Array.ext'
  rw [ByteArray.data_extract, Array.toList_extract]
  simp
set_option maxHeartbeats 400000 in
theorem ref_Short (s : ByteArray) (m : Nat) (v : Int) (hv : (m : Int) = v) (w : World) (hm : m ≤ 1000000) :
    Calls Try.prog 30 #[.string s, .int .i64 v] w fun e w' => e = .returned (.string ⟨(s.data.toList.take m).toArray⟩) ∧ w = w' := by
  subst hv
  obtain ⟨t, Ht⟩ : ∃ t : ByteArray, Hid (⟨(s.data.toList.take m).toArray⟩ = t) := ⟨_, hide rfl⟩
  rw [Ht.out]
  by_cases h : m < s.size
  · have HE : Hid (s.extract 0 m = t) := by show _ = _; rw [str_cut s m, Ht.out]
    go_enter Try.func30, Try.ntmps30
    go_wp2
    go_ret
    exact ⟨by rw [← HE.out]; first | done | rfl, rfl⟩
  · have HE : Hid (s = t) := by
      show _ = _
      rw [← Ht.out, List.take_of_length_le (by rw [str_len]; omega)]
    go_enter Try.func30, Try.ntmps30
    go_wp2
    go_ret
    exact ⟨by rw [← HE.out]; first | done | rfl, rfl⟩
theorem Parse_at {l : List UInt8} {r : List UInt8 × Int} (h : parseL l = r) (hl : l.length ≤ 1000000) {w : World} :
    Calls Try.prog 31 #[.string ⟨l.toArray⟩] w (Gives2 5 1 r.1.length (r.1.map B8) r.2 w) := by
  subst h
  have := cell_Parse ⟨l.toArray⟩ (by rw [← str_len]; simpa using hl) w
  simpa using this
theorem refParse_at {l : List UInt8} {r : List UInt8 × Int} (h : parseL l = r) (hl : l.length ≤ 1000000) {w : World} :
    Calls Try.prog 32 #[.string ⟨l.toArray⟩] w (Gives2 5 1 r.1.length (r.1.map B8) r.2 w) := by
  subst h
  have := ref_Parse ⟨l.toArray⟩ (by rw [← str_len]; simpa using hl) w
  simpa using this
theorem refText_at {l r : List UInt8} (h : textL l = r) (hl : l.length ≤ 1000000) {a : Option Addr} {n c : Nat} {w : World} (hs : Sl w 1 a n c (l.map B8)) :
    Calls Try.prog 35 #[.slice a n c] w fun e w' => e = .returned (.string ⟨r.toArray⟩) ∧ Below w.heap.size w w' := by subst h; exact ref_Text l hl a n c w hs
theorem parse_err (l : List UInt8) : (parseL l).2 = 0 ∨ (parseL l).2 = 2 := by
  cases h : l.any noChr
  · rw [parseL_yes h]; exact .inl rfl
  · rw [parseL_no h]; exact .inr rfl
theorem parse_len (l : List UInt8) : (parseL l).1.length ≤ l.length := by
  cases h : l.any noChr
  · rw [parseL_yes h]; simp
  · rw [parseL_no h]; simp
theorem text_len (l : List UInt8) : (textL l).length ≤ l.length := by
  cases h : validB l
  · rw [textL_no h]; simp
  · rw [textL_yes h]; simp

set_option maxRecDepth 100000 in
set_option maxHeartbeats 2000000 in
theorem walk_CellTexts (k : List UInt8) (a : Option Addr) (n c : Nat) (s : ByteArray) (w : World) (hk : Sl w 1 a n c (k.map B8)) :
    Calls Try.prog 5 #[.slice a n c, .string s] w fun e w' => e = .returned (.bool true) ∧ Below w.heap.size w w' := by
  obtain ⟨kt, Hkt⟩ : ∃ kt, Hid (k.take 60 = kt) := ⟨_, hide rfl⟩
  obtain ⟨st, Hst⟩ : ∃ st, Hid (s.data.toList.take 60 = st) := ⟨_, hide rfl⟩
  have hktl : kt.length ≤ 60 := by rw [← Hkt.out]; exact List.length_take_le _ _
  have hstl : st.length ≤ 60 := by rw [← Hst.out]; exact List.length_take_le _ _
  obtain ⟨P, HP⟩ : ∃ P, Hid (parseL st = P) := ⟨_, hide rfl⟩
  obtain ⟨tx, Htx⟩ : ∃ tx, Hid (textL kt = tx) := ⟨_, hide rfl⟩
  obtain ⟨P2, HP2⟩ : ∃ P2, Hid (parseL tx = P2) := ⟨_, hide rfl⟩
  have hPl : P.1.length ≤ 60 := by rw [← HP.out]; exact Nat.le_trans (parse_len _) hstl
  have htl : tx.length ≤ 60 := by rw [← Htx.out]; exact Nat.le_trans (text_len _) hktl
  have hE : P.2 = 0 ∧ textL P.1 = st ∨ P.2 = 2 := by
    rcases parse_err st with h | h
    · refine .inl ⟨by rw [← HP.out]; exact h, ?_⟩
      rw [← HP.out]; exact text_parse h
    · rw [← HP.out]; exact .inr h
  have hE2 : P2.2 = 0 := by rw [← HP2.out, ← Htx.out]; exact text_parses kt
  have HV2 : Hid (validB kt = true → P2.1 = kt) := fun h => by rw [← HP2.out, ← Htx.out, parse_text h]
  obtain ⟨p, x⟩ := P
  obtain ⟨p2, x2⟩ := P2
  simp only at hPl hE hE2 HV2
  subst hE2
  have n1 : (x != x) = false := by simp
  have b0 : Below w.heap.size w w ∧ w.heap.size ≤ w.heap.size := ⟨Below.refl _ _, Nat.le_refl _⟩
  have HE := hide hE
  clear hE
  go_enter Try.func5, Try.ntmps5
  go_wp2_with fail
  refine (few_at (m := 60) rfl Hkt.out (by omega) hk).mono ?_
  rintro e w1 ⟨a1, c1, rfl, o1, hb⟩
  have b1 := bs0 b0 hb
  have s1 := o1.sl
  clear hb b0 o1
  go_wp2_with fail
  refine (ref_Short s 60 _ rfl _ (by omega)).mono ?_
  rintro e w2 ⟨rfl, rfl⟩
  rw [Hst.out]
  go_wp2_with fail
  refine (Parse_at HP.out (by omega)).mono ?_
  rintro e w2 ⟨a2, c2, rfl, o2, hb⟩
  have b2 := bs0 b1 hb
  have s2 := s1.below hb
  have p2' := o2.sl
  clear hb b1 s1 o2
  go_wp2_with fail
  refine (refParse_at HP.out (by omega)).mono ?_
  rintro e w3 ⟨a3, c3, rfl, o3, hb⟩
  have b3 := bs0 b2 hb
  have s3 := s2.below hb
  have p3 := p2'.below hb
  have q3 := o3.sl
  clear hb b2 s2 o3 p2'
  go_wp2_with fail
  refine (Text_at Htx.out (by omega) s3).mono ?_
  rintro e w4 ⟨rfl, hb⟩
  have b4 := bs0 b3 hb
  have s4 := s3.below hb
  have p4 := p3.below hb
  have q4 := q3.below hb
  clear hb b3 s3 p3 q3
  go_wp2_with fail
  refine (Same_at (l1 := p) (l2 := p) (r := true) (by simp) p4 q4).mono ?_
  rintro e w5 ⟨rfl, hb⟩
  have b5 := bs0 b4 hb
  have s5 := s4.below hb
  have p5 := p4.below hb
  clear hb b4 s4 p4 q4
  go_wp2_with fail
  refine (refText_at Htx.out (by omega) s5).mono ?_
  rintro e w6 ⟨rfl, hb⟩
  have b6 := bs0 b5 hb
  have s6 := s5.below hb
  have p6 := p5.below hb
  clear hb b5 s5 p5
  rcases HE.out with ⟨rfl, ht⟩ | rfl
  · have HT := hide ht
    clear ht HE
    go_wp2_with fail
    refine (Text_at HT.out (by omega) p6).mono ?_
    rintro e w7 ⟨rfl, hb⟩
    have b7 := bs0 b6 hb
    have s7 := s6.below hb
    clear hb b6 s6 p6 HT
    go_wp2_with fail
    refine (Parse_at HP2.out (by omega)).mono ?_
    rintro e w8 ⟨a8, c8, rfl, o8, hb⟩
    have b8 := bs0 b7 hb
    have s8 := s7.below hb
    clear hb b7 s7
    cases hv : validB kt
    · go_wp2_with fail
      refine (refValid_at hv s8).mono ?_
      rintro e w9 ⟨rfl, rfl⟩
      clear hv
      go_wp2_with fail
      refine (law4_lives _).mono ?_
      rintro e w9 ⟨rfl, hb⟩
      have b9 := bs0 b8 hb
      go_wp2_with fail
      go_ret
      exact ⟨rfl, b9.1⟩
    · obtain rfl := HV2.out hv
      go_wp2_with fail
      refine (refValid_at hv s8).mono ?_
      rintro e w9 ⟨rfl, rfl⟩
      clear hv HV2
      go_wp2_with fail
      refine (Same_at (l1 := p2) (l2 := p2) (r := true) (by simp) o8.sl s8).mono ?_
      rintro e w9 ⟨rfl, hb⟩
      have b9 := bs0 b8 hb
      clear hb b8 o8 s8
      go_wp2_with fail
      refine (law4_lives _).mono ?_
      rintro e w10 ⟨rfl, hb⟩
      have b10 := bs0 b9 hb
      go_wp2_with fail
      go_ret
      exact ⟨rfl, b10.1⟩
  · clear HE p6
    go_wp2_with fail
    refine (Parse_at HP2.out (by omega)).mono ?_
    rintro e w8 ⟨a8, c8, rfl, o8, hb⟩
    have b8 := bs0 b6 hb
    have s8 := s6.below hb
    clear hb b6 s6
    cases hv : validB kt
    · go_wp2_with fail
      refine (refValid_at hv s8).mono ?_
      rintro e w9 ⟨rfl, rfl⟩
      clear hv
      go_wp2_with fail
      refine (law4_lives _).mono ?_
      rintro e w9 ⟨rfl, hb⟩
      have b9 := bs0 b8 hb
      go_wp2_with fail
      go_ret
      exact ⟨rfl, b9.1⟩
    · obtain rfl := HV2.out hv
      go_wp2_with fail
      refine (refValid_at hv s8).mono ?_
      rintro e w9 ⟨rfl, rfl⟩
      clear hv HV2
      go_wp2_with fail
      refine (Same_at (l1 := p2) (l2 := p2) (r := true) (by simp) o8.sl s8).mono ?_
      rintro e w9 ⟨rfl, hb⟩
      have b9 := bs0 b8 hb
      clear hb b8 o8 s8
      go_wp2_with fail
      refine (law4_lives _).mono ?_
      rintro e w10 ⟨rfl, hb⟩
      have b10 := bs0 b9 hb
      go_wp2_with fail
      go_ret
      exact ⟨rfl, b10.1⟩
end Go.Proofs.Ythfljnlankmoiaa
end
