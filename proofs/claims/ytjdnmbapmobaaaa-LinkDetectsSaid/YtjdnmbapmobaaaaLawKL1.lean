/- The contracts of the functions that the law reaches, joined into one text. -/
import Derived.Test.YtjdnmbapmobaaaaBaseK21D
import Derived.OpenShut
import Derived.Deep.Slices
import Derived.Deep.Strs
import Derived.SizedLaws
set_option linter.unusedVariables false
set_option linter.unusedSimpArgs false

/- the text Row2 -/
section
/- How the arguments of a law read: slices of integers, of strings, of arrays of integers, with the form's own reach. No program. -/
namespace Go.Dx
open Go.RowKit Go.WideShapes Go.ChangeShapes Go.Deep

/-- no part is longer than the form lets it be -/
def Sized {H : Type} (P : Program) (t : TypeId) (d : DataW H) : Prop := ∀ n ∈ d.weights P t, n ≤ reachBytes
section
variable {H : Type} {enc : TypeId × Value → H} {P : Program} {w : World}
theorem sized_at {ts : List TypeId} {ds : List (DataW H)} (hwt : (DataW.weightsEach P ts ds).all (· ≤ reachBytes) = true) (j : Nat) {t : TypeId} {d : DataW H} (ht : ts[j]? = some t) (hd : ds[j]? = some d) : Sized P t d :=
  fun n hn => by simpa using List.all_eq_true.1 hwt _ (DataW.weights_mem_each ht hd n hn)
theorem sized_all {e : TypeId} : ∀ {l : List (DataW H)} {d : DataW H}, d ∈ l → ∀ n ∈ d.weights P e, n ∈ DataW.weightsAll P e l
  | x :: l, d, hd, n, hn => by
    simp only [DataW.weightsAll, List.mem_append]
    rcases List.mem_cons.1 hd with rfl | h
    · exact .inl hn
    · exact .inr (sized_all h n hn)
theorem Sized.slice {t e : TypeId} {elems spare : List (DataW H)} (h : Sized P t (.slice elems spare)) (hu : P.underlying t = some (.slice e)) :
    (elems.length + spare.length) * P.bytesOf e ≤ reachBytes ∧ (∀ d ∈ elems, Sized P e d) :=
  ⟨h _ (by simp [DataW.weights, hu]), fun d hd n hn => h n (by simp only [DataW.weights, hu, List.mem_cons, List.mem_append]; exact .inr (.inl (sized_all hd n hn)))⟩
theorem Sized.string {t : TypeId} {b : List UInt8} (h : Sized P t (DataW.lit (H := H) (.string b))) : b.length ≤ reachBytes := h _ (by simp [DataW.weights])

theorem add_cells {a : Addr} {n : Nat} : a.add n = a.add n := rfl

theorem trod_ints {t e : TypeId} {k : IntKind} (ht : P.underlying t = some (.slice e)) (he : P.underlying e = some (.int k)) (hc : P.cellsOf e = 1) (hb : 0 < P.bytesOf e) {a : Option Addr} {len cap : Nat} {d : DataW H} {p : List MemPlace}
    (hs : Sized P t d) (h : DataW.Trod enc P w 0 (fun _ => true) true t (.slice a len cap) d p) :
    ∃ zs : List Int, Sl w 1 a len cap (zs.map (Value.int k)) ∧ (∀ n ∈ zs, (Lit.int k n).wf = true) ∧ len ≤ reachBytes := by
  obtain ⟨fuel, hf⟩ := h
  rcases open_ints ht he hc hf with ⟨hcs, _⟩ | ⟨x, l, c, zs, hcs, _, hl, hm, hz, hx, hcell, hwz⟩
  · simp [Value.cells] at hcs
    obtain ⟨rfl, rfl, rfl⟩ := hcs
    exact ⟨[], Sl.empty w 1, by simp, Nat.zero_le _⟩
  · simp [Value.cells] at hcs
    obtain ⟨rfl, rfl, rfl⟩ := hcs
    have hz2 : zs.length = cap := by simpa using hz
    have hd := congrArg Prod.fst hx
    simp only at hd
    subst hd
    refine ⟨zs.take len, ⟨by simp; omega, hl, hm, (fun h => by cases h), ?_⟩, fun n hn => hwz n (List.mem_of_mem_take hn), ?_⟩
    · intro q hq j u hj
      cases hq
      rw [List.getElem?_map, List.getElem?_take] at hj
      by_cases hlt : j < len
      · rw [if_pos hlt] at hj
        have hjz : j < zs.length := by omega
        rw [List.getElem?_eq_getElem hjz] at hj
        simp at hj
        rw [hcell j hjz, ← hj, List.getD_eq_getElem?_getD, List.getElem?_eq_getElem hjz]
        rfl
      · rw [if_neg hlt] at hj; cases hj
    · have hsz := (hs.slice ht).1
      rw [show ∀ (k : IntKind) (l : List Int), (lits (H := H) k l).length = l.length from fun k l => by simp [lits], List.length_take, show min len zs.length = len by omega] at hsz
      exact Nat.le_trans (Nat.le_trans (Nat.le_add_right _ _) (Nat.le_mul_of_pos_right _ hb)) hsz

theorem trod_bytes {t e : TypeId} (ht : P.underlying t = some (.slice e)) (he : P.underlying e = some (.int .u8)) (hc : P.cellsOf e = 1) (hb : 0 < P.bytesOf e) {a : Option Addr} {len cap : Nat} {d : DataW H} {p : List MemPlace}
    (hs : Sized P t d) (h : DataW.Trod enc P w 0 (fun _ => true) true t (.slice a len cap) d p) :
    ∃ l : List UInt8, Sl w 1 a len cap (l.map B8) ∧ len ≤ reachBytes := by
  obtain ⟨zs, h1, h2, h3⟩ := trod_ints ht he hc hb hs h
  refine ⟨zs.map fun n => UInt8.ofNat n.toNat, ?_, h3⟩
  have e : (zs.map fun n => UInt8.ofNat n.toNat).map B8 = zs.map (Value.int .u8) := by
    rw [List.map_map]
    apply List.map_congr_left
    intro n hn
    have hb : 0 ≤ n ∧ n ≤ 255 := bounds_u8 (h2 n hn)
    show Value.int .u8 ((UInt8.ofNat n.toNat).toNat : Int) = _
    rw [UInt8.toNat_ofNat']
    congr 1
    omega
  rw [e]
  exact h1
theorem trod_i64s {t e : TypeId} (ht : P.underlying t = some (.slice e)) (he : P.underlying e = some (.int .i64)) (hc : P.cellsOf e = 1) (hb : 0 < P.bytesOf e) {a : Option Addr} {len cap : Nat} {d : DataW H} {p : List MemPlace}
    (hs : Sized P t d) (h : DataW.Trod enc P w 0 (fun _ => true) true t (.slice a len cap) d p) :
    ∃ l : List Int, Sl w 1 a len cap (l.map I64) ∧ (∀ n ∈ l, -9223372036854775808 ≤ n ∧ n ≤ 9223372036854775807) ∧ len ≤ reachBytes := by
  obtain ⟨zs, h1, h2, h3⟩ := trod_ints ht he hc hb hs h
  exact ⟨zs, h1, fun n hn => bounds_i64 (h2 n hn), h3⟩

theorem trod_strs {t e : TypeId} (ht : P.underlying t = some (.slice e)) (he : P.underlying e = some .string) (hc : P.cellsOf e = 1) (hb : 0 < P.bytesOf e) {a : Option Addr} {len cap : Nat} {d : DataW H} {p : List MemPlace}
    (hs : Sized P t d) (h : DataW.Trod enc P w 0 (fun _ => true) true t (.slice a len cap) d p) :
    ∃ l : List ByteArray, Sl w 1 a len cap (l.map Value.string) ∧ (∀ s ∈ l, s.size ≤ reachBytes) ∧ len ≤ reachBytes ∧ (l = [] ∨ ∃ sp, d = .slice (l.map fun s => .lit (.string s.data.toList)) sp) := by
  obtain ⟨fuel, hf⟩ := h
  rcases open_strs ht he hc hf with ⟨hcs, _⟩ | ⟨x, l, c, m, Sx, hcs, _, hl, hm, hmm, hx, hcell⟩
  · simp [Value.cells] at hcs
    obtain ⟨rfl, rfl, rfl⟩ := hcs
    exact ⟨[], Sl.empty w 1, by simp, Nat.zero_le _, .inl rfl⟩
  · simp [Value.cells] at hcs
    obtain ⟨rfl, rfl, rfl⟩ := hcs
    simp only [if_true] at hmm
    subst hmm
    have hd := congrArg Prod.fst hx
    simp only at hd
    subst hd
    obtain ⟨z1, z2⟩ := hs.slice ht
    refine ⟨(List.range len).map Sx, ⟨by simp, hl, hm, (fun h => by cases h), ?_⟩, ?_, ?_, .inr ⟨_, by rw [List.map_map]; rfl⟩⟩
    · intro q hq j u hj
      cases hq
      have hlt : j < len := by have := (List.getElem?_eq_some_iff.1 hj).1; simpa using this
      rw [(hcell j (by omega)).1]
      simp [hlt] at hj
      rw [hj]
    · intro s hs
      obtain ⟨i, hi, rfl⟩ := List.mem_map.1 hs
      have := Sized.string (z2 _ (List.mem_map.2 ⟨i, hi, rfl⟩))
      rwa [show (Sx i).data.toList.length = (Sx i).size from Array.length_toList] at this
    · simp only [List.length_map, List.length_range] at z1
      exact Nat.le_trans (Nat.le_trans (Nat.le_add_right _ _) (Nat.le_mul_of_pos_right _ hb)) z1

theorem trod_arr {t e n : Nat} {k : IntKind} {base : Nat} {spare : Nat → Bool} {held : Bool} {fuel : Nat} {cs : List Value} {x : DataW H × List MemPlace} (ht : P.underlying t = some (.array n e)) (he : P.underlying e = some (.int k)) (hc : P.cellsOf e = 1) (hct : P.cellsOf t = n)
    (h : DataW.trod enc P w base spare held fuel t cs = some x) : cs.length = n ∧ ∀ i, i < n → ∃ z, cs[i]? = some (.int k z) ∧ (Lit.int k z).wf = true := by
  obtain ⟨xs, m, _, _, hl, hxl, hi⟩ := DataW.trod_array ht h
  rw [hct] at hl
  refine ⟨hl, fun i hin => ?_⟩
  have h1 := hi i hin
  rw [hc, Nat.mul_one, List.getElem?_eq_getElem (by omega)] at h1
  obtain ⟨z, hz, _, hw⟩ := DataW.trod_int he h1
  refine ⟨z, ?_, hw⟩
  have := congrArg (·[0]?) hz
  simpa [List.getElem?_take, List.getElem?_drop] using this

theorem trod_arrs {t e q n : Nat} {k : IntKind} (ht : P.underlying t = some (.slice e)) (he : P.underlying e = some (.array n q)) (hq : P.underlying q = some (.int k)) (hc : P.cellsOf q = 1) (hce : P.cellsOf e = n) (hb : 0 < P.bytesOf e) (hn0 : 0 < n)
    {a : Option Addr} {len cap : Nat} {d : DataW H} {p : List MemPlace} (hs : Sized P t d) (h : DataW.Trod enc P w 0 (fun _ => true) true t (.slice a len cap) d p) :
    ∃ zs : List Int, Sl w n a len cap (zs.map (Value.int k)) ∧ (∀ n ∈ zs, (Lit.int k n).wf = true) ∧ len ≤ reachBytes := by
  obtain ⟨fuel, hf⟩ := h
  rcases open_slice ht hf with ⟨hcs, _⟩ | ⟨x, l, c, m, g, D, Pl, hcs, _, hl, hm, hmm, hx, hel⟩
  · simp [Value.cells] at hcs
    obtain ⟨rfl, rfl, rfl⟩ := hcs
    exact ⟨[], Sl.empty w n, by simp, Nat.zero_le _⟩
  · simp [Value.cells] at hcs
    obtain ⟨rfl, rfl, rfl⟩ := hcs
    simp only [if_true] at hmm
    subst hmm
    have hd := congrArg Prod.fst hx
    simp only at hd
    subst hd
    obtain ⟨z1, z2⟩ := hs.slice ht
    have each : ∀ j, j < len * n → ∃ z, w.cell? (x.add j) = some (.int k z) ∧ (Lit.int k z).wf = true := by
      intro j hj
      have hi : j / n < len := (Nat.div_lt_iff_lt_mul hn0).2 hj
      obtain ⟨cs', h1, h2⟩ := hel (j / n) (by omega)
      rw [hce] at h1
      obtain ⟨_, hcl, hat⟩ := World.cells?_some h1
      have hr : j % n < n := Nat.mod_lt _ hn0
      obtain ⟨z, hz, hwz⟩ := (trod_arr he hq hc hce h2).2 (j % n) hr
      refine ⟨z, ?_, hwz⟩
      have := hat (j % n) hr
      rw [sl_add, Nat.div_add_mod'] at this
      rw [this, hz]
    obtain ⟨Z, hZ⟩ := choose_lt each
    refine ⟨(List.range (len * n)).map Z, ⟨by simp, hl, hm, (fun h => by cases h), ?_⟩, ?_, ?_⟩
    · intro q hq j u hj
      cases hq
      have hlt : j < len * n := by have := (List.getElem?_eq_some_iff.1 hj).1; simpa using this
      rw [(hZ j hlt).1]
      simp [hlt] at hj
      rw [hj]
    · intro z hz
      obtain ⟨i, hi, rfl⟩ := List.mem_map.1 hz
      exact (hZ i (List.mem_range.1 hi)).2
    · simp only [List.length_map, List.length_range] at z1
      exact Nat.le_trans (Nat.le_trans (Nat.le_add_right _ _) (Nat.le_mul_of_pos_right _ hb)) z1
theorem bytes_of_wf {zs : List Int} (h : ∀ n ∈ zs, (Lit.int .u8 n).wf = true) : ∃ l : List UInt8, l.map B8 = zs.map (Value.int .u8) := by
  refine ⟨zs.map fun n => UInt8.ofNat n.toNat, ?_⟩
  rw [List.map_map]
  apply List.map_congr_left
  intro n hn
  have hb : 0 ≤ n ∧ n ≤ 255 := bounds_u8 (h n hn)
  show Value.int .u8 ((UInt8.ofNat n.toNat).toNat : Int) = _
  rw [UInt8.toNat_ofNat']
  congr 1
  omega
end
end Go.Dx
end

/- the text KL1 -/
section
/- Chapter 37: the walk of LinkDetects. -/
set_option linter.unusedVariables false
namespace Go.Proofs.Ytjdnmbapmobaaaa
open Go.RowKit Go.Dx Go.Al
set_option maxRecDepth 100000 in
set_option maxHeartbeats 2000000 in
theorem walk_Detects0 (key : UInt64) (l : List UInt8) (at_ : Int) (y : UInt8) (a : Option Addr) (n c : Nat) (w : World) (hs : Sl w 1 a n c (l.map B8)) (hat1 : -9223372036854775808 ≤ at_) (hat2 : at_ ≤ 9223372036854775807) :
    Calls Try.prog 7 #[V64 key, .slice a n c, .int .i64 at_, .int .u8 (y.toNat : Int)] w fun r w' => r = .returned (.bool true) ∧ Below w.heap.size w w' := by
  have hs0 := hide hs
  obtain ⟨d, r, hd0, hr0, hr1, hr2, hr3⟩ := bent_by y
  have hd0 := hide hd0
  have hatl := hide hat1
  have hatu := hide hat2
  obtain ⟨M, hM⟩ : ∃ M, Hid (l.take 200 = M) := ⟨_, hide rfl⟩
  obtain ⟨M20, hM20⟩ : ∃ M, Hid (l.take 20 = M) := ⟨_, hide rfl⟩
  have hMl : M.length ≤ 200 := by rw [← hM.out, List.length_take]; omega
  have hM20l : Hid (M20.length ≤ 20) := hide (by rw [← hM20.out, List.length_take]; omega)
  have HF200 : ∀ w, Sl w 1 a n c (l.map B8) → Calls Try.prog 16 #[.slice a n c, .int .i64 200] w (Gives 5 1 M.length (M.map B8) w) := fun w h => by
    have h1 := ref_Few l 200 a n c w h (by decide)
    rw [hM.out] at h1
    exact h1
  have HF20 : Hid (∀ w, Sl w 1 a n c (l.map B8) → Calls Try.prog 16 #[.slice a n c, .int .i64 20] w (Gives 5 1 M20.length (M20.map B8) w)) := hide (fun w h => by
    have h1 := ref_Few l 20 a n c w h (by decide)
    rw [hM20.out] at h1
    exact h1)
  obtain ⟨X, hX⟩ : ∃ X, Hid (sealL key M = X) := ⟨_, hide rfl⟩
  have hXl : X.length = M.length + 8 := by rw [← hX.out, sealL_len]
  obtain ⟨k, hk⟩ : ∃ k, Hid (aroundF at_ X.length = k) := ⟨_, hide rfl⟩
  have hkl : k < X.length := by rw [← hk.out]; exact aroundF_lt (by omega)
  obtain ⟨u, hu⟩ : ∃ u, Hid (X[k]? = some u) := ⟨X[k], hide (by simp)⟩
  obtain ⟨X', hX'⟩ : ∃ X', Hid (X.set k (u ^^^ d) = X') := ⟨_, hide rfl⟩
  have hX'l : Hid (X'.length = X.length) := hide (by rw [← hX'.out, List.length_set])
  have hOpen : Hid (openZ key X' = ([], 9)) := hide (by
    rw [← hX'.out, ← hX.out]
    exact open_bent key M k (u ^^^ d) u (by rw [hX.out]; exact hu.out) (xor_ne hd0.out))
  obtain ⟨P, hP⟩ : ∃ P, Hid (pkB ⟨1, 0, M20⟩ = P) := ⟨_, hide rfl⟩
  have hPl : Hid (P.length ≤ 1000) := hide (by rw [← hP.out]; exact pkB_le _ _ _ (by have := hM20l.out; omega))
  obtain ⟨Z, hZ⟩ : ∃ Z, Hid (sealL key P = Z) := ⟨_, hide rfl⟩
  have hZl : Z.length = P.length + 8 := by rw [← hZ.out, sealL_len]
  have hPl2 : P.length ≤ 100 := by
    rw [← hP.out]
    unfold pkB
    have h1 := encInts_le [1, 0]
    have h3 := encInt_le ((M20.length : Nat) : Int)
    have h4 := hM20l.out
    unfold encBytes
    simp only [List.length_append, List.length_cons, List.length_nil] at *
    omega
  obtain ⟨j, hj⟩ : ∃ j, Hid (aroundF at_ Z.length = j) := ⟨_, hide rfl⟩
  have hjl : j < Z.length := by rw [← hj.out]; exact aroundF_lt (by omega)
  obtain ⟨v, hv0⟩ : ∃ v, Hid (Z[j]? = some v) := ⟨Z[j], hide (by simp)⟩
  obtain ⟨Z', hZ'⟩ : ∃ Z', Hid (Z.set j (v ^^^ d) = Z') := ⟨_, hide rfl⟩
  have hZ'l : Hid (Z'.length = Z.length) := hide (by rw [← hZ'.out, List.length_set])
  have hOpen2 : Hid (openZ key Z' = ([], 9)) := hide (by
    rw [← hZ'.out, ← hZ.out]
    exact open_bent key P j (v ^^^ d) v (by rw [hZ.out]; exact hv0.out) (xor_ne hd0.out))
  obtain ⟨E1, hE1⟩ : ∃ E1, Hid (E1 = (⟨3, key, [], 0, 0, [], false, 1⟩ : En)) := ⟨_, hide rfl⟩
  obtain ⟨E3, hE3⟩ : ∃ E3, Hid (E3 = (⟨3, key, [], 0, 1, [], true, 1⟩ : En)) := ⟨_, hide rfl⟩
  have hIn1 : Hid (inE (newE 3 key) Z' = (E1, [], 9)) := hide (by rw [hE1.out]; exact det_in1 key Z' hOpen2.out)
  have hOut1 : Hid (outE E1 = []) := hide (by rw [hE1.out]; rfl)
  have hOutS1 : Hid (outS E1 = E1) := hide (by rw [hE1.out]; rfl)
  have hIn2 : Hid (inE E1 Z = (E3, [M20], 0)) := hide (by rw [hE1.out, hE3.out, ← hZ.out, ← hP.out]; exact first_in 3 key 1 M20 (by have := hM20l.out; omega))
  have hE3f : Hid (E3.forged = 1) := hide (by rw [hE3.out])
  have hE1w : Hid (E1.wait = [] ∧ E1.acked = 0 ∧ E1.del = 0 ∧ E1.forged = 1 ∧ E1.held = [] ∧ E1.win = 3) := hide (by rw [hE1.out]; exact ⟨rfl, rfl, rfl, rfl, rfl, rfl⟩)
  have hx1 := xor_u8 u d
  have hx2 := xor_u8 v d
  have HN : Hid (∀ w, Calls Try.prog 28 #[.int .i64 3, V64 key] w fun e w' => ∃ p m, e = .returned (.tuple #[.pointer (some ⟨p, 0, none⟩), .int .i64 0]) ∧ EndAt w' p none m (newE 3 key) ∧ (∀ b ∈ foot p none m, w.heap.size ≤ b) ∧ Below w.heap.size w w') := hide (fun w => lk_New 3 key w (by decide) (by decide))
  have hXL : X.length ≤ 300 ∧ 8 ≤ X.length := by omega
  have hZL : Z.length ≤ 300 ∧ 8 ≤ Z.length := by omega
  obtain ⟨hXL1, hXL2⟩ := hXL
  obtain ⟨hZL1, hZL2⟩ := hZL
  clear hs hat1 hat2 hM hM20 hXl hZl
  go_enter Try.func7, Try.ntmps7
  go_upto_region 2 with (first
    | (go_at_call 16; refine (HF200 w hs0.out).mono ?_; rintro e1 w1 ⟨a1, c1, rfl, o1, b1⟩)
    | (go_at_call 24; refine (lk_Seal key M a1 M.length c1 w1 o1.sl (by omega) hX.out).mono ?_; rintro e2 w2 ⟨a2, c2, rfl, o2, b2⟩; have b12 := b1.trans (b2.mono b1.size); have b12w := hide b1.size; clear o1 b1 b2))
  obtain ⟨g2, rfl⟩ := own_zero o2 (by omega)
  have O2 := hide o2
  have d8 : decide ((X.length : Int) < 8) = false := decide_eq_false (by omega)
  have hAr : Calls Try.prog 10 #[.int .i64 at_, .int .i64 (X.length : Int)] w2 fun e w' => e = .returned (.int .i64 (k : Int)) ∧ w2 = w' := by
    have h1 := ref_Around at_ (X.length : Int) X.length w2 rfl hatl.out hatu.out (by omega) (by omega)
    rw [hk.out] at h1
    exact h1
  clear o2 HF200
  go_upto_region 5 with (go_at_call 10; refine hAr.mono ?_; rintro e3 w3 ⟨rfl, rfl⟩)
  have fX := own_free O2.out k
  have cX := own_cell O2.out (box_at hu.out)
  clear hAr d8
  go_upto_region 6 with fail
  have O3 : Hid (Own (w2.setCell ⟨g2, k, none⟩ (B8 (u ^^^ d))) w1.heap.size 5 1 (some ⟨g2, 0, none⟩) X.length c2 (X'.map B8)) := hide (by
    have h1 := own_set O2.out k (B8 (u ^^^ d))
    rw [← List.map_set, hX'.out] at h1
    exact h1)
  have bw3 : Hid (Below w.heap.size w (w2.setCell ⟨g2, k, none⟩ (B8 (u ^^^ d)))) := hide (b12.grown grown_set b12.size (fun b hb => by cases hb; exact Nat.le_trans b12w.out O2.out.base.1))
  rw [show Value.int .u8 ((u.toNat ^^^ d.toNat : Nat) : Int) = B8 (u ^^^ d) by rw [← UInt8.toNat_xor]]
  clear fX cX O2 b12 b12w
  generalize w2.setCell ⟨g2, k, none⟩ (B8 (u ^^^ d)) = w3 at *
  have hX'300 : X'.length ≤ 1000 := by have := hX'l.out; omega
  go_upto_region 10 with (first
    | (go_at_call 25; refine (lk_Open key X' (some ⟨g2, 0, none⟩) X.length c2 w3 O3.out.sl hX'300 hOpen.out).mono ?_; rintro e4 w4 ⟨a4, c4, rfl, o4, b4⟩; clear o4; have bw4 := hide (bw3.out.trans (b4.mono bw3.out.size)); clear b4)
    | (go_at_call 28; refine (HN.out w4).mono ?_; rintro e5 w5 ⟨pa, ma, rfl, A5, f5, b5⟩; have D5 := hide A5; have F5 := hide f5; have bw5 := hide (bw4.out.trans (b5.mono bw4.out.size)); have hz5 := hide (Nat.le_trans bw4.out.size (Nat.le_refl _)); clear A5 f5 b5))
  have hSl0 := hs0.out.below bw5.out
  have hBy : Hid (∀ a n c w, Sl w 1 a n c (M20.map B8) → Calls Try.prog 18 #[.agg #[.int .i64 1, .int .i64 0, .slice a n c]] w (Gives 5 1 P.length (P.map B8) w)) := hide (fun a n c w h => ref_PBytes ⟨1, 0, M20⟩ ⟨by show _ ≤ (1 : Int); decide, by show (1 : Int) ≤ _; decide⟩ ⟨by show _ ≤ (0 : Int); decide, by show (0 : Int) ≤ _; decide⟩ (by have := hM20l.out; show M20.length ≤ 900; omega) a n c w h hP.out)
  go_upto_region 11 with (first
    | (go_at_call 16; refine (HF20.out w5 hSl0).mono ?_; rintro e6 w6 ⟨a6, c6, rfl, o6, b6⟩; have s6 := o6.sl; have b56 := hide b6; clear o6 b6 hSl0)
    | (go_at_call 18; refine (hBy.out _ _ _ _ s6).mono ?_; rintro e7 w7 ⟨a7, c7, rfl, o7, b7⟩; have s7 := o7.sl; have b57 := hide (b56.out.trans (b7.mono b56.out.size)); clear o7 b7 s6 b56)
    | (go_at_call 17; refine (ref_Seal key P a7 P.length c7 w7 s7 (by omega) hZ.out).mono ?_; rintro e8 w8 ⟨a8, c8, rfl, o8, b8⟩; have O8 := hide o8; have b58 := hide (b57.out.trans (b8.mono b57.out.size)); clear o8 b8 s7 b57))
  have HFZ : Calls Try.prog 16 #[.slice a8 Z.length c8, .int .i64 (Z.length : Int)] w8 (Gives 5 1 Z.length (Z.map B8) w8) := by
    have h1 := ref_Few Z Z.length a8 Z.length c8 w8 O8.out.sl (by omega)
    rw [List.take_of_length_le (Nat.le_refl _)] at h1
    exact h1
  go_upto_region 12 with (go_at_call 16; refine HFZ.mono ?_; rintro e9 w9 ⟨a9, c9, rfl, o9, b9⟩; have O9 := hide o9; have b89 := hide b9; clear o9 b9)
  clear HFZ
  obtain ⟨g9, rfl⟩ := own_zero O9.out (by omega)
  have hAr : Calls Try.prog 10 #[.int .i64 at_, .int .i64 (Z.length : Int)] w9 fun e w' => e = .returned (.int .i64 (j : Int)) ∧ w9 = w' := by
    have h1 := ref_Around at_ (Z.length : Int) Z.length w9 rfl hatl.out hatu.out (by omega) (by omega)
    rw [hj.out] at h1
    exact h1
  go_upto_region 13 with (go_at_call 10; refine hAr.mono ?_; rintro e3 w10 ⟨rfl, rfl⟩)
  have fX := own_free O9.out j
  have cX := own_cell O9.out (box_at hv0.out)
  clear hAr
  go_upto_region 14 with fail
  have O10 : Hid (Own (w9.setCell ⟨g9, j, none⟩ (B8 (v ^^^ d))) w8.heap.size 5 1 (some ⟨g9, 0, none⟩) Z.length c9 (Z'.map B8)) := hide (by
    have h1 := own_set O9.out j (B8 (v ^^^ d))
    rw [← List.map_set, hZ'.out] at h1
    exact h1)
  have b810 : Hid (Below w8.heap.size w8 (w9.setCell ⟨g9, j, none⟩ (B8 (v ^^^ d)))) := hide (b89.out.grown grown_set b89.out.size (fun b hb => by cases hb; exact O9.out.base.1))
  rw [show Value.int .u8 ((v.toNat ^^^ d.toNat : Nat) : Int) = B8 (v ^^^ d) by rw [← UInt8.toNat_xor]]
  clear fX cX O9 b89
  generalize w9.setCell ⟨g9, j, none⟩ (B8 (v ^^^ d)) = w10 at *
  have b510 := b58.out.trans (b810.out.mono b58.out.size)
  have D10 := hide (D5.out.below b510)
  have F10 : Hid (Fr [] w w10) := hide (Fr.of (bw5.out.trans (b510.mono bw5.out.size)))
  have S10 := hide (O8.out.sl.below b810.out)
  have K10 := hide ((own_kindB O8.out).below b810.out)
  have G10 : Hid (∀ b ∈ foot pa none ma, w.heap.size ≤ b) := hide (fun b hb => Nat.le_trans bw4.out.size (F5.out b hb))
  clear b510 b810 b58 D5 F5 bw5 O8 bw4 bw3 O3 hz5
  have hZ'300 : Z'.length ≤ 1000 := by have := hZ'l.out; omega
  have hI := lk_In pa none ma (newE 3 key) Z' (some ⟨g9, 0, none⟩) Z.length c9 w10 D10.out O10.out.sl hZ'300 (Nat.zero_le _) (Nat.zero_le _) (Nat.zero_le _) (Nat.zero_le _) (Nat.zero_le _)
  unfold GivesIn at hI
  rw [hIn1.out] at hI
  go_upto_region 15 with (go_at_call 19; refine hI.mono ?_; rintro e11 w11 ⟨aY, cY, hY, rfl, oY, rY, A', F'⟩)
  clear hI
  have D11 := hide A'
  have F11 := hide (F10.out.on F' (fun b hb => .inr (G10.out b hb)))
  have R11 := hide ((Rows.one (x := (a8, Z.length, c8)) S10.out K10.out).fr F' D10.out.nob)
  clear A' F' D10 F10 S10 K10 oY rY O10
  obtain ⟨hw1, hw2, hw3, hw4, hw5, hw6⟩ := hE1w.out
  have hO := lk_Out pa none ma E1 w11 D11.out (by rw [hw1]; exact Nat.zero_le _) (by rw [hw1]; intro r hr; cases hr) (by rw [hw3]; exact Nat.zero_le _) (by rw [hw2]; exact Nat.zero_le _) (by rw [hw6]; decide)
  rw [hOut1.out, hOutS1.out] at hO
  have hI2 : Hid (∀ w a c, EndAt w pa none ma E1 → Sl w 1 a Z.length c (Z.map B8) → Calls Try.prog 19 #[.pointer (some ⟨pa, 0, none⟩), .slice a Z.length c] w (GivesIn pa none ma E1 Z w)) := hide (fun w a c h1 h2 => lk_In pa none ma E1 Z a Z.length c w h1 h2 (by omega) (by rw [hw1]; exact Nat.zero_le _) (by rw [hw2]; exact Nat.zero_le _) (by rw [hw3]; exact Nat.zero_le _) (by rw [hw4]; decide) (by rw [hw5]; exact Nat.zero_le _))
  clear hw1 hw2 hw3 hw4 hw5 hw6
  go_upto_region 16 with (go_at_call 13; refine hO.mono ?_; rintro e12 w12 ⟨aO, cO, hOO, rfl, oO, rO, A', F'⟩)
  clear hO
  have F'' : Fr (foot pa none ma) w11 w12 := F'.more (foot_p _ _ _)
  have D12 := hide A'
  have F12 := hide (F11.out.on F'' (fun b hb => .inr (G10.out b hb)))
  have R12 := hide (R11.out.fr F'' D11.out.nob)
  clear A' F' F'' D11 F11 R11 oO rO
  have hI := hI2.out w12 a8 c8 D12.out (R12.out.2 0 _ _ rfl rfl).1
  unfold GivesIn at hI
  rw [hIn2.out] at hI
  go_upto_region 17 with (go_at_call 19; refine hI.mono ?_; rintro e13 w13 ⟨a13, cZ, h13, rfl, o13, r13, A', F'⟩)
  clear hI hI2 R12
  have DE := hide A'
  have F13 := hide (F12.out.on F' (fun b hb => .inr (G10.out b hb)))
  have T13 : Hid (Tops w13 [] a13 1 cZ h13 [M20]) := hide (Tops.new o13 r13 (by simp))
  clear A' F' D12 F12 o13 r13
  obtain ⟨gZ, xZ, yZ, zZ, rfl, qZ, sZ, kZ, -⟩ := T13.out.get (i := 0) rfl
  have sZ := hide sZ
  have hqZ := hide qZ
  clear qZ
  have qZ := hqZ
  clear hqZ
  have bw := hide F13.out.nil
  clear kZ T13
  refine wp_region_free 35 [⟨0, 110, [110], fun vs _ => vs = [.int .i64 9]⟩, ⟨1, 111, [111], fun vs _ => vs = [.bool true]⟩, ⟨2, 112, [112], fun vs _ => vs = [.bool true]⟩, ⟨3, 113, [113], fun vs _ => vs = [.slice aY 0 cY]⟩, ⟨4, 114, [114], fun vs _ => vs = [.int .i64 0]⟩, ⟨5, 115, [115], fun vs _ => vs = [.slice aO 0 cO]⟩, ⟨6, 116, [116], fun vs _ => vs = [.int .i64 0]⟩, ⟨7, 117, [117], fun vs _ => vs = [.int .i64 0]⟩, ⟨8, 118, [118], fun vs _ => vs = [.bool true]⟩, ⟨9, 119, [119], fun vs _ => vs = [.bool true]⟩, ⟨10, 120, [120], fun vs _ => vs = [.bool true]⟩, ⟨11, 121, [121], fun vs _ => vs = [.pointer (some ⟨pa, 0, none⟩)]⟩, ⟨12, 122, [122], fun vs _ => vs = [.int .i64 1]⟩, ⟨13, 123, [123], fun vs _ => vs = [.bool true]⟩, ⟨14, 124, [124], fun vs _ => vs = [.bool true]⟩, ⟨15, 125, [125], fun vs _ => vs = [.bool true]⟩, ⟨16, 126, [126], fun vs _ => vs = [.int .i64 0]⟩, ⟨17, 127, [127], fun vs _ => vs = [.bool true]⟩, ⟨18, 128, [128], fun vs _ => vs = [.bool true]⟩, ⟨19, 129, [129], fun vs _ => vs = [.bool true]⟩, ⟨20, 130, [130], fun vs _ => vs = [.slice (some ⟨gZ, 0, none⟩) 1 cZ]⟩, ⟨21, 131, [131], fun vs _ => vs = [.int .i64 1]⟩, ⟨22, 132, [132], fun vs _ => vs = [.bool true]⟩, ⟨23, 133, [133], fun vs _ => vs = [.bool true]⟩, ⟨24, 134, [134], fun vs _ => vs = [.bool true]⟩, ⟨25, 135, [135], fun vs _ => vs = [.slice (some ⟨gZ, 0, none⟩) 1 cZ]⟩, ⟨26, 136, [136], fun vs _ => vs = [.pointer (some ⟨gZ, 0, none⟩)]⟩, ⟨27, 137, [137], fun vs _ => vs = [.slice xZ yZ zZ]⟩, ⟨28, 138, [138], fun vs _ => vs = [.slice a n c]⟩, ⟨29, 139, [139], fun vs w' => ∃ a c, vs = [.slice a M20.length c] ∧ Sl w' 1 a M20.length c (M20.map B8)⟩, ⟨30, 140, [140], fun vs _ => vs = [.bool true]⟩, ⟨31, 141, [141], fun vs _ => vs = [.bool true]⟩, ⟨32, 142, [142], fun vs _ => vs = [.bool true]⟩, ⟨33, 143, [143], fun vs _ => vs = [.bool true]⟩, ⟨34, 144, [144], fun vs _ => vs = [.bool true]⟩] (by kernel_rfl) (by kernel_rfl) ?_ ?_ ?_
  · simp only [All]
    refine ⟨fun _ _ _ _ h => h, fun _ _ _ _ h => h, fun _ _ _ _ h => h, fun _ _ _ _ h => h, fun _ _ _ _ h => h, fun _ _ _ _ h => h, fun _ _ _ _ h => h, fun _ _ _ _ h => h, fun _ _ _ _ h => h, fun _ _ _ _ h => h, fun _ _ _ _ h => h, fun _ _ _ _ h => h, fun _ _ _ _ h => h, fun _ _ _ _ h => h, fun _ _ _ _ h => h, fun _ _ _ _ h => h, fun _ _ _ _ h => h, fun _ _ _ _ h => h, fun _ _ _ _ h => h, fun _ _ _ _ h => h, fun _ _ _ _ h => h, fun _ _ _ _ h => h, fun _ _ _ _ h => h, fun _ _ _ _ h => h, fun _ _ _ _ h => h, fun _ _ _ _ h => h, fun _ _ _ _ h => h, fun _ _ _ _ h => h, fun _ _ _ _ h => h, ?_, fun _ _ _ _ h => h, fun _ _ _ _ h => h, fun _ _ _ _ h => h, fun _ _ _ _ h => h, fun _ _ _ _ h => h, trivial⟩
    · rintro vs w w' hb ⟨a, c, h1, h2⟩
      exact ⟨a, c, h1, h2.below hb⟩
  · simp only [All]
    refine ⟨?_, ?_, ?_, ?_, ?_, ?_, ?_, ?_, ?_, ?_, ?_, ?_, ?_, ?_, ?_, ?_, ?_, ?_, ?_, ?_, ?_, ?_, ?_, ?_, ?_, ?_, ?_, ?_, ?_, ?_, ?_, ?_, ?_, ?_, ?_, trivial⟩
    · intro o ho a' w' hb hfr hdep
      obtain rfl := Option.some.inj ho
      have g19 : a'.tmps[19]?.getD undef = .int .i64 9 := by have h := hfr 19 (by kernel_rfl); simpa using h
      clear ho hfr hdep
      go_wp2_with fail
      exact ⟨rfl, _, rfl, Below.refl _ _, rfl⟩
    · intro o ho a' w' hb hfr hdep
      obtain rfl := Option.some.inj ho
      have g110 : a'.tmps[110]?.getD undef = .int .i64 9 := by have h := hdep 0 _ rfl (by kernel_rfl); simpa using h
      clear ho hfr hdep
      go_wp2_with fail
      exact ⟨rfl, _, rfl, Below.refl _ _, rfl⟩
    · intro o ho a' w' hb hfr hdep
      obtain rfl := Option.some.inj ho
      have g111 : a'.tmps[111]?.getD undef = .bool true := by have h := hdep 1 _ rfl (by kernel_rfl); simpa using h
      clear ho hfr hdep
      go_wp2_with fail
      exact ⟨rfl, _, rfl, Below.refl _ _, rfl⟩
    · intro o ho a' w' hb hfr hdep
      obtain rfl := Option.some.inj ho
      have g18 : a'.tmps[18]?.getD undef = .slice aY 0 cY := by have h := hfr 18 (by kernel_rfl); simpa using h
      have g112 : a'.tmps[112]?.getD undef = .bool true := by have h := hdep 2 _ rfl (by kernel_rfl); simpa using h
      have q112 := opt_bool g112
      clear ho hfr hdep
      refine unguard_any (by simp [Region.wanted, yielded, q112]) ?_
      go_wp2_with fail
      exact ⟨rfl, _, rfl, Below.refl _ _, rfl⟩
    · intro o ho a' w' hb hfr hdep
      obtain rfl := Option.some.inj ho
      have g113 : a'.tmps[113]?.getD undef = .slice aY 0 cY := by have h := hdep 3 _ rfl (by kernel_rfl); simpa using h
      have g112 : a'.tmps[112]?.getD undef = .bool true := by have h := hdep 2 _ rfl (by kernel_rfl); simpa using h
      have q112 := opt_bool g112
      clear ho hfr hdep
      refine unguard_any (by simp [Region.wanted, yielded, q112]) ?_
      go_wp2_with fail
      exact ⟨rfl, _, rfl, Below.refl _ _, rfl⟩
    · intro o ho a' w' hb hfr hdep
      obtain rfl := Option.some.inj ho
      have g20 : a'.tmps[20]?.getD undef = .slice aO 0 cO := by have h := hfr 20 (by kernel_rfl); simpa using h
      have g112 : a'.tmps[112]?.getD undef = .bool true := by have h := hdep 2 _ rfl (by kernel_rfl); simpa using h
      have q112 := opt_bool g112
      clear ho hfr hdep
      refine unguard_any (by simp [Region.wanted, yielded, q112]) ?_
      go_wp2_with fail
      exact ⟨rfl, _, rfl, Below.refl _ _, rfl⟩
    · intro o ho a' w' hb hfr hdep
      obtain rfl := Option.some.inj ho
      have g115 : a'.tmps[115]?.getD undef = .slice aO 0 cO := by have h := hdep 5 _ rfl (by kernel_rfl); simpa using h
      have g112 : a'.tmps[112]?.getD undef = .bool true := by have h := hdep 2 _ rfl (by kernel_rfl); simpa using h
      have q112 := opt_bool g112
      clear ho hfr hdep
      refine unguard_any (by simp [Region.wanted, yielded, q112]) ?_
      go_wp2_with fail
      exact ⟨rfl, _, rfl, Below.refl _ _, rfl⟩
    · intro o ho a' w' hb hfr hdep
      obtain rfl := Option.some.inj ho
      have g114 : a'.tmps[114]?.getD undef = .int .i64 0 := by have h := hdep 4 _ rfl (by kernel_rfl); simpa using h
      have g116 : a'.tmps[116]?.getD undef = .int .i64 0 := by have h := hdep 6 _ rfl (by kernel_rfl); simpa using h
      have g112 : a'.tmps[112]?.getD undef = .bool true := by have h := hdep 2 _ rfl (by kernel_rfl); simpa using h
      have q112 := opt_bool g112
      clear ho hfr hdep
      refine unguard_any (by simp [Region.wanted, yielded, q112]) ?_
      go_wp2_with fail
      exact ⟨rfl, _, rfl, Below.refl _ _, rfl⟩
    · intro o ho a' w' hb hfr hdep
      obtain rfl := Option.some.inj ho
      have g117 : a'.tmps[117]?.getD undef = .int .i64 0 := by have h := hdep 7 _ rfl (by kernel_rfl); simpa using h
      have g112 : a'.tmps[112]?.getD undef = .bool true := by have h := hdep 2 _ rfl (by kernel_rfl); simpa using h
      have q112 := opt_bool g112
      clear ho hfr hdep
      refine unguard_any (by simp [Region.wanted, yielded, q112]) ?_
      go_wp2_with fail
      exact ⟨rfl, _, rfl, Below.refl _ _, rfl⟩
    · intro o ho a' w' hb hfr hdep
      obtain rfl := Option.some.inj ho
      have g112 : a'.tmps[112]?.getD undef = .bool true := by have h := hdep 2 _ rfl (by kernel_rfl); simpa using h
      have g118 : a'.tmps[118]?.getD undef = .bool true := by have h := hdep 8 _ rfl (by kernel_rfl); simpa using h
      clear ho hfr hdep
      go_wp2_with fail
      exact ⟨rfl, _, rfl, Below.refl _ _, rfl⟩
    · intro o ho a' w' hb hfr hdep
      obtain rfl := Option.some.inj ho
      have g119 : a'.tmps[119]?.getD undef = .bool true := by have h := hdep 9 _ rfl (by kernel_rfl); simpa using h
      clear ho hfr hdep
      go_wp2_with fail
      exact ⟨rfl, _, rfl, Below.refl _ _, rfl⟩
    · intro o ho a' w' hb hfr hdep
      obtain rfl := Option.some.inj ho
      have g13 : a'.tmps[13]?.getD undef = .pointer (some ⟨pa, 0, none⟩) := by have h := hfr 13 (by kernel_rfl); simpa using h
      have g120 : a'.tmps[120]?.getD undef = .bool true := by have h := hdep 10 _ rfl (by kernel_rfl); simpa using h
      have q120 := opt_bool g120
      clear ho hfr hdep
      refine unguard_any (by simp [Region.wanted, yielded, q120]) ?_
      go_wp2_with fail
      exact ⟨rfl, _, rfl, Below.refl _ _, rfl⟩
    · intro o ho a' w' hb hfr hdep
      obtain rfl := Option.some.inj ho
      have g121 : a'.tmps[121]?.getD undef = .pointer (some ⟨pa, 0, none⟩) := by have h := hdep 11 _ rfl (by kernel_rfl); simpa using h
      have g120 : a'.tmps[120]?.getD undef = .bool true := by have h := hdep 10 _ rfl (by kernel_rfl); simpa using h
      have q120 := opt_bool g120
      clear ho hfr hdep
      refine unguard_any (by simp [Region.wanted, yielded, q120]) ?_
      go_wp2_with fail
      refine (lk_Forged pa none ma E3 _ (DE.out.below hb)).mono ?_
      rintro e w2 ⟨rfl, rfl⟩
      go_wp2_with fail
      rw [hE3f.out]
      exact ⟨rfl, _, rfl, Below.refl _ _, rfl⟩
    · intro o ho a' w' hb hfr hdep
      obtain rfl := Option.some.inj ho
      have g122 : a'.tmps[122]?.getD undef = .int .i64 1 := by have h := hdep 12 _ rfl (by kernel_rfl); simpa using h
      have g120 : a'.tmps[120]?.getD undef = .bool true := by have h := hdep 10 _ rfl (by kernel_rfl); simpa using h
      have q120 := opt_bool g120
      clear ho hfr hdep
      refine unguard_any (by simp [Region.wanted, yielded, q120]) ?_
      go_wp2_with fail
      exact ⟨rfl, _, rfl, Below.refl _ _, rfl⟩
    · intro o ho a' w' hb hfr hdep
      obtain rfl := Option.some.inj ho
      have g120 : a'.tmps[120]?.getD undef = .bool true := by have h := hdep 10 _ rfl (by kernel_rfl); simpa using h
      have g123 : a'.tmps[123]?.getD undef = .bool true := by have h := hdep 13 _ rfl (by kernel_rfl); simpa using h
      clear ho hfr hdep
      go_wp2_with fail
      exact ⟨rfl, _, rfl, Below.refl _ _, rfl⟩
    · intro o ho a' w' hb hfr hdep
      obtain rfl := Option.some.inj ho
      have g124 : a'.tmps[124]?.getD undef = .bool true := by have h := hdep 14 _ rfl (by kernel_rfl); simpa using h
      clear ho hfr hdep
      go_wp2_with fail
      exact ⟨rfl, _, rfl, Below.refl _ _, rfl⟩
    · intro o ho a' w' hb hfr hdep
      obtain rfl := Option.some.inj ho
      have g22 : a'.tmps[22]?.getD undef = .int .i64 0 := by have h := hfr 22 (by kernel_rfl); simpa using h
      have g125 : a'.tmps[125]?.getD undef = .bool true := by have h := hdep 15 _ rfl (by kernel_rfl); simpa using h
      have q125 := opt_bool g125
      clear ho hfr hdep
      refine unguard_any (by simp [Region.wanted, yielded, q125]) ?_
      go_wp2_with fail
      exact ⟨rfl, _, rfl, Below.refl _ _, rfl⟩
    · intro o ho a' w' hb hfr hdep
      obtain rfl := Option.some.inj ho
      have g126 : a'.tmps[126]?.getD undef = .int .i64 0 := by have h := hdep 16 _ rfl (by kernel_rfl); simpa using h
      have g125 : a'.tmps[125]?.getD undef = .bool true := by have h := hdep 15 _ rfl (by kernel_rfl); simpa using h
      have q125 := opt_bool g125
      clear ho hfr hdep
      refine unguard_any (by simp [Region.wanted, yielded, q125]) ?_
      go_wp2_with fail
      exact ⟨rfl, _, rfl, Below.refl _ _, rfl⟩
    · intro o ho a' w' hb hfr hdep
      obtain rfl := Option.some.inj ho
      have g125 : a'.tmps[125]?.getD undef = .bool true := by have h := hdep 15 _ rfl (by kernel_rfl); simpa using h
      have g127 : a'.tmps[127]?.getD undef = .bool true := by have h := hdep 17 _ rfl (by kernel_rfl); simpa using h
      clear ho hfr hdep
      go_wp2_with fail
      exact ⟨rfl, _, rfl, Below.refl _ _, rfl⟩
    · intro o ho a' w' hb hfr hdep
      obtain rfl := Option.some.inj ho
      have g128 : a'.tmps[128]?.getD undef = .bool true := by have h := hdep 18 _ rfl (by kernel_rfl); simpa using h
      clear ho hfr hdep
      go_wp2_with fail
      exact ⟨rfl, _, rfl, Below.refl _ _, rfl⟩
    · intro o ho a' w' hb hfr hdep
      obtain rfl := Option.some.inj ho
      have g21 : a'.tmps[21]?.getD undef = .slice (some ⟨gZ, 0, none⟩) 1 cZ := by have h := hfr 21 (by kernel_rfl); simpa using h
      have g129 : a'.tmps[129]?.getD undef = .bool true := by have h := hdep 19 _ rfl (by kernel_rfl); simpa using h
      have q129 := opt_bool g129
      clear ho hfr hdep
      refine unguard_any (by simp [Region.wanted, yielded, q129]) ?_
      go_wp2_with fail
      exact ⟨rfl, _, rfl, Below.refl _ _, rfl⟩
    · intro o ho a' w' hb hfr hdep
      obtain rfl := Option.some.inj ho
      have g130 : a'.tmps[130]?.getD undef = .slice (some ⟨gZ, 0, none⟩) 1 cZ := by have h := hdep 20 _ rfl (by kernel_rfl); simpa using h
      have g129 : a'.tmps[129]?.getD undef = .bool true := by have h := hdep 19 _ rfl (by kernel_rfl); simpa using h
      have q129 := opt_bool g129
      clear ho hfr hdep
      refine unguard_any (by simp [Region.wanted, yielded, q129]) ?_
      go_wp2_with fail
      exact ⟨rfl, _, rfl, Below.refl _ _, rfl⟩
    · intro o ho a' w' hb hfr hdep
      obtain rfl := Option.some.inj ho
      have g131 : a'.tmps[131]?.getD undef = .int .i64 1 := by have h := hdep 21 _ rfl (by kernel_rfl); simpa using h
      have g129 : a'.tmps[129]?.getD undef = .bool true := by have h := hdep 19 _ rfl (by kernel_rfl); simpa using h
      have q129 := opt_bool g129
      clear ho hfr hdep
      refine unguard_any (by simp [Region.wanted, yielded, q129]) ?_
      go_wp2_with fail
      exact ⟨rfl, _, rfl, Below.refl _ _, rfl⟩
    · intro o ho a' w' hb hfr hdep
      obtain rfl := Option.some.inj ho
      have g129 : a'.tmps[129]?.getD undef = .bool true := by have h := hdep 19 _ rfl (by kernel_rfl); simpa using h
      have g132 : a'.tmps[132]?.getD undef = .bool true := by have h := hdep 22 _ rfl (by kernel_rfl); simpa using h
      clear ho hfr hdep
      go_wp2_with fail
      exact ⟨rfl, _, rfl, Below.refl _ _, rfl⟩
    · intro o ho a' w' hb hfr hdep
      obtain rfl := Option.some.inj ho
      have g133 : a'.tmps[133]?.getD undef = .bool true := by have h := hdep 23 _ rfl (by kernel_rfl); simpa using h
      clear ho hfr hdep
      go_wp2_with fail
      exact ⟨rfl, _, rfl, Below.refl _ _, rfl⟩
    · intro o ho a' w' hb hfr hdep
      obtain rfl := Option.some.inj ho
      have g21 : a'.tmps[21]?.getD undef = .slice (some ⟨gZ, 0, none⟩) 1 cZ := by have h := hfr 21 (by kernel_rfl); simpa using h
      have g134 : a'.tmps[134]?.getD undef = .bool true := by have h := hdep 24 _ rfl (by kernel_rfl); simpa using h
      have q134 := opt_bool g134
      clear ho hfr hdep
      refine unguard_any (by simp [Region.wanted, yielded, q134]) ?_
      go_wp2_with fail
      exact ⟨rfl, _, rfl, Below.refl _ _, rfl⟩
    · intro o ho a' w' hb hfr hdep
      obtain rfl := Option.some.inj ho
      have g135 : a'.tmps[135]?.getD undef = .slice (some ⟨gZ, 0, none⟩) 1 cZ := by have h := hdep 25 _ rfl (by kernel_rfl); simpa using h
      have g134 : a'.tmps[134]?.getD undef = .bool true := by have h := hdep 24 _ rfl (by kernel_rfl); simpa using h
      have q134 := opt_bool g134
      clear ho hfr hdep
      refine unguard_any (by simp [Region.wanted, yielded, q134]) ?_
      go_wp2_with fail
      exact ⟨rfl, _, rfl, Below.refl _ _, rfl⟩
    · intro o ho a' w' hb hfr hdep
      obtain rfl := Option.some.inj ho
      have g136 : a'.tmps[136]?.getD undef = .pointer (some ⟨gZ, 0, none⟩) := by have h := hdep 26 _ rfl (by kernel_rfl); simpa using h
      have g134 : a'.tmps[134]?.getD undef = .bool true := by have h := hdep 24 _ rfl (by kernel_rfl); simpa using h
      have q134 := opt_bool g134
      clear ho hfr hdep
      refine unguard_any (by simp [Region.wanted, yielded, q134]) ?_
      have hcl := cell_blw qZ.out hb
      go_wp2_with fail
      exact ⟨rfl, _, rfl, Below.refl _ _, rfl⟩
    · intro o ho a' w' hb hfr hdep
      obtain rfl := Option.some.inj ho
      have g1 : a'.tmps[1]?.getD undef = .slice a n c := by have h := hfr 1 (by kernel_rfl); simpa using h
      have g134 : a'.tmps[134]?.getD undef = .bool true := by have h := hdep 24 _ rfl (by kernel_rfl); simpa using h
      have q134 := opt_bool g134
      clear ho hfr hdep
      refine unguard_any (by simp [Region.wanted, yielded, q134]) ?_
      go_wp2_with fail
      exact ⟨rfl, _, rfl, Below.refl _ _, rfl⟩
    · intro o ho a' w' hb hfr hdep
      obtain rfl := Option.some.inj ho
      have g138 : a'.tmps[138]?.getD undef = .slice a n c := by have h := hdep 28 _ rfl (by kernel_rfl); simpa using h
      have g134 : a'.tmps[134]?.getD undef = .bool true := by have h := hdep 24 _ rfl (by kernel_rfl); simpa using h
      have q134 := opt_bool g134
      clear ho hfr hdep
      refine unguard_any (by simp [Region.wanted, yielded, q134]) ?_
      go_wp2_with fail
      refine (HF20.out _ (hs0.out.below (bw.out.trans (hb.mono bw.out.size)))).mono ?_
      rintro e w2 ⟨a2, c2, rfl, o2, h2⟩
      go_wp2_with fail
      exact ⟨rfl, _, rfl, h2, _, _, rfl, o2.sl⟩
    · intro o ho a' w' hb hfr hdep
      obtain rfl := Option.some.inj ho
      have g137 : a'.tmps[137]?.getD undef = .slice xZ yZ zZ := by have h := hdep 27 _ rfl (by kernel_rfl); simpa using h
      obtain ⟨aF, cF, hF, sF⟩ := hdep 29 _ rfl (by kernel_rfl)
      have g139 : a'.tmps[139]?.getD undef = .slice aF M20.length cF := by simpa using hF
      have g134 : a'.tmps[134]?.getD undef = .bool true := by have h := hdep 24 _ rfl (by kernel_rfl); simpa using h
      have q134 := opt_bool g134
      clear ho hfr hdep
      refine unguard_any (by simp [Region.wanted, yielded, q134]) ?_
      have hSa := ref_Same M20 M20 xZ aF yZ M20.length zZ cF w' (sZ.out.below hb) sF
      rw [show decide (M20 = M20) = true by simp] at hSa
      go_wp2_with fail
      refine hSa.mono ?_
      rintro e w2 ⟨rfl, nq, rfl⟩
      go_wp2_with fail
      exact ⟨rfl, _, rfl, Still.below nq, rfl⟩
    · intro o ho a' w' hb hfr hdep
      obtain rfl := Option.some.inj ho
      have g134 : a'.tmps[134]?.getD undef = .bool true := by have h := hdep 24 _ rfl (by kernel_rfl); simpa using h
      have g140 : a'.tmps[140]?.getD undef = .bool true := by have h := hdep 30 _ rfl (by kernel_rfl); simpa using h
      clear ho hfr hdep
      go_wp2_with fail
      exact ⟨rfl, _, rfl, Below.refl _ _, rfl⟩
    · intro o ho a' w' hb hfr hdep
      obtain rfl := Option.some.inj ho
      have g141 : a'.tmps[141]?.getD undef = .bool true := by have h := hdep 31 _ rfl (by kernel_rfl); simpa using h
      clear ho hfr hdep
      go_wp2_with fail
      exact ⟨rfl, _, rfl, Below.refl _ _, rfl⟩
    · intro o ho a' w' hb hfr hdep
      obtain rfl := Option.some.inj ho
      have g142 : a'.tmps[142]?.getD undef = .bool true := by have h := hdep 32 _ rfl (by kernel_rfl); simpa using h
      have q142 := opt_bool g142
      clear ho hfr hdep
      refine unguard_any (by simp [Region.wanted, yielded, q142]) ?_
      go_wp2_with fail
      refine (law37_lives _).mono ?_
      rintro e w2 ⟨rfl, h2⟩
      go_wp2_with fail
      exact ⟨rfl, _, rfl, h2, rfl⟩
    · intro o ho a' w' hb hfr hdep
      obtain rfl := Option.some.inj ho
      have g142 : a'.tmps[142]?.getD undef = .bool true := by have h := hdep 32 _ rfl (by kernel_rfl); simpa using h
      have g143 : a'.tmps[143]?.getD undef = .bool true := by have h := hdep 33 _ rfl (by kernel_rfl); simpa using h
      clear ho hfr hdep
      go_wp2_with fail
      exact ⟨rfl, _, rfl, Below.refl _ _, rfl⟩
  · intro gg w9 hb hp'
    have p144 := hp' 34 _ rfl
    clear hp'
    simp at p144
    simp only [List.drop_succ_cons, List.drop_zero, List.map_cons, List.map_nil, putAll, Act.put, List.setIfInBounds_toArray, List.set_cons_succ, List.set_cons_zero, List.cons_append, List.nil_append, p144]
    clear p144
    go_wp2_with fail
    go_ret
    exact ⟨rfl, bw.out.trans (hb.mono bw.out.size)⟩
    

theorem walk_Detects (l : List UInt8) (z at_ y : Int) (a : Option Addr) (n c : Nat) (w : World) (hz : (Lit.int .u64 z).wf = true) (hs : Sl w 1 a n c (l.map B8)) (hat : -9223372036854775808 ≤ at_ ∧ at_ ≤ 9223372036854775807) (hy : (Lit.int .u8 y).wf = true) :
    Calls Try.prog 7 #[.int .u64 z, .slice a n c, .int .i64 at_, .int .u8 y] w fun r w' => r = .returned (.bool true) ∧ Below w.heap.size w w' := by
  obtain ⟨key, rfl⟩ := u64_of hz
  obtain ⟨v, rfl⟩ := u8_of7 hy
  exact walk_Detects0 key l at_ v a n c w hs hat.1 hat.2
end Go.Proofs.Ytjdnmbapmobaaaa
end
