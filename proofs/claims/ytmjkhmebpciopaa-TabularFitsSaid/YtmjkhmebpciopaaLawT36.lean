/- The contracts of the functions that the law reaches, joined into one text. -/
import Derived.Test.YtmjkhmebpciopaaBaseT30D
import Derived.OpenShut
import Derived.Deep.Slices
import Derived.Deep.Strs
import Derived.SizedLaws
set_option linter.unusedVariables false
set_option linter.unusedSimpArgs false

/- the text Row2 -/
section
/- How the arguments of a law read: slices of integers, of strings, of arrays of integers, with the form's own reach. No program. -/
namespace Go.Dx
open Go.RowKit Go.WideShapes Go.ChangeShapes Go.Deep

/-- no part is longer than the form lets it be -/
def Sized {H : Type} (P : Program) (t : TypeId) (d : DataW H) : Prop := ∀ n ∈ d.weights P t, n ≤ reachBytes
section
variable {H : Type} {enc : TypeId × Value → H} {P : Program} {w : World}
theorem sized_at {ts : List TypeId} {ds : List (DataW H)} (hwt : (DataW.weightsEach P ts ds).all (· ≤ reachBytes) = true) (j : Nat) {t : TypeId} {d : DataW H} (ht : ts[j]? = some t) (hd : ds[j]? = some d) : Sized P t d :=
  fun n hn => by simpa using List.all_eq_true.1 hwt _ (DataW.weights_mem_each ht hd n hn)
theorem sized_all {e : TypeId} : ∀ {l : List (DataW H)} {d : DataW H}, d ∈ l → ∀ n ∈ d.weights P e, n ∈ DataW.weightsAll P e l
  | x :: l, d, hd, n, hn => by
    simp only [DataW.weightsAll, List.mem_append]
    rcases List.mem_cons.1 hd with rfl | h
    · exact .inl hn
    · exact .inr (sized_all h n hn)
theorem Sized.slice {t e : TypeId} {elems spare : List (DataW H)} (h : Sized P t (.slice elems spare)) (hu : P.underlying t = some (.slice e)) :
    (elems.length + spare.length) * P.bytesOf e ≤ reachBytes ∧ (∀ d ∈ elems, Sized P e d) :=
  ⟨h _ (by simp [DataW.weights, hu]), fun d hd n hn => h n (by simp only [DataW.weights, hu, List.mem_cons, List.mem_append]; exact .inr (.inl (sized_all hd n hn)))⟩
theorem Sized.string {t : TypeId} {b : List UInt8} (h : Sized P t (DataW.lit (H := H) (.string b))) : b.length ≤ reachBytes := h _ (by simp [DataW.weights])

theorem add_cells {a : Addr} {n : Nat} : a.add n = a.add n := rfl

theorem trod_ints {t e : TypeId} {k : IntKind} (ht : P.underlying t = some (.slice e)) (he : P.underlying e = some (.int k)) (hc : P.cellsOf e = 1) (hb : 0 < P.bytesOf e) {a : Option Addr} {len cap : Nat} {d : DataW H} {p : List MemPlace}
    (hs : Sized P t d) (h : DataW.Trod enc P w 0 (fun _ => true) true t (.slice a len cap) d p) :
    ∃ zs : List Int, Sl w 1 a len cap (zs.map (Value.int k)) ∧ (∀ n ∈ zs, (Lit.int k n).wf = true) ∧ len ≤ reachBytes := by
  obtain ⟨fuel, hf⟩ := h
  rcases open_ints ht he hc hf with ⟨hcs, _⟩ | ⟨x, l, c, zs, hcs, _, hl, hm, hz, hx, hcell, hwz⟩
  · simp [Value.cells] at hcs
    obtain ⟨rfl, rfl, rfl⟩ := hcs
    exact ⟨[], Sl.empty w 1, by simp, Nat.zero_le _⟩
  · simp [Value.cells] at hcs
    obtain ⟨rfl, rfl, rfl⟩ := hcs
    have hz2 : zs.length = cap := by simpa using hz
    have hd := congrArg Prod.fst hx
    simp only at hd
    subst hd
    refine ⟨zs.take len, ⟨by simp; omega, hl, hm, (fun h => by cases h), ?_⟩, fun n hn => hwz n (List.mem_of_mem_take hn), ?_⟩
    · intro q hq j u hj
      cases hq
      rw [List.getElem?_map, List.getElem?_take] at hj
      by_cases hlt : j < len
      · rw [if_pos hlt] at hj
        have hjz : j < zs.length := by omega
        rw [List.getElem?_eq_getElem hjz] at hj
        simp at hj
        rw [hcell j hjz, ← hj, List.getD_eq_getElem?_getD, List.getElem?_eq_getElem hjz]
        rfl
      · rw [if_neg hlt] at hj; cases hj
    · have hsz := (hs.slice ht).1
      rw [show ∀ (k : IntKind) (l : List Int), (lits (H := H) k l).length = l.length from fun k l => by simp [lits], List.length_take, show min len zs.length = len by omega] at hsz
      exact Nat.le_trans (Nat.le_trans (Nat.le_add_right _ _) (Nat.le_mul_of_pos_right _ hb)) hsz

theorem trod_bytes {t e : TypeId} (ht : P.underlying t = some (.slice e)) (he : P.underlying e = some (.int .u8)) (hc : P.cellsOf e = 1) (hb : 0 < P.bytesOf e) {a : Option Addr} {len cap : Nat} {d : DataW H} {p : List MemPlace}
    (hs : Sized P t d) (h : DataW.Trod enc P w 0 (fun _ => true) true t (.slice a len cap) d p) :
    ∃ l : List UInt8, Sl w 1 a len cap (l.map B8) ∧ len ≤ reachBytes := by
  obtain ⟨zs, h1, h2, h3⟩ := trod_ints ht he hc hb hs h
  refine ⟨zs.map fun n => UInt8.ofNat n.toNat, ?_, h3⟩
  have e : (zs.map fun n => UInt8.ofNat n.toNat).map B8 = zs.map (Value.int .u8) := by
    rw [List.map_map]
    apply List.map_congr_left
    intro n hn
    have hb : 0 ≤ n ∧ n ≤ 255 := bounds_u8 (h2 n hn)
    show Value.int .u8 ((UInt8.ofNat n.toNat).toNat : Int) = _
    rw [UInt8.toNat_ofNat']
    congr 1
    omega
  rw [e]
  exact h1
theorem trod_i64s {t e : TypeId} (ht : P.underlying t = some (.slice e)) (he : P.underlying e = some (.int .i64)) (hc : P.cellsOf e = 1) (hb : 0 < P.bytesOf e) {a : Option Addr} {len cap : Nat} {d : DataW H} {p : List MemPlace}
    (hs : Sized P t d) (h : DataW.Trod enc P w 0 (fun _ => true) true t (.slice a len cap) d p) :
    ∃ l : List Int, Sl w 1 a len cap (l.map I64) ∧ (∀ n ∈ l, -9223372036854775808 ≤ n ∧ n ≤ 9223372036854775807) ∧ len ≤ reachBytes := by
  obtain ⟨zs, h1, h2, h3⟩ := trod_ints ht he hc hb hs h
  exact ⟨zs, h1, fun n hn => bounds_i64 (h2 n hn), h3⟩

theorem trod_strs {t e : TypeId} (ht : P.underlying t = some (.slice e)) (he : P.underlying e = some .string) (hc : P.cellsOf e = 1) (hb : 0 < P.bytesOf e) {a : Option Addr} {len cap : Nat} {d : DataW H} {p : List MemPlace}
    (hs : Sized P t d) (h : DataW.Trod enc P w 0 (fun _ => true) true t (.slice a len cap) d p) :
    ∃ l : List ByteArray, Sl w 1 a len cap (l.map Value.string) ∧ (∀ s ∈ l, s.size ≤ reachBytes) ∧ len ≤ reachBytes ∧ (l = [] ∨ ∃ sp, d = .slice (l.map fun s => .lit (.string s.data.toList)) sp) := by
  obtain ⟨fuel, hf⟩ := h
  rcases open_strs ht he hc hf with ⟨hcs, _⟩ | ⟨x, l, c, m, Sx, hcs, _, hl, hm, hmm, hx, hcell⟩
  · simp [Value.cells] at hcs
    obtain ⟨rfl, rfl, rfl⟩ := hcs
    exact ⟨[], Sl.empty w 1, by simp, Nat.zero_le _, .inl rfl⟩
  · simp [Value.cells] at hcs
    obtain ⟨rfl, rfl, rfl⟩ := hcs
    simp only [if_true] at hmm
    subst hmm
    have hd := congrArg Prod.fst hx
    simp only at hd
    subst hd
    obtain ⟨z1, z2⟩ := hs.slice ht
    refine ⟨(List.range len).map Sx, ⟨by simp, hl, hm, (fun h => by cases h), ?_⟩, ?_, ?_, .inr ⟨_, by rw [List.map_map]; rfl⟩⟩
    · intro q hq j u hj
      cases hq
      have hlt : j < len := by have := (List.getElem?_eq_some_iff.1 hj).1; simpa using this
      rw [(hcell j (by omega)).1]
      simp [hlt] at hj
      rw [hj]
    · intro s hs
      obtain ⟨i, hi, rfl⟩ := List.mem_map.1 hs
      have := Sized.string (z2 _ (List.mem_map.2 ⟨i, hi, rfl⟩))
      rwa [show (Sx i).data.toList.length = (Sx i).size from Array.length_toList] at this
    · simp only [List.length_map, List.length_range] at z1
      exact Nat.le_trans (Nat.le_trans (Nat.le_add_right _ _) (Nat.le_mul_of_pos_right _ hb)) z1

theorem trod_arr {t e n : Nat} {k : IntKind} {base : Nat} {spare : Nat → Bool} {held : Bool} {fuel : Nat} {cs : List Value} {x : DataW H × List MemPlace} (ht : P.underlying t = some (.array n e)) (he : P.underlying e = some (.int k)) (hc : P.cellsOf e = 1) (hct : P.cellsOf t = n)
    (h : DataW.trod enc P w base spare held fuel t cs = some x) : cs.length = n ∧ ∀ i, i < n → ∃ z, cs[i]? = some (.int k z) ∧ (Lit.int k z).wf = true := by
  obtain ⟨xs, m, _, _, hl, hxl, hi⟩ := DataW.trod_array ht h
  rw [hct] at hl
  refine ⟨hl, fun i hin => ?_⟩
  have h1 := hi i hin
  rw [hc, Nat.mul_one, List.getElem?_eq_getElem (by omega)] at h1
  obtain ⟨z, hz, _, hw⟩ := DataW.trod_int he h1
  refine ⟨z, ?_, hw⟩
  have := congrArg (·[0]?) hz
  simpa [List.getElem?_take, List.getElem?_drop] using this

theorem trod_arrs {t e q n : Nat} {k : IntKind} (ht : P.underlying t = some (.slice e)) (he : P.underlying e = some (.array n q)) (hq : P.underlying q = some (.int k)) (hc : P.cellsOf q = 1) (hce : P.cellsOf e = n) (hb : 0 < P.bytesOf e) (hn0 : 0 < n)
    {a : Option Addr} {len cap : Nat} {d : DataW H} {p : List MemPlace} (hs : Sized P t d) (h : DataW.Trod enc P w 0 (fun _ => true) true t (.slice a len cap) d p) :
    ∃ zs : List Int, Sl w n a len cap (zs.map (Value.int k)) ∧ (∀ n ∈ zs, (Lit.int k n).wf = true) ∧ len ≤ reachBytes := by
  obtain ⟨fuel, hf⟩ := h
  rcases open_slice ht hf with ⟨hcs, _⟩ | ⟨x, l, c, m, g, D, Pl, hcs, _, hl, hm, hmm, hx, hel⟩
  · simp [Value.cells] at hcs
    obtain ⟨rfl, rfl, rfl⟩ := hcs
    exact ⟨[], Sl.empty w n, by simp, Nat.zero_le _⟩
  · simp [Value.cells] at hcs
    obtain ⟨rfl, rfl, rfl⟩ := hcs
    simp only [if_true] at hmm
    subst hmm
    have hd := congrArg Prod.fst hx
    simp only at hd
    subst hd
    obtain ⟨z1, z2⟩ := hs.slice ht
    have each : ∀ j, j < len * n → ∃ z, w.cell? (x.add j) = some (.int k z) ∧ (Lit.int k z).wf = true := by
      intro j hj
      have hi : j / n < len := (Nat.div_lt_iff_lt_mul hn0).2 hj
      obtain ⟨cs', h1, h2⟩ := hel (j / n) (by omega)
      rw [hce] at h1
      obtain ⟨_, hcl, hat⟩ := World.cells?_some h1
      have hr : j % n < n := Nat.mod_lt _ hn0
      obtain ⟨z, hz, hwz⟩ := (trod_arr he hq hc hce h2).2 (j % n) hr
      refine ⟨z, ?_, hwz⟩
      have := hat (j % n) hr
      rw [sl_add, Nat.div_add_mod'] at this
      rw [this, hz]
    obtain ⟨Z, hZ⟩ := choose_lt each
    refine ⟨(List.range (len * n)).map Z, ⟨by simp, hl, hm, (fun h => by cases h), ?_⟩, ?_, ?_⟩
    · intro q hq j u hj
      cases hq
      have hlt : j < len * n := by have := (List.getElem?_eq_some_iff.1 hj).1; simpa using this
      rw [(hZ j hlt).1]
      simp [hlt] at hj
      rw [hj]
    · intro z hz
      obtain ⟨i, hi, rfl⟩ := List.mem_map.1 hz
      exact (hZ i (List.mem_range.1 hi)).2
    · simp only [List.length_map, List.length_range] at z1
      exact Nat.le_trans (Nat.le_trans (Nat.le_add_right _ _) (Nat.le_mul_of_pos_right _ hb)) z1
theorem bytes_of_wf {zs : List Int} (h : ∀ n ∈ zs, (Lit.int .u8 n).wf = true) : ∃ l : List UInt8, l.map B8 = zs.map (Value.int .u8) := by
  refine ⟨zs.map fun n => UInt8.ofNat n.toNat, ?_⟩
  rw [List.map_map]
  apply List.map_congr_left
  intro n hn
  have hb : 0 ≤ n ∧ n ≤ 255 := bounds_u8 (h n hn)
  show Value.int .u8 ((UInt8.ofNat n.toNat).toNat : Int) = _
  rw [UInt8.toNat_ofNat']
  congr 1
  omega
end
end Go.Dx
end

/- the text T31 -/
section
/- Chapter 15: entries without a column. -/
namespace Go.Proofs.Ytmjkhmebpciopaa
open Go.RowKit Go.Dx

/-- the first j entries of a row but that at k -/
def woK (row : List (List UInt8)) (k : Nat) : Nat → List (List UInt8)
  | 0 => []
  | j + 1 => if j = k then woK row k j else woK row k j ++ [row.getD j []]
def woX (X : List (List (List UInt8))) (k : Nat) : List (List (List UInt8)) := X.map fun row => woK row k row.length
theorem woK_len (row : List (List UInt8)) (k : Nat) : ∀ j, (woK row k j).length ≤ j
  | 0 => Nat.le_refl _
  | j + 1 => by
    have := woK_len row k j
    show (if j = k then woK row k j else woK row k j ++ [row.getD j []]).length ≤ _
    split
    · omega
    · rw [List.length_append]; simp; omega
theorem woK_at {row : List (List UInt8)} {k j : Nat} (h : j = k) : woK row k (j + 1) = woK row k j := if_pos h
theorem woK_in {row : List (List UInt8)} {k j : Nat} {r : List UInt8} (h : j ≠ k) (hr : row[j]? = some r) : woK row k (j + 1) = woK row k j ++ [r] := by
  show (if j = k then _ else _) = _
  rw [if_neg h, List.getD_eq_getElem?_getD, hr]; rfl
theorem woX_next {X : List (List (List UInt8))} {k i : Nat} {row : List (List UInt8)} (h : X[i]? = some row) : woX (X.take (i + 1)) k = woX (X.take i) k ++ [woK row k row.length] := by
  unfold woX; rw [take_snoc h, List.map_append]; rfl

set_option maxRecDepth 100000 in
set_option maxHeartbeats 800000 in
theorem law15_without (X : List (List (List UInt8))) (hs : List Hd) (a : Option Addr) (n c k : Nat) (w : World) (hp : Pg3 w a n c hs X) (hR : X.length ≤ 1000) (hC : ∀ row ∈ X, row.length ≤ 1000) :
    Calls Try.prog 21 #[.slice a n c, .int .i64 (k : Int)] w fun e w' => ∃ a' c' hs', e = .returned (.slice a' X.length c') ∧ V3 w w' w.heap.size 28 a' c' hs' (woX X k) ∧ Below w.heap.size w w' := by
  obtain rfl := hp.n_eq
  go_enter Try.func21, Try.ntmps21
  go_wp2_with fail
  go_loopg [5, 6] X.length (fun g o i' w' => ∃ (i : Nat) (a2 : Option Addr) (c2 : Nat) (hs2 : List Hd), i ≤ X.length ∧ g = X.length - i ∧ i' = .int .i64 (i : Int) ∧ o = .slice a2 i c2 ∧ V3 w w' w.heap.size 28 a2 c2 hs2 (woX (X.take i) k) ∧ Below w.heap.size w w')
  case atStart => exact ⟨0, none, 0, [], by omega, by omega, rfl, rfl, V3.nil _ _ _ _, Below.refl _ _⟩
  case round =>
    obtain ⟨i, a2, c2, hs2, hi, hg, rfl, rfl, hV, hbk⟩ := hrel
    have HG := hide hg
    clear hg
    have HWL : Hid ((woX (X.take i) k).length = i) := hide (by unfold woX; rw [List.length_map, List.length_take]; omega)
    by_cases hil : i < X.length
    · obtain ⟨x, hx⟩ : ∃ x, X[i]? = some x := ⟨X[i], by simp [hil]⟩
      obtain ⟨ax, cx, ks, hu, hpx⟩ := hp.get hx
      have hx1 := hC x (List.mem_of_getElem? hx)
      have HU := hide hu
      have HN := hide (woX_next (k := k) hx)
      have hlow := fun (j : Nat) (z : Hd) (q : Addr) (h1 : hs2[j]? = some z) (h2 : z.1 = some q) => (hV.lt h1 h2).2
      have HLOW := hide hlow
      clear hx hu hlow
      obtain ⟨wy, rfl⟩ : ∃ wy : World, wy = wr := ⟨_, rfl⟩
      have d0 : decide ((i : Int) < (X.length : Int)) = true := decide_eq_true (by omega)
      go_wp2_with fail
      go_loopg [7, 8] x.length (fun g o j' w' => ∃ (j : Nat) (a3 : Option Addr) (c3 : Nat) (ks3 : List Hd), j ≤ x.length ∧ g = x.length - j ∧ j' = .int .i64 (j : Int) ∧ o = .slice a3 (woK x k j).length c3 ∧ VP w w' wy.heap.size a3 c3 ks3 (woK x k j) ∧ Below wy.heap.size wy w')
      case atStart => exact ⟨0, none, 0, [], by omega, by omega, rfl, rfl, VP.nil _ _ _, Below.refl _ _⟩
      case round =>
        obtain ⟨j, a3, c3, ks3, hj, hg1, rfl, rfl, hvp, hbj⟩ := hrel
        have HG1 := hide hg1
        clear hg1
        have hbw := hbk.trans (hbj.mono hbk.size)
        have hpt := hp.top.below hbw
        have hxt := hpx.top.below hbw
        have hwl := woK_len x k j
        by_cases hjl : j < x.length
        · obtain ⟨r, hr⟩ : ∃ r, x[j]? = some r := ⟨x[j], by simp [hjl]⟩
          obtain ⟨ar, cr, hur, hsr⟩ := hpx.get hr
          have HUR := hide hur
          by_cases hjk : j = k
          · have HW := hide (woK_at (row := x) hjk)
            have e1 : ((j : Int) != (k : Int)) = false := eq_nat hjk
            clear hr hur hjk
            go_wp2_with (with_reducible refine idx_3 18 _ _ _ _ _ hs rfl hpt _ _ i rfl rfl _ HU.out ?_; intro b o hcell hbo)
            go_roundg (x.length - (j + 1))
            case measure => have := HG1.out; omega
            case rel => exact ⟨j + 1, a3, c3, ks3, by omega, rfl, by go_num, by rw [HW.out], by rw [HW.out]; exact hvp, hbj⟩
          · have HW := hide (woK_in hjk hr)
            have e1 : ((j : Int) != (k : Int)) = true := neq_nat hjk
            clear hr hur hjk
            go_wp2_with (first
              | (with_reducible refine idx_3 18 _ _ _ _ _ hs rfl hpt _ _ i rfl rfl _ HU.out ?_; intro b o hcell hbo)
              | (with_reducible refine idx_3 30 _ _ _ _ _ hs rfl hpt _ _ i rfl rfl _ HU.out ?_; intro b3 o3 hcell3 hbo3)
              | (with_reducible refine idx_q 33 _ _ _ _ _ ks rfl hxt _ _ j rfl rfl _ HUR.out ?_; intro b4 o4 hcell4 hbo4)
              | (at_builtin; refine app_vq rfl _ _ rfl wy w wy.heap.size _ _ _ ks3 _ rfl rfl hvp (ar, r.length, cr) r hsr rfl (by omega) hbj.size hbj ?_; intro a' c' w' ho' hgr' hb'))
            go_roundg (x.length - (j + 1))
            case measure => have := HG1.out; omega
            case rel => exact ⟨j + 1, a', c', _, by omega, rfl, by go_num, by rw [HW.out, List.length_append]; rfl, by rw [HW.out]; exact ho', hb'⟩
        · obtain rfl : x.length = j := by omega
          go_wp2_with (first
            | (with_reducible refine idx_3 18 _ _ _ _ _ hs rfl hpt _ _ i rfl rfl _ HU.out ?_; intro b o hcell hbo)
            | (at_builtin; refine app_v3 rfl _ _ rfl w w w.heap.size wy.heap.size _ _ _ hs2 ks3 _ HWL.out rfl (hV.below hbj) (a3, (woK x k x.length).length, c3) (woK x k x.length) hvp rfl hbk.size HLOW.out rfl (by omega) hbw.size hbw ?_; intro a' c' w' ho' hb'))
          go_roundg (X.length - (i + 1))
          case measure => have := HG.out; omega
          case rel => exact ⟨i + 1, a', c', _, by omega, rfl, by go_num, rfl, by rw [HN.out]; exact ho', hb'⟩
    · obtain rfl : X.length = i := by omega
      go_wp2_with fail
      go_ret
      rw [List.take_length] at hV
      exact ⟨a2, c2, hs2, rfl, hV, hbk⟩
end Go.Proofs.Ytmjkhmebpciopaa
end

/- the text T32 -/
section
/- Chapter 15: fewer lines with more room, in plain words. No program in sight. -/
namespace Go.Proofs.Ytmjkhmebpciopaa

theorem Sol.page_len {f : Nat → Nat} {X : List (List (List UInt8))} {n R : Nat} {W : Int} {L T : Nat → Nat} (h : Sol f n R W L T 1) (hR : X.length = R) : ∀ k, 1 ≤ k → k < n → (pageG f X n T n k).length = (if 1 < k then 1 else 0) + L k := by
  have key : ∀ d k, n - k = d → 1 ≤ k → k < n → (pageG f X n T n k).length = (if 1 < k then 1 else 0) + L k := by
    intro d
    induction d using Nat.strongRecOn with
    | ind d ih =>
      intro k hd h1 h2
      have hb := h k h1 h2
      have hlt := hb.lt
      have hle := hb.le
      rw [pageG_step h.gt h1 h2, List.length_append, List.length_append, linesL_len, hR, hb.val]
      have e : (if 1 < k then ([[]] : List (List UInt8)) else []).length = if 1 < k then 1 else 0 := by split <;> rfl
      rw [e]
      by_cases ht : T k < n
      · rw [ih (n - T k) (by omega) (T k) rfl (by omega) ht, valL_in ht, if_pos (by omega : 1 < T k)]
      · rw [pageG_stop ht, valL_end ht]; rfl
  exact fun k => key (n - k) k rfl
theorem Sol.total {f : Nat → Nat} {X : List (List (List UInt8))} {n : Nat} {W : Int} {L T : Nat → Nat} (h : Sol f n X.length W L T 1) (hn : 1 ≤ n) : (pageT f X n T).length = if n = 1 then X.length else L 1 := by
  unfold pageT
  by_cases h1 : n = 1
  · rw [if_pos h1, if_pos h1, linesL_len]
  · rw [if_neg h1, if_neg h1, h.page_len rfl 1 (Nat.le_refl _) (by omega), if_neg (by omega), Nat.zero_add]
theorem Sol.ge {f : Nat → Nat} {n R : Nat} {W : Int} {L T : Nat → Nat} (h : Sol f n R W L T 1) {k : Nat} (h1 : 1 ≤ k) (h2 : k < n) : R ≤ L k := by
  rw [(h k h1 h2).val]; unfold valL; omega
theorem pageG_wide {f : Nat → Nat} {X : List (List (List UInt8))} {n R : Nat} {W : Int} {L T : Nat → Nat} (h : Sol f n R W L T 1) (hW : 0 ≤ W) (hf : ∀ row ∈ X, ∀ i, (row.getD i []).length ≤ f i) : ∀ d k, 1 ≤ k → ∀ l ∈ pageG f X n T d k, (l.length : Int) ≤ W
  | 0, _, _, l, hl => by cases hl
  | d + 1, k, h1, l, hl => by
    replace hl : l ∈ (if k < n then (if 1 < k then [[]] else []) ++ (linesL f X k (T k - k) ++ pageG f X n T d (T k)) else []) := hl
    by_cases h2 : k < n
    · rw [if_pos h2] at hl
      have hb := h k h1 h2
      rcases List.mem_append.1 hl with hl | hl
      · split at hl
        · rw [List.mem_singleton.1 hl]; exact hW
        · cases hl
      · rcases List.mem_append.1 hl with hl | hl
        · unfold linesL at hl
          obtain ⟨row, hr, rfl⟩ := List.mem_map.1 hl
          have h3 := lineL_le (hf row hr) k (T k - k)
          have h4 := hb.ok
          omega
        · exact pageG_wide h hW hf d (T k) (by have := hb.lt; omega) l hl
    · rw [if_neg h2] at hl; cases hl
theorem pageT_wide {X : List (List (List UInt8))} {W : Int} {L T : Nat → Nat} (h : Sol (colW X) (nCols X) X.length W L T 1) (hfit : FitW (colW X) (nCols X) W) : ∀ l ∈ pageT (colW X) X (nCols X) T, (l.length : Int) ≤ W := by
  intro l hl
  have hf : ∀ row ∈ X, ∀ i, (row.getD i []).length ≤ colW X i := fun row hr i => wide_mem hr i
  have h0 : (colW X 0 : Int) ≤ W := hfit.1
  unfold pageT at hl
  split at hl
  · unfold linesL at hl
    obtain ⟨row, hr, rfl⟩ := List.mem_map.1 hl
    have h3 := hf row hr 0
    show (((row.getD 0 []).length : Nat) : Int) ≤ W
    omega
  · exact pageG_wide h (by omega) hf _ 1 (Nat.le_refl _) l hl
/-- more room, fewer rows, narrower columns: not more lines -/
theorem Sol.mono {f f' : Nat → Nat} {n R R' : Nat} {W W' : Int} {L T L' T' : Nat → Nat} (h : Sol f n R W L T 1) (h' : Sol f' n R' W' L' T' 1) (hf : ∀ i, f' i ≤ f i) (hR : R' ≤ R) (hW : W ≤ W') : ∀ k, 1 ≤ k → k < n → L' k ≤ L k := by
  have key : ∀ d k, n - k = d → 1 ≤ k → k < n → L' k ≤ L k := by
    intro d
    induction d using Nat.strongRecOn with
    | ind d ih =>
      intro k hd h1 h2
      have hb := h k h1 h2
      have hs := sizeW_le2 hf k (T k - k)
      have hok := hb.ok
      have hm := ((h' k h1 h2).min (T k) hb.lt hb.le (by omega)).1
      have hv : valL n R' L' (T k) ≤ valL n R L (T k) := by
        by_cases ht : T k < n
        · rw [valL_in ht, valL_in ht]
          have := ih (n - T k) (by have := hb.lt; omega) (T k) rfl (by have := hb.lt; omega) ht
          omega
        · rw [valL_end ht, valL_end ht]; exact hR
      rw [hb.val]; omega
  exact fun k => key (n - k) k rfl
end Go.Proofs.Ytmjkhmebpciopaa
end

/- the text T33 -/
section
/- Chapter 15: a column less, a row less, in plain words. No program in sight. -/
namespace Go.Proofs.Ytmjkhmebpciopaa

/-- the widths without column c -/
def skipF (f : Nat → Nat) (c i : Nat) : Nat := if i < c then f i else f (i + 1)
theorem skip_lo {f : Nat → Nat} {c i : Nat} (h : i < c) : skipF f c i = f i := if_pos h
theorem skip_hi {f : Nat → Nat} {c i : Nat} (h : ¬ i < c) : skipF f c i = f (i + 1) := if_neg h
theorem size_lo {f : Nat → Nat} {c k : Nat} (hc : 1 ≤ c) : ∀ m, k + m ≤ c → sizeW (skipF f c) k m = sizeW f k m
  | 0, _ => skip_lo (by omega)
  | m + 1, h => by show sizeW _ k m + (2 + skipF f c (k + m)) = sizeW f k m + (2 + f (k + m)); rw [size_lo hc m (by omega), skip_lo (by omega)]
theorem size_hi {f : Nat → Nat} {c k : Nat} (hc : 1 ≤ c) (hk : c ≤ k) : ∀ m, sizeW (skipF f c) k m = sizeW f (k + 1) m
  | 0 => skip_lo (by omega)
  | m + 1 => by show sizeW _ k m + (2 + skipF f c (k + m)) = sizeW f (k + 1) m + (2 + f (k + 1 + m)); rw [size_hi hc hk m, skip_hi (by omega), show k + m + 1 = k + 1 + m by omega]
theorem size_mid {f : Nat → Nat} {c k : Nat} (hc : 1 ≤ c) (hk : k ≤ c) : ∀ m, c ≤ k + m → sizeW (skipF f c) k m + (2 + f c) = sizeW f k (m + 1)
  | 0, h => by
    obtain rfl : k = c := by omega
    show skipF f k 0 + (2 + f k) = f 0 + (2 + f (k + 0))
    rw [skip_lo (by omega), Nat.add_zero]
  | m + 1, h => by
    show sizeW _ k m + (2 + skipF f c (k + m)) + (2 + f c) = sizeW f k (m + 1) + (2 + f (k + (m + 1)))
    by_cases hm : c ≤ k + m
    · have := size_mid (f := f) hc hk m hm
      rw [skip_hi (by omega), show k + m + 1 = k + (m + 1) by omega]; omega
    · have e := size_lo (f := f) (k := k) hc m (by omega)
      have e2 : c = k + (m + 1) := by omega
      rw [e, skip_lo (by omega), ← e2]
      show _ = sizeW f k m + (2 + f (k + m)) + _
      omega
/-- without a further column: not more lines -/
theorem Sol.skip {f : Nat → Nat} {n R c : Nat} {W : Int} {L T L' T' : Nat → Nat} (h : Sol f n R W L T 1) (h' : Sol (skipF f c) (n - 1) R W L' T' 1) (hc : 1 ≤ c) (hcn : c < n) :
    ∀ k, 1 ≤ k → k < n → (c < k → L' (k - 1) ≤ L k) ∧ (k ≤ c → k < n - 1 → L' k ≤ L k) := by
  have key : ∀ d k, n - k = d → 1 ≤ k → k < n → (c < k → L' (k - 1) ≤ L k) ∧ (k ≤ c → k < n - 1 → L' k ≤ L k) := by
    intro d
    induction d using Nat.strongRecOn with
    | ind d ih =>
      intro k hd h1 h2
      have hb := h k h1 h2
      have hlt := hb.lt
      have hle := hb.le
      have hok := hb.ok
      have hval := hb.val
      refine ⟨fun hck => ?_, fun hkc hkn => ?_⟩
      · have hs : sizeW (skipF f c) (k - 1) (T k - 1 - (k - 1)) = sizeW f k (T k - k) := by
          have := size_hi (f := f) (c := c) (k := k - 1) hc (by omega) (T k - k)
          rw [show k - 1 + 1 = k by omega] at this
          rw [show T k - 1 - (k - 1) = T k - k by omega]; exact this
        have hm := ((h' (k - 1) (by omega) (by omega)).min (T k - 1) (by omega) (by omega) (by rw [hs]; exact hok)).1
        have hv : valL (n - 1) R L' (T k - 1) ≤ valL n R L (T k) := by
          by_cases ht : T k < n
          · rw [valL_in ht, valL_in (by omega)]
            have := (ih (n - T k) (by omega) (T k) rfl (by omega) ht).1 (by omega)
            omega
          · rw [valL_end ht, valL_end (by omega)]; exact Nat.le_refl _
        omega
      · by_cases hjc : T k ≤ c
        · have hs := size_lo (f := f) (c := c) (k := k) hc (T k - k) (by omega)
          have hm := ((h' k h1 hkn).min (T k) hlt (by omega) (by rw [hs]; exact hok)).1
          have hv : valL (n - 1) R L' (T k) ≤ valL n R L (T k) := by
            rw [valL_in (by omega : T k < n)]
            by_cases ht : T k < n - 1
            · rw [valL_in ht]
              have := (ih (n - T k) (by omega) (T k) rfl (by omega) (by omega)).2 hjc ht
              omega
            · rw [valL_end ht]; omega
          omega
        · by_cases hk1 : T k - 1 = k
          · have hkc2 : k = c := by omega
            have h3 := (ih (n - (k + 1)) (by omega) (k + 1) rfl (by omega) (by omega)).1 (by omega)
            rw [Nat.add_sub_cancel] at h3
            have ht : T k = k + 1 := by omega
            rw [hval, ht, valL_in (by omega)]; omega
          · have hs := size_mid (f := f) (c := c) (k := k) hc hkc (T k - 1 - k) (by omega)
            rw [show T k - 1 - k + 1 = T k - k by omega] at hs
            have hm := ((h' k h1 hkn).min (T k - 1) (by omega) (by omega) (by omega)).1
            have hv : valL (n - 1) R L' (T k - 1) ≤ valL n R L (T k) := by
              by_cases ht : T k < n
              · rw [valL_in ht, valL_in (by omega)]
                have := (ih (n - T k) (by omega) (T k) rfl (by omega) ht).1 (by omega)
                omega
              · rw [valL_end ht, valL_end (by omega)]; exact Nat.le_refl _
            omega
  exact fun k => key (n - k) k rfl
end Go.Proofs.Ytmjkhmebpciopaa
end

/- the text T34 -/
section
/- Chapter 15: valid entries without a column, without a row. No program in sight. -/
namespace Go.Proofs.Ytmjkhmebpciopaa

theorem woK_lo (row : List (List UInt8)) (c : Nat) : ∀ j, j ≤ c → j ≤ row.length → woK row c j = row.take j
  | 0, _, _ => by simp [woK]
  | j + 1, h, h2 => by
    have hr : row[j]? = some (row[j]'(by omega)) := by simp
    rw [woK_in (by omega) hr, woK_lo row c j (by omega) (by omega), take_snoc hr]
theorem woK_hi (row : List (List UInt8)) (c : Nat) (hc : c < row.length) : ∀ m, c + 1 + m ≤ row.length → woK row c (c + 1 + m) = row.take c ++ (row.drop (c + 1)).take m
  | 0, _ => by rw [Nat.add_zero, woK_at rfl, woK_lo row c c (Nat.le_refl _) (by omega), List.take_zero, List.append_nil]
  | m + 1, h => by
    have hr : row[c + 1 + m]? = some (row[c + 1 + m]'(by omega)) := by simp
    have hr2 : (row.drop (c + 1))[m]? = some (row[c + 1 + m]'(by omega)) := by rw [List.getElem?_drop]; exact hr
    have e : woK row c (c + 1 + m + 1) = woK row c (c + 1 + m) ++ [row[c + 1 + m]'(by omega)] := woK_in (by omega) hr
    rw [show c + 1 + (m + 1) = c + 1 + m + 1 by omega, e, woK_hi row c hc m (by omega), List.append_assoc, take_snoc hr2]
theorem woK_all {row : List (List UInt8)} {c : Nat} (hc : c < row.length) : woK row c row.length = row.take c ++ row.drop (c + 1) := by
  have h := woK_hi row c hc (row.length - (c + 1)) (by omega)
  rw [show c + 1 + (row.length - (c + 1)) = row.length by omega] at h
  have e : (row.drop (c + 1)).take (row.length - (c + 1)) = row.drop (c + 1) := List.take_of_length_le (by rw [List.length_drop]; exact Nat.le_refl _)
  rw [h, e]
theorem woK_getD {row : List (List UInt8)} {c : Nat} (hc : c < row.length) (i : Nat) : (woK row c row.length).getD i [] = row.getD (if i < c then i else i + 1) [] := by
  rw [woK_all hc, List.getD_eq_getElem?_getD, List.getD_eq_getElem?_getD]
  have hl : (row.take c).length = c := by rw [List.length_take]; omega
  by_cases h : i < c
  · rw [if_pos h, List.getElem?_append_left (by omega), List.getElem?_take, if_pos h]
  · rw [if_neg h, List.getElem?_append_right (by omega), hl, List.getElem?_drop, show c + 1 + (i - c) = i + 1 by omega]
theorem colW_wo {X : List (List (List UInt8))} {c : Nat} (h : VX X) (hc : c < nCols X) : colW (woX X c) = skipF (colW X) c := by
  funext i
  unfold colW woX skipF
  rw [List.map_map]
  have e : (X.map ((fun row => row.getD i []) ∘ fun row => woK row c row.length)) = X.map fun row => row.getD (if i < c then i else i + 1) [] := by
    apply List.map_congr_left
    intro row hr
    exact woK_getD (by rw [h.row row hr]; exact hc) i
  rw [e]
  by_cases h1 : i < c
  · rw [if_pos h1, if_pos h1]
  · rw [if_neg h1, if_neg h1]
theorem vx_wo {X : List (List (List UInt8))} {c : Nat} (h : VX X) (hc : c < nCols X) (h2 : 2 ≤ nCols X) : VX (woX X c) ∧ nCols (woX X c) = nCols X - 1 ∧ (woX X c).length = X.length := by
  have hlen : (woX X c).length = X.length := by unfold woX; simp
  have hrow : ∀ row ∈ woX X c, row.length = nCols X - 1 := by
    intro row hrow
    obtain ⟨r, hr, e⟩ := List.mem_map.1 hrow
    subst e
    show (woK r c r.length).length = _
    rw [woK_all (by rw [h.row r hr]; exact hc), List.length_append, List.length_take, List.length_drop, h.row r hr]; omega
  have hent : ∀ row ∈ woX X c, ∀ x ∈ row, entryB x = true := by
    intro row hrow x hx
    obtain ⟨r, hr, e⟩ := List.mem_map.1 hrow
    subst e
    replace hx : x ∈ woK r c r.length := hx
    rw [woK_all (by rw [h.row r hr]; exact hc)] at hx
    rcases List.mem_append.1 hx with hx | hx
    · exact h.ent r hr x (List.mem_of_mem_take hx)
    · exact h.ent r hr x (List.mem_of_mem_drop hx)
  have := Few.vx (X := woX X c) (R := X.length) (C := nCols X - 1) ⟨hlen, hrow, hent⟩ h.r1 h.r2 (by omega) (by have := h.c2; omega)
  exact ⟨this.1, this.2, hlen⟩
theorem fit_wo {f : Nat → Nat} {N c : Nat} {W : Int} (h : FitW f N W) (hc : 1 ≤ c) (hcN : c < N) : FitW (skipF f c) (N - 1) W := by
  refine ⟨by rw [skip_lo (by omega)]; exact h.1, fun k hk h1 => ?_⟩
  by_cases hkc : k < c
  · rw [size_lo hc 1 (by omega)]; exact h.2 k (by omega) h1
  · rw [size_hi hc (by omega)]; exact h.2 (k + 1) (by omega) (by omega)
/-- without row k -/
def rowX (X : List (List (List UInt8))) (k : Nat) : List (List (List UInt8)) := X.take k ++ X.drop (k + 1)
theorem rowX_mem {X : List (List (List UInt8))} {k : Nat} {row : List (List UInt8)} (h : row ∈ rowX X k) : row ∈ X := by
  unfold rowX at h
  rcases List.mem_append.1 h with h | h
  · exact List.mem_of_mem_take h
  · exact List.mem_of_mem_drop h
theorem vx_row {X : List (List (List UInt8))} {k : Nat} (h : VX X) (hk : k < X.length) (h2 : 2 ≤ X.length) : VX (rowX X k) ∧ nCols (rowX X k) = nCols X ∧ (rowX X k).length = X.length - 1 := by
  have hlen : (rowX X k).length = X.length - 1 := by unfold rowX; rw [List.length_append, List.length_take, List.length_drop]; omega
  have := Few.vx (X := rowX X k) (R := X.length - 1) (C := nCols X) ⟨hlen, fun row hr => h.row row (rowX_mem hr), fun row hr => h.ent row (rowX_mem hr)⟩ (by omega) (by have := h.r2; omega) h.c1 h.c2
  exact ⟨this.1, this.2, hlen⟩
theorem colW_row (X : List (List (List UInt8))) (k i : Nat) : colW (rowX X k) i ≤ colW X i := by
  unfold colW
  refine wideL_le fun l hl => ?_
  obtain ⟨row, hr, rfl⟩ := List.mem_map.1 hl
  exact wideL_ge (List.mem_map.2 ⟨row, rowX_mem hr, rfl⟩)
theorem fit_le {f f' : Nat → Nat} {N : Nat} {W W' : Int} (h : FitW f N W) (hf : ∀ i, f' i ≤ f i) (hW : W ≤ W') : FitW f' N W' := by
  refine ⟨by have := h.1; have := hf 0; omega, fun k hk h1 => ?_⟩
  have h3 := h.2 k hk h1
  have h4 := sizeW_le2 hf k 1
  omega
end Go.Proofs.Ytmjkhmebpciopaa
end

/- the text T35 -/
section
/- Chapter 15: the layout of any entries. -/
namespace Go.Proofs.Ytmjkhmebpciopaa
open Go.RowKit Go.Dx

/-- what a layout is -/
def LayOf (X : List (List (List UInt8))) (W : Int) (P : List (List UInt8)) (F Ls : List Nat) : Prop :=
  (errT X W = 0 ∧ ∃ L T, Sol (colW X) (nCols X) X.length W L T 1 ∧ P = pageT (colW X) X (nCols X) T ∧ F = chain (nCols X) T (nCols X) 1 ∧ Ls = leastL (nCols X) L) ∨ (errT X W ≠ 0 ∧ P = [] ∧ F = [] ∧ Ls = [])
theorem LayOf.ex (X : List (List (List UInt8))) (W : Int) : ∃ P F Ls, LayOf X W P F Ls := by
  by_cases h : errT X W = 0
  · obtain ⟨L, T, hS⟩ := Sol.ex (R := X.length) (errT_zero h).2.2.2.cols
    exact ⟨_, _, _, .inl ⟨h, L, T, hS, rfl, rfl, rfl⟩⟩
  · exact ⟨[], [], [], .inr ⟨h, rfl, rfl, rfl⟩⟩
theorem lay_any {X : List (List (List UInt8))} {W : Int} {P : List (List UInt8)} {F Ls : List Nat} (h : LayOf X W P F Ls) (hs : List Hd) (a : Option Addr) (n c : Nat) (w : World) (hp : Pg3 w a n c hs X) :
    Calls Try.prog 10 #[.slice a n c, .int .i64 W] w (GivesLay P F Ls (errT X W) w) := by
  rcases h with ⟨h0, L, T, hS, rfl, rfl, rfl⟩ | ⟨h0, rfl, rfl, rfl⟩
  · rw [h0]; exact tab_Layout X hs a n c W L T w hp h0 hS
  · exact tab_Layout_no X hs a n c W w hp h0
theorem ref_lay_any {X : List (List (List UInt8))} {W : Int} {P : List (List UInt8)} {F Ls : List Nat} (h : LayOf X W P F Ls) (hW : -9223372036854775808 ≤ W ∧ W ≤ 9223372036854775807) (hs : List Hd) (a : Option Addr) (n c : Nat) (w : World) (hp : Pg3 w a n c hs X) :
    Calls Try.prog 11 #[.slice a n c, .int .i64 W] w (GivesLay P F Ls (errT X W) w) := by
  rcases h with ⟨h0, L, T, hS, rfl, rfl, rfl⟩ | ⟨h0, rfl, rfl, rfl⟩
  · rw [h0]; exact ref15_Layout X hs a n c W L T w hp hW h0 hS
  · exact ref15_Layout_no X hs a n c W w hp hW h0
end Go.Proofs.Ytmjkhmebpciopaa
end

/- the text Free3 -/
section
/- A region that draws its order, whose operations that change the world follow one another (CH); the others (TL) leave the world as it is and may come at any time. No program in sight. -/
set_option linter.unusedVariables false
namespace Go.Dx
open Go.RowKit

structure ChInv (l : List Oper) (n : Nat) (CH TL T : List HOp) (a0 : Act) (G : Nat → List Value → World → Prop) (listed : Array Bool) (a : Act) (w : World) : Prop where
  inv : HeadInv .any l.toArray n listed
  defers : a.defers = a0.defers
  size : a.tmps.size = a0.tmps.size
  frame : ∀ k, (∀ t ∈ T, t.d ≠ k) → a.tmps.getD k undef = a0.tmps.getD k undef
  stage : ∃ j, j ≤ CH.length ∧ (∀ m c, CH[m]? = some c → (listed.getD c.i false = true ↔ m < j)) ∧ G j (CH.map fun c => a.tmps.getD c.d undef) w
  facts : ∀ t ∈ TL, listed.getD t.i false = true → t.fact a w

/-- each waits for the one before it -/
def linkOk (ops : Array Oper) : List Nat → Bool
  | i :: j :: l => Region.waitsFor .any ops j i && linkOk ops (j :: l)
  | _ => true
theorem linkOk_get {ops : Array Oper} : ∀ {L : List Nat}, linkOk ops L = true → ∀ m i j, L[m]? = some i → L[m + 1]? = some j → Region.waitsFor .any ops j i = true := by
  intro L
  induction L with
  | nil => intro _ m i j h; cases h
  | cons x L ih =>
    intro h m i j h1 h2
    cases L with
    | nil => cases m <;> simp at h2
    | cons y L =>
      simp only [linkOk, Bool.and_eq_true] at h
      cases m with
      | zero => cases h1; cases h2; exact h.1
      | succ m => exact ih h.2 m i j h1 h2

section
variable {P : Program}
theorem wp_region_chain {id : Nat} {Q : Exit → Act → World → Prop} {a0 : Act} {w0 : World} {l : List Oper} (n : Nat) (G : Nat → List Value → World → Prop) (CH TL : List HOp) (hm : P.follows .mixedOrders = true)
    (hB : (headOk l n ((CH ++ TL).map fun t => (t.i, t.d, t.s)) a0.tmps.size && linkOk l.toArray (CH.map (·.i)) && (TL.all fun t => CH.all fun c => t.i != c.i && t.d != c.d)) = true)
    (hG0 : G 0 (CH.map fun c => a0.tmps.getD c.d undef) { w0 with drawn := w0.drawn + 1 })
    (hmono : All (fun t : HOp => ∀ vs w w', t.p vs w → t.p vs w') TL)
    (hopC : ∀ m c, CH[m]? = some c → ∀ o, l[c.i]? = some o → ∀ (a : Act) (w : World), G m (CH.map fun c => a.tmps.getD c.d undef) w →
      (∀ k, ((CH ++ TL).map (·.d)).contains k = false → a.tmps.getD k undef = a0.tmps.getD k undef) →
      (∀ (k : Nat) (u : HOp), TL[k]? = some u → Region.waitsFor .any l.toArray c.i u.i = true → u.p (u.s.map fun k => a.tmps.getD k undef) w) →
      wpList P l.toArray (OneTurn c.d a fun v w' => G (m + 1) (CH.map fun e => if e.d = c.d then v else a.tmps.getD e.d undef) w') [o] a w)
    (hopL : All (fun t : HOp => ∀ o, l[t.i]? = some o → ∀ (a : Act) (w : World),
      (∀ k, ((CH ++ TL).map (·.d)).contains k = false → a.tmps.getD k undef = a0.tmps.getD k undef) →
      (∀ (k : Nat) (u : HOp), TL[k]? = some u → Region.waitsFor .any l.toArray t.i u.i = true → u.p (u.s.map fun k => a.tmps.getD k undef) w) →
      wpList P l.toArray (OneStill t.d a w fun v w' => t.p (t.s.map fun k => if t.d = k then v else a.tmps.getD k undef) w') [o] a w) TL)
    (hend : ∀ (g : Nat → Value) (w : World), G CH.length (CH.map fun c => g c.d) w → (∀ (k : Nat) (u : HOp), TL[k]? = some u → u.p (u.s.map fun k => if k ∈ (CH ++ TL).map (·.d) then g k else a0.tmps.getD k undef) w) →
      wpList P l.toArray Q (l.drop n) (putAll a0 (((CH ++ TL).map (·.d)).map fun d => (d, g d))) w) : (Code.region id l.toArray true).wp P Q a0 w0 := by
  obtain ⟨T, hTdef⟩ : ∃ T, CH ++ TL = T := ⟨_, rfl⟩
  have memC : ∀ t ∈ CH, t ∈ T := fun t ht => by rw [← hTdef]; exact List.mem_append_left _ ht
  have memL : ∀ t ∈ TL, t ∈ T := fun t ht => by rw [← hTdef]; exact List.mem_append_right _ ht
  have split : ∀ t ∈ T, t ∈ CH ∨ t ∈ TL := fun t ht => by rw [← hTdef] at ht; exact List.mem_append.1 ht
  rw [hTdef] at hB hopC hopL hend
  rw [Bool.and_eq_true, Bool.and_eq_true] at hB
  obtain ⟨⟨hB, hlink⟩, hdis⟩ := hB
  have hdis2 : ∀ t ∈ TL, ∀ c ∈ CH, t.i ≠ c.i ∧ t.d ≠ c.d := by
    intro t ht c hc
    have := List.all_eq_true.1 (List.all_eq_true.1 hdis t ht) c hc
    simpa using this
  have hlk : ∀ m c e, CH[m]? = some c → CH[m + 1]? = some e → Region.waitsFor .any l.toArray e.i c.i = true := fun m c e h1 h2 =>
    linkOk_get hlink m c.i e.i (by rw [List.getElem?_map, h1]; rfl) (by rw [List.getElem?_map, h2]; rfl)
  simp only [headOk, Bool.and_eq_true, decide_eq_true_eq] at hB
  obtain ⟨⟨⟨⟨⟨⟨⟨hnd, hn⟩, hs⟩, hc⟩, hseq⟩, hcov⟩, hT⟩, hpair⟩ := hB
  have hnodup : ∀ t ∈ T, ∀ u ∈ T, t.i = u.i → t = u := inj_nodup (·.i) T (by rw [List.map_map] at hnd; exact hnd)
  have hn' : n < l.toArray.size := by simpa using hn
  have cover : ∀ j, j < n → ∃ t ∈ T, t.i = j := by
    intro j hj
    have h := List.all_eq_true.1 hcov j (List.mem_range.2 hj)
    obtain ⟨x, hx, he⟩ := List.any_eq_true.1 h
    obtain ⟨t, ht, rfl⟩ := List.mem_map.1 hx
    exact ⟨t, ht, by simpa using he⟩
  have own : ∀ t ∈ T, t.i < n ∧ t.d < a0.tmps.size ∧ ∃ o, l[t.i]? = some o ∧ o.dst = some t.d ∧ ∀ e ∈ o.after, Region.binds .any e = true → e.on < t.i := by
    intro t ht
    have h := List.all_eq_true.1 hT _ (List.mem_map.2 ⟨t, ht, rfl⟩)
    simp only [Bool.and_eq_true, decide_eq_true_eq] at h
    obtain ⟨⟨h1, h2⟩, h3⟩ := h
    refine ⟨h1, h2, ?_⟩
    cases ho : l[t.i]? with
    | none => rw [ho] at h3; cases h3
    | some o =>
      rw [ho] at h3
      simp only [Bool.and_eq_true, beq_iff_eq] at h3
      refine ⟨o, rfl, h3.1, fun e he hb => ?_⟩
      have := Array.all_eq_true_iff_forall_mem.1 h3.2 e he
      simpa [hb] using this
  have pair : ∀ t ∈ T, ∀ u ∈ T, t.i ≠ u.i → t.d ≠ u.d ∧ (t.d ∈ u.s → Region.waitsFor .any l.toArray u.i t.i = true) := by
    intro t ht u hu hne
    have h := List.all_eq_true.1 (List.all_eq_true.1 hpair _ (List.mem_map.2 ⟨t, ht, rfl⟩)) _ (List.mem_map.2 ⟨u, hu, rfl⟩)
    simp only [Bool.or_eq_true, beq_iff_eq, hne, false_or, Bool.and_eq_true, bne_iff_ne, ne_eq, Bool.not_eq_true'] at h
    refine ⟨h.1, fun hin => ?_⟩
    rcases h.2 with h2 | h2
    · have : u.s.contains t.d = true := by simpa using hin
      rw [this] at h2; cases h2
    · exact h2
  have key : ∀ (f : Nat) (listed : Array Bool) (a : Act) (w : World), ChInv l n CH TL T a0 G listed a w → todo listed n = f → wpAny P .any l.toArray Q (f + (l.length - n)) listed a w := by
    intro f
    induction f with
    | zero =>
      intro listed a w I h0
      have hall : ∀ j, j < n → listed.getD j true = true := by
        intro j hj
        cases hb : listed.getD j true with
        | true => rfl
        | false =>
          have : j ∈ (List.range n).filter fun j => !listed.getD j true := List.mem_filter.2 ⟨List.mem_range.2 hj, by rw [hb]; rfl⟩
          unfold todo at h0
          rw [List.eq_nil_of_length_eq_zero h0] at this
          cases this
      have hlist : listed = (List.replicate n true ++ List.replicate (l.length - n) false).toArray := by
        have hsz := I.inv.size
        apply Array.ext
        · simp at hsz ⊢; omega
        · intro j h1 h2
          by_cases hj : j < n
          · have := hall j hj
            simp [Array.getD, h1] at this
            simp [this, List.getElem_append_left, hj]
          · have := I.inv.tail j (by omega) (by rw [← hsz]; exact h1)
            simp [Array.getD, h1] at this
            simp only [this, List.getElem_toArray]
            rw [List.getElem_append_right (by simp; omega)]
            simp
      have ha : a = putAll a0 ((T.map (·.d)).map fun d => (d, a.tmps.getD d undef)) := by
        have hd : ∀ d ∈ T.map (·.d), d < a0.tmps.size := by
          intro d hd
          obtain ⟨t, ht, rfl⟩ := List.mem_map.1 hd
          exact (own t ht).2.1
        refine act_ext (by rw [putAll_defers]; exact I.defers) (by rw [putAll_size]; exact I.size) (fun k => ?_)
        rw [putAll_get (fun d => a.tmps.getD d undef) _ _ _ hd]
        by_cases h : k ∈ T.map (·.d)
        · rw [if_pos h]
        · rw [if_neg h]
          exact I.frame k (fun t ht e => h (List.mem_map.2 ⟨t, ht, e⟩))
      have hls : ∀ t ∈ T, listed.getD t.i false = true := by
        intro t ht
        have := hall t.i (own t ht).1
        rcases Nat.lt_or_ge t.i listed.size with h' | h'
        · simp [h'] at this ⊢; exact this
        · have := I.inv.size; have := (own t ht).1; omega
      obtain ⟨j, hj, hjs, hG⟩ := I.stage
      have hjl : j = CH.length := by
        rcases Nat.lt_or_ge j CH.length with h | h
        · have h1 : CH[j]? = some CH[j] := by simp [h]
          have := (hjs j _ h1).1 (hls _ (memC _ (List.getElem_mem h)))
          omega
        · omega
      rw [hjl] at hG
      have hfin := hend (fun d => a.tmps.getD d undef) w hG (fun k u hu => by
        have hu' := List.mem_of_getElem? hu
        have h1 := I.facts u hu' (hls u (memL u hu'))
        unfold HOp.fact at h1
        have e : (u.s.map fun k => if k ∈ T.map (·.d) then a.tmps.getD k undef else a0.tmps.getD k undef) = u.s.map fun k => a.tmps.getD k undef := by
          apply List.map_congr_left
          intro k _
          by_cases h : k ∈ T.map (·.d)
          · rw [if_pos h]
          · rw [if_neg h]
            exact (I.frame k (fun t ht e => h (List.mem_map.2 ⟨t, ht, e⟩))).symm
        rw [e]
        exact h1)
      rw [← ha] at hfin
      rw [Nat.zero_add]
      have hseq' : Region.seqB .any l.toArray (l.drop n).length n listed = true := by rw [hlist, List.length_drop]; exact hseq
      have := wpAny_of_seq (md := .any) (Q' := Q) (l.drop n) n listed a w (fun j => by simp [List.getElem?_drop]) hseq' hfin
      rwa [List.length_drop] at this
    | succ f ih =>
      intro listed a w I hf
      have hex : ∃ j, j < n ∧ listed.getD j true = false := by
        cases hL : (List.range n).filter fun j => !listed.getD j true with
        | nil => unfold todo at hf; rw [hL] at hf; cases hf
        | cons j L =>
          have : j ∈ (List.range n).filter fun j => !listed.getD j true := by rw [hL]; exact List.mem_cons_self
          obtain ⟨h1, h2⟩ := List.mem_filter.1 this
          exact ⟨j, List.mem_range.1 h1, by simpa using h2⟩
      have hready : Region.ready .any l.toArray listed ≠ [] := by
        have hmin : ∀ m j, j ≤ m → j < n → listed.getD j true = false → ∃ i, i ∈ Region.ready .any l.toArray listed := by
          intro m
          induction m with
          | zero =>
            intro j hj hjn hjl
            have hj0 : j = 0 := by omega
            subst hj0
            obtain ⟨t, ht, hti⟩ := cover 0 hjn
            obtain ⟨_, _, o, ho, _, hb⟩ := own t ht
            rw [hti] at ho hb
            exact ⟨0, mem_ready.2 ⟨hjl, o, by simpa using ho, fun e he hbe => absurd (hb e he hbe) (by omega)⟩⟩
          | succ m ihm =>
            intro j hj hjn hjl
            obtain ⟨t, ht, hti⟩ := cover j hjn
            obtain ⟨_, _, o, ho, _, hb⟩ := own t ht
            rw [hti] at ho hb
            by_cases hall : ∀ e ∈ o.after, Region.binds .any e = true → listed.getD e.on false = true
            · exact ⟨j, mem_ready.2 ⟨hjl, o, by simpa using ho, hall⟩⟩
            · simp only [Classical.not_forall] at hall
              obtain ⟨e, he, hbe, hne⟩ := hall
              have hlt := hb e he hbe
              have hes : e.on < listed.size := by rw [I.inv.size]; simp; omega
              exact ihm e.on (by omega) (by omega) (getD_in hes (by simpa using hne))
        obtain ⟨j, hj, hjl⟩ := hex
        obtain ⟨i, hi⟩ := hmin j j (Nat.le_refl _) hj hjl
        intro h
        rw [h] at hi
        cases hi
      rw [show f + 1 + (l.length - n) = (f + (l.length - n)) + 1 by omega]
      refine ⟨fun h => absurd h hready, fun i hi => ?_⟩
      have hin : i < n := by
        rcases Nat.lt_or_ge i n with h | h
        · exact h
        · obtain ⟨j, hj, hjl⟩ := hex
          exact absurd hi (tail_waits hs hc hn' I.inv _ j rfl hj hjl i h)
      obtain ⟨t, ht, hti⟩ := cover i hin
      obtain ⟨_, htd, o, ho, hdst, _⟩ := own t ht
      obtain ⟨hil, oi, hoi, hafter⟩ := mem_ready.1 hi
      have hoo : oi = o := by rw [hti] at ho; exact Option.some.inj (hoi.symm.trans (by simpa using ho))
      subst hoo
      have hframe : ∀ k, (T.map (·.d)).contains k = false → a.tmps.getD k undef = a0.tmps.getD k undef := fun k hk => I.frame k (fun u hu e => by
          have : (T.map (·.d)).contains k = true := by simpa using ⟨u, hu, e⟩
          rw [this] at hk; cases hk)
      have hfacts : ∀ (k : Nat) (u : HOp), TL[k]? = some u → Region.waitsFor .any l.toArray t.i u.i = true → u.p (u.s.map fun k => a.tmps.getD k undef) w := fun k u hu hw => by
        have hu' := List.mem_of_getElem? hu
        obtain ⟨oj, hoj, e, he, hb, hon⟩ := Region.waitsFor_spec hw
        have : oj = oi := by rw [hti] at hoj; exact Option.some.inj (hoj.symm.trans hoi)
        subst this
        have h1 := hafter e he hb
        rw [hon] at h1
        exact I.facts u hu' h1
      have step0 : ∀ (v : Value) (w' : World), (∃ j, j ≤ CH.length ∧ (∀ m c, CH[m]? = some c → ((listed.setIfInBounds i true).getD c.i false = true ↔ m < j)) ∧ G j (CH.map fun c => (a.put (some t.d) v).tmps.getD c.d undef) w') →
          (t ∈ TL → t.p (t.s.map fun k => if t.d = k then v else a.tmps.getD k undef) w') → wpAny P .any l.toArray Q (f + (l.length - n)) (listed.setIfInBounds i true) (a.put (some t.d) v) w' := by
        intro v w' hst hp
        refine ih _ _ _ ⟨I.inv.set hi hin, I.defers, ?_, ?_, hst, ?_⟩ ?_
        · rw [← I.size]; simp [Act.put]
        · intro k hk
          rw [put_get, if_neg (fun h => hk t ht h.1)]
          exact I.frame k hk
        · intro u hu hul
          by_cases hui : t.i = u.i
          · unfold HOp.fact
            have hut : u = t := hnodup u (memL u hu) t ht hui.symm
            subst hut
            have e : (u.s.map fun k => (a.put (some u.d) v).tmps.getD k undef) = u.s.map fun k => if u.d = k then v else a.tmps.getD k undef := by
              apply List.map_congr_left
              intro k _
              rw [put_get, I.size]
              by_cases hk : u.d = k
              · rw [if_pos ⟨hk, htd⟩, if_pos hk]
              · rw [if_neg (fun h => hk h.1), if_neg hk]
            rw [e]
            exact hp hu
          · unfold HOp.fact
            have hul2 : listed.getD u.i false = true := by rw [← getD_set_ne false (i := i) (j := u.i) (by rw [← hti]; exact hui)]; exact hul
            have h1 := hmono.mem u hu _ w w' (I.facts u hu hul2)
            have hnot : t.d ∉ u.s := by
              intro hin2
              have hw := (pair t ht u (memL u hu) hui).2 hin2
              obtain ⟨ou, hou, e, he, hb, hon⟩ := Region.waitsFor_spec hw
              have := I.inv.closed u.i ou hou hul2 e he hb
              rw [hon, hti, getD_both hil] at this
              cases this
            have e : (u.s.map fun k => (a.put (some t.d) v).tmps.getD k undef) = u.s.map fun k => a.tmps.getD k undef := by
              apply List.map_congr_left
              intro k hk
              rw [put_get, if_neg (fun (h : t.d = k ∧ t.d < a.tmps.size) => hnot (by rw [h.1]; exact hk))]
            rw [e]
            exact h1
        · have := todo_set hin hil; omega
      have fin : ∀ (R : Exit → Act → World → Prop), (∀ e a' w', R e a' w' → e = .normal) → (∀ a' w', R .normal a' w' → wpAny P .any l.toArray Q (f + (l.length - n)) (listed.setIfInBounds i true) a' w') → wpList P l.toArray R [oi] a w → wpOp P l.toArray Q i (fun a' w' => wpAny P .any l.toArray Q (f + (l.length - n)) (listed.setIfInBounds i true) a' w') a w := by
        intro R hR step H
        unfold wpList at H
        unfold wpOp
        rw [hoi]
        simp only
        by_cases hwant : Region.wanted oi (yielded l.toArray a.tmps) = true
        · rw [if_pos hwant] at H
          rw [if_pos hwant]
          left
          rcases H with H | ⟨_, a1, w1, h1⟩
          · exact wp_both (fun a' w' h => step a' w' h) (fun e a' w' he h => absurd (hR _ _ _ h) he) H
          · exact absurd (hR _ _ _ h1) (by simp)
        · rw [if_neg hwant] at H
          rw [if_neg hwant]
          exact step _ _ H
      obtain ⟨j, hj, hjs, hG⟩ := I.stage
      rcases split t ht with h | h
      · obtain ⟨j0, hj0l, hj0⟩ := List.mem_iff_getElem.1 h
        have hg0 : CH[j0]? = some t := by rw [List.getElem?_eq_getElem hj0l, hj0]
        have hnl : listed.getD t.i false = false := by rw [hti]; exact getD_both hil
        have h1 : ¬ j0 < j := fun h => by rw [(hjs j0 t hg0).2 h] at hnl; cases hnl
        have h2 : j0 ≤ j := by
          cases j0 with
          | zero => omega
          | succ q =>
            have hq : CH[q]? = some CH[q] := by simp
            obtain ⟨oj, hoj, e, he, hb, hon⟩ := Region.waitsFor_spec (hlk q _ t hq hg0)
            have : oj = oi := by rw [hti] at hoj; exact Option.some.inj (hoj.symm.trans hoi)
            subst this
            have h3 := hafter e he hb
            rw [hon] at h3
            have := (hjs q _ hq).1 h3
            omega
        obtain rfl : j0 = j := by omega
        refine fin _ (fun e a' w' h => h.1) ?_ (hopC j0 t hg0 oi ho a w hG hframe hfacts)
        rintro a' w' ⟨_, v, rfl, hG'⟩
        refine step0 v w' ⟨j0 + 1, by omega, ?_, ?_⟩ (fun hL => absurd rfl (hdis2 t hL t h).1)
        · intro m c hc
          by_cases hci : c.i = i
          · have hct : c = t := hnodup c (memC c (List.mem_of_getElem? hc)) t ht (by rw [hci, hti])
            subst hct
            have hm0 : m = j0 := by
              rcases Nat.lt_trichotomy m j0 with h | h | h
              · have := (hjs m c hc).2 h
                rw [hnl] at this; cases this
              · exact h
              · exfalso
                have hnd2 : (CH.map (·.i)).Nodup := by
                  have h5 := hnd
                  rw [← hTdef, List.map_map, List.map_append] at h5
                  exact (List.nodup_append.1 h5).1
                have h6 : (CH.map (·.i))[m]? = some c.i := by rw [List.getElem?_map, hc]; rfl
                have h7 : (CH.map (·.i))[j0]? = some c.i := by rw [List.getElem?_map, hg0]; rfl
                obtain ⟨hm1, hm2⟩ := List.getElem?_eq_some_iff.1 h6
                have := (List.getElem?_inj hm1 hnd2).1 (h6.trans h7.symm)
                omega
            subst hm0
            have hlt : i < listed.size := by rw [I.inv.size]; simp; have := hn; omega
            rw [hci]
            simp [hlt]
          · rw [getD_set_ne false (fun e => hci e.symm), hjs m c hc]
            constructor
            · intro h; omega
            · intro h
              rcases Nat.lt_or_ge m j0 with h' | h'
              · exact h'
              · obtain rfl : m = j0 := by omega
                rw [hg0] at hc
                cases hc
                exact absurd hti hci
        · have e : (CH.map fun c => (a.put (some t.d) v).tmps.getD c.d undef) = CH.map fun e => if e.d = t.d then v else a.tmps.getD e.d undef := by
            apply List.map_congr_left
            intro c _
            rw [put_get, I.size]
            by_cases hk : t.d = c.d
            · rw [if_pos ⟨hk, htd⟩, if_pos hk.symm]
            · rw [if_neg (fun h => hk h.1), if_neg (fun h => hk h.symm)]
          rw [e]
          exact hG'
      · refine fin _ (fun e a' w' h => h.1) ?_ (hopL.mem t h oi ho a w hframe hfacts)
        rintro a' w' ⟨_, v, rfl, rfl, hp⟩
        refine step0 v _ ⟨j, hj, ?_, ?_⟩ (fun _ => hp)
        · intro m c hc
          rw [getD_set_ne false (by rw [← hti]; exact (hdis2 t h c (List.mem_of_getElem? hc)).1)]
          exact hjs m c hc
        · have e : (CH.map fun c => (a.put (some t.d) v).tmps.getD c.d undef) = CH.map fun c => a.tmps.getD c.d undef := by
            apply List.map_congr_left
            intro c hc
            rw [put_get, if_neg (fun hh => (hdis2 t h c hc).2 hh.1)]
          rw [e]
          exact hG
  refine wp_region_any hm ?_
  have inv0 : HeadInv .any l.toArray n (Array.replicate l.toArray.size false) :=
    ⟨by simp, fun j oj _ hl => (by rw [getD_replicate_false] at hl; cases hl), fun t _ ht => getD_in (by simpa using ht) (getD_replicate_false _ _)⟩
  have I0 : ChInv l n CH TL T a0 G (Array.replicate l.toArray.size false) a0 { w0 with drawn := w0.drawn + 1 } :=
    ⟨inv0, rfl, rfl, fun _ _ => rfl, ⟨0, Nat.zero_le _, fun m c _ => (by rw [getD_replicate_false]; simp), hG0⟩, fun t _ hl => (by rw [getD_replicate_false] at hl; cases hl)⟩
  have ht0 : todo (Array.replicate l.toArray.size false) n = n := by
    unfold todo
    rw [List.filter_eq_self.2 (fun j hj => by
      have hj' := List.mem_range.1 hj
      have : (Array.replicate l.toArray.size false).getD j true = false := getD_in (by simp; omega) (getD_replicate_false _ _)
      rw [this]; rfl), List.length_range]
  have := key n _ _ _ I0 ht0
  rwa [show n + (l.length - n) = l.toArray.size by simp; omega] at this
end
end Go.Dx
end

/- the text Free4 -/
section
/- A region that draws its order: some operations follow one another (CH) and may change what they own; the others (TL) may make memory, come at any time, and their facts outlast what the chain does (R). No program in sight. -/
set_option linter.unusedVariables false
namespace Go.Dx
open Go.RowKit

def headOk4 (l : List Oper) (n : Nat) (T : List (Nat × Nat × List Nat)) : Bool :=
  let ops := l.toArray
  decide ((T.map (·.1)).Nodup) && decide (n < l.length) && Region.sinkB .any ops n && Region.chainB .any ops n && Region.seqB .any ops (l.length - n) n ((List.replicate n true ++ List.replicate (l.length - n) false).toArray) &&
  (List.range n).all (fun j => T.any fun t => t.1 == j) &&
  T.all (fun t => decide (t.1 < n) && (match l[t.1]? with | some o => (o.after.all fun e => !Region.binds .any e || decide (e.on < t.1)) | none => false)) &&
  T.all (fun t => T.all fun u => t.1 == u.1 || (t.2.1 != u.2.1 && (!u.2.2.contains t.2.1 || Region.waitsFor .any ops u.1 t.1)))
theorem putAll_get4 (g : Nat → Value) : ∀ (L : List Nat) (a : Act) (k : Nat), (putAll a (L.map fun d => (d, g d))).tmps.getD k undef = if k ∈ L ∧ k < a.tmps.size then g k else a.tmps.getD k undef := by
  intro L
  induction L with
  | nil => intro a k; simp [putAll]
  | cons d L ih =>
    intro a k
    have hz : (a.put (some d) (g d)).tmps.size = a.tmps.size := by simp [Act.put]
    rw [List.map_cons, putAll, ih, put_get, hz]
    by_cases h0 : k < a.tmps.size
    · by_cases h1 : k ∈ L
      · rw [if_pos ⟨h1, h0⟩, if_pos ⟨List.mem_cons_of_mem _ h1, h0⟩]
      · rw [if_neg (fun h => h1 h.1)]
        by_cases h2 : d = k
        · subst h2; rw [if_pos ⟨rfl, h0⟩, if_pos ⟨List.mem_cons_self, h0⟩]
        · rw [if_neg (fun h => h2 h.1), if_neg (fun h => by rcases List.mem_cons.1 h.1 with h | h; exact h2 h.symm; exact h1 h)]
    · rw [if_neg (fun h => h0 h.2), if_neg (fun h => h0 (by omega)), if_neg (fun h => h0 h.2)]
section
variable {P : Program}
/-- one operation of the chain is done -/
def OneTurn4 (c : HOp) (a : Act) (R : Value → World → Prop) (e : Exit) (a' : Act) (w' : World) : Prop := e = .normal ∧ ∃ v, a' = (if c.s = [] then a.put (some c.d) v else a) ∧ R v w'
theorem put_out (a : Act) (d : Nat) (v : Value) (h : a.tmps.size ≤ d) : a.put (some d) v = a := by
  refine act_ext rfl (by simp [Act.put]) (fun k => ?_)
  rw [put_get, if_neg (fun hh => by omega)]
/-- A chain operation without a slot (a store) is given a slot beyond the frame and 's' not []. -/
theorem wp_region_chain4 {id : Nat} {Q : Exit → Act → World → Prop} {a0 : Act} {w0 : World} {l : List Oper} (n : Nat) (R4 : World → World → Prop) (G : Nat → List Value → World → Prop) (CH TL : List HOp) (hm : P.follows .mixedOrders = true)
    (hB : ((TL.all fun t => decide (t.d < a0.tmps.size)) && (CH.all fun c => if c.s = [] then decide (c.d < a0.tmps.size) else decide (a0.tmps.size ≤ c.d)) && headOk4 l n ((CH ++ TL).map fun t => (t.i, t.d, if TL.any (fun u => u.i == t.i) then t.s else [])) && linkOk l.toArray (CH.map (·.i)) && (TL.all fun t => CH.all fun c => t.i != c.i && t.d != c.d)) = true)
    (hG0 : G 0 (CH.map fun c => a0.tmps.getD c.d undef) { w0 with drawn := w0.drawn + 1 })
    (hR : ∀ w w', Below w.heap.size w w' → R4 w w')
    (hGm : ∀ j vs w w', Below w.heap.size w w' → G j vs w → G j vs w')
    (hmono : All (fun t : HOp => ∀ vs w w', R4 w w' → t.p vs w → t.p vs w') TL)
    (hopC : ∀ m c, CH[m]? = some c → ∀ o, l[c.i]? = some o → ∀ (a : Act) (w : World), G m (CH.map fun c => a.tmps.getD c.d undef) w →
      (∀ k, ((CH ++ TL).map (·.d)).contains k = false → a.tmps.getD k undef = a0.tmps.getD k undef) →
      (∀ (k : Nat) (u : HOp), TL[k]? = some u → Region.waitsFor .any l.toArray c.i u.i = true → u.p (u.s.map fun k => a.tmps.getD k undef) w) →
      wpList P l.toArray (OneTurn4 c a fun v w' => R4 w w' ∧ G (m + 1) (CH.map fun e => if e.d = c.d then (if c.s = [] then v else undef) else a.tmps.getD e.d undef) w') [o] a w)
    (hopL : All (fun t : HOp => ∀ o, l[t.i]? = some o → ∀ (a : Act) (w : World),
      (∀ k, ((CH ++ TL).map (·.d)).contains k = false → a.tmps.getD k undef = a0.tmps.getD k undef) →
      (∀ (k : Nat) (u : HOp), TL[k]? = some u → Region.waitsFor .any l.toArray t.i u.i = true → u.p (u.s.map fun k => a.tmps.getD k undef) w) →
      (∃ j, (∀ m c, CH[m]? = some c → Region.waitsFor .any l.toArray t.i c.i = true → m < j) ∧ j ≤ CH.length ∧ G j (CH.map fun c => a.tmps.getD c.d undef) w) →
      wpList P l.toArray (OneDone t.d a w fun v w' => t.p (t.s.map fun k => if t.d = k then v else a.tmps.getD k undef) w') [o] a w) TL)
    (hend : ∀ (g : Nat → Value) (w : World), G CH.length (CH.map fun c => g c.d) w → (∀ (k : Nat) (u : HOp), TL[k]? = some u → u.p (u.s.map fun k => if k ∈ (CH ++ TL).map (·.d) then g k else a0.tmps.getD k undef) w) →
      wpList P l.toArray Q (l.drop n) (putAll a0 (((CH ++ TL).map (·.d)).map fun d => (d, g d))) w) : (Code.region id l.toArray true).wp P Q a0 w0 := by
  obtain ⟨T, hTdef⟩ : ∃ T, CH ++ TL = T := ⟨_, rfl⟩
  have memC : ∀ t ∈ CH, t ∈ T := fun t ht => by rw [← hTdef]; exact List.mem_append_left _ ht
  have memL : ∀ t ∈ TL, t ∈ T := fun t ht => by rw [← hTdef]; exact List.mem_append_right _ ht
  have split : ∀ t ∈ T, t ∈ CH ∨ t ∈ TL := fun t ht => by rw [← hTdef] at ht; exact List.mem_append.1 ht
  rw [hTdef] at hB hopC hopL hend
  rw [Bool.and_eq_true, Bool.and_eq_true] at hB
  obtain ⟨⟨hB, hlink⟩, hdis⟩ := hB
  rw [Bool.and_eq_true, Bool.and_eq_true] at hB
  obtain ⟨⟨hTLd, hCHd⟩, hB⟩ := hB
  have htl : ∀ t ∈ TL, t.d < a0.tmps.size := fun t ht => by simpa using List.all_eq_true.1 hTLd t ht
  have hch : ∀ c ∈ CH, c.s = [] → c.d < a0.tmps.size := fun c hc hs => by have := List.all_eq_true.1 hCHd c hc; simpa [hs] using this
  have hch2 : ∀ c ∈ CH, c.s ≠ [] → a0.tmps.size ≤ c.d := fun c hc hs => by have := List.all_eq_true.1 hCHd c hc; simpa [hs] using this
  have hdis2 : ∀ t ∈ TL, ∀ c ∈ CH, t.i ≠ c.i ∧ t.d ≠ c.d := by
    intro t ht c hc
    have := List.all_eq_true.1 (List.all_eq_true.1 hdis t ht) c hc
    simpa using this
  have hlk : ∀ m c e, CH[m]? = some c → CH[m + 1]? = some e → Region.waitsFor .any l.toArray e.i c.i = true := fun m c e h1 h2 =>
    linkOk_get hlink m c.i e.i (by rw [List.getElem?_map, h1]; rfl) (by rw [List.getElem?_map, h2]; rfl)
  simp only [headOk4, Bool.and_eq_true, decide_eq_true_eq] at hB
  obtain ⟨⟨⟨⟨⟨⟨⟨hnd, hn⟩, hs⟩, hc⟩, hseq⟩, hcov⟩, hT⟩, hpair⟩ := hB
  have hnodup : ∀ t ∈ T, ∀ u ∈ T, t.i = u.i → t = u := inj_nodup (·.i) T (by rw [List.map_map] at hnd; exact hnd)
  have hn' : n < l.toArray.size := by simpa using hn
  have cover : ∀ j, j < n → ∃ t ∈ T, t.i = j := by
    intro j hj
    have h := List.all_eq_true.1 hcov j (List.mem_range.2 hj)
    obtain ⟨x, hx, he⟩ := List.any_eq_true.1 h
    obtain ⟨t, ht, rfl⟩ := List.mem_map.1 hx
    exact ⟨t, ht, by simpa using he⟩
  have own : ∀ t ∈ T, t.i < n ∧ ∃ o, l[t.i]? = some o ∧ ∀ e ∈ o.after, Region.binds .any e = true → e.on < t.i := by
    intro t ht
    have h := List.all_eq_true.1 hT _ (List.mem_map.2 ⟨t, ht, rfl⟩)
    simp only [Bool.and_eq_true, decide_eq_true_eq] at h
    obtain ⟨h1, h3⟩ := h
    refine ⟨h1, ?_⟩
    cases ho : l[t.i]? with
    | none => rw [ho] at h3; cases h3
    | some o =>
      rw [ho] at h3
      refine ⟨o, rfl, fun e he hb => ?_⟩
      have := Array.all_eq_true_iff_forall_mem.1 h3 e he
      simpa [hb] using this
  have pair : ∀ t ∈ T, ∀ u ∈ T, t.i ≠ u.i → t.d ≠ u.d ∧ (u ∈ TL → t.d ∈ u.s → Region.waitsFor .any l.toArray u.i t.i = true) := by
    intro t ht u hu hne
    have h := List.all_eq_true.1 (List.all_eq_true.1 hpair _ (List.mem_map.2 ⟨t, ht, rfl⟩)) _ (List.mem_map.2 ⟨u, hu, rfl⟩)
    simp only [Bool.or_eq_true, beq_iff_eq, hne, false_or, Bool.and_eq_true, bne_iff_ne, ne_eq, Bool.not_eq_true'] at h
    refine ⟨h.1, fun huL hin => ?_⟩
    have hany : (TL.any fun v => v.i == u.i) = true := List.any_eq_true.2 ⟨u, huL, by simp⟩
    rw [hany, if_pos rfl] at h
    rcases h.2 with h2 | h2
    · have : u.s.contains t.d = true := by simpa using hin
      rw [this] at h2; cases h2
    · exact h2
  have key : ∀ (f : Nat) (listed : Array Bool) (a : Act) (w : World), ChInv l n CH TL T a0 G listed a w → todo listed n = f → wpAny P .any l.toArray Q (f + (l.length - n)) listed a w := by
    intro f
    induction f with
    | zero =>
      intro listed a w I h0
      have hall : ∀ j, j < n → listed.getD j true = true := by
        intro j hj
        cases hb : listed.getD j true with
        | true => rfl
        | false =>
          have : j ∈ (List.range n).filter fun j => !listed.getD j true := List.mem_filter.2 ⟨List.mem_range.2 hj, by rw [hb]; rfl⟩
          unfold todo at h0
          rw [List.eq_nil_of_length_eq_zero h0] at this
          cases this
      have hlist : listed = (List.replicate n true ++ List.replicate (l.length - n) false).toArray := by
        have hsz := I.inv.size
        apply Array.ext
        · simp at hsz ⊢; omega
        · intro j h1 h2
          by_cases hj : j < n
          · have := hall j hj
            simp [Array.getD, h1] at this
            simp [this, List.getElem_append_left, hj]
          · have := I.inv.tail j (by omega) (by rw [← hsz]; exact h1)
            simp [Array.getD, h1] at this
            simp only [this, List.getElem_toArray]
            rw [List.getElem_append_right (by simp; omega)]
            simp
      have ha : a = putAll a0 ((T.map (·.d)).map fun d => (d, a.tmps.getD d undef)) := by
        refine act_ext (by rw [putAll_defers]; exact I.defers) (by rw [putAll_size]; exact I.size) (fun k => ?_)
        rw [putAll_get4 (fun d => a.tmps.getD d undef)]
        by_cases h0 : k < a0.tmps.size
        · by_cases h : k ∈ T.map (·.d)
          · rw [if_pos ⟨h, h0⟩]
          · rw [if_neg (fun hh => h hh.1)]
            exact I.frame k (fun t ht e => h (List.mem_map.2 ⟨t, ht, e⟩))
        · rw [if_neg (fun hh => h0 hh.2)]
          have h1 := I.size
          have hk : ¬ k < a.tmps.size := by omega
          simp [Array.getD, hk, h0]
      have hls : ∀ t ∈ T, listed.getD t.i false = true := by
        intro t ht
        have := hall t.i (own t ht).1
        rcases Nat.lt_or_ge t.i listed.size with h' | h'
        · simp [h'] at this ⊢; exact this
        · have := I.inv.size; have := (own t ht).1; omega
      obtain ⟨j, hj, hjs, hG⟩ := I.stage
      have hjl : j = CH.length := by
        rcases Nat.lt_or_ge j CH.length with h | h
        · have h1 : CH[j]? = some CH[j] := by simp [h]
          have := (hjs j _ h1).1 (hls _ (memC _ (List.getElem_mem h)))
          omega
        · omega
      rw [hjl] at hG
      have hfin := hend (fun d => a.tmps.getD d undef) w hG (fun k u hu => by
        have hu' := List.mem_of_getElem? hu
        have h1 := I.facts u hu' (hls u (memL u hu'))
        unfold HOp.fact at h1
        have e : (u.s.map fun k => if k ∈ T.map (·.d) then a.tmps.getD k undef else a0.tmps.getD k undef) = u.s.map fun k => a.tmps.getD k undef := by
          apply List.map_congr_left
          intro k _
          by_cases h : k ∈ T.map (·.d)
          · rw [if_pos h]
          · rw [if_neg h]
            exact (I.frame k (fun t ht e => h (List.mem_map.2 ⟨t, ht, e⟩))).symm
        rw [e]
        exact h1)
      rw [← ha] at hfin
      rw [Nat.zero_add]
      have hseq' : Region.seqB .any l.toArray (l.drop n).length n listed = true := by rw [hlist, List.length_drop]; exact hseq
      have := wpAny_of_seq (md := .any) (Q' := Q) (l.drop n) n listed a w (fun j => by simp [List.getElem?_drop]) hseq' hfin
      rwa [List.length_drop] at this
    | succ f ih =>
      intro listed a w I hf
      have hex : ∃ j, j < n ∧ listed.getD j true = false := by
        cases hL : (List.range n).filter fun j => !listed.getD j true with
        | nil => unfold todo at hf; rw [hL] at hf; cases hf
        | cons j L =>
          have : j ∈ (List.range n).filter fun j => !listed.getD j true := by rw [hL]; exact List.mem_cons_self
          obtain ⟨h1, h2⟩ := List.mem_filter.1 this
          exact ⟨j, List.mem_range.1 h1, by simpa using h2⟩
      have hready : Region.ready .any l.toArray listed ≠ [] := by
        have hmin : ∀ m j, j ≤ m → j < n → listed.getD j true = false → ∃ i, i ∈ Region.ready .any l.toArray listed := by
          intro m
          induction m with
          | zero =>
            intro j hj hjn hjl
            have hj0 : j = 0 := by omega
            subst hj0
            obtain ⟨t, ht, hti⟩ := cover 0 hjn
            obtain ⟨_, o, ho, hb⟩ := own t ht
            rw [hti] at ho hb
            exact ⟨0, mem_ready.2 ⟨hjl, o, by simpa using ho, fun e he hbe => absurd (hb e he hbe) (by omega)⟩⟩
          | succ m ihm =>
            intro j hj hjn hjl
            obtain ⟨t, ht, hti⟩ := cover j hjn
            obtain ⟨_, o, ho, hb⟩ := own t ht
            rw [hti] at ho hb
            by_cases hall : ∀ e ∈ o.after, Region.binds .any e = true → listed.getD e.on false = true
            · exact ⟨j, mem_ready.2 ⟨hjl, o, by simpa using ho, hall⟩⟩
            · simp only [Classical.not_forall] at hall
              obtain ⟨e, he, hbe, hne⟩ := hall
              have hlt := hb e he hbe
              have hes : e.on < listed.size := by rw [I.inv.size]; simp; omega
              exact ihm e.on (by omega) (by omega) (getD_in hes (by simpa using hne))
        obtain ⟨j, hj, hjl⟩ := hex
        obtain ⟨i, hi⟩ := hmin j j (Nat.le_refl _) hj hjl
        intro h
        rw [h] at hi
        cases hi
      rw [show f + 1 + (l.length - n) = (f + (l.length - n)) + 1 by omega]
      refine ⟨fun h => absurd h hready, fun i hi => ?_⟩
      have hin : i < n := by
        rcases Nat.lt_or_ge i n with h | h
        · exact h
        · obtain ⟨j, hj, hjl⟩ := hex
          exact absurd hi (tail_waits hs hc hn' I.inv _ j rfl hj hjl i h)
      obtain ⟨t, ht, hti⟩ := cover i hin
      obtain ⟨_, o, ho, _⟩ := own t ht
      obtain ⟨hil, oi, hoi, hafter⟩ := mem_ready.1 hi
      have hoo : oi = o := by rw [hti] at ho; exact Option.some.inj (hoi.symm.trans (by simpa using ho))
      subst hoo
      have hframe : ∀ k, (T.map (·.d)).contains k = false → a.tmps.getD k undef = a0.tmps.getD k undef := fun k hk => I.frame k (fun u hu e => by
          have : (T.map (·.d)).contains k = true := by simpa using ⟨u, hu, e⟩
          rw [this] at hk; cases hk)
      have hfacts : ∀ (k : Nat) (u : HOp), TL[k]? = some u → Region.waitsFor .any l.toArray t.i u.i = true → u.p (u.s.map fun k => a.tmps.getD k undef) w := fun k u hu hw => by
        have hu' := List.mem_of_getElem? hu
        obtain ⟨oj, hoj, e, he, hb, hon⟩ := Region.waitsFor_spec hw
        have : oj = oi := by rw [hti] at hoj; exact Option.some.inj (hoj.symm.trans hoi)
        subst this
        have h1 := hafter e he hb
        rw [hon] at h1
        exact I.facts u hu' h1
      have step0 : ∀ (v : Value) (w' : World), R4 w w' → (∃ j, j ≤ CH.length ∧ (∀ m c, CH[m]? = some c → ((listed.setIfInBounds i true).getD c.i false = true ↔ m < j)) ∧ G j (CH.map fun c => (a.put (some t.d) v).tmps.getD c.d undef) w') →
          (t ∈ TL → t.p (t.s.map fun k => if t.d = k then v else a.tmps.getD k undef) w') → wpAny P .any l.toArray Q (f + (l.length - n)) (listed.setIfInBounds i true) (a.put (some t.d) v) w' := by
        intro v w' hrr hst hp
        refine ih _ _ _ ⟨I.inv.set hi hin, I.defers, ?_, ?_, hst, ?_⟩ ?_
        · rw [← I.size]; simp [Act.put]
        · intro k hk
          rw [put_get, if_neg (fun h => hk t ht h.1)]
          exact I.frame k hk
        · intro u hu hul
          by_cases hui : t.i = u.i
          · unfold HOp.fact
            have hut : u = t := hnodup u (memL u hu) t ht hui.symm
            subst hut
            have e : (u.s.map fun k => (a.put (some u.d) v).tmps.getD k undef) = u.s.map fun k => if u.d = k then v else a.tmps.getD k undef := by
              apply List.map_congr_left
              intro k _
              rw [put_get, I.size]
              by_cases hk : u.d = k
              · rw [if_pos ⟨hk, htl _ hu⟩, if_pos hk]
              · rw [if_neg (fun h => hk h.1), if_neg hk]
            rw [e]
            exact hp hu
          · unfold HOp.fact
            have hul2 : listed.getD u.i false = true := by rw [← getD_set_ne false (i := i) (j := u.i) (by rw [← hti]; exact hui)]; exact hul
            have h1 := hmono.mem u hu _ w w' hrr (I.facts u hu hul2)
            have hnot : t.d ∉ u.s := by
              intro hin2
              have hw := (pair t ht u (memL u hu) hui).2 hu hin2
              obtain ⟨ou, hou, e, he, hb, hon⟩ := Region.waitsFor_spec hw
              have := I.inv.closed u.i ou hou hul2 e he hb
              rw [hon, hti, getD_both hil] at this
              cases this
            have e : (u.s.map fun k => (a.put (some t.d) v).tmps.getD k undef) = u.s.map fun k => a.tmps.getD k undef := by
              apply List.map_congr_left
              intro k hk
              rw [put_get, if_neg (fun (h : t.d = k ∧ t.d < a.tmps.size) => hnot (by rw [h.1]; exact hk))]
            rw [e]
            exact h1
        · have := todo_set hin hil; omega
      have fin : ∀ (R : Exit → Act → World → Prop), (∀ e a' w', R e a' w' → e = .normal) → (∀ a' w', R .normal a' w' → wpAny P .any l.toArray Q (f + (l.length - n)) (listed.setIfInBounds i true) a' w') → wpList P l.toArray R [oi] a w → wpOp P l.toArray Q i (fun a' w' => wpAny P .any l.toArray Q (f + (l.length - n)) (listed.setIfInBounds i true) a' w') a w := by
        intro R hR step H
        unfold wpList at H
        unfold wpOp
        rw [hoi]
        simp only
        by_cases hwant : Region.wanted oi (yielded l.toArray a.tmps) = true
        · rw [if_pos hwant] at H
          rw [if_pos hwant]
          left
          rcases H with H | ⟨_, a1, w1, h1⟩
          · exact wp_both (fun a' w' h => step a' w' h) (fun e a' w' he h => absurd (hR _ _ _ h) he) H
          · exact absurd (hR _ _ _ h1) (by simp)
        · rw [if_neg hwant] at H
          rw [if_neg hwant]
          exact step _ _ H
      obtain ⟨j, hj, hjs, hG⟩ := I.stage
      rcases split t ht with h | h
      · obtain ⟨j0, hj0l, hj0⟩ := List.mem_iff_getElem.1 h
        have hg0 : CH[j0]? = some t := by rw [List.getElem?_eq_getElem hj0l, hj0]
        have hnl : listed.getD t.i false = false := by rw [hti]; exact getD_both hil
        have h1 : ¬ j0 < j := fun h => by rw [(hjs j0 t hg0).2 h] at hnl; cases hnl
        have h2 : j0 ≤ j := by
          cases j0 with
          | zero => omega
          | succ q =>
            have hq : CH[q]? = some CH[q] := by simp
            obtain ⟨oj, hoj, e, he, hb, hon⟩ := Region.waitsFor_spec (hlk q _ t hq hg0)
            have : oj = oi := by rw [hti] at hoj; exact Option.some.inj (hoj.symm.trans hoi)
            subst this
            have h3 := hafter e he hb
            rw [hon] at h3
            have := (hjs q _ hq).1 h3
            omega
        obtain rfl : j0 = j := by omega
        refine fin _ (fun e a' w' h => h.1) ?_ (hopC j0 t hg0 oi ho a w hG hframe hfacts)
        rintro a' w' ⟨_, v, ha', hrr, hG'⟩
        obtain rfl : a' = a.put (some t.d) v := by
          rw [ha']
          by_cases hs0 : t.s = []
          · rw [if_pos hs0]
          · rw [if_neg hs0, put_out a t.d v (by rw [I.size]; exact hch2 t h hs0)]
        refine step0 v w' hrr ⟨j0 + 1, by omega, ?_, ?_⟩ (fun hL => absurd rfl (hdis2 t hL t h).1)
        · intro m c hc
          by_cases hci : c.i = i
          · have hct : c = t := hnodup c (memC c (List.mem_of_getElem? hc)) t ht (by rw [hci, hti])
            subst hct
            have hm0 : m = j0 := by
              rcases Nat.lt_trichotomy m j0 with h | h | h
              · have := (hjs m c hc).2 h
                rw [hnl] at this; cases this
              · exact h
              · exfalso
                have hnd2 : (CH.map (·.i)).Nodup := by
                  have h5 := hnd
                  rw [← hTdef, List.map_map, List.map_append] at h5
                  exact (List.nodup_append.1 h5).1
                have h6 : (CH.map (·.i))[m]? = some c.i := by rw [List.getElem?_map, hc]; rfl
                have h7 : (CH.map (·.i))[j0]? = some c.i := by rw [List.getElem?_map, hg0]; rfl
                obtain ⟨hm1, hm2⟩ := List.getElem?_eq_some_iff.1 h6
                have := (List.getElem?_inj hm1 hnd2).1 (h6.trans h7.symm)
                omega
            subst hm0
            have hlt : i < listed.size := by rw [I.inv.size]; simp; have := hn; omega
            rw [hci]
            simp [hlt]
          · rw [getD_set_ne false (fun e => hci e.symm), hjs m c hc]
            constructor
            · intro h; omega
            · intro h
              rcases Nat.lt_or_ge m j0 with h' | h'
              · exact h'
              · obtain rfl : m = j0 := by omega
                rw [hg0] at hc
                cases hc
                exact absurd hti hci
        · have e : (CH.map fun c => (a.put (some t.d) v).tmps.getD c.d undef) = CH.map fun e => if e.d = t.d then (if t.s = [] then v else undef) else a.tmps.getD e.d undef := by
            apply List.map_congr_left
            intro c _
            rw [put_get, I.size]
            by_cases hk : t.d = c.d
            · by_cases hs0 : t.s = []
              · rw [if_pos ⟨hk, hch t h hs0⟩, if_pos hk.symm, if_pos hs0]
              · have h2 := hch2 t h hs0
                rw [if_neg (fun hh => by omega), if_pos hk.symm, if_neg hs0]
                have h1 := I.size
                have hk : ¬ c.d < a.tmps.size := by omega
                simp [Array.getD, hk]
            · rw [if_neg (fun h => hk h.1), if_neg (fun h => hk h.symm)]
          rw [e]
          exact hG'
      · refine fin _ (fun e a' w' h => h.1) ?_ (hopL.mem t h oi ho a w hframe hfacts ⟨j, ?_, hj, hG⟩)
        rotate_left
        · intro m c hc hw
          obtain ⟨oj, hoj, e, he, hb, hon⟩ := Region.waitsFor_spec hw
          have : oj = oi := by rw [hti] at hoj; exact Option.some.inj (hoj.symm.trans hoi)
          subst this
          have h3 := hafter e he hb
          rw [hon] at h3
          exact (hjs m c hc).1 h3
        rintro a' w' ⟨_, v, rfl, hbl, hp⟩
        refine step0 v _ (hR _ _ hbl) ⟨j, hj, ?_, ?_⟩ (fun _ => hp)
        · intro m c hc
          rw [getD_set_ne false (by rw [← hti]; exact (hdis2 t h c (List.mem_of_getElem? hc)).1)]
          exact hjs m c hc
        · have e : (CH.map fun c => (a.put (some t.d) v).tmps.getD c.d undef) = CH.map fun c => a.tmps.getD c.d undef := by
            apply List.map_congr_left
            intro c hc
            rw [put_get, if_neg (fun hh => (hdis2 t h c hc).2 hh.1)]
          rw [e]
          exact hGm _ _ _ _ hbl hG
  refine wp_region_any hm ?_
  have inv0 : HeadInv .any l.toArray n (Array.replicate l.toArray.size false) :=
    ⟨by simp, fun j oj _ hl => (by rw [getD_replicate_false] at hl; cases hl), fun t _ ht => getD_in (by simpa using ht) (getD_replicate_false _ _)⟩
  have I0 : ChInv l n CH TL T a0 G (Array.replicate l.toArray.size false) a0 { w0 with drawn := w0.drawn + 1 } :=
    ⟨inv0, rfl, rfl, fun _ _ => rfl, ⟨0, Nat.zero_le _, fun m c _ => (by rw [getD_replicate_false]; simp), hG0⟩, fun t _ hl => (by rw [getD_replicate_false] at hl; cases hl)⟩
  have ht0 : todo (Array.replicate l.toArray.size false) n = n := by
    unfold todo
    rw [List.filter_eq_self.2 (fun j hj => by
      have hj' := List.mem_range.1 hj
      have : (Array.replicate l.toArray.size false).getD j true = false := getD_in (by simp; omega) (getD_replicate_false _ _)
      rw [this]; rfl), List.length_range]
  have := key n _ _ _ I0 ht0
  rwa [show n + (l.length - n) = l.toArray.size by simp; omega] at this
end
end Go.Dx
end

/- the text T37 -/
section
/- Chapter 15: fewer lines; the rows without one, appended. -/
namespace Go.Proofs.Ytmjkhmebpciopaa
open Go.RowKit Go.Dx

theorem lay_total {X : List (List (List UInt8))} {W : Int} {P : List (List UInt8)} {F Ls : List Nat} (h : LayOf X W P F Ls) (h0 : errT X W = 0) (hX : VX X) : ∃ L T, Sol (colW X) (nCols X) X.length W L T 1 ∧ P.length = if nCols X = 1 then X.length else L 1 := by
  rcases h with ⟨_, L, T, hS, rfl, _, _⟩ | ⟨h, _⟩
  · exact ⟨L, T, hS, hS.total hX.c1⟩
  · exact absurd h0 h
theorem lay_col {X : List (List (List UInt8))} {W : Int} {P P' : List (List UInt8)} {F Ls F' Ls' : List Nat} {c : Nat} (h : LayOf X W P F Ls) (h0 : errT X W = 0) (hX : VX X) (hc : 1 ≤ c) (hcn : c < nCols X)
    (h' : LayOf (woX X c) W P' F' Ls') : errT (woX X c) W = 0 ∧ P'.length ≤ P.length := by
  have hz := errT_zero h0
  have hvx := vx_wo (c := c) hX hcn (by omega)
  have hcw := colW_wo (c := c) hX hcn
  have hf : FitW (colW (woX X c)) (nCols (woX X c)) W := by rw [hcw, hvx.2.1]; exact fit_wo hz.2.2.2 hc hcn
  have h0' : errT (woX X c) W = 0 := errT_ok ⟨hvx.1.back, hz.2.1, hz.2.2.1⟩ hf
  refine ⟨h0', ?_⟩
  obtain ⟨L, T, hS, hT⟩ := lay_total h h0 hX
  obtain ⟨L', T', hS', hT'⟩ := lay_total h' h0' hvx.1
  have hn1 : ¬ nCols X = 1 := by omega
  rw [if_neg hn1] at hT
  rw [hT, hT']
  have hge := hS.ge (k := 1) (Nat.le_refl _) (by omega)
  rw [hcw, hvx.2.1, hvx.2.2] at hS'
  split
  · rw [hvx.2.2]; exact hge
  · rename_i hn
    rw [hvx.2.1] at hn
    exact (hS.skip hS' hc hcn 1 (Nat.le_refl _) (by omega)).2 hc (by omega)
theorem lay_mono {X X' : List (List (List UInt8))} {W W' : Int} {P P' : List (List UInt8)} {F Ls F' Ls' : List Nat} (h : LayOf X W P F Ls) (h0 : errT X W = 0) (hX : VX X) (hX' : VX X') (hn : nCols X' = nCols X)
    (hl : X'.length ≤ X.length) (hf : ∀ i, colW X' i ≤ colW X i) (hW : W ≤ W') (hW' : W' ≤ 1000) (h' : LayOf X' W' P' F' Ls') : errT X' W' = 0 ∧ P'.length ≤ P.length := by
  have hz := errT_zero h0
  have h0' : errT X' W' = 0 := errT_ok ⟨hX'.back, by omega, hW'⟩ (by rw [hn]; exact fit_le hz.2.2.2 hf hW)
  refine ⟨h0', ?_⟩
  obtain ⟨L, T, hS, hT⟩ := lay_total h h0 hX
  obtain ⟨L', T', hS', hT'⟩ := lay_total h' h0' hX'
  rw [hT, hT', hn]
  rw [hn] at hS'
  split
  · exact hl
  · exact hS.mono hS' hf hl hW 1 (Nat.le_refl _) (by have := hX.c1; omega)

section
variable {P : Program} {w : World} {ops : Array Oper} {rest : List Oper} {act : Act} {Q : Exit → Act → World → Prop} {ty : TypeId} {pos : String} {after : Array Edge}
/-- 's[:n]', whatever the world is -/
theorem cut_hi_any (d : Nat) (t : TypeId) (x hi : Operand) (e : TypeId) (ht : P.underlying t = some (.slice e)) (sz : Nat) (hsz : (P.info? e).map (·.size) = some sz)
    (a : Option Addr) (n c : Nat) (hx : act.eval x = .slice a n c) (ku : IntKind) (u : Nat) (hu : act.eval hi = .int ku (u : Int)) (hun : u ≤ c)
    (hK : wpList P ops Q rest (act.put (some d) (.slice a u c)) w) :
    wpList P ops Q ({ dst := some d, op := .slice t x none (some hi) none, type := ty, pos := pos, after := after, guard := none } :: rest) act w := by
  refine wpList_plain rfl fun K hK' => ?_
  obtain ⟨i0, hi0, hs0⟩ := Option.map_eq_some_iff.1 hsz
  have hrun : (Instr.sliceAt t (.slice a n c) none (some (.int ku (u : Int))) none).run P w = .ok (.slice a u c) w := by
    have h3 : (0 : Int) ≤ u ∧ (u : Int) ≤ c := by omega
    simp [Instr.sliceAt, Instr.slice, Instr.sliceBounds, Instr.sliceBound, asIntOf, run_underlying ht, sizeOf, typeInfo, hi0, h3, hun]
    intro _
    cases a with
    | none => rfl
    | some p => simp [Addr.add]
  unfold Oper.wp
  simp [execOp, hx, hu, hrun, Result.andThen]
  exact hK' _ _ hK
/-- 's[n:]', whatever the world is -/
theorem cut_lo_any (d : Nat) (t : TypeId) (x lo : Operand) (e : TypeId) (ht : P.underlying t = some (.slice e)) (hsz : (P.info? e).map (·.size) = some 1)
    (a : Option Addr) (n c : Nat) (hx : act.eval x = .slice a n c) (kl : IntKind) (l : Nat) (hl : act.eval lo = .int kl (l : Int)) (hln : l ≤ n)
    (hK : wpList P ops Q rest (act.put (some d) (.slice (if c = l then a else a.map (·.add l)) (n - l) (c - l))) w) :
    wpList P ops Q ({ dst := some d, op := .slice t x (some lo) none none, type := ty, pos := pos, after := after, guard := none } :: rest) act w := by
  refine wpList_plain rfl fun K hK' => ?_
  obtain ⟨i0, hi0, hs0⟩ := Option.map_eq_some_iff.1 hsz
  have hrun : (Instr.sliceAt t (.slice a n c) (some (.int kl (l : Int))) none none).run P w = .ok (.slice (if c = l then a else a.map (·.add l)) (n - l) (c - l)) w := by
    have h2 : (0 : Int) ≤ l ∧ (l : Int) ≤ n := by omega
    simp [Instr.sliceAt, Instr.slice, Instr.sliceBounds, Instr.sliceBound, asIntOf, run_underlying ht, sizeOf, typeInfo, hi0, hs0, h2, hln]
  unfold Oper.wp
  simp only [execOp, Option.map_some, Option.map_none, hx, hl, Sem.run_bind, hrun, Result.andThen, Sem.run_pure]
  exact hK' _ _ hK
end
/-- a block of certificates stays one -/
def KeepsC (w w' : World) : Prop := ∀ (k : Nat) (C : Array Value) (z : Nat × Nat), w.heap[k]? = some (.cells C 31 z) → ∃ C' : Array Value, C'.size = C.size ∧ w'.heap[k]? = some (.cells C' 31 z)
theorem KeepsC.of {w w' : World} (h : Below w.heap.size w w') : KeepsC w w' := fun k C _ hk => ⟨C, rfl, (h.block k (Array.getElem?_eq_some_iff.1 hk).1).trans hk⟩
theorem KeepsC.own {w w' : World} {B : Nat} {a : Option Addr} {n c : Nat} {cs : List Value} (ho : Own w B 28 1 a n c cs) (hg : w.grownBy w' (a.map (·.block))) : KeepsC w w' := fun k C z hk =>
  ⟨C, rfl, (hg.block k (Array.getElem?_eq_some_iff.1 hk).1 (fun e => by
    cases a with
    | none => cases e
    | some t =>
      obtain ⟨C', z', h⟩ := own_kind ho
      have e' : k = t.block := by simpa using e
      rw [e', h] at hk
      injection hk with hk
      injection hk with _ hk _
      exact absurd hk (by decide))).trans hk⟩
theorem KeepsC.put {w w' : World} {b : Nat} {cs ds : List Value} (hb : Box w b 31 cs) (hl : ds.length = cs.length) (hd : Box w' b 31 ds) (hg : w.grownBy w' (some b)) : KeepsC w w' := fun k C z hk => by
  by_cases h : k = b
  · subst h
    unfold Box at hb hd
    rw [hb] at hk
    injection hk with hk
    injection hk with h1 h2 h3
    subst h1 h3
    exact ⟨ds.toArray, by simpa using hl, hd⟩
  · exact ⟨C, rfl, (hg.block k (Array.getElem?_eq_some_iff.1 hk).1 (fun e => h (by simpa using e))).trans hk⟩
/-- a certificate's block, whatever it holds -/
def BoxC (w : World) (b : Nat) : Prop := ∃ cs : List Value, cs.length = 2 ∧ Box w b 31 cs
theorem KeepsC.box {w w' : World} (h : KeepsC w w') {b : Nat} (hb : BoxC w b) : BoxC w' b := by
  obtain ⟨cs, h1, h2⟩ := hb
  obtain ⟨C', h3, h4⟩ := h b _ _ h2
  exact ⟨C'.toList, by rw [Array.length_toList, h3]; simpa using h1, by unfold Box; rw [h4]⟩
/-- the answer of a layout, its page of M lines -/
def AnsM (M : Nat) (v : Value) : Prop := ∃ a c af nf cf al nl cl, v = .tuple #[.slice a M c, .agg #[.slice af nf cf, .slice al nl cl], .int .i64 0]
/-- how far 'append(append([][][]byte{}, x[:k]...), x[k+1:]...)' and its layout are -/
def GF (w0 : World) (hs : List Hd) (N k M : Nat) : Nat → List Value → World → Prop
  | 0, _, w => Below w0.heap.size w0 w
  | 1, vs, w => ∃ b, vs.getD 0 undef = .slice (some ⟨b, 0, none⟩) 0 0 ∧ Own w w0.heap.size 28 1 (some ⟨b, 0, none⟩) 0 0 [] ∧ Below w0.heap.size w0 w
  | 2, vs, w => ∃ a c, vs.getD 1 undef = .slice a k c ∧ Own w w0.heap.size 28 1 a k c ((hs.take k).map hv) ∧ Below w0.heap.size w0 w
  | 3, vs, w => ∃ a c, vs.getD 2 undef = .slice a (k + (N - (k + 1))) c ∧ Own w w0.heap.size 28 1 a (k + (N - (k + 1))) c ((hs.take k).map hv ++ (hs.drop (k + 1)).map hv) ∧ Below w0.heap.size w0 w
  | 4, vs, w => AnsM M (vs.getD 3 undef) ∧ Below w0.heap.size w0 w
  | _, vs, w => AnsM M (vs.getD 3 undef) ∧ (∃ a c, vs.getD 4 undef = .slice a M c) ∧ Below w0.heap.size w0 w
theorem GF.ans {w0 w : World} {hs : List Hd} {N k M : Nat} {vs : List Value} : ∀ {j}, 4 ≤ j → GF w0 hs N k M j vs w → AnsM M (vs.getD 3 undef) := by
  intro j hj h
  match j, h with
  | 4, h => exact h.1
  | _ + 5, h => exact h.1
theorem GF.bel {w0 w : World} {hs : List Hd} {N k M : Nat} {vs : List Value} : ∀ {j}, GF w0 hs N k M j vs w → Below w0.heap.size w0 w := by
  intro j h
  match j, h with
  | 0, h => exact h
  | 1, ⟨_, _, _, h⟩ => exact h
  | 2, ⟨_, _, _, _, h⟩ => exact h
  | 3, ⟨_, _, _, _, h⟩ => exact h
  | 4, ⟨_, h⟩ => exact h
  | _ + 5, ⟨_, _, h⟩ => exact h
theorem GF.mono {w0 : World} {hs : List Hd} {N k M : Nat} : ∀ j vs w w', Below w.heap.size w w' → GF w0 hs N k M j vs w → GF w0 hs N k M j vs w' := by
  intro j vs w w' hb h
  match j, h with
  | 0, h => exact Below.trans h (hb.mono (Below.size h))
  | 1, ⟨b, h1, h2, h3⟩ => exact ⟨b, h1, h2.below hb, h3.trans (hb.mono h3.size)⟩
  | 2, ⟨a, c, h1, h2, h3⟩ => exact ⟨a, c, h1, h2.below hb, h3.trans (hb.mono h3.size)⟩
  | 3, ⟨a, c, h1, h2, h3⟩ => exact ⟨a, c, h1, h2.below hb, h3.trans (hb.mono h3.size)⟩
  | 4, ⟨h1, h3⟩ => exact ⟨h1, h3.trans (hb.mono h3.size)⟩
  | _ + 5, ⟨h1, h2, h3⟩ => exact ⟨h1, h2, h3.trans (hb.mono h3.size)⟩
theorem rowX_pg3 {w w' : World} {a : Option Addr} {n c k : Nat} {hs : List Hd} {X : List (List (List UInt8))} (h : Pg3 w a n c hs X) (hk : k < X.length) {a' : Option Addr} {c' : Nat}
    (hs' : Sl w' 1 a' (k + (X.length - (k + 1))) c' ((hs.take k).map hv ++ (hs.drop (k + 1)).map hv)) (hb : Below w.heap.size w w') : Pg3 w' a' (k + (X.length - (k + 1))) c' (hs.take k ++ hs.drop (k + 1)) (rowX X k) := by
  have hl := h.len
  refine ⟨by rw [List.map_append]; exact hs', by unfold rowX; simp [hl], fun i x p h1 h2 => ?_⟩
  have hg : ∀ j, hs[j]? = some x → X[j]? = some p → ∃ ks, Pg w' x.1 x.2.1 x.2.2 ks p := fun j h1 h2 => by obtain ⟨ks, hks⟩ := h.row j x p h1 h2; exact ⟨ks, hks.below hb⟩
  unfold rowX at h2
  have l1 : (hs.take k).length = k := by rw [List.length_take]; omega
  have l2 : (X.take k).length = k := by rw [List.length_take]; omega
  by_cases hik : i < k
  · rw [List.getElem?_append_left (by omega), List.getElem?_take, if_pos hik] at h1 h2
    exact hg i h1 h2
  · rw [List.getElem?_append_right (by omega), l1, List.getElem?_drop] at h1
    rw [List.getElem?_append_right (by omega), l2, List.getElem?_drop] at h2
    exact hg _ h1 h2
theorem V3.pg3_len {w0 w : World} {B : Nat} {e : TypeId} {a : Option Addr} {c : Nat} {hs : List Hd} {X : List (List (List UInt8))} {k : Nat} (h : V3 w0 w B e a c hs (woX X k)) : (woX X k).length = X.length := by unfold woX; simp
theorem pg3_n {w : World} {a : Option Addr} {n c n' : Nat} {hs : List Hd} {X : List (List (List UInt8))} (h : Pg3 w a n c hs X) (e : n = n') : Pg3 w a n' c hs X := e ▸ h
end Go.Proofs.Ytmjkhmebpciopaa
end

/- the text T36 -/
section
/- Chapter 15: the walk of TabularFits. -/
namespace Go.Proofs.Ytmjkhmebpciopaa
open Go.RowKit Go.Dx

set_option maxRecDepth 100000 in
set_option maxHeartbeats 1000000 in
theorem walk_TabularFits (l : List Int) (a : Option Addr) (n c : Nat) (wd mo at_ : Int) (w : World) (hs : Sl w 1 a n c (l.map I64)) (hl : ∀ x ∈ l, -9223372036854775808 ≤ x ∧ x ≤ 9223372036854775807)
    (hwd : -9223372036854775808 ≤ wd ∧ wd ≤ 9223372036854775807) (hmo : -9223372036854775808 ≤ mo ∧ mo ≤ 9223372036854775807) (hat : -9223372036854775808 ≤ at_ ∧ at_ ≤ 9223372036854775807) :
    Calls Try.prog 5 #[.slice a n c, .int .i64 wd, .int .i64 mo, .int .i64 at_] w fun e w' => e = .returned (.bool true) ∧ Below w.heap.size w w' := by
  obtain ⟨r, Hr⟩ : ∃ r, Hid (aroundF wd 30 = r) := ⟨_, hide rfl⟩
  have hr : r < 30 := by rw [← Hr.out]; exact aroundF_lt (by omega)
  have hA := fun (w : World) => Around_at (w := w) Hr.out (v := 30) rfl (by omega) (by omega) hwd.1 hwd.2
  have hE := ref15_Entries l a n c w hs hl
  go_enter Try.func5, Try.ntmps5
  go_wp2_with fail
  refine hE.mono ?_
  rintro e w1 ⟨X, aX, cX, hsX, rfl, HX, hX4, hC6, hO, hb1⟩
  have hp1 := hO.pg
  clear hE hO hs hl
  go_wp2_with fail
  refine (hA _).mono ?_
  rintro e w2 ⟨rfl, rfl⟩
  obtain ⟨P, F, Ls, hlay⟩ := LayOf.ex X (4 + (r : Int))
  go_wp2_with fail
  refine (lay_any hlay hsX aX X.length cX w1 hp1).mono ?_
  rintro e w2 ⟨ap, cp, hsp, af, cf, al, cl, rfl, hpgP, _, _, hb2⟩
  have b12 := hb1.trans (hb2.mono hb1.size)
  have HLAY := hide hlay
  rcases hlay with ⟨h0, L, T, hS, hP, hF, hLs⟩ | ⟨h0, rfl, rfl, rfl⟩
  case inr =>
    have h14 : errT X (4 + (r : Int)) = 14 := by
      by_cases hf : FitW (colW X) (nCols X) (4 + (r : Int))
      · exact absurd (errT_ok ⟨HX.back, by omega, by omega⟩ hf) h0
      · exact errT_wide ⟨HX.back, by omega, by omega⟩ hf
    rw [h14]
    clear h0 h14
    go_wp2_with (with_reducible refine store_all 31 _ _ 31 _ _ [.slice af 0 cf, .slice al 0 cl] _ (size_tcert _ _) (Box.new w2 _ _) rfl rfl rfl (Eq.refl 2) (by simp [Value.oneCell']) ?_; intro w3 hx3 hg3 hs3)
    have b23 : Below w2.heap.size w2 w3 := (blo w2 _).grown hg3 (by simp) (fun k hk => by cases hk; exact Nat.le_refl _)
    refine (law15_lives w3).mono ?_
    rintro e w4 ⟨rfl, b4⟩
    go_wp2_with fail
    go_ret
    exact ⟨rfl, (b12.trans (b23.mono b12.size)).trans (b4.mono (Nat.le_trans b12.size b23.size))⟩
  rw [h0]
  have H0 := hide h0
  have HS := hide hS
  have HP := hide hP
  have hfit := (errT_zero h0).2.2.2
  have HWID : Hid (∀ l ∈ P, (l.length : Int) ≤ 4 + (r : Int)) := hide (by rw [hP]; exact pageT_wide hS hfit)
  have HTOT : Hid (P.length = if nCols X = 1 then X.length else L 1) := hide (by rw [hP]; exact hS.total HX.c1)
  have HFIT := hide hfit
  clear h0 hS hP hF hLs hfit
  go_wp2_with (with_reducible refine store_all 31 _ _ 31 _ _ [.slice af F.length cf, .slice al Ls.length cl] _ (size_tcert _ _) (Box.new w2 _ _) rfl rfl rfl (Eq.refl 2) (by simp [Value.oneCell']) ?_; intro w3 hx3 hg3 hs3)
  have b23 : Below w2.heap.size w2 w3 := (blo w2 _).grown hg3 (by simp) (fun k hk => by cases hk; exact Nat.le_refl _)
  have b13 := b12.trans (b23.mono b12.size)
  have hp3 := hp1.below (hb2.trans (b23.mono hb2.size))
  have hpg3 := hpgP.below b23
  clear hx3 hg3 hs3 b23 b12 hb2 hb1 hpgP hp1
  have hPm := Nat.le_trans hpg3.top.le hpg3.top.cap
  unfold maxLen at hPm
  go_loopg [14] P.length (fun g i' w' => ∃ i : Nat, i ≤ P.length ∧ g = P.length - i ∧ i' = .int .i64 (i : Int) ∧ w3 = w')
  case atStart => exact ⟨0, by omega, by omega, rfl, rfl⟩
  case round =>
    obtain ⟨i, hi, hg, rfl, rfl⟩ := hrel
    have HG := hide hg
    clear hg
    by_cases hil : i < P.length
    · obtain ⟨x, hx⟩ : ∃ x, P[i]? = some x := ⟨P[i], by simp [hil]⟩
      obtain ⟨ax, cx, hu, hsx⟩ := hpg3.get hx
      have HU := hide hu
      have hw := HWID.out x (List.mem_of_getElem? hx)
      have d1 : decide (4 + (r : Int) < (x.length : Int)) = false := decide_eq_false (by omega)
      clear hx hu
      go_wp2_with (with_reducible refine idx_p 52 _ _ _ _ _ hsp rfl hpg3.top _ _ i rfl rfl _ HU.out ?_; intro b o hcell hbo)
      go_roundg (P.length - (i + 1))
      case measure => have := HG.out; omega
      case rel => exact ⟨i + 1, by omega, rfl, by go_num, rfl⟩
    · obtain rfl : P.length = i := by omega
      obtain ⟨r2, Hr2⟩ : ∃ r, Hid (aroundF mo 30 = r) := ⟨_, hide rfl⟩
      have hr2 : r2 < 30 := by rw [← Hr2.out]; exact aroundF_lt (by omega)
      have hA2 := fun (w : World) => Around_at (w := w) Hr2.out (v := 30) rfl (by omega) (by omega) hmo.1 hmo.2
      have hf2 := fit_le (f' := colW X) (W' := 4 + (r : Int) + (r2 : Int)) HFIT.out (fun _ => Nat.le_refl _) (by omega)
      have h02 : errT X (4 + (r : Int) + (r2 : Int)) = 0 := errT_ok ⟨HX.back, by omega, by omega⟩ hf2
      obtain ⟨P2, F2, Ls2, hlay2⟩ := LayOf.ex X (4 + (r : Int) + (r2 : Int))
      have HP2 : Hid (P2.length ≤ P.length) := hide (by
        rcases hlay2 with ⟨_, L2, T2, hS2, rfl, _, _⟩ | ⟨h, _⟩
        · rw [hS2.total HX.c1, HTOT.out]
          split
          · exact Nat.le_refl _
          · rename_i hn
            exact HS.out.mono hS2 (fun _ => Nat.le_refl _) (Nat.le_refl _) (by omega) 1 (Nat.le_refl _) (by have := HX.c1; omega)
        · exact absurd h02 h)
      go_wp2_with fail
      refine (hA2 _).mono ?_
      rintro e w4 ⟨rfl, rfl⟩
      go_wp2_with fail
      have hl2 := lay_any hlay2 hsX aX X.length cX _ hp3
      rw [h02] at hl2
      refine hl2.mono ?_
      rintro e w4 ⟨ap2, cp2, hsp2, af2, cf2, al2, cl2, rfl, _, _, _, hb4⟩
      have d2 : decide (P.length < P2.length) = false := decide_eq_false (by have := HP2.out; omega)
      clear hl2 h02 hf2 hlay2
      go_upto_region 14 with (with_reducible refine store_all 31 _ _ 31 _ _ [.slice af2 F2.length cf2, .slice al2 Ls2.length cl2] _ (size_tcert _ _) (Box.new w4 _ _) rfl rfl rfl (Eq.refl 2) (by simp [Value.oneCell']) ?_; intro w5 hx5 hg5 hs5)
      have b45 : Below w4.heap.size w4 w5 := (blo w4 _).grown hg5 (by simp) (fun k hk => by cases hk; exact Nat.le_refl _)
      have b35 := hb4.trans (b45.mono hb4.size)
      have b15 := b13.trans (b35.mono b13.size)
      have hp5 := hp3.below b35
      clear hx5 hg5 hs5 b45 hb4 b35
      obtain ⟨x0, hx0⟩ : ∃ x, X[0]? = some x := ⟨X[0]'(by have := HX.r1; omega), by simp⟩
      have HN0 := hide (nCols_of hx0)
      obtain ⟨ax0, cx0, ks0, hu0, hpx0⟩ := hp5.get hx0
      have HU0 := hide hu0
      have hn1 := HX.c1
      have hn2 := HX.c2
      have hr1 := HX.r1
      have hr2 := HX.r2
      rw [HN0.out] at hn1 hn2
      have hc6' : ∀ row ∈ X, row.length ≤ 1000 := fun row hr => by have := HX.row row hr; have := HX.c2; omega
      have HC6 := hide hc6'
      clear hx0 hu0 hc6'
      go_upto_if 80 with (with_reducible refine idx_3 77 _ _ _ _ _ hsX rfl hp5.top _ _ 0 rfl rfl _ HU0.out ?_; intro b o hcell hbo)
      go_cut [18] from 18 to 105 (fun s w' => Below w5.heap.size w5 w')
      case first =>
        by_cases hn : 1 < x0.length
        · have d3 : decide (1 < (x0.length : Int)) = true := decide_eq_true (by omega)
          obtain ⟨m, Hm⟩ : ∃ m, Hid (x0.length = m + 1) := ⟨x0.length - 1, hide (by omega)⟩
          obtain ⟨k, Hk⟩ : ∃ k, Hid (aroundF at_ m = k) := ⟨_, hide rfl⟩
          have hm := Hm.out
          have hk : k < m := by rw [← Hk.out]; exact aroundF_lt (by omega)
          have hA3 := fun (w : World) => Around_at (w := w) Hk.out (v := (x0.length : Int) - 1) (by omega) (by omega) (by omega) hat.1 hat.2
          obtain ⟨P3, F3, Ls3, hlay3⟩ := LayOf.ex (woX X (1 + k)) (4 + (r : Int))
          have HP3 := hide (lay_col HLAY.out H0.out HX (by omega) (by rw [HN0.out]; omega) hlay3)
          have HL3 := hide hlay3
          have hW := law15_without X hsX aX X.length cX (1 + k) w5 hp5 (by omega) HC6.out
          rw [show ((1 + k : Nat) : Int) = 1 + (k : Int) by omega] at hW
          have hk2 : k < 12 := by omega
          clear hlay3 hm
          go_wp2_with (with_reducible refine idx_3 85 _ _ _ _ _ hsX rfl hp5.top _ _ 0 rfl rfl _ HU0.out ?_; intro b o hcell hbo)
          refine (hA3 _).mono ?_
          rintro e w6 ⟨rfl, rfl⟩
          go_wp2_with fail
          refine hW.mono ?_
          rintro e w6 ⟨a6, c6, hs6, rfl, hv6, hb6⟩
          have hp6 := hv6.pg3 hb6
          have hl3 := lay_any HL3.out _ _ _ _ _ (pg3_n hp6 hv6.pg3_len)
          rw [HP3.out.1] at hl3
          clear hW
          go_wp2_with fail
          refine hl3.mono ?_
          rintro e w7 ⟨a7, c7, hs7, af7, cf7, al7, cl7, rfl, _, _, _, hb7⟩
          have hb57 := hb6.trans (hb7.mono hb6.size)
          have hpl := HP3.out.2
          have d4 : decide (P.length < P3.length) = false := decide_eq_false (by omega)
          clear hl3 HP3 hpl
          go_wp2_with (with_reducible refine store_all 31 _ _ 31 _ _ [.slice af7 F3.length cf7, .slice al7 Ls3.length cl7] _ (size_tcert _ _) (Box.new w7 _ _) rfl rfl rfl (Eq.refl 2) (by simp [Value.oneCell']) ?_; intro w8 hx8 hg8 hs8)
          go_meet
          exact hb57.trans (((blo w7 _).grown hg8 (by simp) (fun k hk => by cases hk; exact Nat.le_refl _)).mono hb57.size)
        · have d3 : decide (1 < (x0.length : Int)) = false := decide_eq_false (by omega)
          go_wp2_with fail
          go_meet
          exact Below.refl _ _
      case rest =>
        have hpc := hp5.below hcut
        have b1c := b15.trans (hcut.mono b15.size)
        clear hp5 b15 hcut hcell hbo hpx0 HU0
        by_cases hX1 : 1 < X.length
        case neg =>
          have d3 : decide (1 < (X.length : Int)) = false := decide_eq_false (by omega)
          go_wp2_with fail
          refine (law15_lives wc).mono ?_
          rintro e w4 ⟨rfl, b4⟩
          go_wp2_with fail
          go_ret
          exact ⟨rfl, b1c.trans (b4.mono b1c.size)⟩
        case pos =>
          have d3 : decide (1 < (X.length : Int)) = true := decide_eq_true (by omega)
          obtain ⟨k, Hk⟩ : ∃ k, Hid (aroundF at_ X.length = k) := ⟨_, hide rfl⟩
          have hkl : k < X.length := by rw [← Hk.out]; exact aroundF_lt (by omega)
          have hkX : k + 1 ≤ X.length := hkl
          have hcapX := hpc.top.le
          have hkc : k ≤ cX := by omega
          have hA3 := fun (w : World) => Around_at (w := w) Hk.out (v := (X.length : Int)) rfl (by omega) (by omega) hat.1 hat.2
          have hrow := vx_row (k := k) HX hkl hX1
          obtain ⟨P3, F3, Ls3, hlay3⟩ := LayOf.ex (rowX X k) (4 + (r : Int))
          have hP3 := lay_mono HLAY.out H0.out HX hrow.1 hrow.2.1 (by rw [hrow.2.2]; omega) (colW_row X k) (Int.le_refl _) (by omega) hlay3
          have h03 := hP3.1
          have hpl := hP3.2
          have d4 : decide (P.length < P3.length) = false := decide_eq_false (by omega)
          have HL3 := hide hlay3
          obtain ⟨aR, HAR⟩ : ∃ aR, Hid ((if cX = k + 1 then aX else aX.map (·.add (k + 1))) = aR) := ⟨_, hide rfl⟩
          have hTK := hpc.top.cut 0 k (Nat.zero_le _) (by omega)
          have hDR := hpc.top.cut (k + 1) X.length hkX (Nat.le_refl _)
          rw [show (k + 1) * 1 = k + 1 by omega, HAR.out, show ((hsX.map hv).drop (k + 1)).take ((X.length - (k + 1)) * 1) = (hsX.drop (k + 1)).map hv by
            rw [List.map_drop]; apply List.take_of_length_le; have := hpc.len; rw [List.length_drop, List.length_map]; omega] at hDR
          have hTK2 : Sl wc 1 aX k cX ((hsX.take k).map hv) := by
            have e1 : (if cX = 0 then aX else aX.map (·.add (0 * 1))) = aX := by
              split
              · rfl
              · cases aX <;> simp [Addr.add]
            rw [e1] at hTK
            simpa [List.map_take] using hTK
          clear hlay3 hP3 hrow hTK
          have hTK := hTK2
          clear hTK2
          have HH03 := hide h03
          clear h03
          go_wp2_with fail
          refine (hA3 _).mono ?_
          rintro e w6 ⟨rfl, rfl⟩
          go_upto_region 20 with fail
          have h03 := HH03.out
          clear hA3
          refine wp_region_chain4 19 KeepsC (GF wc hsX X.length k P3.length) [⟨0, 114, [], fun _ _ => True⟩, ⟨4, 118, [], fun _ _ => True⟩, ⟨9, 123, [], fun _ _ => True⟩, ⟨11, 125, [], fun _ _ => True⟩, ⟨17, 22, [], fun _ _ => True⟩, ⟨18, 139, [0], fun _ _ => True⟩] [⟨1, 115, [115], fun vs _ => vs = [.slice aX X.length cX]⟩, ⟨2, 116, [116], fun vs _ => vs = [.int .i64 (k : Int)]⟩, ⟨3, 117, [117], fun vs _ => vs = [.slice aX k cX]⟩, ⟨5, 119, [119], fun vs _ => vs = [.slice aX X.length cX]⟩, ⟨6, 120, [120], fun vs _ => vs = [.int .i64 (k : Int)]⟩, ⟨7, 121, [121], fun vs _ => vs = [.int .i64 ((k + 1 : Nat) : Int)]⟩, ⟨8, 122, [122], fun vs _ => vs = [.slice aR (X.length - (k + 1)) (cX - (k + 1))]⟩, ⟨10, 124, [124], fun vs _ => vs = [.int .i64 (4 + (r : Int))]⟩, ⟨12, 113, [113], fun vs _ => AnsM P3.length (vs.getD 0 undef)⟩, ⟨13, 126, [126], fun vs _ => ∃ a c, vs = [.slice a P3.length c]⟩, ⟨14, 127, [127], fun vs _ => ∃ af nf cf al nl cl, vs = [.agg #[.slice af nf cf, .slice al nl cl]]⟩, ⟨15, 128, [128], fun vs _ => vs = [.int .i64 0]⟩, ⟨16, 23, [23], fun vs w => ∃ b, vs = [.pointer (some ⟨b, 0, none⟩)] ∧ wc.heap.size ≤ b ∧ BoxC w b⟩] (by kernel_rfl) (by kernel_rfl) ?_ (fun _ _ h => KeepsC.of h) GF.mono ?_ ?_ ?_ ?_
          · exact (Still.below 1 : Below wc.heap.size wc (wc.drewN 1))
          · simp only [All]
            refine ⟨fun _ _ _ _ h => h, fun _ _ _ _ h => h, fun _ _ _ _ h => h, fun _ _ _ _ h => h, fun _ _ _ _ h => h, fun _ _ _ _ h => h, fun _ _ _ _ h => h, fun _ _ _ _ h => h, fun _ _ _ _ h => h, fun _ _ _ _ h => h, fun _ _ _ _ h => h, fun _ _ _ _ h => h, fun vs w1 w2 hr ⟨b, h1, h0, h2⟩ => ⟨b, h1, h0, hr.box h2⟩, trivial⟩
          · intro m c hc o ho a w' hG hfr hdep
            rcases m with _ | _ | _ | _ | _ | _ | m
            · cases hc
              obtain rfl := Option.some.inj ho
              have hB : Below wc.heap.size wc w' := hG
              go_wp2_with fail
              have hbl := (Below.refl w'.heap.size w').alloc (Nat.le_refl _) (.cells #[] 28)
              exact ⟨rfl, _, rfl, KeepsC.of hbl, w'.heap.size, rfl, Own.built w' wc.heap.size 28 1 0 #[] hB.size rfl (by decide), hB.alloc hB.size _⟩
            · cases hc
              obtain rfl := Option.some.inj ho
              obtain ⟨b, g114, hob, hB⟩ := hG
              replace g114 : a.tmps.getD 114 undef = .slice (some ⟨b, 0, none⟩) 0 0 := g114
              have g117 : a.tmps[117]?.getD undef = .slice aX k cX := by have h := hdep 2 _ rfl (by kernel_rfl); simpa using h
              refine append_own rfl _ _ 23 rfl 28 (.slice none 0 0) 1 24 Try.underlying23 info_rows rfl wc wc.heap.size _ 0 0 _ g114 hob aX k cX ((hsX.take k).map hv) (by show a.tmps.getD 117 undef = _; simpa using g117) (hTK.below hB) (one_map _ (fun _ => rfl) _) (by omega) (by unfold maxLen; omega) hB.size hB ?_
              intro a3 c3 w3 ho3 hgr3 hb3
              rw [Nat.zero_add, List.nil_append] at ho3
              have hkp := KeepsC.own hob hgr3
              rw [Nat.zero_add]
              go_wp2
              exact ⟨rfl, _, rfl, hkp, a3, c3, rfl, ho3, hb3⟩
            · cases hc
              obtain rfl := Option.some.inj ho
              obtain ⟨a3, c3, g118, ho3, hB⟩ := hG
              replace g118 : a.tmps.getD 118 undef = _ := g118
              have g122 : a.tmps[122]?.getD undef = .slice aR (X.length - (k + 1)) (cX - (k + 1)) := by have h := hdep 6 _ rfl (by kernel_rfl); simpa using h
              refine append_own rfl _ _ 23 rfl 28 (.slice none 0 0) 1 24 Try.underlying23 info_rows rfl wc wc.heap.size a3 k c3 _ g118 ho3 aR (X.length - (k + 1)) (cX - (k + 1)) ((hsX.drop (k + 1)).map hv) (by show a.tmps.getD 122 undef = _; simpa using g122) (hDR.below hB) (one_map _ (fun _ => rfl) _) (by omega) (by unfold maxLen; omega) hB.size hB ?_
              intro a4 c4 w4 ho4 hgr4 hb4
              have hkp := KeepsC.own ho3 hgr4
              go_wp2
              exact ⟨rfl, _, rfl, hkp, a4, c4, rfl, ho4, hb4⟩
            · cases hc
              obtain rfl := Option.some.inj ho
              obtain ⟨a4, c4, g123, ho4, hB⟩ := hG
              replace g123 : a.tmps[123]?.getD undef = .slice a4 (k + (X.length - (k + 1))) c4 := by have h : a.tmps.getD 123 undef = _ := g123; simpa using h
              have g124 : a.tmps[124]?.getD undef = .int .i64 (4 + (r : Int)) := by have h := hdep 7 _ rfl (by kernel_rfl); simpa using h
              have hpr := rowX_pg3 hpc hkl ho4.sl hB
              clear hfr hdep
              go_wp2_with fail
              have hl3 := lay_any HL3.out _ _ _ _ _ hpr
              rw [h03] at hl3
              refine hl3.mono ?_
              rintro e w3 ⟨a5, c5, hs5, af, cf, al, cl, rfl, _, _, _, hb5⟩
              have hB3 := hB.trans (hb5.mono hB.size)
              have hkp := KeepsC.of hb5
              clear hl3
              go_wp2_with fail
              exact ⟨rfl, _, rfl, hkp, ⟨a5, c5, af, F3.length, cf, al, Ls3.length, cl, rfl⟩, hB3⟩
            · cases hc
              obtain rfl := Option.some.inj ho
              obtain ⟨hans, hB⟩ := hG
              obtain ⟨a5, c5, g126⟩ := hdep 9 _ rfl (by kernel_rfl)
              replace g126 : a.tmps[126]?.getD undef = .slice a5 P3.length c5 := by simpa using g126
              clear hfr hdep
              go_wp2_with fail
              exact ⟨rfl, _, rfl, KeepsC.of (Below.refl _ _), by simpa using hans, ⟨a5, c5, rfl⟩, hB⟩
            · cases hc
              obtain rfl := Option.some.inj ho
              obtain ⟨hans, h22, hB⟩ := hG
              obtain ⟨af, nf, cf, al, nl, cl, g127⟩ := hdep 10 _ rfl (by kernel_rfl)
              replace g127 : a.tmps.getD 127 undef = .agg #[.slice af nf cf, .slice al nl cl] := by simpa using g127
              obtain ⟨b9, g23, hb9, cs9, hl9, hbx9⟩ := hdep 12 _ rfl (by kernel_rfl)
              replace g23 : a.tmps.getD 23 undef = .pointer (some ⟨b9, 0, none⟩) := by simpa using g23
              clear hfr hdep
              refine store_all 31 _ _ 31 _ _ [.slice af nf cf, .slice al nl cl] _ (size_tcert _ _) hbx9 g23 g127 rfl (by rw [hl9]; rfl) (by simp [Value.oneCell']) ?_
              intro w10 hx10 hg10 hs10
              have hkp := KeepsC.put hbx9 (by rw [hl9]; rfl) hx10 hg10
              have hb10 := hB.grown hg10 hB.size (fun k hk => by cases hk; exact hb9)
              clear hl9 hs10
              go_wp2_with fail
              exact ⟨rfl, undef, rfl, hkp, by simpa using hans, by simpa using h22, hb10⟩
            · cases hc
          · simp only [All]
            refine ⟨?_, ?_, ?_, ?_, ?_, ?_, ?_, ?_, ?_, ?_, ?_, ?_, ?_, trivial⟩
            · intro o ho a' w' hfr hdep hst
              obtain rfl := Option.some.inj ho
              have g9 : a'.tmps[9]?.getD undef = .slice aX X.length cX := by have h := hfr 9 (by kernel_rfl); simpa using h
              clear ho hfr hdep hst
              go_wp2_with fail
              exact ⟨rfl, _, rfl, Below.refl _ _, rfl⟩
            · intro o ho a' w' hfr hdep hst
              obtain rfl := Option.some.inj ho
              have g21 : a'.tmps[21]?.getD undef = .int .i64 (k : Int) := by have h := hfr 21 (by kernel_rfl); simpa using h
              clear ho hfr hdep hst
              go_wp2_with fail
              exact ⟨rfl, _, rfl, Below.refl _ _, rfl⟩
            · intro o ho a' w' hfr hdep hst
              obtain rfl := Option.some.inj ho
              have g115 : a'.tmps[115]?.getD undef = .slice aX X.length cX := by have h := hdep 0 _ rfl (by kernel_rfl); simpa using h
              have g116 : a'.tmps[116]?.getD undef = .int .i64 (k : Int) := by have h := hdep 1 _ rfl (by kernel_rfl); simpa using h
              clear ho hfr hdep hst
              refine cut_hi_any 117 23 _ _ 28 Try.underlying23 1 size_rows aX X.length cX (by show a'.tmps.getD 115 undef = _; simpa using g115) .i64 k (by show a'.tmps.getD 116 undef = _; simpa using g116) hkc ?_
              go_wp2_with fail
              exact ⟨rfl, _, rfl, Below.refl _ _, rfl⟩
            · intro o ho a' w' hfr hdep hst
              obtain rfl := Option.some.inj ho
              have g9 : a'.tmps[9]?.getD undef = .slice aX X.length cX := by have h := hfr 9 (by kernel_rfl); simpa using h
              clear ho hfr hdep hst
              go_wp2_with fail
              exact ⟨rfl, _, rfl, Below.refl _ _, rfl⟩
            · intro o ho a' w' hfr hdep hst
              obtain rfl := Option.some.inj ho
              have g21 : a'.tmps[21]?.getD undef = .int .i64 (k : Int) := by have h := hfr 21 (by kernel_rfl); simpa using h
              clear ho hfr hdep hst
              go_wp2_with fail
              exact ⟨rfl, _, rfl, Below.refl _ _, rfl⟩
            · intro o ho a' w' hfr hdep hst
              obtain rfl := Option.some.inj ho
              have g120 : a'.tmps[120]?.getD undef = .int .i64 (k : Int) := by have h := hdep 4 _ rfl (by kernel_rfl); simpa using h
              clear ho hfr hdep hst
              go_wp2_with fail
              exact ⟨rfl, _, rfl, Below.refl _ _, by simp⟩
            · intro o ho a' w' hfr hdep hst
              obtain rfl := Option.some.inj ho
              have g119 : a'.tmps[119]?.getD undef = .slice aX X.length cX := by have h := hdep 3 _ rfl (by kernel_rfl); simpa using h
              have g121 : a'.tmps[121]?.getD undef = .int .i64 ((k + 1 : Nat) : Int) := by have h := hdep 5 _ rfl (by kernel_rfl); simpa using h
              clear ho hfr hdep hst
              refine cut_lo_any 122 23 _ _ 28 Try.underlying23 size_rows aX X.length cX (by show a'.tmps.getD 119 undef = _; simpa using g119) .i64 (k + 1) (by show a'.tmps.getD 121 undef = _; simpa using g121) hkX ?_
              rw [HAR.out]
              go_wp2_with fail
              exact ⟨rfl, _, rfl, Below.refl _ _, rfl⟩
            · intro o ho a' w' hfr hdep hst
              obtain rfl := Option.some.inj ho
              have g10 : a'.tmps[10]?.getD undef = .int .i64 (4 + (r : Int)) := by have h := hfr 10 (by kernel_rfl); simpa using h
              clear ho hfr hdep hst
              go_wp2_with fail
              exact ⟨rfl, _, rfl, Below.refl _ _, rfl⟩
            · intro o ho a' w' hfr hdep hst
              obtain rfl := Option.some.inj ho
              obtain ⟨j, hj, hj4, hG⟩ := hst
              have hj3 := hj 3 _ rfl (by kernel_rfl)
              replace hj3 : 4 ≤ j := hj3
              clear ho hfr hdep hj hj4
              obtain ⟨a3, c3, af, nf, cf, al, nl, cl, g125⟩ := hG.ans hj3
              replace g125 : a'.tmps[125]?.getD undef = .tuple #[.slice a3 P3.length c3, .agg #[.slice af nf cf, .slice al nl cl], .int .i64 0] := by have h : a'.tmps.getD 125 undef = _ := g125; simpa using h
              clear hG hj3
              go_wp2_with fail
              exact ⟨rfl, _, rfl, Below.refl _ _, a3, c3, af, nf, cf, al, nl, cl, rfl⟩
            · intro o ho a' w' hfr hdep hst
              obtain rfl := Option.some.inj ho
              obtain ⟨a3, c3, af, nf, cf, al, nl, cl, g113⟩ : AnsM P3.length _ := hdep 8 _ rfl (by kernel_rfl)
              replace g113 : a'.tmps[113]?.getD undef = .tuple #[.slice a3 P3.length c3, .agg #[.slice af nf cf, .slice al nl cl], .int .i64 0] := by simpa using g113
              clear ho hfr hdep hst
              go_wp2_with fail
              exact ⟨rfl, _, rfl, Below.refl _ _, a3, c3, rfl⟩
            · intro o ho a' w' hfr hdep hst
              obtain rfl := Option.some.inj ho
              obtain ⟨a3, c3, af, nf, cf, al, nl, cl, g113⟩ : AnsM P3.length _ := hdep 8 _ rfl (by kernel_rfl)
              replace g113 : a'.tmps[113]?.getD undef = .tuple #[.slice a3 P3.length c3, .agg #[.slice af nf cf, .slice al nl cl], .int .i64 0] := by simpa using g113
              clear ho hfr hdep hst
              go_wp2_with fail
              exact ⟨rfl, _, rfl, Below.refl _ _, af, nf, cf, al, nl, cl, rfl⟩
            · intro o ho a' w' hfr hdep hst
              obtain rfl := Option.some.inj ho
              obtain ⟨a3, c3, af, nf, cf, al, nl, cl, g113⟩ : AnsM P3.length _ := hdep 8 _ rfl (by kernel_rfl)
              replace g113 : a'.tmps[113]?.getD undef = .tuple #[.slice a3 P3.length c3, .agg #[.slice af nf cf, .slice al nl cl], .int .i64 0] := by simpa using g113
              clear ho hfr hdep hst
              go_wp2_with fail
              exact ⟨rfl, _, rfl, Below.refl _ _, rfl⟩
            · intro o ho a' w' hfr hdep hst
              obtain rfl := Option.some.inj ho
              clear ho hfr hdep
              have hbl := GF.bel hst.choose_spec.2.2
              clear hst
              go_wp2_with fail
              exact ⟨rfl, _, rfl, (Below.refl _ _).alloc (Nat.le_refl _) _, w'.heap.size, rfl, hbl.size, [.slice none 0 0, .slice none 0 0], rfl, Box.new _ _ _⟩
          · intro g w9 hG hp
            obtain ⟨_, ⟨a5, c5, g22⟩, hb9⟩ := hG
            replace g22 : g 22 = .slice a5 P3.length c5 := g22
            have g128 := hp 11 _ rfl
            replace g128 : g 128 = .int .i64 0 := by simpa using g128
            clear hp
            simp only [List.map_cons, List.map_nil, List.cons_append, List.nil_append, putAll, Act.put, List.setIfInBounds_toArray, List.set_cons_succ, List.set_cons_zero, List.set_nil, g22, g128]
            have hkb := b1c.trans (hb9.mono b1c.size)
            clear hb9
            go_wp2_with fail
            refine (law15_lives w9).mono ?_
            rintro e w11 ⟨rfl, b11⟩
            go_wp2_with fail
            go_ret
            exact ⟨rfl, hkb.trans (b11.mono hkb.size)⟩
end Go.Proofs.Ytmjkhmebpciopaa
end
