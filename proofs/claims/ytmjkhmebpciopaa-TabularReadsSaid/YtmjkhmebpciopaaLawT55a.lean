/- The contracts of the functions that the law reaches, joined into one text. -/
import Derived.Test.YtmjkhmebpciopaaBaseT30D
import Derived.OpenShut
import Derived.Deep.Slices
import Derived.Deep.Strs
import Derived.SizedLaws
import Derived.Lib.Strings
set_option linter.unusedVariables false
set_option linter.unusedSimpArgs false

/- the text Row2 -/
section
/- How the arguments of a law read: slices of integers, of strings, of arrays of integers, with the form's own reach. No program. -/
namespace Go.Dx
open Go.RowKit Go.WideShapes Go.ChangeShapes Go.Deep

/-- no part is longer than the form lets it be -/
def Sized {H : Type} (P : Program) (t : TypeId) (d : DataW H) : Prop := ∀ n ∈ d.weights P t, n ≤ reachBytes
section
variable {H : Type} {enc : TypeId × Value → H} {P : Program} {w : World}
theorem sized_at {ts : List TypeId} {ds : List (DataW H)} (hwt : (DataW.weightsEach P ts ds).all (· ≤ reachBytes) = true) (j : Nat) {t : TypeId} {d : DataW H} (ht : ts[j]? = some t) (hd : ds[j]? = some d) : Sized P t d :=
  fun n hn => by simpa using List.all_eq_true.1 hwt _ (DataW.weights_mem_each ht hd n hn)
theorem sized_all {e : TypeId} : ∀ {l : List (DataW H)} {d : DataW H}, d ∈ l → ∀ n ∈ d.weights P e, n ∈ DataW.weightsAll P e l
  | x :: l, d, hd, n, hn => by
    simp only [DataW.weightsAll, List.mem_append]
    rcases List.mem_cons.1 hd with rfl | h
    · exact .inl hn
    · exact .inr (sized_all h n hn)
theorem Sized.slice {t e : TypeId} {elems spare : List (DataW H)} (h : Sized P t (.slice elems spare)) (hu : P.underlying t = some (.slice e)) :
    (elems.length + spare.length) * P.bytesOf e ≤ reachBytes ∧ (∀ d ∈ elems, Sized P e d) :=
  ⟨h _ (by simp [DataW.weights, hu]), fun d hd n hn => h n (by simp only [DataW.weights, hu, List.mem_cons, List.mem_append]; exact .inr (.inl (sized_all hd n hn)))⟩
theorem Sized.string {t : TypeId} {b : List UInt8} (h : Sized P t (DataW.lit (H := H) (.string b))) : b.length ≤ reachBytes := h _ (by simp [DataW.weights])

theorem add_cells {a : Addr} {n : Nat} : a.add n = a.add n := rfl

theorem trod_ints {t e : TypeId} {k : IntKind} (ht : P.underlying t = some (.slice e)) (he : P.underlying e = some (.int k)) (hc : P.cellsOf e = 1) (hb : 0 < P.bytesOf e) {a : Option Addr} {len cap : Nat} {d : DataW H} {p : List MemPlace}
    (hs : Sized P t d) (h : DataW.Trod enc P w 0 (fun _ => true) true t (.slice a len cap) d p) :
    ∃ zs : List Int, Sl w 1 a len cap (zs.map (Value.int k)) ∧ (∀ n ∈ zs, (Lit.int k n).wf = true) ∧ len ≤ reachBytes := by
  obtain ⟨fuel, hf⟩ := h
  rcases open_ints ht he hc hf with ⟨hcs, _⟩ | ⟨x, l, c, zs, hcs, _, hl, hm, hz, hx, hcell, hwz⟩
  · simp [Value.cells] at hcs
    obtain ⟨rfl, rfl, rfl⟩ := hcs
    exact ⟨[], Sl.empty w 1, by simp, Nat.zero_le _⟩
  · simp [Value.cells] at hcs
    obtain ⟨rfl, rfl, rfl⟩ := hcs
    have hz2 : zs.length = cap := by simpa using hz
    have hd := congrArg Prod.fst hx
    simp only at hd
    subst hd
    refine ⟨zs.take len, ⟨by simp; omega, hl, hm, (fun h => by cases h), ?_⟩, fun n hn => hwz n (List.mem_of_mem_take hn), ?_⟩
    · intro q hq j u hj
      cases hq
      rw [List.getElem?_map, List.getElem?_take] at hj
      by_cases hlt : j < len
      · rw [if_pos hlt] at hj
        have hjz : j < zs.length := by omega
        rw [List.getElem?_eq_getElem hjz] at hj
        simp at hj
        rw [hcell j hjz, ← hj, List.getD_eq_getElem?_getD, List.getElem?_eq_getElem hjz]
        rfl
      · rw [if_neg hlt] at hj; cases hj
    · have hsz := (hs.slice ht).1
      rw [show ∀ (k : IntKind) (l : List Int), (lits (H := H) k l).length = l.length from fun k l => by simp [lits], List.length_take, show min len zs.length = len by omega] at hsz
      exact Nat.le_trans (Nat.le_trans (Nat.le_add_right _ _) (Nat.le_mul_of_pos_right _ hb)) hsz

theorem trod_bytes {t e : TypeId} (ht : P.underlying t = some (.slice e)) (he : P.underlying e = some (.int .u8)) (hc : P.cellsOf e = 1) (hb : 0 < P.bytesOf e) {a : Option Addr} {len cap : Nat} {d : DataW H} {p : List MemPlace}
    (hs : Sized P t d) (h : DataW.Trod enc P w 0 (fun _ => true) true t (.slice a len cap) d p) :
    ∃ l : List UInt8, Sl w 1 a len cap (l.map B8) ∧ len ≤ reachBytes := by
  obtain ⟨zs, h1, h2, h3⟩ := trod_ints ht he hc hb hs h
  refine ⟨zs.map fun n => UInt8.ofNat n.toNat, ?_, h3⟩
  have e : (zs.map fun n => UInt8.ofNat n.toNat).map B8 = zs.map (Value.int .u8) := by
    rw [List.map_map]
    apply List.map_congr_left
    intro n hn
    have hb : 0 ≤ n ∧ n ≤ 255 := bounds_u8 (h2 n hn)
    show Value.int .u8 ((UInt8.ofNat n.toNat).toNat : Int) = _
    rw [UInt8.toNat_ofNat']
    congr 1
    omega
  rw [e]
  exact h1
theorem trod_i64s {t e : TypeId} (ht : P.underlying t = some (.slice e)) (he : P.underlying e = some (.int .i64)) (hc : P.cellsOf e = 1) (hb : 0 < P.bytesOf e) {a : Option Addr} {len cap : Nat} {d : DataW H} {p : List MemPlace}
    (hs : Sized P t d) (h : DataW.Trod enc P w 0 (fun _ => true) true t (.slice a len cap) d p) :
    ∃ l : List Int, Sl w 1 a len cap (l.map I64) ∧ (∀ n ∈ l, -9223372036854775808 ≤ n ∧ n ≤ 9223372036854775807) ∧ len ≤ reachBytes := by
  obtain ⟨zs, h1, h2, h3⟩ := trod_ints ht he hc hb hs h
  exact ⟨zs, h1, fun n hn => bounds_i64 (h2 n hn), h3⟩

theorem trod_strs {t e : TypeId} (ht : P.underlying t = some (.slice e)) (he : P.underlying e = some .string) (hc : P.cellsOf e = 1) (hb : 0 < P.bytesOf e) {a : Option Addr} {len cap : Nat} {d : DataW H} {p : List MemPlace}
    (hs : Sized P t d) (h : DataW.Trod enc P w 0 (fun _ => true) true t (.slice a len cap) d p) :
    ∃ l : List ByteArray, Sl w 1 a len cap (l.map Value.string) ∧ (∀ s ∈ l, s.size ≤ reachBytes) ∧ len ≤ reachBytes ∧ (l = [] ∨ ∃ sp, d = .slice (l.map fun s => .lit (.string s.data.toList)) sp) := by
  obtain ⟨fuel, hf⟩ := h
  rcases open_strs ht he hc hf with ⟨hcs, _⟩ | ⟨x, l, c, m, Sx, hcs, _, hl, hm, hmm, hx, hcell⟩
  · simp [Value.cells] at hcs
    obtain ⟨rfl, rfl, rfl⟩ := hcs
    exact ⟨[], Sl.empty w 1, by simp, Nat.zero_le _, .inl rfl⟩
  · simp [Value.cells] at hcs
    obtain ⟨rfl, rfl, rfl⟩ := hcs
    simp only [if_true] at hmm
    subst hmm
    have hd := congrArg Prod.fst hx
    simp only at hd
    subst hd
    obtain ⟨z1, z2⟩ := hs.slice ht
    refine ⟨(List.range len).map Sx, ⟨by simp, hl, hm, (fun h => by cases h), ?_⟩, ?_, ?_, .inr ⟨_, by rw [List.map_map]; rfl⟩⟩
    · intro q hq j u hj
      cases hq
      have hlt : j < len := by have := (List.getElem?_eq_some_iff.1 hj).1; simpa using this
      rw [(hcell j (by omega)).1]
      simp [hlt] at hj
      rw [hj]
    · intro s hs
      obtain ⟨i, hi, rfl⟩ := List.mem_map.1 hs
      have := Sized.string (z2 _ (List.mem_map.2 ⟨i, hi, rfl⟩))
      rwa [show (Sx i).data.toList.length = (Sx i).size from Array.length_toList] at this
    · simp only [List.length_map, List.length_range] at z1
      exact Nat.le_trans (Nat.le_trans (Nat.le_add_right _ _) (Nat.le_mul_of_pos_right _ hb)) z1

theorem trod_arr {t e n : Nat} {k : IntKind} {base : Nat} {spare : Nat → Bool} {held : Bool} {fuel : Nat} {cs : List Value} {x : DataW H × List MemPlace} (ht : P.underlying t = some (.array n e)) (he : P.underlying e = some (.int k)) (hc : P.cellsOf e = 1) (hct : P.cellsOf t = n)
    (h : DataW.trod enc P w base spare held fuel t cs = some x) : cs.length = n ∧ ∀ i, i < n → ∃ z, cs[i]? = some (.int k z) ∧ (Lit.int k z).wf = true := by
  obtain ⟨xs, m, _, _, hl, hxl, hi⟩ := DataW.trod_array ht h
  rw [hct] at hl
  refine ⟨hl, fun i hin => ?_⟩
  have h1 := hi i hin
  rw [hc, Nat.mul_one, List.getElem?_eq_getElem (by omega)] at h1
  obtain ⟨z, hz, _, hw⟩ := DataW.trod_int he h1
  refine ⟨z, ?_, hw⟩
  have := congrArg (·[0]?) hz
  simpa [List.getElem?_take, List.getElem?_drop] using this

theorem trod_arrs {t e q n : Nat} {k : IntKind} (ht : P.underlying t = some (.slice e)) (he : P.underlying e = some (.array n q)) (hq : P.underlying q = some (.int k)) (hc : P.cellsOf q = 1) (hce : P.cellsOf e = n) (hb : 0 < P.bytesOf e) (hn0 : 0 < n)
    {a : Option Addr} {len cap : Nat} {d : DataW H} {p : List MemPlace} (hs : Sized P t d) (h : DataW.Trod enc P w 0 (fun _ => true) true t (.slice a len cap) d p) :
    ∃ zs : List Int, Sl w n a len cap (zs.map (Value.int k)) ∧ (∀ n ∈ zs, (Lit.int k n).wf = true) ∧ len ≤ reachBytes := by
  obtain ⟨fuel, hf⟩ := h
  rcases open_slice ht hf with ⟨hcs, _⟩ | ⟨x, l, c, m, g, D, Pl, hcs, _, hl, hm, hmm, hx, hel⟩
  · simp [Value.cells] at hcs
    obtain ⟨rfl, rfl, rfl⟩ := hcs
    exact ⟨[], Sl.empty w n, by simp, Nat.zero_le _⟩
  · simp [Value.cells] at hcs
    obtain ⟨rfl, rfl, rfl⟩ := hcs
    simp only [if_true] at hmm
    subst hmm
    have hd := congrArg Prod.fst hx
    simp only at hd
    subst hd
    obtain ⟨z1, z2⟩ := hs.slice ht
    have each : ∀ j, j < len * n → ∃ z, w.cell? (x.add j) = some (.int k z) ∧ (Lit.int k z).wf = true := by
      intro j hj
      have hi : j / n < len := (Nat.div_lt_iff_lt_mul hn0).2 hj
      obtain ⟨cs', h1, h2⟩ := hel (j / n) (by omega)
      rw [hce] at h1
      obtain ⟨_, hcl, hat⟩ := World.cells?_some h1
      have hr : j % n < n := Nat.mod_lt _ hn0
      obtain ⟨z, hz, hwz⟩ := (trod_arr he hq hc hce h2).2 (j % n) hr
      refine ⟨z, ?_, hwz⟩
      have := hat (j % n) hr
      rw [sl_add, Nat.div_add_mod'] at this
      rw [this, hz]
    obtain ⟨Z, hZ⟩ := choose_lt each
    refine ⟨(List.range (len * n)).map Z, ⟨by simp, hl, hm, (fun h => by cases h), ?_⟩, ?_, ?_⟩
    · intro q hq j u hj
      cases hq
      have hlt : j < len * n := by have := (List.getElem?_eq_some_iff.1 hj).1; simpa using this
      rw [(hZ j hlt).1]
      simp [hlt] at hj
      rw [hj]
    · intro z hz
      obtain ⟨i, hi, rfl⟩ := List.mem_map.1 hz
      exact (hZ i (List.mem_range.1 hi)).2
    · simp only [List.length_map, List.length_range] at z1
      exact Nat.le_trans (Nat.le_trans (Nat.le_add_right _ _) (Nat.le_mul_of_pos_right _ hb)) z1
theorem bytes_of_wf {zs : List Int} (h : ∀ n ∈ zs, (Lit.int .u8 n).wf = true) : ∃ l : List UInt8, l.map B8 = zs.map (Value.int .u8) := by
  refine ⟨zs.map fun n => UInt8.ofNat n.toNat, ?_⟩
  rw [List.map_map]
  apply List.map_congr_left
  intro n hn
  have hb : 0 ≤ n ∧ n ≤ 255 := bounds_u8 (h n hn)
  show Value.int .u8 ((UInt8.ofNat n.toNat).toNat : Int) = _
  rw [UInt8.toNat_ofNat']
  congr 1
  omega
end
end Go.Dx
end

/- the text T31 -/
section
/- Chapter 15: entries without a column. -/
namespace Go.Proofs.Ytmjkhmebpciopaa
open Go.RowKit Go.Dx

/-- the first j entries of a row but that at k -/
def woK (row : List (List UInt8)) (k : Nat) : Nat → List (List UInt8)
  | 0 => []
  | j + 1 => if j = k then woK row k j else woK row k j ++ [row.getD j []]
def woX (X : List (List (List UInt8))) (k : Nat) : List (List (List UInt8)) := X.map fun row => woK row k row.length
theorem woK_len (row : List (List UInt8)) (k : Nat) : ∀ j, (woK row k j).length ≤ j
  | 0 => Nat.le_refl _
  | j + 1 => by
    have := woK_len row k j
    show (if j = k then woK row k j else woK row k j ++ [row.getD j []]).length ≤ _
    split
    · omega
    · rw [List.length_append]; simp; omega
theorem woK_at {row : List (List UInt8)} {k j : Nat} (h : j = k) : woK row k (j + 1) = woK row k j := if_pos h
theorem woK_in {row : List (List UInt8)} {k j : Nat} {r : List UInt8} (h : j ≠ k) (hr : row[j]? = some r) : woK row k (j + 1) = woK row k j ++ [r] := by
  show (if j = k then _ else _) = _
  rw [if_neg h, List.getD_eq_getElem?_getD, hr]; rfl
theorem woX_next {X : List (List (List UInt8))} {k i : Nat} {row : List (List UInt8)} (h : X[i]? = some row) : woX (X.take (i + 1)) k = woX (X.take i) k ++ [woK row k row.length] := by
  unfold woX; rw [take_snoc h, List.map_append]; rfl

set_option maxRecDepth 100000 in
set_option maxHeartbeats 800000 in
theorem law15_without (X : List (List (List UInt8))) (hs : List Hd) (a : Option Addr) (n c k : Nat) (w : World) (hp : Pg3 w a n c hs X) (hR : X.length ≤ 1000) (hC : ∀ row ∈ X, row.length ≤ 1000) :
    Calls Try.prog 21 #[.slice a n c, .int .i64 (k : Int)] w fun e w' => ∃ a' c' hs', e = .returned (.slice a' X.length c') ∧ V3 w w' w.heap.size 28 a' c' hs' (woX X k) ∧ Below w.heap.size w w' := by
  obtain rfl := hp.n_eq
  go_enter Try.func21, Try.ntmps21
  go_wp2_with fail
  go_loopg [5, 6] X.length (fun g o i' w' => ∃ (i : Nat) (a2 : Option Addr) (c2 : Nat) (hs2 : List Hd), i ≤ X.length ∧ g = X.length - i ∧ i' = .int .i64 (i : Int) ∧ o = .slice a2 i c2 ∧ V3 w w' w.heap.size 28 a2 c2 hs2 (woX (X.take i) k) ∧ Below w.heap.size w w')
  case atStart => exact ⟨0, none, 0, [], by omega, by omega, rfl, rfl, V3.nil _ _ _ _, Below.refl _ _⟩
  case round =>
    obtain ⟨i, a2, c2, hs2, hi, hg, rfl, rfl, hV, hbk⟩ := hrel
    have HG := hide hg
    clear hg
    have HWL : Hid ((woX (X.take i) k).length = i) := hide (by unfold woX; rw [List.length_map, List.length_take]; omega)
    by_cases hil : i < X.length
    · obtain ⟨x, hx⟩ : ∃ x, X[i]? = some x := ⟨X[i], by simp [hil]⟩
      obtain ⟨ax, cx, ks, hu, hpx⟩ := hp.get hx
      have hx1 := hC x (List.mem_of_getElem? hx)
      have HU := hide hu
      have HN := hide (woX_next (k := k) hx)
      have hlow := fun (j : Nat) (z : Hd) (q : Addr) (h1 : hs2[j]? = some z) (h2 : z.1 = some q) => (hV.lt h1 h2).2
      have HLOW := hide hlow
      clear hx hu hlow
      obtain ⟨wy, rfl⟩ : ∃ wy : World, wy = wr := ⟨_, rfl⟩
      have d0 : decide ((i : Int) < (X.length : Int)) = true := decide_eq_true (by omega)
      go_wp2_with fail
      go_loopg [7, 8] x.length (fun g o j' w' => ∃ (j : Nat) (a3 : Option Addr) (c3 : Nat) (ks3 : List Hd), j ≤ x.length ∧ g = x.length - j ∧ j' = .int .i64 (j : Int) ∧ o = .slice a3 (woK x k j).length c3 ∧ VP w w' wy.heap.size a3 c3 ks3 (woK x k j) ∧ Below wy.heap.size wy w')
      case atStart => exact ⟨0, none, 0, [], by omega, by omega, rfl, rfl, VP.nil _ _ _, Below.refl _ _⟩
      case round =>
        obtain ⟨j, a3, c3, ks3, hj, hg1, rfl, rfl, hvp, hbj⟩ := hrel
        have HG1 := hide hg1
        clear hg1
        have hbw := hbk.trans (hbj.mono hbk.size)
        have hpt := hp.top.below hbw
        have hxt := hpx.top.below hbw
        have hwl := woK_len x k j
        by_cases hjl : j < x.length
        · obtain ⟨r, hr⟩ : ∃ r, x[j]? = some r := ⟨x[j], by simp [hjl]⟩
          obtain ⟨ar, cr, hur, hsr⟩ := hpx.get hr
          have HUR := hide hur
          by_cases hjk : j = k
          · have HW := hide (woK_at (row := x) hjk)
            have e1 : ((j : Int) != (k : Int)) = false := eq_nat hjk
            clear hr hur hjk
            go_wp2_with (with_reducible refine idx_3 18 _ _ _ _ _ hs rfl hpt _ _ i rfl rfl _ HU.out ?_; intro b o hcell hbo)
            go_roundg (x.length - (j + 1))
            case measure => have := HG1.out; omega
            case rel => exact ⟨j + 1, a3, c3, ks3, by omega, rfl, by go_num, by rw [HW.out], by rw [HW.out]; exact hvp, hbj⟩
          · have HW := hide (woK_in hjk hr)
            have e1 : ((j : Int) != (k : Int)) = true := neq_nat hjk
            clear hr hur hjk
            go_wp2_with (first
              | (with_reducible refine idx_3 18 _ _ _ _ _ hs rfl hpt _ _ i rfl rfl _ HU.out ?_; intro b o hcell hbo)
              | (with_reducible refine idx_3 30 _ _ _ _ _ hs rfl hpt _ _ i rfl rfl _ HU.out ?_; intro b3 o3 hcell3 hbo3)
              | (with_reducible refine idx_q 33 _ _ _ _ _ ks rfl hxt _ _ j rfl rfl _ HUR.out ?_; intro b4 o4 hcell4 hbo4)
              | (at_builtin; refine app_vq rfl _ _ rfl wy w wy.heap.size _ _ _ ks3 _ rfl rfl hvp (ar, r.length, cr) r hsr rfl (by omega) hbj.size hbj ?_; intro a' c' w' ho' hgr' hb'))
            go_roundg (x.length - (j + 1))
            case measure => have := HG1.out; omega
            case rel => exact ⟨j + 1, a', c', _, by omega, rfl, by go_num, by rw [HW.out, List.length_append]; rfl, by rw [HW.out]; exact ho', hb'⟩
        · obtain rfl : x.length = j := by omega
          go_wp2_with (first
            | (with_reducible refine idx_3 18 _ _ _ _ _ hs rfl hpt _ _ i rfl rfl _ HU.out ?_; intro b o hcell hbo)
            | (at_builtin; refine app_v3 rfl _ _ rfl w w w.heap.size wy.heap.size _ _ _ hs2 ks3 _ HWL.out rfl (hV.below hbj) (a3, (woK x k x.length).length, c3) (woK x k x.length) hvp rfl hbk.size HLOW.out rfl (by omega) hbw.size hbw ?_; intro a' c' w' ho' hb'))
          go_roundg (X.length - (i + 1))
          case measure => have := HG.out; omega
          case rel => exact ⟨i + 1, a', c', _, by omega, rfl, by go_num, rfl, by rw [HN.out]; exact ho', hb'⟩
    · obtain rfl : X.length = i := by omega
      go_wp2_with fail
      go_ret
      rw [List.take_length] at hV
      exact ⟨a2, c2, hs2, rfl, hV, hbk⟩
end Go.Proofs.Ytmjkhmebpciopaa
end

/- the text T32 -/
section
/- Chapter 15: fewer lines with more room, in plain words. No program in sight. -/
namespace Go.Proofs.Ytmjkhmebpciopaa

theorem Sol.page_len {f : Nat → Nat} {X : List (List (List UInt8))} {n R : Nat} {W : Int} {L T : Nat → Nat} (h : Sol f n R W L T 1) (hR : X.length = R) : ∀ k, 1 ≤ k → k < n → (pageG f X n T n k).length = (if 1 < k then 1 else 0) + L k := by
  have key : ∀ d k, n - k = d → 1 ≤ k → k < n → (pageG f X n T n k).length = (if 1 < k then 1 else 0) + L k := by
    intro d
    induction d using Nat.strongRecOn with
    | ind d ih =>
      intro k hd h1 h2
      have hb := h k h1 h2
      have hlt := hb.lt
      have hle := hb.le
      rw [pageG_step h.gt h1 h2, List.length_append, List.length_append, linesL_len, hR, hb.val]
      have e : (if 1 < k then ([[]] : List (List UInt8)) else []).length = if 1 < k then 1 else 0 := by split <;> rfl
      rw [e]
      by_cases ht : T k < n
      · rw [ih (n - T k) (by omega) (T k) rfl (by omega) ht, valL_in ht, if_pos (by omega : 1 < T k)]
      · rw [pageG_stop ht, valL_end ht]; rfl
  exact fun k => key (n - k) k rfl
theorem Sol.total {f : Nat → Nat} {X : List (List (List UInt8))} {n : Nat} {W : Int} {L T : Nat → Nat} (h : Sol f n X.length W L T 1) (hn : 1 ≤ n) : (pageT f X n T).length = if n = 1 then X.length else L 1 := by
  unfold pageT
  by_cases h1 : n = 1
  · rw [if_pos h1, if_pos h1, linesL_len]
  · rw [if_neg h1, if_neg h1, h.page_len rfl 1 (Nat.le_refl _) (by omega), if_neg (by omega), Nat.zero_add]
theorem Sol.ge {f : Nat → Nat} {n R : Nat} {W : Int} {L T : Nat → Nat} (h : Sol f n R W L T 1) {k : Nat} (h1 : 1 ≤ k) (h2 : k < n) : R ≤ L k := by
  rw [(h k h1 h2).val]; unfold valL; omega
theorem pageG_wide {f : Nat → Nat} {X : List (List (List UInt8))} {n R : Nat} {W : Int} {L T : Nat → Nat} (h : Sol f n R W L T 1) (hW : 0 ≤ W) (hf : ∀ row ∈ X, ∀ i, (row.getD i []).length ≤ f i) : ∀ d k, 1 ≤ k → ∀ l ∈ pageG f X n T d k, (l.length : Int) ≤ W
  | 0, _, _, l, hl => by cases hl
  | d + 1, k, h1, l, hl => by
    replace hl : l ∈ (if k < n then (if 1 < k then [[]] else []) ++ (linesL f X k (T k - k) ++ pageG f X n T d (T k)) else []) := hl
    by_cases h2 : k < n
    · rw [if_pos h2] at hl
      have hb := h k h1 h2
      rcases List.mem_append.1 hl with hl | hl
      · split at hl
        · rw [List.mem_singleton.1 hl]; exact hW
        · cases hl
      · rcases List.mem_append.1 hl with hl | hl
        · unfold linesL at hl
          obtain ⟨row, hr, rfl⟩ := List.mem_map.1 hl
          have h3 := lineL_le (hf row hr) k (T k - k)
          have h4 := hb.ok
          omega
        · exact pageG_wide h hW hf d (T k) (by have := hb.lt; omega) l hl
    · rw [if_neg h2] at hl; cases hl
theorem pageT_wide {X : List (List (List UInt8))} {W : Int} {L T : Nat → Nat} (h : Sol (colW X) (nCols X) X.length W L T 1) (hfit : FitW (colW X) (nCols X) W) : ∀ l ∈ pageT (colW X) X (nCols X) T, (l.length : Int) ≤ W := by
  intro l hl
  have hf : ∀ row ∈ X, ∀ i, (row.getD i []).length ≤ colW X i := fun row hr i => wide_mem hr i
  have h0 : (colW X 0 : Int) ≤ W := hfit.1
  unfold pageT at hl
  split at hl
  · unfold linesL at hl
    obtain ⟨row, hr, rfl⟩ := List.mem_map.1 hl
    have h3 := hf row hr 0
    show (((row.getD 0 []).length : Nat) : Int) ≤ W
    omega
  · exact pageG_wide h (by omega) hf _ 1 (Nat.le_refl _) l hl
/-- more room, fewer rows, narrower columns: not more lines -/
theorem Sol.mono {f f' : Nat → Nat} {n R R' : Nat} {W W' : Int} {L T L' T' : Nat → Nat} (h : Sol f n R W L T 1) (h' : Sol f' n R' W' L' T' 1) (hf : ∀ i, f' i ≤ f i) (hR : R' ≤ R) (hW : W ≤ W') : ∀ k, 1 ≤ k → k < n → L' k ≤ L k := by
  have key : ∀ d k, n - k = d → 1 ≤ k → k < n → L' k ≤ L k := by
    intro d
    induction d using Nat.strongRecOn with
    | ind d ih =>
      intro k hd h1 h2
      have hb := h k h1 h2
      have hs := sizeW_le2 hf k (T k - k)
      have hok := hb.ok
      have hm := ((h' k h1 h2).min (T k) hb.lt hb.le (by omega)).1
      have hv : valL n R' L' (T k) ≤ valL n R L (T k) := by
        by_cases ht : T k < n
        · rw [valL_in ht, valL_in ht]
          have := ih (n - T k) (by have := hb.lt; omega) (T k) rfl (by have := hb.lt; omega) ht
          omega
        · rw [valL_end ht, valL_end ht]; exact hR
      rw [hb.val]; omega
  exact fun k => key (n - k) k rfl
end Go.Proofs.Ytmjkhmebpciopaa
end

/- the text T33 -/
section
/- Chapter 15: a column less, a row less, in plain words. No program in sight. -/
namespace Go.Proofs.Ytmjkhmebpciopaa

/-- the widths without column c -/
def skipF (f : Nat → Nat) (c i : Nat) : Nat := if i < c then f i else f (i + 1)
theorem skip_lo {f : Nat → Nat} {c i : Nat} (h : i < c) : skipF f c i = f i := if_pos h
theorem skip_hi {f : Nat → Nat} {c i : Nat} (h : ¬ i < c) : skipF f c i = f (i + 1) := if_neg h
theorem size_lo {f : Nat → Nat} {c k : Nat} (hc : 1 ≤ c) : ∀ m, k + m ≤ c → sizeW (skipF f c) k m = sizeW f k m
  | 0, _ => skip_lo (by omega)
  | m + 1, h => by show sizeW _ k m + (2 + skipF f c (k + m)) = sizeW f k m + (2 + f (k + m)); rw [size_lo hc m (by omega), skip_lo (by omega)]
theorem size_hi {f : Nat → Nat} {c k : Nat} (hc : 1 ≤ c) (hk : c ≤ k) : ∀ m, sizeW (skipF f c) k m = sizeW f (k + 1) m
  | 0 => skip_lo (by omega)
  | m + 1 => by show sizeW _ k m + (2 + skipF f c (k + m)) = sizeW f (k + 1) m + (2 + f (k + 1 + m)); rw [size_hi hc hk m, skip_hi (by omega), show k + m + 1 = k + 1 + m by omega]
theorem size_mid {f : Nat → Nat} {c k : Nat} (hc : 1 ≤ c) (hk : k ≤ c) : ∀ m, c ≤ k + m → sizeW (skipF f c) k m + (2 + f c) = sizeW f k (m + 1)
  | 0, h => by
    obtain rfl : k = c := by omega
    show skipF f k 0 + (2 + f k) = f 0 + (2 + f (k + 0))
    rw [skip_lo (by omega), Nat.add_zero]
  | m + 1, h => by
    show sizeW _ k m + (2 + skipF f c (k + m)) + (2 + f c) = sizeW f k (m + 1) + (2 + f (k + (m + 1)))
    by_cases hm : c ≤ k + m
    · have := size_mid (f := f) hc hk m hm
      rw [skip_hi (by omega), show k + m + 1 = k + (m + 1) by omega]; omega
    · have e := size_lo (f := f) (k := k) hc m (by omega)
      have e2 : c = k + (m + 1) := by omega
      rw [e, skip_lo (by omega), ← e2]
      show _ = sizeW f k m + (2 + f (k + m)) + _
      omega
/-- without a further column: not more lines -/
theorem Sol.skip {f : Nat → Nat} {n R c : Nat} {W : Int} {L T L' T' : Nat → Nat} (h : Sol f n R W L T 1) (h' : Sol (skipF f c) (n - 1) R W L' T' 1) (hc : 1 ≤ c) (hcn : c < n) :
    ∀ k, 1 ≤ k → k < n → (c < k → L' (k - 1) ≤ L k) ∧ (k ≤ c → k < n - 1 → L' k ≤ L k) := by
  have key : ∀ d k, n - k = d → 1 ≤ k → k < n → (c < k → L' (k - 1) ≤ L k) ∧ (k ≤ c → k < n - 1 → L' k ≤ L k) := by
    intro d
    induction d using Nat.strongRecOn with
    | ind d ih =>
      intro k hd h1 h2
      have hb := h k h1 h2
      have hlt := hb.lt
      have hle := hb.le
      have hok := hb.ok
      have hval := hb.val
      refine ⟨fun hck => ?_, fun hkc hkn => ?_⟩
      · have hs : sizeW (skipF f c) (k - 1) (T k - 1 - (k - 1)) = sizeW f k (T k - k) := by
          have := size_hi (f := f) (c := c) (k := k - 1) hc (by omega) (T k - k)
          rw [show k - 1 + 1 = k by omega] at this
          rw [show T k - 1 - (k - 1) = T k - k by omega]; exact this
        have hm := ((h' (k - 1) (by omega) (by omega)).min (T k - 1) (by omega) (by omega) (by rw [hs]; exact hok)).1
        have hv : valL (n - 1) R L' (T k - 1) ≤ valL n R L (T k) := by
          by_cases ht : T k < n
          · rw [valL_in ht, valL_in (by omega)]
            have := (ih (n - T k) (by omega) (T k) rfl (by omega) ht).1 (by omega)
            omega
          · rw [valL_end ht, valL_end (by omega)]; exact Nat.le_refl _
        omega
      · by_cases hjc : T k ≤ c
        · have hs := size_lo (f := f) (c := c) (k := k) hc (T k - k) (by omega)
          have hm := ((h' k h1 hkn).min (T k) hlt (by omega) (by rw [hs]; exact hok)).1
          have hv : valL (n - 1) R L' (T k) ≤ valL n R L (T k) := by
            rw [valL_in (by omega : T k < n)]
            by_cases ht : T k < n - 1
            · rw [valL_in ht]
              have := (ih (n - T k) (by omega) (T k) rfl (by omega) (by omega)).2 hjc ht
              omega
            · rw [valL_end ht]; omega
          omega
        · by_cases hk1 : T k - 1 = k
          · have hkc2 : k = c := by omega
            have h3 := (ih (n - (k + 1)) (by omega) (k + 1) rfl (by omega) (by omega)).1 (by omega)
            rw [Nat.add_sub_cancel] at h3
            have ht : T k = k + 1 := by omega
            rw [hval, ht, valL_in (by omega)]; omega
          · have hs := size_mid (f := f) (c := c) (k := k) hc hkc (T k - 1 - k) (by omega)
            rw [show T k - 1 - k + 1 = T k - k by omega] at hs
            have hm := ((h' k h1 hkn).min (T k - 1) (by omega) (by omega) (by omega)).1
            have hv : valL (n - 1) R L' (T k - 1) ≤ valL n R L (T k) := by
              by_cases ht : T k < n
              · rw [valL_in ht, valL_in (by omega)]
                have := (ih (n - T k) (by omega) (T k) rfl (by omega) ht).1 (by omega)
                omega
              · rw [valL_end ht, valL_end (by omega)]; exact Nat.le_refl _
            omega
  exact fun k => key (n - k) k rfl
end Go.Proofs.Ytmjkhmebpciopaa
end

/- the text T34 -/
section
/- Chapter 15: valid entries without a column, without a row. No program in sight. -/
namespace Go.Proofs.Ytmjkhmebpciopaa

theorem woK_lo (row : List (List UInt8)) (c : Nat) : ∀ j, j ≤ c → j ≤ row.length → woK row c j = row.take j
  | 0, _, _ => by simp [woK]
  | j + 1, h, h2 => by
    have hr : row[j]? = some (row[j]'(by omega)) := by simp
    rw [woK_in (by omega) hr, woK_lo row c j (by omega) (by omega), take_snoc hr]
theorem woK_hi (row : List (List UInt8)) (c : Nat) (hc : c < row.length) : ∀ m, c + 1 + m ≤ row.length → woK row c (c + 1 + m) = row.take c ++ (row.drop (c + 1)).take m
  | 0, _ => by rw [Nat.add_zero, woK_at rfl, woK_lo row c c (Nat.le_refl _) (by omega), List.take_zero, List.append_nil]
  | m + 1, h => by
    have hr : row[c + 1 + m]? = some (row[c + 1 + m]'(by omega)) := by simp
    have hr2 : (row.drop (c + 1))[m]? = some (row[c + 1 + m]'(by omega)) := by rw [List.getElem?_drop]; exact hr
    have e : woK row c (c + 1 + m + 1) = woK row c (c + 1 + m) ++ [row[c + 1 + m]'(by omega)] := woK_in (by omega) hr
    rw [show c + 1 + (m + 1) = c + 1 + m + 1 by omega, e, woK_hi row c hc m (by omega), List.append_assoc, take_snoc hr2]
theorem woK_all {row : List (List UInt8)} {c : Nat} (hc : c < row.length) : woK row c row.length = row.take c ++ row.drop (c + 1) := by
  have h := woK_hi row c hc (row.length - (c + 1)) (by omega)
  rw [show c + 1 + (row.length - (c + 1)) = row.length by omega] at h
  have e : (row.drop (c + 1)).take (row.length - (c + 1)) = row.drop (c + 1) := List.take_of_length_le (by rw [List.length_drop]; exact Nat.le_refl _)
  rw [h, e]
theorem woK_getD {row : List (List UInt8)} {c : Nat} (hc : c < row.length) (i : Nat) : (woK row c row.length).getD i [] = row.getD (if i < c then i else i + 1) [] := by
  rw [woK_all hc, List.getD_eq_getElem?_getD, List.getD_eq_getElem?_getD]
  have hl : (row.take c).length = c := by rw [List.length_take]; omega
  by_cases h : i < c
  · rw [if_pos h, List.getElem?_append_left (by omega), List.getElem?_take, if_pos h]
  · rw [if_neg h, List.getElem?_append_right (by omega), hl, List.getElem?_drop, show c + 1 + (i - c) = i + 1 by omega]
theorem colW_wo {X : List (List (List UInt8))} {c : Nat} (h : VX X) (hc : c < nCols X) : colW (woX X c) = skipF (colW X) c := by
  funext i
  unfold colW woX skipF
  rw [List.map_map]
  have e : (X.map ((fun row => row.getD i []) ∘ fun row => woK row c row.length)) = X.map fun row => row.getD (if i < c then i else i + 1) [] := by
    apply List.map_congr_left
    intro row hr
    exact woK_getD (by rw [h.row row hr]; exact hc) i
  rw [e]
  by_cases h1 : i < c
  · rw [if_pos h1, if_pos h1]
  · rw [if_neg h1, if_neg h1]
theorem vx_wo {X : List (List (List UInt8))} {c : Nat} (h : VX X) (hc : c < nCols X) (h2 : 2 ≤ nCols X) : VX (woX X c) ∧ nCols (woX X c) = nCols X - 1 ∧ (woX X c).length = X.length := by
  have hlen : (woX X c).length = X.length := by unfold woX; simp
  have hrow : ∀ row ∈ woX X c, row.length = nCols X - 1 := by
    intro row hrow
    obtain ⟨r, hr, e⟩ := List.mem_map.1 hrow
    subst e
    show (woK r c r.length).length = _
    rw [woK_all (by rw [h.row r hr]; exact hc), List.length_append, List.length_take, List.length_drop, h.row r hr]; omega
  have hent : ∀ row ∈ woX X c, ∀ x ∈ row, entryB x = true := by
    intro row hrow x hx
    obtain ⟨r, hr, e⟩ := List.mem_map.1 hrow
    subst e
    replace hx : x ∈ woK r c r.length := hx
    rw [woK_all (by rw [h.row r hr]; exact hc)] at hx
    rcases List.mem_append.1 hx with hx | hx
    · exact h.ent r hr x (List.mem_of_mem_take hx)
    · exact h.ent r hr x (List.mem_of_mem_drop hx)
  have := Few.vx (X := woX X c) (R := X.length) (C := nCols X - 1) ⟨hlen, hrow, hent⟩ h.r1 h.r2 (by omega) (by have := h.c2; omega)
  exact ⟨this.1, this.2, hlen⟩
theorem fit_wo {f : Nat → Nat} {N c : Nat} {W : Int} (h : FitW f N W) (hc : 1 ≤ c) (hcN : c < N) : FitW (skipF f c) (N - 1) W := by
  refine ⟨by rw [skip_lo (by omega)]; exact h.1, fun k hk h1 => ?_⟩
  by_cases hkc : k < c
  · rw [size_lo hc 1 (by omega)]; exact h.2 k (by omega) h1
  · rw [size_hi hc (by omega)]; exact h.2 (k + 1) (by omega) (by omega)
/-- without row k -/
def rowX (X : List (List (List UInt8))) (k : Nat) : List (List (List UInt8)) := X.take k ++ X.drop (k + 1)
theorem rowX_mem {X : List (List (List UInt8))} {k : Nat} {row : List (List UInt8)} (h : row ∈ rowX X k) : row ∈ X := by
  unfold rowX at h
  rcases List.mem_append.1 h with h | h
  · exact List.mem_of_mem_take h
  · exact List.mem_of_mem_drop h
theorem vx_row {X : List (List (List UInt8))} {k : Nat} (h : VX X) (hk : k < X.length) (h2 : 2 ≤ X.length) : VX (rowX X k) ∧ nCols (rowX X k) = nCols X ∧ (rowX X k).length = X.length - 1 := by
  have hlen : (rowX X k).length = X.length - 1 := by unfold rowX; rw [List.length_append, List.length_take, List.length_drop]; omega
  have := Few.vx (X := rowX X k) (R := X.length - 1) (C := nCols X) ⟨hlen, fun row hr => h.row row (rowX_mem hr), fun row hr => h.ent row (rowX_mem hr)⟩ (by omega) (by have := h.r2; omega) h.c1 h.c2
  exact ⟨this.1, this.2, hlen⟩
theorem colW_row (X : List (List (List UInt8))) (k i : Nat) : colW (rowX X k) i ≤ colW X i := by
  unfold colW
  refine wideL_le fun l hl => ?_
  obtain ⟨row, hr, rfl⟩ := List.mem_map.1 hl
  exact wideL_ge (List.mem_map.2 ⟨row, rowX_mem hr, rfl⟩)
theorem fit_le {f f' : Nat → Nat} {N : Nat} {W W' : Int} (h : FitW f N W) (hf : ∀ i, f' i ≤ f i) (hW : W ≤ W') : FitW f' N W' := by
  refine ⟨by have := h.1; have := hf 0; omega, fun k hk h1 => ?_⟩
  have h3 := h.2 k hk h1
  have h4 := sizeW_le2 hf k 1
  omega
end Go.Proofs.Ytmjkhmebpciopaa
end

/- the text T35 -/
section
/- Chapter 15: the layout of any entries. -/
namespace Go.Proofs.Ytmjkhmebpciopaa
open Go.RowKit Go.Dx

/-- what a layout is -/
def LayOf (X : List (List (List UInt8))) (W : Int) (P : List (List UInt8)) (F Ls : List Nat) : Prop :=
  (errT X W = 0 ∧ ∃ L T, Sol (colW X) (nCols X) X.length W L T 1 ∧ P = pageT (colW X) X (nCols X) T ∧ F = chain (nCols X) T (nCols X) 1 ∧ Ls = leastL (nCols X) L) ∨ (errT X W ≠ 0 ∧ P = [] ∧ F = [] ∧ Ls = [])
theorem LayOf.ex (X : List (List (List UInt8))) (W : Int) : ∃ P F Ls, LayOf X W P F Ls := by
  by_cases h : errT X W = 0
  · obtain ⟨L, T, hS⟩ := Sol.ex (R := X.length) (errT_zero h).2.2.2.cols
    exact ⟨_, _, _, .inl ⟨h, L, T, hS, rfl, rfl, rfl⟩⟩
  · exact ⟨[], [], [], .inr ⟨h, rfl, rfl, rfl⟩⟩
theorem lay_any {X : List (List (List UInt8))} {W : Int} {P : List (List UInt8)} {F Ls : List Nat} (h : LayOf X W P F Ls) (hs : List Hd) (a : Option Addr) (n c : Nat) (w : World) (hp : Pg3 w a n c hs X) :
    Calls Try.prog 10 #[.slice a n c, .int .i64 W] w (GivesLay P F Ls (errT X W) w) := by
  rcases h with ⟨h0, L, T, hS, rfl, rfl, rfl⟩ | ⟨h0, rfl, rfl, rfl⟩
  · rw [h0]; exact tab_Layout X hs a n c W L T w hp h0 hS
  · exact tab_Layout_no X hs a n c W w hp h0
theorem ref_lay_any {X : List (List (List UInt8))} {W : Int} {P : List (List UInt8)} {F Ls : List Nat} (h : LayOf X W P F Ls) (hW : -9223372036854775808 ≤ W ∧ W ≤ 9223372036854775807) (hs : List Hd) (a : Option Addr) (n c : Nat) (w : World) (hp : Pg3 w a n c hs X) :
    Calls Try.prog 11 #[.slice a n c, .int .i64 W] w (GivesLay P F Ls (errT X W) w) := by
  rcases h with ⟨h0, L, T, hS, rfl, rfl, rfl⟩ | ⟨h0, rfl, rfl, rfl⟩
  · rw [h0]; exact ref15_Layout X hs a n c W L T w hp hW h0 hS
  · exact ref15_Layout_no X hs a n c W w hp hW h0
end Go.Proofs.Ytmjkhmebpciopaa
end

/- the text Free3 -/
section
/- A region that draws its order, whose operations that change the world follow one another (CH); the others (TL) leave the world as it is and may come at any time. No program in sight. -/
set_option linter.unusedVariables false
namespace Go.Dx
open Go.RowKit

structure ChInv (l : List Oper) (n : Nat) (CH TL T : List HOp) (a0 : Act) (G : Nat → List Value → World → Prop) (listed : Array Bool) (a : Act) (w : World) : Prop where
  inv : HeadInv .any l.toArray n listed
  defers : a.defers = a0.defers
  size : a.tmps.size = a0.tmps.size
  frame : ∀ k, (∀ t ∈ T, t.d ≠ k) → a.tmps.getD k undef = a0.tmps.getD k undef
  stage : ∃ j, j ≤ CH.length ∧ (∀ m c, CH[m]? = some c → (listed.getD c.i false = true ↔ m < j)) ∧ G j (CH.map fun c => a.tmps.getD c.d undef) w
  facts : ∀ t ∈ TL, listed.getD t.i false = true → t.fact a w

/-- each waits for the one before it -/
def linkOk (ops : Array Oper) : List Nat → Bool
  | i :: j :: l => Region.waitsFor .any ops j i && linkOk ops (j :: l)
  | _ => true
theorem linkOk_get {ops : Array Oper} : ∀ {L : List Nat}, linkOk ops L = true → ∀ m i j, L[m]? = some i → L[m + 1]? = some j → Region.waitsFor .any ops j i = true := by
  intro L
  induction L with
  | nil => intro _ m i j h; cases h
  | cons x L ih =>
    intro h m i j h1 h2
    cases L with
    | nil => cases m <;> simp at h2
    | cons y L =>
      simp only [linkOk, Bool.and_eq_true] at h
      cases m with
      | zero => cases h1; cases h2; exact h.1
      | succ m => exact ih h.2 m i j h1 h2

section
variable {P : Program}
theorem wp_region_chain {id : Nat} {Q : Exit → Act → World → Prop} {a0 : Act} {w0 : World} {l : List Oper} (n : Nat) (G : Nat → List Value → World → Prop) (CH TL : List HOp) (hm : P.follows .mixedOrders = true)
    (hB : (headOk l n ((CH ++ TL).map fun t => (t.i, t.d, t.s)) a0.tmps.size && linkOk l.toArray (CH.map (·.i)) && (TL.all fun t => CH.all fun c => t.i != c.i && t.d != c.d)) = true)
    (hG0 : G 0 (CH.map fun c => a0.tmps.getD c.d undef) { w0 with drawn := w0.drawn + 1 })
    (hmono : All (fun t : HOp => ∀ vs w w', t.p vs w → t.p vs w') TL)
    (hopC : ∀ m c, CH[m]? = some c → ∀ o, l[c.i]? = some o → ∀ (a : Act) (w : World), G m (CH.map fun c => a.tmps.getD c.d undef) w →
      (∀ k, ((CH ++ TL).map (·.d)).contains k = false → a.tmps.getD k undef = a0.tmps.getD k undef) →
      (∀ (k : Nat) (u : HOp), TL[k]? = some u → Region.waitsFor .any l.toArray c.i u.i = true → u.p (u.s.map fun k => a.tmps.getD k undef) w) →
      wpList P l.toArray (OneTurn c.d a fun v w' => G (m + 1) (CH.map fun e => if e.d = c.d then v else a.tmps.getD e.d undef) w') [o] a w)
    (hopL : All (fun t : HOp => ∀ o, l[t.i]? = some o → ∀ (a : Act) (w : World),
      (∀ k, ((CH ++ TL).map (·.d)).contains k = false → a.tmps.getD k undef = a0.tmps.getD k undef) →
      (∀ (k : Nat) (u : HOp), TL[k]? = some u → Region.waitsFor .any l.toArray t.i u.i = true → u.p (u.s.map fun k => a.tmps.getD k undef) w) →
      wpList P l.toArray (OneStill t.d a w fun v w' => t.p (t.s.map fun k => if t.d = k then v else a.tmps.getD k undef) w') [o] a w) TL)
    (hend : ∀ (g : Nat → Value) (w : World), G CH.length (CH.map fun c => g c.d) w → (∀ (k : Nat) (u : HOp), TL[k]? = some u → u.p (u.s.map fun k => if k ∈ (CH ++ TL).map (·.d) then g k else a0.tmps.getD k undef) w) →
      wpList P l.toArray Q (l.drop n) (putAll a0 (((CH ++ TL).map (·.d)).map fun d => (d, g d))) w) : (Code.region id l.toArray true).wp P Q a0 w0 := by
  obtain ⟨T, hTdef⟩ : ∃ T, CH ++ TL = T := ⟨_, rfl⟩
  have memC : ∀ t ∈ CH, t ∈ T := fun t ht => by rw [← hTdef]; exact List.mem_append_left _ ht
  have memL : ∀ t ∈ TL, t ∈ T := fun t ht => by rw [← hTdef]; exact List.mem_append_right _ ht
  have split : ∀ t ∈ T, t ∈ CH ∨ t ∈ TL := fun t ht => by rw [← hTdef] at ht; exact List.mem_append.1 ht
  rw [hTdef] at hB hopC hopL hend
  rw [Bool.and_eq_true, Bool.and_eq_true] at hB
  obtain ⟨⟨hB, hlink⟩, hdis⟩ := hB
  have hdis2 : ∀ t ∈ TL, ∀ c ∈ CH, t.i ≠ c.i ∧ t.d ≠ c.d := by
    intro t ht c hc
    have := List.all_eq_true.1 (List.all_eq_true.1 hdis t ht) c hc
    simpa using this
  have hlk : ∀ m c e, CH[m]? = some c → CH[m + 1]? = some e → Region.waitsFor .any l.toArray e.i c.i = true := fun m c e h1 h2 =>
    linkOk_get hlink m c.i e.i (by rw [List.getElem?_map, h1]; rfl) (by rw [List.getElem?_map, h2]; rfl)
  simp only [headOk, Bool.and_eq_true, decide_eq_true_eq] at hB
  obtain ⟨⟨⟨⟨⟨⟨⟨hnd, hn⟩, hs⟩, hc⟩, hseq⟩, hcov⟩, hT⟩, hpair⟩ := hB
  have hnodup : ∀ t ∈ T, ∀ u ∈ T, t.i = u.i → t = u := inj_nodup (·.i) T (by rw [List.map_map] at hnd; exact hnd)
  have hn' : n < l.toArray.size := by simpa using hn
  have cover : ∀ j, j < n → ∃ t ∈ T, t.i = j := by
    intro j hj
    have h := List.all_eq_true.1 hcov j (List.mem_range.2 hj)
    obtain ⟨x, hx, he⟩ := List.any_eq_true.1 h
    obtain ⟨t, ht, rfl⟩ := List.mem_map.1 hx
    exact ⟨t, ht, by simpa using he⟩
  have own : ∀ t ∈ T, t.i < n ∧ t.d < a0.tmps.size ∧ ∃ o, l[t.i]? = some o ∧ o.dst = some t.d ∧ ∀ e ∈ o.after, Region.binds .any e = true → e.on < t.i := by
    intro t ht
    have h := List.all_eq_true.1 hT _ (List.mem_map.2 ⟨t, ht, rfl⟩)
    simp only [Bool.and_eq_true, decide_eq_true_eq] at h
    obtain ⟨⟨h1, h2⟩, h3⟩ := h
    refine ⟨h1, h2, ?_⟩
    cases ho : l[t.i]? with
    | none => rw [ho] at h3; cases h3
    | some o =>
      rw [ho] at h3
      simp only [Bool.and_eq_true, beq_iff_eq] at h3
      refine ⟨o, rfl, h3.1, fun e he hb => ?_⟩
      have := Array.all_eq_true_iff_forall_mem.1 h3.2 e he
      simpa [hb] using this
  have pair : ∀ t ∈ T, ∀ u ∈ T, t.i ≠ u.i → t.d ≠ u.d ∧ (t.d ∈ u.s → Region.waitsFor .any l.toArray u.i t.i = true) := by
    intro t ht u hu hne
    have h := List.all_eq_true.1 (List.all_eq_true.1 hpair _ (List.mem_map.2 ⟨t, ht, rfl⟩)) _ (List.mem_map.2 ⟨u, hu, rfl⟩)
    simp only [Bool.or_eq_true, beq_iff_eq, hne, false_or, Bool.and_eq_true, bne_iff_ne, ne_eq, Bool.not_eq_true'] at h
    refine ⟨h.1, fun hin => ?_⟩
    rcases h.2 with h2 | h2
    · have : u.s.contains t.d = true := by simpa using hin
      rw [this] at h2; cases h2
    · exact h2
  have key : ∀ (f : Nat) (listed : Array Bool) (a : Act) (w : World), ChInv l n CH TL T a0 G listed a w → todo listed n = f → wpAny P .any l.toArray Q (f + (l.length - n)) listed a w := by
    intro f
    induction f with
    | zero =>
      intro listed a w I h0
      have hall : ∀ j, j < n → listed.getD j true = true := by
        intro j hj
        cases hb : listed.getD j true with
        | true => rfl
        | false =>
          have : j ∈ (List.range n).filter fun j => !listed.getD j true := List.mem_filter.2 ⟨List.mem_range.2 hj, by rw [hb]; rfl⟩
          unfold todo at h0
          rw [List.eq_nil_of_length_eq_zero h0] at this
          cases this
      have hlist : listed = (List.replicate n true ++ List.replicate (l.length - n) false).toArray := by
        have hsz := I.inv.size
        apply Array.ext
        · simp at hsz ⊢; omega
        · intro j h1 h2
          by_cases hj : j < n
          · have := hall j hj
            simp [Array.getD, h1] at this
            simp [this, List.getElem_append_left, hj]
          · have := I.inv.tail j (by omega) (by rw [← hsz]; exact h1)
            simp [Array.getD, h1] at this
            simp only [this, List.getElem_toArray]
            rw [List.getElem_append_right (by simp; omega)]
            simp
      have ha : a = putAll a0 ((T.map (·.d)).map fun d => (d, a.tmps.getD d undef)) := by
        have hd : ∀ d ∈ T.map (·.d), d < a0.tmps.size := by
          intro d hd
          obtain ⟨t, ht, rfl⟩ := List.mem_map.1 hd
          exact (own t ht).2.1
        refine act_ext (by rw [putAll_defers]; exact I.defers) (by rw [putAll_size]; exact I.size) (fun k => ?_)
        rw [putAll_get (fun d => a.tmps.getD d undef) _ _ _ hd]
        by_cases h : k ∈ T.map (·.d)
        · rw [if_pos h]
        · rw [if_neg h]
          exact I.frame k (fun t ht e => h (List.mem_map.2 ⟨t, ht, e⟩))
      have hls : ∀ t ∈ T, listed.getD t.i false = true := by
        intro t ht
        have := hall t.i (own t ht).1
        rcases Nat.lt_or_ge t.i listed.size with h' | h'
        · simp [h'] at this ⊢; exact this
        · have := I.inv.size; have := (own t ht).1; omega
      obtain ⟨j, hj, hjs, hG⟩ := I.stage
      have hjl : j = CH.length := by
        rcases Nat.lt_or_ge j CH.length with h | h
        · have h1 : CH[j]? = some CH[j] := by simp [h]
          have := (hjs j _ h1).1 (hls _ (memC _ (List.getElem_mem h)))
          omega
        · omega
      rw [hjl] at hG
      have hfin := hend (fun d => a.tmps.getD d undef) w hG (fun k u hu => by
        have hu' := List.mem_of_getElem? hu
        have h1 := I.facts u hu' (hls u (memL u hu'))
        unfold HOp.fact at h1
        have e : (u.s.map fun k => if k ∈ T.map (·.d) then a.tmps.getD k undef else a0.tmps.getD k undef) = u.s.map fun k => a.tmps.getD k undef := by
          apply List.map_congr_left
          intro k _
          by_cases h : k ∈ T.map (·.d)
          · rw [if_pos h]
          · rw [if_neg h]
            exact (I.frame k (fun t ht e => h (List.mem_map.2 ⟨t, ht, e⟩))).symm
        rw [e]
        exact h1)
      rw [← ha] at hfin
      rw [Nat.zero_add]
      have hseq' : Region.seqB .any l.toArray (l.drop n).length n listed = true := by rw [hlist, List.length_drop]; exact hseq
      have := wpAny_of_seq (md := .any) (Q' := Q) (l.drop n) n listed a w (fun j => by simp [List.getElem?_drop]) hseq' hfin
      rwa [List.length_drop] at this
    | succ f ih =>
      intro listed a w I hf
      have hex : ∃ j, j < n ∧ listed.getD j true = false := by
        cases hL : (List.range n).filter fun j => !listed.getD j true with
        | nil => unfold todo at hf; rw [hL] at hf; cases hf
        | cons j L =>
          have : j ∈ (List.range n).filter fun j => !listed.getD j true := by rw [hL]; exact List.mem_cons_self
          obtain ⟨h1, h2⟩ := List.mem_filter.1 this
          exact ⟨j, List.mem_range.1 h1, by simpa using h2⟩
      have hready : Region.ready .any l.toArray listed ≠ [] := by
        have hmin : ∀ m j, j ≤ m → j < n → listed.getD j true = false → ∃ i, i ∈ Region.ready .any l.toArray listed := by
          intro m
          induction m with
          | zero =>
            intro j hj hjn hjl
            have hj0 : j = 0 := by omega
            subst hj0
            obtain ⟨t, ht, hti⟩ := cover 0 hjn
            obtain ⟨_, _, o, ho, _, hb⟩ := own t ht
            rw [hti] at ho hb
            exact ⟨0, mem_ready.2 ⟨hjl, o, by simpa using ho, fun e he hbe => absurd (hb e he hbe) (by omega)⟩⟩
          | succ m ihm =>
            intro j hj hjn hjl
            obtain ⟨t, ht, hti⟩ := cover j hjn
            obtain ⟨_, _, o, ho, _, hb⟩ := own t ht
            rw [hti] at ho hb
            by_cases hall : ∀ e ∈ o.after, Region.binds .any e = true → listed.getD e.on false = true
            · exact ⟨j, mem_ready.2 ⟨hjl, o, by simpa using ho, hall⟩⟩
            · simp only [Classical.not_forall] at hall
              obtain ⟨e, he, hbe, hne⟩ := hall
              have hlt := hb e he hbe
              have hes : e.on < listed.size := by rw [I.inv.size]; simp; omega
              exact ihm e.on (by omega) (by omega) (getD_in hes (by simpa using hne))
        obtain ⟨j, hj, hjl⟩ := hex
        obtain ⟨i, hi⟩ := hmin j j (Nat.le_refl _) hj hjl
        intro h
        rw [h] at hi
        cases hi
      rw [show f + 1 + (l.length - n) = (f + (l.length - n)) + 1 by omega]
      refine ⟨fun h => absurd h hready, fun i hi => ?_⟩
      have hin : i < n := by
        rcases Nat.lt_or_ge i n with h | h
        · exact h
        · obtain ⟨j, hj, hjl⟩ := hex
          exact absurd hi (tail_waits hs hc hn' I.inv _ j rfl hj hjl i h)
      obtain ⟨t, ht, hti⟩ := cover i hin
      obtain ⟨_, htd, o, ho, hdst, _⟩ := own t ht
      obtain ⟨hil, oi, hoi, hafter⟩ := mem_ready.1 hi
      have hoo : oi = o := by rw [hti] at ho; exact Option.some.inj (hoi.symm.trans (by simpa using ho))
      subst hoo
      have hframe : ∀ k, (T.map (·.d)).contains k = false → a.tmps.getD k undef = a0.tmps.getD k undef := fun k hk => I.frame k (fun u hu e => by
          have : (T.map (·.d)).contains k = true := by simpa using ⟨u, hu, e⟩
          rw [this] at hk; cases hk)
      have hfacts : ∀ (k : Nat) (u : HOp), TL[k]? = some u → Region.waitsFor .any l.toArray t.i u.i = true → u.p (u.s.map fun k => a.tmps.getD k undef) w := fun k u hu hw => by
        have hu' := List.mem_of_getElem? hu
        obtain ⟨oj, hoj, e, he, hb, hon⟩ := Region.waitsFor_spec hw
        have : oj = oi := by rw [hti] at hoj; exact Option.some.inj (hoj.symm.trans hoi)
        subst this
        have h1 := hafter e he hb
        rw [hon] at h1
        exact I.facts u hu' h1
      have step0 : ∀ (v : Value) (w' : World), (∃ j, j ≤ CH.length ∧ (∀ m c, CH[m]? = some c → ((listed.setIfInBounds i true).getD c.i false = true ↔ m < j)) ∧ G j (CH.map fun c => (a.put (some t.d) v).tmps.getD c.d undef) w') →
          (t ∈ TL → t.p (t.s.map fun k => if t.d = k then v else a.tmps.getD k undef) w') → wpAny P .any l.toArray Q (f + (l.length - n)) (listed.setIfInBounds i true) (a.put (some t.d) v) w' := by
        intro v w' hst hp
        refine ih _ _ _ ⟨I.inv.set hi hin, I.defers, ?_, ?_, hst, ?_⟩ ?_
        · rw [← I.size]; simp [Act.put]
        · intro k hk
          rw [put_get, if_neg (fun h => hk t ht h.1)]
          exact I.frame k hk
        · intro u hu hul
          by_cases hui : t.i = u.i
          · unfold HOp.fact
            have hut : u = t := hnodup u (memL u hu) t ht hui.symm
            subst hut
            have e : (u.s.map fun k => (a.put (some u.d) v).tmps.getD k undef) = u.s.map fun k => if u.d = k then v else a.tmps.getD k undef := by
              apply List.map_congr_left
              intro k _
              rw [put_get, I.size]
              by_cases hk : u.d = k
              · rw [if_pos ⟨hk, htd⟩, if_pos hk]
              · rw [if_neg (fun h => hk h.1), if_neg hk]
            rw [e]
            exact hp hu
          · unfold HOp.fact
            have hul2 : listed.getD u.i false = true := by rw [← getD_set_ne false (i := i) (j := u.i) (by rw [← hti]; exact hui)]; exact hul
            have h1 := hmono.mem u hu _ w w' (I.facts u hu hul2)
            have hnot : t.d ∉ u.s := by
              intro hin2
              have hw := (pair t ht u (memL u hu) hui).2 hin2
              obtain ⟨ou, hou, e, he, hb, hon⟩ := Region.waitsFor_spec hw
              have := I.inv.closed u.i ou hou hul2 e he hb
              rw [hon, hti, getD_both hil] at this
              cases this
            have e : (u.s.map fun k => (a.put (some t.d) v).tmps.getD k undef) = u.s.map fun k => a.tmps.getD k undef := by
              apply List.map_congr_left
              intro k hk
              rw [put_get, if_neg (fun (h : t.d = k ∧ t.d < a.tmps.size) => hnot (by rw [h.1]; exact hk))]
            rw [e]
            exact h1
        · have := todo_set hin hil; omega
      have fin : ∀ (R : Exit → Act → World → Prop), (∀ e a' w', R e a' w' → e = .normal) → (∀ a' w', R .normal a' w' → wpAny P .any l.toArray Q (f + (l.length - n)) (listed.setIfInBounds i true) a' w') → wpList P l.toArray R [oi] a w → wpOp P l.toArray Q i (fun a' w' => wpAny P .any l.toArray Q (f + (l.length - n)) (listed.setIfInBounds i true) a' w') a w := by
        intro R hR step H
        unfold wpList at H
        unfold wpOp
        rw [hoi]
        simp only
        by_cases hwant : Region.wanted oi (yielded l.toArray a.tmps) = true
        · rw [if_pos hwant] at H
          rw [if_pos hwant]
          left
          rcases H with H | ⟨_, a1, w1, h1⟩
          · exact wp_both (fun a' w' h => step a' w' h) (fun e a' w' he h => absurd (hR _ _ _ h) he) H
          · exact absurd (hR _ _ _ h1) (by simp)
        · rw [if_neg hwant] at H
          rw [if_neg hwant]
          exact step _ _ H
      obtain ⟨j, hj, hjs, hG⟩ := I.stage
      rcases split t ht with h | h
      · obtain ⟨j0, hj0l, hj0⟩ := List.mem_iff_getElem.1 h
        have hg0 : CH[j0]? = some t := by rw [List.getElem?_eq_getElem hj0l, hj0]
        have hnl : listed.getD t.i false = false := by rw [hti]; exact getD_both hil
        have h1 : ¬ j0 < j := fun h => by rw [(hjs j0 t hg0).2 h] at hnl; cases hnl
        have h2 : j0 ≤ j := by
          cases j0 with
          | zero => omega
          | succ q =>
            have hq : CH[q]? = some CH[q] := by simp
            obtain ⟨oj, hoj, e, he, hb, hon⟩ := Region.waitsFor_spec (hlk q _ t hq hg0)
            have : oj = oi := by rw [hti] at hoj; exact Option.some.inj (hoj.symm.trans hoi)
            subst this
            have h3 := hafter e he hb
            rw [hon] at h3
            have := (hjs q _ hq).1 h3
            omega
        obtain rfl : j0 = j := by omega
        refine fin _ (fun e a' w' h => h.1) ?_ (hopC j0 t hg0 oi ho a w hG hframe hfacts)
        rintro a' w' ⟨_, v, rfl, hG'⟩
        refine step0 v w' ⟨j0 + 1, by omega, ?_, ?_⟩ (fun hL => absurd rfl (hdis2 t hL t h).1)
        · intro m c hc
          by_cases hci : c.i = i
          · have hct : c = t := hnodup c (memC c (List.mem_of_getElem? hc)) t ht (by rw [hci, hti])
            subst hct
            have hm0 : m = j0 := by
              rcases Nat.lt_trichotomy m j0 with h | h | h
              · have := (hjs m c hc).2 h
                rw [hnl] at this; cases this
              · exact h
              · exfalso
                have hnd2 : (CH.map (·.i)).Nodup := by
                  have h5 := hnd
                  rw [← hTdef, List.map_map, List.map_append] at h5
                  exact (List.nodup_append.1 h5).1
                have h6 : (CH.map (·.i))[m]? = some c.i := by rw [List.getElem?_map, hc]; rfl
                have h7 : (CH.map (·.i))[j0]? = some c.i := by rw [List.getElem?_map, hg0]; rfl
                obtain ⟨hm1, hm2⟩ := List.getElem?_eq_some_iff.1 h6
                have := (List.getElem?_inj hm1 hnd2).1 (h6.trans h7.symm)
                omega
            subst hm0
            have hlt : i < listed.size := by rw [I.inv.size]; simp; have := hn; omega
            rw [hci]
            simp [hlt]
          · rw [getD_set_ne false (fun e => hci e.symm), hjs m c hc]
            constructor
            · intro h; omega
            · intro h
              rcases Nat.lt_or_ge m j0 with h' | h'
              · exact h'
              · obtain rfl : m = j0 := by omega
                rw [hg0] at hc
                cases hc
                exact absurd hti hci
        · have e : (CH.map fun c => (a.put (some t.d) v).tmps.getD c.d undef) = CH.map fun e => if e.d = t.d then v else a.tmps.getD e.d undef := by
            apply List.map_congr_left
            intro c _
            rw [put_get, I.size]
            by_cases hk : t.d = c.d
            · rw [if_pos ⟨hk, htd⟩, if_pos hk.symm]
            · rw [if_neg (fun h => hk h.1), if_neg (fun h => hk h.symm)]
          rw [e]
          exact hG'
      · refine fin _ (fun e a' w' h => h.1) ?_ (hopL.mem t h oi ho a w hframe hfacts)
        rintro a' w' ⟨_, v, rfl, rfl, hp⟩
        refine step0 v _ ⟨j, hj, ?_, ?_⟩ (fun _ => hp)
        · intro m c hc
          rw [getD_set_ne false (by rw [← hti]; exact (hdis2 t h c (List.mem_of_getElem? hc)).1)]
          exact hjs m c hc
        · have e : (CH.map fun c => (a.put (some t.d) v).tmps.getD c.d undef) = CH.map fun c => a.tmps.getD c.d undef := by
            apply List.map_congr_left
            intro c hc
            rw [put_get, if_neg (fun hh => (hdis2 t h c hc).2 hh.1)]
          rw [e]
          exact hG
  refine wp_region_any hm ?_
  have inv0 : HeadInv .any l.toArray n (Array.replicate l.toArray.size false) :=
    ⟨by simp, fun j oj _ hl => (by rw [getD_replicate_false] at hl; cases hl), fun t _ ht => getD_in (by simpa using ht) (getD_replicate_false _ _)⟩
  have I0 : ChInv l n CH TL T a0 G (Array.replicate l.toArray.size false) a0 { w0 with drawn := w0.drawn + 1 } :=
    ⟨inv0, rfl, rfl, fun _ _ => rfl, ⟨0, Nat.zero_le _, fun m c _ => (by rw [getD_replicate_false]; simp), hG0⟩, fun t _ hl => (by rw [getD_replicate_false] at hl; cases hl)⟩
  have ht0 : todo (Array.replicate l.toArray.size false) n = n := by
    unfold todo
    rw [List.filter_eq_self.2 (fun j hj => by
      have hj' := List.mem_range.1 hj
      have : (Array.replicate l.toArray.size false).getD j true = false := getD_in (by simp; omega) (getD_replicate_false _ _)
      rw [this]; rfl), List.length_range]
  have := key n _ _ _ I0 ht0
  rwa [show n + (l.length - n) = l.toArray.size by simp; omega] at this
end
end Go.Dx
end

/- the text Free4 -/
section
/- A region that draws its order: some operations follow one another (CH) and may change what they own; the others (TL) may make memory, come at any time, and their facts outlast what the chain does (R). No program in sight. -/
set_option linter.unusedVariables false
namespace Go.Dx
open Go.RowKit

def headOk4 (l : List Oper) (n : Nat) (T : List (Nat × Nat × List Nat)) : Bool :=
  let ops := l.toArray
  decide ((T.map (·.1)).Nodup) && decide (n < l.length) && Region.sinkB .any ops n && Region.chainB .any ops n && Region.seqB .any ops (l.length - n) n ((List.replicate n true ++ List.replicate (l.length - n) false).toArray) &&
  (List.range n).all (fun j => T.any fun t => t.1 == j) &&
  T.all (fun t => decide (t.1 < n) && (match l[t.1]? with | some o => (o.after.all fun e => !Region.binds .any e || decide (e.on < t.1)) | none => false)) &&
  T.all (fun t => T.all fun u => t.1 == u.1 || (t.2.1 != u.2.1 && (!u.2.2.contains t.2.1 || Region.waitsFor .any ops u.1 t.1)))
theorem putAll_get4 (g : Nat → Value) : ∀ (L : List Nat) (a : Act) (k : Nat), (putAll a (L.map fun d => (d, g d))).tmps.getD k undef = if k ∈ L ∧ k < a.tmps.size then g k else a.tmps.getD k undef := by
  intro L
  induction L with
  | nil => intro a k; simp [putAll]
  | cons d L ih =>
    intro a k
    have hz : (a.put (some d) (g d)).tmps.size = a.tmps.size := by simp [Act.put]
    rw [List.map_cons, putAll, ih, put_get, hz]
    by_cases h0 : k < a.tmps.size
    · by_cases h1 : k ∈ L
      · rw [if_pos ⟨h1, h0⟩, if_pos ⟨List.mem_cons_of_mem _ h1, h0⟩]
      · rw [if_neg (fun h => h1 h.1)]
        by_cases h2 : d = k
        · subst h2; rw [if_pos ⟨rfl, h0⟩, if_pos ⟨List.mem_cons_self, h0⟩]
        · rw [if_neg (fun h => h2 h.1), if_neg (fun h => by rcases List.mem_cons.1 h.1 with h | h; exact h2 h.symm; exact h1 h)]
    · rw [if_neg (fun h => h0 h.2), if_neg (fun h => h0 (by omega)), if_neg (fun h => h0 h.2)]
section
variable {P : Program}
/-- one operation of the chain is done -/
def OneTurn4 (c : HOp) (a : Act) (R : Value → World → Prop) (e : Exit) (a' : Act) (w' : World) : Prop := e = .normal ∧ ∃ v, a' = (if c.s = [] then a.put (some c.d) v else a) ∧ R v w'
theorem put_out (a : Act) (d : Nat) (v : Value) (h : a.tmps.size ≤ d) : a.put (some d) v = a := by
  refine act_ext rfl (by simp [Act.put]) (fun k => ?_)
  rw [put_get, if_neg (fun hh => by omega)]
/-- A chain operation without a slot (a store) is given a slot beyond the frame and 's' not []. -/
theorem wp_region_chain4 {id : Nat} {Q : Exit → Act → World → Prop} {a0 : Act} {w0 : World} {l : List Oper} (n : Nat) (R4 : World → World → Prop) (G : Nat → List Value → World → Prop) (CH TL : List HOp) (hm : P.follows .mixedOrders = true)
    (hB : ((TL.all fun t => decide (t.d < a0.tmps.size)) && (CH.all fun c => if c.s = [] then decide (c.d < a0.tmps.size) else decide (a0.tmps.size ≤ c.d)) && headOk4 l n ((CH ++ TL).map fun t => (t.i, t.d, if TL.any (fun u => u.i == t.i) then t.s else [])) && linkOk l.toArray (CH.map (·.i)) && (TL.all fun t => CH.all fun c => t.i != c.i && t.d != c.d)) = true)
    (hG0 : G 0 (CH.map fun c => a0.tmps.getD c.d undef) { w0 with drawn := w0.drawn + 1 })
    (hR : ∀ w w', Below w.heap.size w w' → R4 w w')
    (hGm : ∀ j vs w w', Below w.heap.size w w' → G j vs w → G j vs w')
    (hmono : All (fun t : HOp => ∀ vs w w', R4 w w' → t.p vs w → t.p vs w') TL)
    (hopC : ∀ m c, CH[m]? = some c → ∀ o, l[c.i]? = some o → ∀ (a : Act) (w : World), G m (CH.map fun c => a.tmps.getD c.d undef) w →
      (∀ k, ((CH ++ TL).map (·.d)).contains k = false → a.tmps.getD k undef = a0.tmps.getD k undef) →
      (∀ (k : Nat) (u : HOp), TL[k]? = some u → Region.waitsFor .any l.toArray c.i u.i = true → u.p (u.s.map fun k => a.tmps.getD k undef) w) →
      wpList P l.toArray (OneTurn4 c a fun v w' => R4 w w' ∧ G (m + 1) (CH.map fun e => if e.d = c.d then (if c.s = [] then v else undef) else a.tmps.getD e.d undef) w') [o] a w)
    (hopL : All (fun t : HOp => ∀ o, l[t.i]? = some o → ∀ (a : Act) (w : World),
      (∀ k, ((CH ++ TL).map (·.d)).contains k = false → a.tmps.getD k undef = a0.tmps.getD k undef) →
      (∀ (k : Nat) (u : HOp), TL[k]? = some u → Region.waitsFor .any l.toArray t.i u.i = true → u.p (u.s.map fun k => a.tmps.getD k undef) w) →
      (∃ j, (∀ m c, CH[m]? = some c → Region.waitsFor .any l.toArray t.i c.i = true → m < j) ∧ j ≤ CH.length ∧ G j (CH.map fun c => a.tmps.getD c.d undef) w) →
      wpList P l.toArray (OneDone t.d a w fun v w' => t.p (t.s.map fun k => if t.d = k then v else a.tmps.getD k undef) w') [o] a w) TL)
    (hend : ∀ (g : Nat → Value) (w : World), G CH.length (CH.map fun c => g c.d) w → (∀ (k : Nat) (u : HOp), TL[k]? = some u → u.p (u.s.map fun k => if k ∈ (CH ++ TL).map (·.d) then g k else a0.tmps.getD k undef) w) →
      wpList P l.toArray Q (l.drop n) (putAll a0 (((CH ++ TL).map (·.d)).map fun d => (d, g d))) w) : (Code.region id l.toArray true).wp P Q a0 w0 := by
  obtain ⟨T, hTdef⟩ : ∃ T, CH ++ TL = T := ⟨_, rfl⟩
  have memC : ∀ t ∈ CH, t ∈ T := fun t ht => by rw [← hTdef]; exact List.mem_append_left _ ht
  have memL : ∀ t ∈ TL, t ∈ T := fun t ht => by rw [← hTdef]; exact List.mem_append_right _ ht
  have split : ∀ t ∈ T, t ∈ CH ∨ t ∈ TL := fun t ht => by rw [← hTdef] at ht; exact List.mem_append.1 ht
  rw [hTdef] at hB hopC hopL hend
  rw [Bool.and_eq_true, Bool.and_eq_true] at hB
  obtain ⟨⟨hB, hlink⟩, hdis⟩ := hB
  rw [Bool.and_eq_true, Bool.and_eq_true] at hB
  obtain ⟨⟨hTLd, hCHd⟩, hB⟩ := hB
  have htl : ∀ t ∈ TL, t.d < a0.tmps.size := fun t ht => by simpa using List.all_eq_true.1 hTLd t ht
  have hch : ∀ c ∈ CH, c.s = [] → c.d < a0.tmps.size := fun c hc hs => by have := List.all_eq_true.1 hCHd c hc; simpa [hs] using this
  have hch2 : ∀ c ∈ CH, c.s ≠ [] → a0.tmps.size ≤ c.d := fun c hc hs => by have := List.all_eq_true.1 hCHd c hc; simpa [hs] using this
  have hdis2 : ∀ t ∈ TL, ∀ c ∈ CH, t.i ≠ c.i ∧ t.d ≠ c.d := by
    intro t ht c hc
    have := List.all_eq_true.1 (List.all_eq_true.1 hdis t ht) c hc
    simpa using this
  have hlk : ∀ m c e, CH[m]? = some c → CH[m + 1]? = some e → Region.waitsFor .any l.toArray e.i c.i = true := fun m c e h1 h2 =>
    linkOk_get hlink m c.i e.i (by rw [List.getElem?_map, h1]; rfl) (by rw [List.getElem?_map, h2]; rfl)
  simp only [headOk4, Bool.and_eq_true, decide_eq_true_eq] at hB
  obtain ⟨⟨⟨⟨⟨⟨⟨hnd, hn⟩, hs⟩, hc⟩, hseq⟩, hcov⟩, hT⟩, hpair⟩ := hB
  have hnodup : ∀ t ∈ T, ∀ u ∈ T, t.i = u.i → t = u := inj_nodup (·.i) T (by rw [List.map_map] at hnd; exact hnd)
  have hn' : n < l.toArray.size := by simpa using hn
  have cover : ∀ j, j < n → ∃ t ∈ T, t.i = j := by
    intro j hj
    have h := List.all_eq_true.1 hcov j (List.mem_range.2 hj)
    obtain ⟨x, hx, he⟩ := List.any_eq_true.1 h
    obtain ⟨t, ht, rfl⟩ := List.mem_map.1 hx
    exact ⟨t, ht, by simpa using he⟩
  have own : ∀ t ∈ T, t.i < n ∧ ∃ o, l[t.i]? = some o ∧ ∀ e ∈ o.after, Region.binds .any e = true → e.on < t.i := by
    intro t ht
    have h := List.all_eq_true.1 hT _ (List.mem_map.2 ⟨t, ht, rfl⟩)
    simp only [Bool.and_eq_true, decide_eq_true_eq] at h
    obtain ⟨h1, h3⟩ := h
    refine ⟨h1, ?_⟩
    cases ho : l[t.i]? with
    | none => rw [ho] at h3; cases h3
    | some o =>
      rw [ho] at h3
      refine ⟨o, rfl, fun e he hb => ?_⟩
      have := Array.all_eq_true_iff_forall_mem.1 h3 e he
      simpa [hb] using this
  have pair : ∀ t ∈ T, ∀ u ∈ T, t.i ≠ u.i → t.d ≠ u.d ∧ (u ∈ TL → t.d ∈ u.s → Region.waitsFor .any l.toArray u.i t.i = true) := by
    intro t ht u hu hne
    have h := List.all_eq_true.1 (List.all_eq_true.1 hpair _ (List.mem_map.2 ⟨t, ht, rfl⟩)) _ (List.mem_map.2 ⟨u, hu, rfl⟩)
    simp only [Bool.or_eq_true, beq_iff_eq, hne, false_or, Bool.and_eq_true, bne_iff_ne, ne_eq, Bool.not_eq_true'] at h
    refine ⟨h.1, fun huL hin => ?_⟩
    have hany : (TL.any fun v => v.i == u.i) = true := List.any_eq_true.2 ⟨u, huL, by simp⟩
    rw [hany, if_pos rfl] at h
    rcases h.2 with h2 | h2
    · have : u.s.contains t.d = true := by simpa using hin
      rw [this] at h2; cases h2
    · exact h2
  have key : ∀ (f : Nat) (listed : Array Bool) (a : Act) (w : World), ChInv l n CH TL T a0 G listed a w → todo listed n = f → wpAny P .any l.toArray Q (f + (l.length - n)) listed a w := by
    intro f
    induction f with
    | zero =>
      intro listed a w I h0
      have hall : ∀ j, j < n → listed.getD j true = true := by
        intro j hj
        cases hb : listed.getD j true with
        | true => rfl
        | false =>
          have : j ∈ (List.range n).filter fun j => !listed.getD j true := List.mem_filter.2 ⟨List.mem_range.2 hj, by rw [hb]; rfl⟩
          unfold todo at h0
          rw [List.eq_nil_of_length_eq_zero h0] at this
          cases this
      have hlist : listed = (List.replicate n true ++ List.replicate (l.length - n) false).toArray := by
        have hsz := I.inv.size
        apply Array.ext
        · simp at hsz ⊢; omega
        · intro j h1 h2
          by_cases hj : j < n
          · have := hall j hj
            simp [Array.getD, h1] at this
            simp [this, List.getElem_append_left, hj]
          · have := I.inv.tail j (by omega) (by rw [← hsz]; exact h1)
            simp [Array.getD, h1] at this
            simp only [this, List.getElem_toArray]
            rw [List.getElem_append_right (by simp; omega)]
            simp
      have ha : a = putAll a0 ((T.map (·.d)).map fun d => (d, a.tmps.getD d undef)) := by
        refine act_ext (by rw [putAll_defers]; exact I.defers) (by rw [putAll_size]; exact I.size) (fun k => ?_)
        rw [putAll_get4 (fun d => a.tmps.getD d undef)]
        by_cases h0 : k < a0.tmps.size
        · by_cases h : k ∈ T.map (·.d)
          · rw [if_pos ⟨h, h0⟩]
          · rw [if_neg (fun hh => h hh.1)]
            exact I.frame k (fun t ht e => h (List.mem_map.2 ⟨t, ht, e⟩))
        · rw [if_neg (fun hh => h0 hh.2)]
          have h1 := I.size
          have hk : ¬ k < a.tmps.size := by omega
          simp [Array.getD, hk, h0]
      have hls : ∀ t ∈ T, listed.getD t.i false = true := by
        intro t ht
        have := hall t.i (own t ht).1
        rcases Nat.lt_or_ge t.i listed.size with h' | h'
        · simp [h'] at this ⊢; exact this
        · have := I.inv.size; have := (own t ht).1; omega
      obtain ⟨j, hj, hjs, hG⟩ := I.stage
      have hjl : j = CH.length := by
        rcases Nat.lt_or_ge j CH.length with h | h
        · have h1 : CH[j]? = some CH[j] := by simp [h]
          have := (hjs j _ h1).1 (hls _ (memC _ (List.getElem_mem h)))
          omega
        · omega
      rw [hjl] at hG
      have hfin := hend (fun d => a.tmps.getD d undef) w hG (fun k u hu => by
        have hu' := List.mem_of_getElem? hu
        have h1 := I.facts u hu' (hls u (memL u hu'))
        unfold HOp.fact at h1
        have e : (u.s.map fun k => if k ∈ T.map (·.d) then a.tmps.getD k undef else a0.tmps.getD k undef) = u.s.map fun k => a.tmps.getD k undef := by
          apply List.map_congr_left
          intro k _
          by_cases h : k ∈ T.map (·.d)
          · rw [if_pos h]
          · rw [if_neg h]
            exact (I.frame k (fun t ht e => h (List.mem_map.2 ⟨t, ht, e⟩))).symm
        rw [e]
        exact h1)
      rw [← ha] at hfin
      rw [Nat.zero_add]
      have hseq' : Region.seqB .any l.toArray (l.drop n).length n listed = true := by rw [hlist, List.length_drop]; exact hseq
      have := wpAny_of_seq (md := .any) (Q' := Q) (l.drop n) n listed a w (fun j => by simp [List.getElem?_drop]) hseq' hfin
      rwa [List.length_drop] at this
    | succ f ih =>
      intro listed a w I hf
      have hex : ∃ j, j < n ∧ listed.getD j true = false := by
        cases hL : (List.range n).filter fun j => !listed.getD j true with
        | nil => unfold todo at hf; rw [hL] at hf; cases hf
        | cons j L =>
          have : j ∈ (List.range n).filter fun j => !listed.getD j true := by rw [hL]; exact List.mem_cons_self
          obtain ⟨h1, h2⟩ := List.mem_filter.1 this
          exact ⟨j, List.mem_range.1 h1, by simpa using h2⟩
      have hready : Region.ready .any l.toArray listed ≠ [] := by
        have hmin : ∀ m j, j ≤ m → j < n → listed.getD j true = false → ∃ i, i ∈ Region.ready .any l.toArray listed := by
          intro m
          induction m with
          | zero =>
            intro j hj hjn hjl
            have hj0 : j = 0 := by omega
            subst hj0
            obtain ⟨t, ht, hti⟩ := cover 0 hjn
            obtain ⟨_, o, ho, hb⟩ := own t ht
            rw [hti] at ho hb
            exact ⟨0, mem_ready.2 ⟨hjl, o, by simpa using ho, fun e he hbe => absurd (hb e he hbe) (by omega)⟩⟩
          | succ m ihm =>
            intro j hj hjn hjl
            obtain ⟨t, ht, hti⟩ := cover j hjn
            obtain ⟨_, o, ho, hb⟩ := own t ht
            rw [hti] at ho hb
            by_cases hall : ∀ e ∈ o.after, Region.binds .any e = true → listed.getD e.on false = true
            · exact ⟨j, mem_ready.2 ⟨hjl, o, by simpa using ho, hall⟩⟩
            · simp only [Classical.not_forall] at hall
              obtain ⟨e, he, hbe, hne⟩ := hall
              have hlt := hb e he hbe
              have hes : e.on < listed.size := by rw [I.inv.size]; simp; omega
              exact ihm e.on (by omega) (by omega) (getD_in hes (by simpa using hne))
        obtain ⟨j, hj, hjl⟩ := hex
        obtain ⟨i, hi⟩ := hmin j j (Nat.le_refl _) hj hjl
        intro h
        rw [h] at hi
        cases hi
      rw [show f + 1 + (l.length - n) = (f + (l.length - n)) + 1 by omega]
      refine ⟨fun h => absurd h hready, fun i hi => ?_⟩
      have hin : i < n := by
        rcases Nat.lt_or_ge i n with h | h
        · exact h
        · obtain ⟨j, hj, hjl⟩ := hex
          exact absurd hi (tail_waits hs hc hn' I.inv _ j rfl hj hjl i h)
      obtain ⟨t, ht, hti⟩ := cover i hin
      obtain ⟨_, o, ho, _⟩ := own t ht
      obtain ⟨hil, oi, hoi, hafter⟩ := mem_ready.1 hi
      have hoo : oi = o := by rw [hti] at ho; exact Option.some.inj (hoi.symm.trans (by simpa using ho))
      subst hoo
      have hframe : ∀ k, (T.map (·.d)).contains k = false → a.tmps.getD k undef = a0.tmps.getD k undef := fun k hk => I.frame k (fun u hu e => by
          have : (T.map (·.d)).contains k = true := by simpa using ⟨u, hu, e⟩
          rw [this] at hk; cases hk)
      have hfacts : ∀ (k : Nat) (u : HOp), TL[k]? = some u → Region.waitsFor .any l.toArray t.i u.i = true → u.p (u.s.map fun k => a.tmps.getD k undef) w := fun k u hu hw => by
        have hu' := List.mem_of_getElem? hu
        obtain ⟨oj, hoj, e, he, hb, hon⟩ := Region.waitsFor_spec hw
        have : oj = oi := by rw [hti] at hoj; exact Option.some.inj (hoj.symm.trans hoi)
        subst this
        have h1 := hafter e he hb
        rw [hon] at h1
        exact I.facts u hu' h1
      have step0 : ∀ (v : Value) (w' : World), R4 w w' → (∃ j, j ≤ CH.length ∧ (∀ m c, CH[m]? = some c → ((listed.setIfInBounds i true).getD c.i false = true ↔ m < j)) ∧ G j (CH.map fun c => (a.put (some t.d) v).tmps.getD c.d undef) w') →
          (t ∈ TL → t.p (t.s.map fun k => if t.d = k then v else a.tmps.getD k undef) w') → wpAny P .any l.toArray Q (f + (l.length - n)) (listed.setIfInBounds i true) (a.put (some t.d) v) w' := by
        intro v w' hrr hst hp
        refine ih _ _ _ ⟨I.inv.set hi hin, I.defers, ?_, ?_, hst, ?_⟩ ?_
        · rw [← I.size]; simp [Act.put]
        · intro k hk
          rw [put_get, if_neg (fun h => hk t ht h.1)]
          exact I.frame k hk
        · intro u hu hul
          by_cases hui : t.i = u.i
          · unfold HOp.fact
            have hut : u = t := hnodup u (memL u hu) t ht hui.symm
            subst hut
            have e : (u.s.map fun k => (a.put (some u.d) v).tmps.getD k undef) = u.s.map fun k => if u.d = k then v else a.tmps.getD k undef := by
              apply List.map_congr_left
              intro k _
              rw [put_get, I.size]
              by_cases hk : u.d = k
              · rw [if_pos ⟨hk, htl _ hu⟩, if_pos hk]
              · rw [if_neg (fun h => hk h.1), if_neg hk]
            rw [e]
            exact hp hu
          · unfold HOp.fact
            have hul2 : listed.getD u.i false = true := by rw [← getD_set_ne false (i := i) (j := u.i) (by rw [← hti]; exact hui)]; exact hul
            have h1 := hmono.mem u hu _ w w' hrr (I.facts u hu hul2)
            have hnot : t.d ∉ u.s := by
              intro hin2
              have hw := (pair t ht u (memL u hu) hui).2 hu hin2
              obtain ⟨ou, hou, e, he, hb, hon⟩ := Region.waitsFor_spec hw
              have := I.inv.closed u.i ou hou hul2 e he hb
              rw [hon, hti, getD_both hil] at this
              cases this
            have e : (u.s.map fun k => (a.put (some t.d) v).tmps.getD k undef) = u.s.map fun k => a.tmps.getD k undef := by
              apply List.map_congr_left
              intro k hk
              rw [put_get, if_neg (fun (h : t.d = k ∧ t.d < a.tmps.size) => hnot (by rw [h.1]; exact hk))]
            rw [e]
            exact h1
        · have := todo_set hin hil; omega
      have fin : ∀ (R : Exit → Act → World → Prop), (∀ e a' w', R e a' w' → e = .normal) → (∀ a' w', R .normal a' w' → wpAny P .any l.toArray Q (f + (l.length - n)) (listed.setIfInBounds i true) a' w') → wpList P l.toArray R [oi] a w → wpOp P l.toArray Q i (fun a' w' => wpAny P .any l.toArray Q (f + (l.length - n)) (listed.setIfInBounds i true) a' w') a w := by
        intro R hR step H
        unfold wpList at H
        unfold wpOp
        rw [hoi]
        simp only
        by_cases hwant : Region.wanted oi (yielded l.toArray a.tmps) = true
        · rw [if_pos hwant] at H
          rw [if_pos hwant]
          left
          rcases H with H | ⟨_, a1, w1, h1⟩
          · exact wp_both (fun a' w' h => step a' w' h) (fun e a' w' he h => absurd (hR _ _ _ h) he) H
          · exact absurd (hR _ _ _ h1) (by simp)
        · rw [if_neg hwant] at H
          rw [if_neg hwant]
          exact step _ _ H
      obtain ⟨j, hj, hjs, hG⟩ := I.stage
      rcases split t ht with h | h
      · obtain ⟨j0, hj0l, hj0⟩ := List.mem_iff_getElem.1 h
        have hg0 : CH[j0]? = some t := by rw [List.getElem?_eq_getElem hj0l, hj0]
        have hnl : listed.getD t.i false = false := by rw [hti]; exact getD_both hil
        have h1 : ¬ j0 < j := fun h => by rw [(hjs j0 t hg0).2 h] at hnl; cases hnl
        have h2 : j0 ≤ j := by
          cases j0 with
          | zero => omega
          | succ q =>
            have hq : CH[q]? = some CH[q] := by simp
            obtain ⟨oj, hoj, e, he, hb, hon⟩ := Region.waitsFor_spec (hlk q _ t hq hg0)
            have : oj = oi := by rw [hti] at hoj; exact Option.some.inj (hoj.symm.trans hoi)
            subst this
            have h3 := hafter e he hb
            rw [hon] at h3
            have := (hjs q _ hq).1 h3
            omega
        obtain rfl : j0 = j := by omega
        refine fin _ (fun e a' w' h => h.1) ?_ (hopC j0 t hg0 oi ho a w hG hframe hfacts)
        rintro a' w' ⟨_, v, ha', hrr, hG'⟩
        obtain rfl : a' = a.put (some t.d) v := by
          rw [ha']
          by_cases hs0 : t.s = []
          · rw [if_pos hs0]
          · rw [if_neg hs0, put_out a t.d v (by rw [I.size]; exact hch2 t h hs0)]
        refine step0 v w' hrr ⟨j0 + 1, by omega, ?_, ?_⟩ (fun hL => absurd rfl (hdis2 t hL t h).1)
        · intro m c hc
          by_cases hci : c.i = i
          · have hct : c = t := hnodup c (memC c (List.mem_of_getElem? hc)) t ht (by rw [hci, hti])
            subst hct
            have hm0 : m = j0 := by
              rcases Nat.lt_trichotomy m j0 with h | h | h
              · have := (hjs m c hc).2 h
                rw [hnl] at this; cases this
              · exact h
              · exfalso
                have hnd2 : (CH.map (·.i)).Nodup := by
                  have h5 := hnd
                  rw [← hTdef, List.map_map, List.map_append] at h5
                  exact (List.nodup_append.1 h5).1
                have h6 : (CH.map (·.i))[m]? = some c.i := by rw [List.getElem?_map, hc]; rfl
                have h7 : (CH.map (·.i))[j0]? = some c.i := by rw [List.getElem?_map, hg0]; rfl
                obtain ⟨hm1, hm2⟩ := List.getElem?_eq_some_iff.1 h6
                have := (List.getElem?_inj hm1 hnd2).1 (h6.trans h7.symm)
                omega
            subst hm0
            have hlt : i < listed.size := by rw [I.inv.size]; simp; have := hn; omega
            rw [hci]
            simp [hlt]
          · rw [getD_set_ne false (fun e => hci e.symm), hjs m c hc]
            constructor
            · intro h; omega
            · intro h
              rcases Nat.lt_or_ge m j0 with h' | h'
              · exact h'
              · obtain rfl : m = j0 := by omega
                rw [hg0] at hc
                cases hc
                exact absurd hti hci
        · have e : (CH.map fun c => (a.put (some t.d) v).tmps.getD c.d undef) = CH.map fun e => if e.d = t.d then (if t.s = [] then v else undef) else a.tmps.getD e.d undef := by
            apply List.map_congr_left
            intro c _
            rw [put_get, I.size]
            by_cases hk : t.d = c.d
            · by_cases hs0 : t.s = []
              · rw [if_pos ⟨hk, hch t h hs0⟩, if_pos hk.symm, if_pos hs0]
              · have h2 := hch2 t h hs0
                rw [if_neg (fun hh => by omega), if_pos hk.symm, if_neg hs0]
                have h1 := I.size
                have hk : ¬ c.d < a.tmps.size := by omega
                simp [Array.getD, hk]
            · rw [if_neg (fun h => hk h.1), if_neg (fun h => hk h.symm)]
          rw [e]
          exact hG'
      · refine fin _ (fun e a' w' h => h.1) ?_ (hopL.mem t h oi ho a w hframe hfacts ⟨j, ?_, hj, hG⟩)
        rotate_left
        · intro m c hc hw
          obtain ⟨oj, hoj, e, he, hb, hon⟩ := Region.waitsFor_spec hw
          have : oj = oi := by rw [hti] at hoj; exact Option.some.inj (hoj.symm.trans hoi)
          subst this
          have h3 := hafter e he hb
          rw [hon] at h3
          exact (hjs m c hc).1 h3
        rintro a' w' ⟨_, v, rfl, hbl, hp⟩
        refine step0 v _ (hR _ _ hbl) ⟨j, hj, ?_, ?_⟩ (fun _ => hp)
        · intro m c hc
          rw [getD_set_ne false (by rw [← hti]; exact (hdis2 t h c (List.mem_of_getElem? hc)).1)]
          exact hjs m c hc
        · have e : (CH.map fun c => (a.put (some t.d) v).tmps.getD c.d undef) = CH.map fun c => a.tmps.getD c.d undef := by
            apply List.map_congr_left
            intro c hc
            rw [put_get, if_neg (fun hh => (hdis2 t h c hc).2 hh.1)]
          rw [e]
          exact hGm _ _ _ _ hbl hG
  refine wp_region_any hm ?_
  have inv0 : HeadInv .any l.toArray n (Array.replicate l.toArray.size false) :=
    ⟨by simp, fun j oj _ hl => (by rw [getD_replicate_false] at hl; cases hl), fun t _ ht => getD_in (by simpa using ht) (getD_replicate_false _ _)⟩
  have I0 : ChInv l n CH TL T a0 G (Array.replicate l.toArray.size false) a0 { w0 with drawn := w0.drawn + 1 } :=
    ⟨inv0, rfl, rfl, fun _ _ => rfl, ⟨0, Nat.zero_le _, fun m c _ => (by rw [getD_replicate_false]; simp), hG0⟩, fun t _ hl => (by rw [getD_replicate_false] at hl; cases hl)⟩
  have ht0 : todo (Array.replicate l.toArray.size false) n = n := by
    unfold todo
    rw [List.filter_eq_self.2 (fun j hj => by
      have hj' := List.mem_range.1 hj
      have : (Array.replicate l.toArray.size false).getD j true = false := getD_in (by simp; omega) (getD_replicate_false _ _)
      rw [this]; rfl), List.length_range]
  have := key n _ _ _ I0 ht0
  rwa [show n + (l.length - n) = l.toArray.size by simp; omega] at this
end
end Go.Dx
end

/- the text T37 -/
section
/- Chapter 15: fewer lines; the rows without one, appended. -/
namespace Go.Proofs.Ytmjkhmebpciopaa
open Go.RowKit Go.Dx

theorem lay_total {X : List (List (List UInt8))} {W : Int} {P : List (List UInt8)} {F Ls : List Nat} (h : LayOf X W P F Ls) (h0 : errT X W = 0) (hX : VX X) : ∃ L T, Sol (colW X) (nCols X) X.length W L T 1 ∧ P.length = if nCols X = 1 then X.length else L 1 := by
  rcases h with ⟨_, L, T, hS, rfl, _, _⟩ | ⟨h, _⟩
  · exact ⟨L, T, hS, hS.total hX.c1⟩
  · exact absurd h0 h
theorem lay_col {X : List (List (List UInt8))} {W : Int} {P P' : List (List UInt8)} {F Ls F' Ls' : List Nat} {c : Nat} (h : LayOf X W P F Ls) (h0 : errT X W = 0) (hX : VX X) (hc : 1 ≤ c) (hcn : c < nCols X)
    (h' : LayOf (woX X c) W P' F' Ls') : errT (woX X c) W = 0 ∧ P'.length ≤ P.length := by
  have hz := errT_zero h0
  have hvx := vx_wo (c := c) hX hcn (by omega)
  have hcw := colW_wo (c := c) hX hcn
  have hf : FitW (colW (woX X c)) (nCols (woX X c)) W := by rw [hcw, hvx.2.1]; exact fit_wo hz.2.2.2 hc hcn
  have h0' : errT (woX X c) W = 0 := errT_ok ⟨hvx.1.back, hz.2.1, hz.2.2.1⟩ hf
  refine ⟨h0', ?_⟩
  obtain ⟨L, T, hS, hT⟩ := lay_total h h0 hX
  obtain ⟨L', T', hS', hT'⟩ := lay_total h' h0' hvx.1
  have hn1 : ¬ nCols X = 1 := by omega
  rw [if_neg hn1] at hT
  rw [hT, hT']
  have hge := hS.ge (k := 1) (Nat.le_refl _) (by omega)
  rw [hcw, hvx.2.1, hvx.2.2] at hS'
  split
  · rw [hvx.2.2]; exact hge
  · rename_i hn
    rw [hvx.2.1] at hn
    exact (hS.skip hS' hc hcn 1 (Nat.le_refl _) (by omega)).2 hc (by omega)
theorem lay_mono {X X' : List (List (List UInt8))} {W W' : Int} {P P' : List (List UInt8)} {F Ls F' Ls' : List Nat} (h : LayOf X W P F Ls) (h0 : errT X W = 0) (hX : VX X) (hX' : VX X') (hn : nCols X' = nCols X)
    (hl : X'.length ≤ X.length) (hf : ∀ i, colW X' i ≤ colW X i) (hW : W ≤ W') (hW' : W' ≤ 1000) (h' : LayOf X' W' P' F' Ls') : errT X' W' = 0 ∧ P'.length ≤ P.length := by
  have hz := errT_zero h0
  have h0' : errT X' W' = 0 := errT_ok ⟨hX'.back, by omega, hW'⟩ (by rw [hn]; exact fit_le hz.2.2.2 hf hW)
  refine ⟨h0', ?_⟩
  obtain ⟨L, T, hS, hT⟩ := lay_total h h0 hX
  obtain ⟨L', T', hS', hT'⟩ := lay_total h' h0' hX'
  rw [hT, hT', hn]
  rw [hn] at hS'
  split
  · exact hl
  · exact hS.mono hS' hf hl hW 1 (Nat.le_refl _) (by have := hX.c1; omega)

section
variable {P : Program} {w : World} {ops : Array Oper} {rest : List Oper} {act : Act} {Q : Exit → Act → World → Prop} {ty : TypeId} {pos : String} {after : Array Edge}
/-- 's[:n]', whatever the world is -/
theorem cut_hi_any (d : Nat) (t : TypeId) (x hi : Operand) (e : TypeId) (ht : P.underlying t = some (.slice e)) (sz : Nat) (hsz : (P.info? e).map (·.size) = some sz)
    (a : Option Addr) (n c : Nat) (hx : act.eval x = .slice a n c) (ku : IntKind) (u : Nat) (hu : act.eval hi = .int ku (u : Int)) (hun : u ≤ c)
    (hK : wpList P ops Q rest (act.put (some d) (.slice a u c)) w) :
    wpList P ops Q ({ dst := some d, op := .slice t x none (some hi) none, type := ty, pos := pos, after := after, guard := none } :: rest) act w := by
  refine wpList_plain rfl fun K hK' => ?_
  obtain ⟨i0, hi0, hs0⟩ := Option.map_eq_some_iff.1 hsz
  have hrun : (Instr.sliceAt t (.slice a n c) none (some (.int ku (u : Int))) none).run P w = .ok (.slice a u c) w := by
    have h3 : (0 : Int) ≤ u ∧ (u : Int) ≤ c := by omega
    simp [Instr.sliceAt, Instr.slice, Instr.sliceBounds, Instr.sliceBound, asIntOf, run_underlying ht, sizeOf, typeInfo, hi0, h3, hun]
    intro _
    cases a with
    | none => rfl
    | some p => simp [Addr.add]
  unfold Oper.wp
  simp [execOp, hx, hu, hrun, Result.andThen]
  exact hK' _ _ hK
/-- 's[n:]', whatever the world is -/
theorem cut_lo_any (d : Nat) (t : TypeId) (x lo : Operand) (e : TypeId) (ht : P.underlying t = some (.slice e)) (hsz : (P.info? e).map (·.size) = some 1)
    (a : Option Addr) (n c : Nat) (hx : act.eval x = .slice a n c) (kl : IntKind) (l : Nat) (hl : act.eval lo = .int kl (l : Int)) (hln : l ≤ n)
    (hK : wpList P ops Q rest (act.put (some d) (.slice (if c = l then a else a.map (·.add l)) (n - l) (c - l))) w) :
    wpList P ops Q ({ dst := some d, op := .slice t x (some lo) none none, type := ty, pos := pos, after := after, guard := none } :: rest) act w := by
  refine wpList_plain rfl fun K hK' => ?_
  obtain ⟨i0, hi0, hs0⟩ := Option.map_eq_some_iff.1 hsz
  have hrun : (Instr.sliceAt t (.slice a n c) (some (.int kl (l : Int))) none none).run P w = .ok (.slice (if c = l then a else a.map (·.add l)) (n - l) (c - l)) w := by
    have h2 : (0 : Int) ≤ l ∧ (l : Int) ≤ n := by omega
    simp [Instr.sliceAt, Instr.slice, Instr.sliceBounds, Instr.sliceBound, asIntOf, run_underlying ht, sizeOf, typeInfo, hi0, hs0, h2, hln]
  unfold Oper.wp
  simp only [execOp, Option.map_some, Option.map_none, hx, hl, Sem.run_bind, hrun, Result.andThen, Sem.run_pure]
  exact hK' _ _ hK
end
/-- a block of certificates stays one -/
def KeepsC (w w' : World) : Prop := ∀ (k : Nat) (C : Array Value) (z : Nat × Nat), w.heap[k]? = some (.cells C 31 z) → ∃ C' : Array Value, C'.size = C.size ∧ w'.heap[k]? = some (.cells C' 31 z)
theorem KeepsC.of {w w' : World} (h : Below w.heap.size w w') : KeepsC w w' := fun k C _ hk => ⟨C, rfl, (h.block k (Array.getElem?_eq_some_iff.1 hk).1).trans hk⟩
theorem KeepsC.own {w w' : World} {B : Nat} {a : Option Addr} {n c : Nat} {cs : List Value} (ho : Own w B 28 1 a n c cs) (hg : w.grownBy w' (a.map (·.block))) : KeepsC w w' := fun k C z hk =>
  ⟨C, rfl, (hg.block k (Array.getElem?_eq_some_iff.1 hk).1 (fun e => by
    cases a with
    | none => cases e
    | some t =>
      obtain ⟨C', z', h⟩ := own_kind ho
      have e' : k = t.block := by simpa using e
      rw [e', h] at hk
      injection hk with hk
      injection hk with _ hk _
      exact absurd hk (by decide))).trans hk⟩
theorem KeepsC.put {w w' : World} {b : Nat} {cs ds : List Value} (hb : Box w b 31 cs) (hl : ds.length = cs.length) (hd : Box w' b 31 ds) (hg : w.grownBy w' (some b)) : KeepsC w w' := fun k C z hk => by
  by_cases h : k = b
  · subst h
    unfold Box at hb hd
    rw [hb] at hk
    injection hk with hk
    injection hk with h1 h2 h3
    subst h1 h3
    exact ⟨ds.toArray, by simpa using hl, hd⟩
  · exact ⟨C, rfl, (hg.block k (Array.getElem?_eq_some_iff.1 hk).1 (fun e => h (by simpa using e))).trans hk⟩
/-- a certificate's block, whatever it holds -/
def BoxC (w : World) (b : Nat) : Prop := ∃ cs : List Value, cs.length = 2 ∧ Box w b 31 cs
theorem KeepsC.box {w w' : World} (h : KeepsC w w') {b : Nat} (hb : BoxC w b) : BoxC w' b := by
  obtain ⟨cs, h1, h2⟩ := hb
  obtain ⟨C', h3, h4⟩ := h b _ _ h2
  exact ⟨C'.toList, by rw [Array.length_toList, h3]; simpa using h1, by unfold Box; rw [h4]⟩
/-- the answer of a layout, its page of M lines -/
def AnsM (M : Nat) (v : Value) : Prop := ∃ a c af nf cf al nl cl, v = .tuple #[.slice a M c, .agg #[.slice af nf cf, .slice al nl cl], .int .i64 0]
/-- how far 'append(append([][][]byte{}, x[:k]...), x[k+1:]...)' and its layout are -/
def GF (w0 : World) (hs : List Hd) (N k M : Nat) : Nat → List Value → World → Prop
  | 0, _, w => Below w0.heap.size w0 w
  | 1, vs, w => ∃ b, vs.getD 0 undef = .slice (some ⟨b, 0, none⟩) 0 0 ∧ Own w w0.heap.size 28 1 (some ⟨b, 0, none⟩) 0 0 [] ∧ Below w0.heap.size w0 w
  | 2, vs, w => ∃ a c, vs.getD 1 undef = .slice a k c ∧ Own w w0.heap.size 28 1 a k c ((hs.take k).map hv) ∧ Below w0.heap.size w0 w
  | 3, vs, w => ∃ a c, vs.getD 2 undef = .slice a (k + (N - (k + 1))) c ∧ Own w w0.heap.size 28 1 a (k + (N - (k + 1))) c ((hs.take k).map hv ++ (hs.drop (k + 1)).map hv) ∧ Below w0.heap.size w0 w
  | 4, vs, w => AnsM M (vs.getD 3 undef) ∧ Below w0.heap.size w0 w
  | _, vs, w => AnsM M (vs.getD 3 undef) ∧ (∃ a c, vs.getD 4 undef = .slice a M c) ∧ Below w0.heap.size w0 w
theorem GF.ans {w0 w : World} {hs : List Hd} {N k M : Nat} {vs : List Value} : ∀ {j}, 4 ≤ j → GF w0 hs N k M j vs w → AnsM M (vs.getD 3 undef) := by
  intro j hj h
  match j, h with
  | 4, h => exact h.1
  | _ + 5, h => exact h.1
theorem GF.bel {w0 w : World} {hs : List Hd} {N k M : Nat} {vs : List Value} : ∀ {j}, GF w0 hs N k M j vs w → Below w0.heap.size w0 w := by
  intro j h
  match j, h with
  | 0, h => exact h
  | 1, ⟨_, _, _, h⟩ => exact h
  | 2, ⟨_, _, _, _, h⟩ => exact h
  | 3, ⟨_, _, _, _, h⟩ => exact h
  | 4, ⟨_, h⟩ => exact h
  | _ + 5, ⟨_, _, h⟩ => exact h
theorem GF.mono {w0 : World} {hs : List Hd} {N k M : Nat} : ∀ j vs w w', Below w.heap.size w w' → GF w0 hs N k M j vs w → GF w0 hs N k M j vs w' := by
  intro j vs w w' hb h
  match j, h with
  | 0, h => exact Below.trans h (hb.mono (Below.size h))
  | 1, ⟨b, h1, h2, h3⟩ => exact ⟨b, h1, h2.below hb, h3.trans (hb.mono h3.size)⟩
  | 2, ⟨a, c, h1, h2, h3⟩ => exact ⟨a, c, h1, h2.below hb, h3.trans (hb.mono h3.size)⟩
  | 3, ⟨a, c, h1, h2, h3⟩ => exact ⟨a, c, h1, h2.below hb, h3.trans (hb.mono h3.size)⟩
  | 4, ⟨h1, h3⟩ => exact ⟨h1, h3.trans (hb.mono h3.size)⟩
  | _ + 5, ⟨h1, h2, h3⟩ => exact ⟨h1, h2, h3.trans (hb.mono h3.size)⟩
theorem rowX_pg3 {w w' : World} {a : Option Addr} {n c k : Nat} {hs : List Hd} {X : List (List (List UInt8))} (h : Pg3 w a n c hs X) (hk : k < X.length) {a' : Option Addr} {c' : Nat}
    (hs' : Sl w' 1 a' (k + (X.length - (k + 1))) c' ((hs.take k).map hv ++ (hs.drop (k + 1)).map hv)) (hb : Below w.heap.size w w') : Pg3 w' a' (k + (X.length - (k + 1))) c' (hs.take k ++ hs.drop (k + 1)) (rowX X k) := by
  have hl := h.len
  refine ⟨by rw [List.map_append]; exact hs', by unfold rowX; simp [hl], fun i x p h1 h2 => ?_⟩
  have hg : ∀ j, hs[j]? = some x → X[j]? = some p → ∃ ks, Pg w' x.1 x.2.1 x.2.2 ks p := fun j h1 h2 => by obtain ⟨ks, hks⟩ := h.row j x p h1 h2; exact ⟨ks, hks.below hb⟩
  unfold rowX at h2
  have l1 : (hs.take k).length = k := by rw [List.length_take]; omega
  have l2 : (X.take k).length = k := by rw [List.length_take]; omega
  by_cases hik : i < k
  · rw [List.getElem?_append_left (by omega), List.getElem?_take, if_pos hik] at h1 h2
    exact hg i h1 h2
  · rw [List.getElem?_append_right (by omega), l1, List.getElem?_drop] at h1
    rw [List.getElem?_append_right (by omega), l2, List.getElem?_drop] at h2
    exact hg _ h1 h2
theorem V3.pg3_len {w0 w : World} {B : Nat} {e : TypeId} {a : Option Addr} {c : Nat} {hs : List Hd} {X : List (List (List UInt8))} {k : Nat} (h : V3 w0 w B e a c hs (woX X k)) : (woX X k).length = X.length := by unfold woX; simp
theorem pg3_n {w : World} {a : Option Addr} {n c n' : Nat} {hs : List Hd} {X : List (List (List UInt8))} (h : Pg3 w a n c hs X) (e : n = n') : Pg3 w a n' c hs X := e ▸ h
end Go.Proofs.Ytmjkhmebpciopaa
end

/- the text T38 -/
section
/- Chapter 15: entries with one thing changed (Spoilt). -/
namespace Go.Proofs.Ytmjkhmebpciopaa
open Go.RowKit Go.Dx

/-- an entry is replaced -/
theorem V4.put {w : World} {B : Nat} {a : Option Addr} {c : Nat} {hs : List Hd} {X : List (List (List UInt8))} (h : V4 w B a c hs X) {i j : Nat} {x y : Hd} {g : Addr} {q : List (List UInt8)} {r : List UInt8} (hi : hs[i]? = some x) (hq : X[i]? = some q) (hg : x.1 = some g)
    (hy : Sl w 1 y.1 y.2.1 y.2.2 (r.map B8)) (hyk : ∀ t, y.1 = some t → t.block < B ∨ ∃ C z, w.heap[t.block]? = some (.cells C 5 z)) : V4 (w.setCell ⟨g.block, j, none⟩ (hv y)) B a c hs (X.set i (q.set j r)) := by
  obtain ⟨⟨ks0, hk0⟩, e0⟩ := h.row i x q hi hq
  have hgo := hk0.top
  rw [hg] at hgo
  have hgB := hgo.base.1
  obtain ⟨Cg, zg, hgk⟩ := own_kind hgo
  have far : ∀ (s : List UInt8) (z : Hd), (Sl w 1 z.1 z.2.1 z.2.2 (s.map B8) ∧ ∀ t, z.1 = some t → t.block < B ∨ ∃ C z, w.heap[t.block]? = some (.cells C 5 z)) → (Sl (w.setCell ⟨g.block, j, none⟩ (hv y)) 1 z.1 z.2.1 z.2.2 (s.map B8) ∧ ∀ t, z.1 = some t → t.block < B ∨ ∃ C u, (w.setCell ⟨g.block, j, none⟩ (hv y)).heap[t.block]? = some (.cells C 5 u)) := by
    rintro s z ⟨h1, h2⟩
    refine ⟨sl_far h1 (fun t ht e => ?_) _, fun t ht => (h2 t ht).imp id (fun ⟨C, u, e⟩ => by obtain ⟨C', e'⟩ := set_kind (p := ⟨g.block, j, none⟩) (v := hv y) e; exact ⟨C', u, e'⟩)⟩
    replace e : t.block = g.block := e
    rcases h2 t ht with h3 | ⟨C, u, h3⟩
    · omega
    · rw [e, hgk] at h3
      injection h3 with h3
      injection h3 with _ h3
      exact u8_rows h3.symm
  refine ⟨?_, by rw [List.length_set]; exact h.len, fun i' x' q' h1 h2 => ?_, h.apt⟩
  · rw [List.length_set]
    refine h.top.set_other (fun t ht => ?_) _
    have h1 := h.top
    rw [ht] at h1
    show t.block ≠ g.block
    exact own_ne h1 hgo (by decide)
  · rw [List.getElem?_set] at h2
    by_cases hii : i = i'
    · subst hii
      rw [hi] at h1; cases h1
      rw [if_pos rfl] at h2
      split at h2
      · cases h2
        refine ⟨⟨ks0.set j y, ?_, by rw [List.length_set, List.length_set]; exact hk0.len, fun j' y' r' h3 h4 => ?_⟩, by rw [List.length_set]; exact e0⟩
        · have := hgo.put (i := j) (hv y)
          rw [List.map_set, hg, List.length_set]; exact this
        · rw [List.getElem?_set] at h3 h4
          by_cases hjj : j = j'
          · subst hjj
            rw [if_pos rfl] at h3 h4
            split at h3
            · cases h3
              split at h4
              · cases h4
                exact far r y ⟨hy, hyk⟩
              · cases h4
            · cases h3
          · rw [if_neg hjj] at h3 h4
            exact far r' y' (hk0.ent j' y' r' h3 h4)
      · cases h2
    · rw [if_neg hii] at h2
      obtain ⟨⟨ks, hk⟩, e⟩ := h.row i' x' q' h1 h2
      refine ⟨⟨ks, hk.top.set_other (fun t ht => ?_) _, hk.len, fun j' y' r' h3 h4 => far r' y' (hk.ent j' y' r' h3 h4)⟩, e⟩
      exact h.apt i' i x' x h1 hi (fun e => hii e.symm) t g ht hg
/-- a row is cut -/
theorem V4.cut_row {w : World} {B : Nat} {t : Addr} {c : Nat} {hs : List Hd} {X : List (List (List UInt8))} (h : V4 w B (some t) c hs X) {i m : Nat} {x : Hd} {q : List (List UInt8)} (hi : hs[i]? = some x) (hq : X[i]? = some q) (hm : m ≤ q.length) :
    Pg3 (w.setCell ⟨t.block, i, none⟩ (.slice x.1 m x.2.2)) (some t) X.length c (hs.set i (x.1, m, x.2.2)) (X.set i (q.take m)) := by
  have hto := h.top
  have htB := hto.base.1
  obtain ⟨Ct, zt, htk⟩ := own_kind hto
  have far : ∀ (s : List UInt8) (z : Hd), (Sl w 1 z.1 z.2.1 z.2.2 (s.map B8) ∧ ∀ t, z.1 = some t → t.block < B ∨ ∃ C z, w.heap[t.block]? = some (.cells C 5 z)) → Sl (w.setCell ⟨t.block, i, none⟩ (.slice x.1 m x.2.2)) 1 z.1 z.2.1 z.2.2 (s.map B8) := by
    rintro s z ⟨h1, h2⟩
    refine sl_far h1 (fun u hu e => ?_) _
    replace e : u.block = t.block := e
    rcases h2 u hu with h3 | ⟨C, v, h3⟩
    · omega
    · rw [e, htk] at h3
      injection h3 with h3
      injection h3 with _ h3
      exact absurd h3 (by decide)
  have rows : ∀ (i' : Nat) (x' : Hd) (q' : List (List UInt8)), hs[i']? = some x' → X[i']? = some q' → ∃ ks, Pg (w.setCell ⟨t.block, i, none⟩ (.slice x.1 m x.2.2)) x'.1 x'.2.1 x'.2.2 ks q' := by
    intro i' x' q' h1 h2
    obtain ⟨⟨ks, hk⟩, e⟩ := h.row i' x' q' h1 h2
    refine ⟨ks, ⟨?_, hk.len, fun j y r h3 h4 => far r y (hk.ent j y r h3 h4)⟩⟩
    rw [e]
    refine sl_far hk.top.sl (fun u hu => ?_) _
    have h5 := hk.top
    rw [hu] at h5
    show u.block ≠ t.block
    exact own_ne h5 hto (by decide)
  refine ⟨?_, by rw [List.length_set, List.length_set]; exact h.len, fun i' x' q' h1 h2 => ?_⟩
  · have := (hto.put (i := i) (.slice x.1 m x.2.2)).sl
    rw [List.map_set]
    exact this
  · rw [List.getElem?_set] at h1 h2
    by_cases hii : i = i'
    · subst hii
      rw [if_pos rfl] at h1 h2
      split at h1
      · cases h1
        split at h2
        · cases h2
          obtain ⟨ks, hk⟩ := rows i x q hi hq
          obtain ⟨⟨_, _⟩, e⟩ := h.row i x q hi hq
          refine ⟨ks.take m, ?_, by rw [List.length_take, List.length_take, hk.len], fun j y r h3 h4 => ?_⟩
          · have hkt := hk.top.cut 0 m (Nat.zero_le _) (by rw [e]; exact hm)
            have e1 : (if x.2.2 = 0 then x.1 else x.1.map (·.add (0 * 1))) = x.1 := by
              split
              · rfl
              · cases x.1 <;> simp [Addr.add]
            rw [e1] at hkt
            simpa [List.map_take] using hkt
          · rw [List.getElem?_take] at h3 h4
            by_cases hj : j < m
            · rw [if_pos hj] at h3 h4; exact hk.row j y r h3 h4
            · rw [if_neg hj] at h3; cases h3
        · cases h2
      · cases h1
    · rw [if_neg hii] at h1 h2
      exact rows i' x' q' h1 h2
theorem own_kind' {w : World} {B : Nat} {n c : Nat} {a : Option Addr} {cs : List Value} (h : Own w B 5 1 a n c cs) (B' : Nat) : ∀ t, a = some t → t.block < B' ∨ ∃ C z, w.heap[t.block]? = some (.cells C 5 z) := fun t ht => by subst ht; exact .inr (own_kind h)

set_option maxRecDepth 100000 in
set_option maxHeartbeats 1000000 in
theorem ref15_Spoilt (X : List (List (List UInt8))) (hs : List Hd) (a : Option Addr) (n c : Nat) (at_ how by_ : Int) (w : World) (hp : Pg3 w a n c hs X) (HX : VX X)
    (hat : -9223372036854775808 ≤ at_ ∧ at_ ≤ 9223372036854775807) (hho : -9223372036854775808 ≤ how ∧ how ≤ 9223372036854775807) (hby : -9223372036854775808 ≤ by_ ∧ by_ ≤ 9223372036854775807) :
    Calls Try.prog 8 #[.slice a n c, .int .i64 at_, .int .i64 how, .int .i64 by_] w fun e w' => ∃ Y a' c' hs', e = .returned (.slice a' Y.length c') ∧ Pg3 w' a' Y.length c' hs' Y ∧ Below w.heap.size w w' := by
  obtain rfl := hp.n_eq
  have hr1 := HX.r1
  have hr2 := HX.r2
  have hc1 := HX.c1
  have hc2 := HX.c2
  go_enter Try.func8, Try.ntmps8
  go_wp2_with fail
  go_loopg [9, 10] X.length (fun g o i' w' => ∃ (i : Nat) (a2 : Option Addr) (c2 : Nat) (hs2 : List Hd), i ≤ X.length ∧ g = X.length - i ∧ i' = .int .i64 (i : Int) ∧ o = .slice a2 i c2 ∧ V3 w w' w.heap.size 28 a2 c2 hs2 (X.take i) ∧ Below w.heap.size w w')
  case atStart => exact ⟨0, none, 0, [], by omega, by omega, rfl, rfl, V3.nil _ _ _ _, Below.refl _ _⟩
  case round =>
    obtain ⟨i, a2, c2, hs2, hi, hg, rfl, rfl, hV, hbk⟩ := hrel
    have HG := hide hg
    clear hg
    by_cases hil : i < X.length
    · obtain ⟨x, hx⟩ : ∃ x, X[i]? = some x := ⟨X[i], by simp [hil]⟩
      obtain ⟨ax, cx, ks, hu, hpx⟩ := hp.get hx
      have hxl := HX.row x (List.mem_of_getElem? hx)
      have hx2 : x.length ≤ 12 := by omega
      have HU := hide hu
      have HN := hide (take_snoc hx)
      have HTL : Hid ((X.take i).length = i) := hide (by rw [List.length_take]; omega)
      have hlow := fun (j : Nat) (z : Hd) (q : Addr) (h1 : hs2[j]? = some z) (h2 : z.1 = some q) => (hV.lt h1 h2).2
      have HLOW := hide hlow
      clear hx hu hlow hxl
      have b1 := blo wr (.cells #[] 47)
      have hp1 := hp.top.below (hbk.trans (b1.mono hbk.size))
      have hpx1 := hpx.top.below (hbk.trans (b1.mono hbk.size))
      have hV1 := hV.below b1
      have hbk1 := hbk.trans (b1.mono hbk.size)
      go_wp2_with (first
        | (with_reducible refine idx_3 25 _ _ _ _ _ hs rfl hp1 _ _ i rfl rfl _ HU.out ?_; intro b o hcell hbo)
        | (at_builtin; refine append_own rfl _ _ 28 rfl 47 (.slice none 0 0) 1 24 Try.underlying28 info_row rfl wr wr.heap.size _ 0 0 [] rfl (Own.built wr wr.heap.size 47 1 0 #[] (Nat.le_refl _) rfl (by decide)) ax x.length cx (ks.map hv) rfl hpx1 (one_map _ (fun _ => rfl) _) (by omega) (by unfold maxLen; omega) b1.size b1 ?_; intro a3 c3 w3 ho3 hgr3 hb3; rw [Nat.zero_add] at ho3)
        | (at_builtin; refine app_v3 rfl _ _ rfl w w w.heap.size wr.heap.size _ _ _ hs2 ks _ HTL.out rfl (hV.below hb3) (a3, x.length, c3) x ⟨ho3, hpx.len, hpx.row⟩ rfl hbk.size HLOW.out rfl (by omega) (Nat.le_trans hbk.size hb3.size) (hbk.trans (hb3.mono hbk.size)) ?_; intro a' c' w' ho' hb'))
      go_roundg (X.length - (i + 1))
      case measure => have := HG.out; omega
      case rel => exact ⟨i + 1, a', c', _, by omega, rfl, by go_num, rfl, by rw [HN.out]; exact ho', hb'⟩
    · obtain rfl : X.length = i := by omega
      rw [List.take_length] at hV
      have hv4 := V4.of hV hbk HX
      obtain ⟨t2, rfl⟩ : ∃ t, a2 = some t := by
        cases a2 with
        | some t => exact ⟨t, rfl⟩
        | none =>
          have := hv4.top.sl.nil rfl
          have := hv4.top.sl.le
          omega
      obtain ⟨tb, rfl⟩ : ∃ b, t2 = ⟨b, 0, none⟩ := ⟨_, hv4.top.zero⟩
      clear hV HG
      obtain ⟨i, Hi⟩ : ∃ k, Hid (aroundF at_ X.length = k) := ⟨_, hide rfl⟩
      have hiX : i < X.length := by rw [← Hi.out]; exact aroundF_lt (by omega)
      have hA1 := fun (w : World) => Around_at (w := w) Hi.out (v := (X.length : Int)) rfl (by omega) (by omega) hat.1 hat.2
      obtain ⟨x, hx⟩ : ∃ x, X[i]? = some x := ⟨X[i], by simp [hiX]⟩
      have hxl := HX.row x (List.mem_of_getElem? hx)
      have hx1 : 1 ≤ x.length := by omega
      have hx2 : x.length ≤ 12 := by omega
      obtain ⟨k, Hk⟩ : ∃ k, Hid (aroundF by_ x.length = k) := ⟨_, hide rfl⟩
      have hkx : k < x.length := by rw [← Hk.out]; exact aroundF_lt (by omega)
      have hA2 := fun (w : World) => Around_at (w := w) Hk.out (v := (x.length : Int)) rfl (by omega) (by omega) hby.1 hby.2
      obtain ⟨s, Hs⟩ : ∃ k, Hid (aroundF how 6 = k) := ⟨_, hide rfl⟩
      have hs6 : s < 6 := by rw [← Hs.out]; exact aroundF_lt (by omega)
      have hA3 := fun (w : World) => Around_at (w := w) Hs.out (v := 6) rfl (by omega) (by omega) hho.1 hho.2
      obtain ⟨y, hy⟩ : ∃ y, x[k]? = some y := ⟨x[k], by simp [hkx]⟩
      have hyl := (entry_le (HX.ent x (List.mem_of_getElem? hx) y (List.mem_of_getElem? hy))).2
      obtain ⟨hd, ks, hhd, e2, hk4⟩ := hv4.get hx
      have hu : (hs2.map hv)[i]? = some (.slice hd.1 x.length hd.2.2) := by rw [List.getElem?_map, hhd]; simp [e2]
      obtain ⟨g2, hg2⟩ : ∃ t, hd.1 = some t := by
        cases h : hd.1 with
        | some t => exact ⟨t, rfl⟩
        | none =>
          have h1 := hk4.top.sl
          rw [h] at h1
          have := h1.nil rfl
          have := h1.le
          omega
      have hg2o := hk4.top
      rw [hg2] at hg2o
      obtain ⟨gb, rfl⟩ : ∃ b, g2 = ⟨b, 0, none⟩ := ⟨_, hg2o.zero⟩
      obtain ⟨ay, cy, huy, hsy⟩ := hk4.pg.get hy
      rw [hg2] at hu
      have HU := hide hu
      have HUY := hide huy
      have HHD := hide hhd
      have HXI := hide hx
      have HG2 := hide hg2
      have hmx : (if (x.length : Int) < 1 then (1 : Int) else x.length) = x.length := by rw [if_neg (by omega)]
      have dk : decide ((x.length : Int) ≤ (k : Int)) = false := decide_eq_false (by omega)
      clear hxl hx hy e2 hhd hu huy hg2
      go_wp2_with fail
      refine (hA1 _).mono ?_
      rintro e w1 ⟨rfl, rfl⟩
      go_wp2_with (with_reducible refine idx_3 41 _ _ _ _ _ hs2 rfl hv4.top.sl _ _ i rfl rfl _ HU.out ?_; intro b o hcell hbo)
      refine (hA2 _).mono ?_
      rintro e w1 ⟨rfl, rfl⟩
      have b8 := blo wr (.cells #[] 5)
      go_upto_region 13 with (first
        | (with_reducible refine idx_3 49 _ _ _ _ _ hs2 rfl hv4.top.sl _ _ i rfl rfl _ HU.out ?_; intro b2 o2 hcell2 hbo2)
        | (with_reducible refine idx_3 57 _ _ _ _ _ hs2 rfl (hv4.top.sl.below b8) _ _ i rfl rfl _ HU.out ?_; intro b3 o3 hcell3 hbo3)
        | (with_reducible refine idx_q 60 _ _ _ _ _ ks rfl (hg2o.sl.below b8) _ _ k rfl rfl _ HUY.out ?_; intro b4 o4 hcell4 hbo4)
        | (at_builtin; refine app_bs rfl _ _ rfl wr wr.heap.size _ 0 0 [] rfl (Own.built wr wr.heap.size 5 1 0 #[] (Nat.le_refl _) rfl (by decide)) ay y.length cy y rfl (hsy.below b8) (by omega) b8.size b8 ?_; intro a3 c3 w3 ho3 hgr3 hb3; rw [Nat.zero_add] at ho3))
      obtain ⟨v8, hwv⟩ : ∃ v : UInt8, by_ % 256 = (v.toNat : Int) := ⟨UInt8.ofNat (by_ % 256).toNat, by rw [u8_nat (by omega)]; omega⟩
      have HWV := hide hwv
      clear hwv hgr3
      go_wp2_with fail
      refine (hA3 _).mono ?_
      rintro e w4 ⟨rfl, rfl⟩
      clear hA1 hA2 hA3 hcell hcell2 hcell3 hcell4 hbo hbo2 hbo3 hbo4
      have h6 : s = 0 ∨ s = 1 ∨ s = 2 ∨ s = 3 ∨ s = 4 ∨ s = 5 := by omega
      rcases h6 with rfl | rfl | rfl | rfl | rfl | rfl
      · have hvz := hv4.below hb3
        have htz := hv4.top.below hb3
        have hgz := hg2o.below hb3
        have bkz := hbk.trans (hb3.mono hbk.size)
        go_wp2_with (first
          | (with_reducible refine idx_3 113 _ _ _ _ _ hs2 rfl htz.sl _ _ i rfl rfl _ HU.out ?_; intro b5 o5 hcell5 hbo5)
          | (with_reducible refine index_known 117 28 _ _ 47 Try.underlying28 size_row gb x.length hd.2.2 rfl _ _ k rfl rfl hkx ?_; refine store_slice 47 _ _ size_row gb k rfl (none) (0) (0) rfl _ (hgz.at_ HUY.out) (hgz.free k) ?_))
        go_ret
        have hfin := V4.put (y := (none, 0, 0)) (j := k) hvz HHD.out HXI.out HG2.out (r := ([] : List UInt8)) ((Own.nil w3 0 5 1).sl) (fun t ht => by cases ht)
        exact ⟨X.set i (x.set k (([] : List UInt8))), _, _, hs2, by rw [List.length_set]; rfl, hfin.pg3, bkz.setCell (p := ⟨gb, k, none⟩) hg2o.base.1 _⟩
      · go_upto_region 30 with (at_builtin; refine append_lit rfl _ _ 47 rfl 5 (.int .u8 0) 1 1 Try.underlying47 info_u8 rfl wr wr.heap.size _ _ _ _ rfl ho3 1 [.int .u8 0] rfl rfl (by simp [Value.oneCell']) (by omega) (by unfold maxLen; omega) hb3.size hb3 ?_; intro a5 c5 w5 ho5 _ hb5)
        have ho5' : Own w5 wr.heap.size 5 1 a5 (y.length + 1) c5 ((y ++ [(0 : UInt8)]).map B8) := by rw [List.map_append]; exact ho5
        have hvz := hv4.below hb5
        have htz := hv4.top.below hb5
        have hgz := hg2o.below hb5
        have bkz := hbk.trans (hb5.mono hbk.size)
        go_wp2_with (first
          | (with_reducible refine idx_3 113 _ _ _ _ _ hs2 rfl htz.sl _ _ i rfl rfl _ HU.out ?_; intro b5 o5 hcell5 hbo5)
          | (with_reducible refine index_known 117 28 _ _ 47 Try.underlying28 size_row gb x.length hd.2.2 rfl _ _ k rfl rfl hkx ?_; refine store_slice 47 _ _ size_row gb k rfl (a5) (y.length + 1) (c5) rfl _ (hgz.at_ HUY.out) (hgz.free k) ?_))
        go_ret
        have hfin := V4.put (y := (a5, y.length + 1, c5)) (j := k) hvz HHD.out HXI.out HG2.out (r := y ++ [(0 : UInt8)]) (ho5'.sl) (own_kind' ho5' w.heap.size)
        exact ⟨X.set i (x.set k (y ++ [(0 : UInt8)])), _, _, hs2, by rw [List.length_set]; rfl, hfin.pg3, bkz.setCell (p := ⟨gb, k, none⟩) hg2o.base.1 _⟩
      · have hwv := HWV.out
        go_upto_region 30 with (at_builtin; refine append_lit rfl _ _ 47 rfl 5 (.int .u8 0) 1 1 Try.underlying47 info_u8 rfl wr wr.heap.size _ _ _ _ rfl ho3 1 [.int .u8 (v8.toNat : Int)] rfl rfl (by simp [Value.oneCell']) (by omega) (by unfold maxLen; omega) hb3.size hb3 ?_; intro a5 c5 w5 ho5 _ hb5)
        clear hwv
        have ho5' : Own w5 wr.heap.size 5 1 a5 (y.length + 1) c5 ((y ++ [v8]).map B8) := by rw [List.map_append]; exact ho5
        have hvz := hv4.below hb5
        have htz := hv4.top.below hb5
        have hgz := hg2o.below hb5
        have bkz := hbk.trans (hb5.mono hbk.size)
        go_wp2_with (first
          | (with_reducible refine idx_3 113 _ _ _ _ _ hs2 rfl htz.sl _ _ i rfl rfl _ HU.out ?_; intro b5 o5 hcell5 hbo5)
          | (with_reducible refine index_known 117 28 _ _ 47 Try.underlying28 size_row gb x.length hd.2.2 rfl _ _ k rfl rfl hkx ?_; refine store_slice 47 _ _ size_row gb k rfl (a5) (y.length + 1) (c5) rfl _ (hgz.at_ HUY.out) (hgz.free k) ?_))
        go_ret
        have hfin := V4.put (y := (a5, y.length + 1, c5)) (j := k) hvz HHD.out HXI.out HG2.out (r := y ++ [v8]) (ho5'.sl) (own_kind' ho5' w.heap.size)
        exact ⟨X.set i (x.set k (y ++ [v8])), _, _, hs2, by rw [List.length_set]; rfl, hfin.pg3, bkz.setCell (p := ⟨gb, k, none⟩) hg2o.base.1 _⟩
      · go_upto_region 30 with (first
          | (at_builtin; refine append_lit rfl _ _ 47 rfl 5 (.int .u8 0) 1 1 Try.underlying47 info_u8 rfl wr wr.heap.size _ _ _ _ rfl ho3 2 [.int .u8 0, .int .u8 0] rfl rfl (by simp [Value.oneCell']) (by omega) (by unfold maxLen; omega) hb3.size hb3 ?_; intro a5 c5 w5 ho5 _ hb5)
          | (at_builtin; refine append_lit rfl _ _ 47 rfl 5 (.int .u8 0) 1 1 Try.underlying47 info_u8 rfl wr wr.heap.size _ _ _ _ rfl ho5 1 [.int .u8 5] rfl rfl (by simp [Value.oneCell']) (by omega) (by unfold maxLen; omega) hb5.size hb5 ?_; intro a6 c6 w6 ho6 _ hb6))
        have ho6' : Own w6 wr.heap.size 5 1 a6 (y.length + 2 + 1) c6 ((y ++ [(0 : UInt8), 0, 5]).map B8) := by rw [List.map_append, show ([(0 : UInt8), 0, 5]).map B8 = [B8 0, B8 0] ++ [B8 5] from rfl, ← List.append_assoc]; exact ho6
        have hvz := hv4.below hb6
        have htz := hv4.top.below hb6
        have hgz := hg2o.below hb6
        have bkz := hbk.trans (hb6.mono hbk.size)
        go_wp2_with (first
          | (with_reducible refine idx_3 113 _ _ _ _ _ hs2 rfl htz.sl _ _ i rfl rfl _ HU.out ?_; intro b5 o5 hcell5 hbo5)
          | (with_reducible refine index_known 117 28 _ _ 47 Try.underlying28 size_row gb x.length hd.2.2 rfl _ _ k rfl rfl hkx ?_; refine store_slice 47 _ _ size_row gb k rfl (a6) (y.length + 2 + 1) (c6) rfl _ (hgz.at_ HUY.out) (hgz.free k) ?_))
        go_ret
        have hfin := V4.put (y := (a6, y.length + 2 + 1, c6)) (j := k) hvz HHD.out HXI.out HG2.out (r := y ++ [(0 : UInt8), 0, 5]) (ho6'.sl) (own_kind' ho6' w.heap.size)
        exact ⟨X.set i (x.set k (y ++ [(0 : UInt8), 0, 5])), _, _, hs2, by rw [List.length_set]; rfl, hfin.pg3, bkz.setCell (p := ⟨gb, k, none⟩) hg2o.base.1 _⟩
      · obtain ⟨wz, rfl⟩ : ∃ wy : World, wy = wr := ⟨_, rfl⟩
        go_wp2_with (with_reducible refine make_row 103 _ _ _ 5 (.int .u8 0) 1 Try.underlying47 info_u8 rfl _ _ _ _ 41 rfl rfl rfl rfl (by omega) (by omega) ?_; intro w5 hrow5 hb5 hsz5)
        have hb5' := hb3.trans (hb5.mono hb3.size)
        have hz3 := hb3.size
        clear hb5 hsz5 ho3
        go_loopg [14] 41 (fun g j' w' => ∃ j : Nat, j ≤ 41 ∧ g = 41 - j ∧ j' = .int .i64 (j : Int) ∧ Below wz.heap.size wz w' ∧ w'.rowIs w3.heap.size 5 41 (fun i => if i < j then .int .u8 1 else .int .u8 0))
        case atStart => exact ⟨0, by omega, by omega, rfl, hb5', hrow5.congr (fun i _ => by rw [if_neg (by omega)])⟩
        case round =>
          obtain ⟨j, hj, hg, rfl, hbq, hrq⟩ := hrel
          have HG := hide hg
          clear hg
          by_cases hjl : j < 41
          · have e1 := hrq.cell hjl
            have e2 := hrq.frozen j
            have d1 : decide ((j : Int) < 41) = true := decide_eq_true (by omega)
            go_wp2_with (with_reducible refine index_known 110 47 _ _ 5 Try.underlying47 size_u8 w3.heap.size 41 41 rfl _ _ j rfl rfl hjl ?_)
            go_roundg (41 - (j + 1))
            case measure => have := HG.out; omega
            case rel =>
              refine ⟨j + 1, by omega, rfl, by go_num, hbq.setCell (p := ⟨w3.heap.size, j, none⟩) hz3 _, (hrq.set j _).congr fun i hi => ?_⟩
              by_cases e : i = j
              · subst e
                rw [if_pos rfl, if_pos (by omega)]
              · rw [if_neg e]
                by_cases h : i < j
                · rw [if_pos h, if_pos (by omega)]
                · rw [if_neg h, if_neg (by omega)]
          · have hq := row_sl' hrq (by unfold maxLen; omega) ((List.replicate 41 (1 : UInt8)).map B8) (by simp) (fun i u hu => by
              rw [List.getElem?_map, List.getElem?_replicate] at hu
              split at hu
              · cases hu; rw [if_pos (by omega)]; rfl
              · cases hu)
            have hkq : ∀ t, (some (⟨w3.heap.size, 0, none⟩ : Addr)) = some t → t.block < w.heap.size ∨ ∃ C z, wr.heap[t.block]? = some (.cells C 5 z) := fun t ht => by cases ht; obtain ⟨C, hC, _⟩ := hrq; exact .inr ⟨C, _, hC⟩
            have d1 : decide ((j : Int) < 41) = false := decide_eq_false (by omega)
            have hvz := hv4.below hbq
            have htz := hv4.top.below hbq
            have hgz := hg2o.below hbq
            have bkz := hbk.trans (hbq.mono hbk.size)
            go_wp2_with (first
              | (with_reducible refine idx_3 113 _ _ _ _ _ hs2 rfl htz.sl _ _ i rfl rfl _ HU.out ?_; intro b5 o5 hcell5 hbo5)
              | (with_reducible refine index_known 117 28 _ _ 47 Try.underlying28 size_row gb x.length hd.2.2 rfl _ _ k rfl rfl hkx ?_; refine store_slice 47 _ _ size_row gb k rfl (some ⟨w3.heap.size, 0, none⟩) (41) (41) rfl _ (hgz.at_ HUY.out) (hgz.free k) ?_))
            go_ret
            have hfin := V4.put (y := (some ⟨w3.heap.size, 0, none⟩, 41, 41)) (j := k) hvz HHD.out HXI.out HG2.out (r := List.replicate 41 (1 : UInt8)) (hq) (hkq)
            exact ⟨X.set i (x.set k (List.replicate 41 (1 : UInt8))), _, _, hs2, by rw [List.length_set]; rfl, hfin.pg3, bkz.setCell (p := ⟨gb, k, none⟩) hg2o.base.1 _⟩
      · have hcap : x.length - 1 ≤ hd.2.2 := by have := hk4.top.sl.le; omega
        go_upto_region 14 with fail
        refine wp_region_free 13 [⟨0, 65, [65], fun vs _ => vs = [.slice (some ⟨tb, 0, none⟩) X.length c2]⟩, ⟨1, 66, [66], fun vs _ => vs = [.int .i64 (i : Int)]⟩, ⟨2, 67, [67], fun vs _ => vs = [.slice (some ⟨tb, 0, none⟩) X.length c2]⟩, ⟨3, 68, [68], fun vs _ => vs = [.int .i64 (i : Int)]⟩, ⟨4, 69, [69], fun vs _ => vs = [.pointer (some ⟨tb, i, none⟩)]⟩, ⟨5, 70, [70], fun vs _ => vs = [.slice (some ⟨gb, 0, none⟩) x.length hd.2.2]⟩, ⟨6, 71, [71], fun vs _ => vs = [.slice (some ⟨tb, 0, none⟩) X.length c2]⟩, ⟨7, 72, [72], fun vs _ => vs = [.int .i64 (i : Int)]⟩, ⟨8, 73, [73], fun vs _ => vs = [.pointer (some ⟨tb, i, none⟩)]⟩, ⟨9, 74, [74], fun vs _ => vs = [.slice (some ⟨gb, 0, none⟩) x.length hd.2.2]⟩, ⟨10, 75, [75], fun vs _ => vs = [.int .i64 (x.length : Int)]⟩, ⟨11, 76, [76], fun vs _ => vs = [.int .i64 ((x.length - 1 : Nat) : Int)]⟩, ⟨12, 77, [77], fun vs _ => vs = [.slice (some ⟨gb, 0, none⟩) (x.length - 1) hd.2.2]⟩] (by kernel_rfl) (by kernel_rfl) ?_ ?_ ?_
        · simp only [All]
          refine ⟨fun _ _ _ _ h => h, fun _ _ _ _ h => h, fun _ _ _ _ h => h, fun _ _ _ _ h => h, fun _ _ _ _ h => h, fun _ _ _ _ h => h, fun _ _ _ _ h => h, fun _ _ _ _ h => h, fun _ _ _ _ h => h, fun _ _ _ _ h => h, fun _ _ _ _ h => h, fun _ _ _ _ h => h, fun _ _ _ _ h => h, trivial⟩
        · simp only [All]
          refine ⟨?_, ?_, ?_, ?_, ?_, ?_, ?_, ?_, ?_, ?_, ?_, ?_, ?_, trivial⟩
          · intro o ho a' w' hb hfr hdep
            obtain rfl := Option.some.inj ho
            have g9 : a'.tmps[9]?.getD undef = .slice (some ⟨tb, 0, none⟩) X.length c2 := by have h := hfr 9 (by kernel_rfl); simpa using h
            clear ho hfr hdep
            go_wp2_with fail
            exact ⟨rfl, _, rfl, Below.refl _ _, rfl⟩
          · intro o ho a' w' hb hfr hdep
            obtain rfl := Option.some.inj ho
            have g11 : a'.tmps[11]?.getD undef = .int .i64 (i : Int) := by have h := hfr 11 (by kernel_rfl); simpa using h
            clear ho hfr hdep
            go_wp2_with fail
            exact ⟨rfl, _, rfl, Below.refl _ _, rfl⟩
          · intro o ho a' w' hb hfr hdep
            obtain rfl := Option.some.inj ho
            have g9 : a'.tmps[9]?.getD undef = .slice (some ⟨tb, 0, none⟩) X.length c2 := by have h := hfr 9 (by kernel_rfl); simpa using h
            clear ho hfr hdep
            go_wp2_with fail
            exact ⟨rfl, _, rfl, Below.refl _ _, rfl⟩
          · intro o ho a' w' hb hfr hdep
            obtain rfl := Option.some.inj ho
            have g11 : a'.tmps[11]?.getD undef = .int .i64 (i : Int) := by have h := hfr 11 (by kernel_rfl); simpa using h
            clear ho hfr hdep
            go_wp2_with fail
            exact ⟨rfl, _, rfl, Below.refl _ _, rfl⟩
          · intro o ho a' w' hb hfr hdep
            obtain rfl := Option.some.inj ho
            have g67 : a'.tmps[67]?.getD undef = .slice (some ⟨tb, 0, none⟩) X.length c2 := by have h := hdep 2 _ rfl (by kernel_rfl); simpa using h
            have g68 : a'.tmps[68]?.getD undef = .int .i64 (i : Int) := by have h := hdep 3 _ rfl (by kernel_rfl); simpa using h
            clear ho hfr hdep
            go_wp2_with fail
            exact ⟨rfl, _, rfl, Below.refl _ _, rfl⟩
          · intro o ho a' w' hb hfr hdep
            obtain rfl := Option.some.inj ho
            have g69 : a'.tmps[69]?.getD undef = .pointer (some ⟨tb, i, none⟩) := by have h := hdep 4 _ rfl (by kernel_rfl); simpa using h
            clear ho hfr hdep
            have hcl := (hv4.top.below (hb3.trans (hb.mono hb3.size))).at_ HU.out
            go_wp2_with fail
            exact ⟨rfl, _, rfl, Below.refl _ _, rfl⟩
          · intro o ho a' w' hb hfr hdep
            obtain rfl := Option.some.inj ho
            have g9 : a'.tmps[9]?.getD undef = .slice (some ⟨tb, 0, none⟩) X.length c2 := by have h := hfr 9 (by kernel_rfl); simpa using h
            clear ho hfr hdep
            go_wp2_with fail
            exact ⟨rfl, _, rfl, Below.refl _ _, rfl⟩
          · intro o ho a' w' hb hfr hdep
            obtain rfl := Option.some.inj ho
            have g11 : a'.tmps[11]?.getD undef = .int .i64 (i : Int) := by have h := hfr 11 (by kernel_rfl); simpa using h
            clear ho hfr hdep
            go_wp2_with fail
            exact ⟨rfl, _, rfl, Below.refl _ _, rfl⟩
          · intro o ho a' w' hb hfr hdep
            obtain rfl := Option.some.inj ho
            have g71 : a'.tmps[71]?.getD undef = .slice (some ⟨tb, 0, none⟩) X.length c2 := by have h := hdep 6 _ rfl (by kernel_rfl); simpa using h
            have g72 : a'.tmps[72]?.getD undef = .int .i64 (i : Int) := by have h := hdep 7 _ rfl (by kernel_rfl); simpa using h
            clear ho hfr hdep
            go_wp2_with fail
            exact ⟨rfl, _, rfl, Below.refl _ _, rfl⟩
          · intro o ho a' w' hb hfr hdep
            obtain rfl := Option.some.inj ho
            have g73 : a'.tmps[73]?.getD undef = .pointer (some ⟨tb, i, none⟩) := by have h := hdep 8 _ rfl (by kernel_rfl); simpa using h
            clear ho hfr hdep
            have hcl := (hv4.top.below (hb3.trans (hb.mono hb3.size))).at_ HU.out
            go_wp2_with fail
            exact ⟨rfl, _, rfl, Below.refl _ _, rfl⟩
          · intro o ho a' w' hb hfr hdep
            obtain rfl := Option.some.inj ho
            have g74 : a'.tmps[74]?.getD undef = .slice (some ⟨gb, 0, none⟩) x.length hd.2.2 := by have h := hdep 9 _ rfl (by kernel_rfl); simpa using h
            clear ho hfr hdep
            go_wp2_with fail
            exact ⟨rfl, _, rfl, Below.refl _ _, rfl⟩
          · intro o ho a' w' hb hfr hdep
            obtain rfl := Option.some.inj ho
            have g75 : a'.tmps[75]?.getD undef = .int .i64 (x.length : Int) := by have h := hdep 10 _ rfl (by kernel_rfl); simpa using h
            clear ho hfr hdep
            go_wp2_with fail
            exact ⟨rfl, _, rfl, Below.refl _ _, by show [Value.int .i64 ((x.length : Int) - 1)] = _; rw [show ((x.length : Int) - 1) = ((x.length - 1 : Nat) : Int) by omega]⟩
          · intro o ho a' w' hb hfr hdep
            obtain rfl := Option.some.inj ho
            have g70 : a'.tmps[70]?.getD undef = .slice (some ⟨gb, 0, none⟩) x.length hd.2.2 := by have h := hdep 5 _ rfl (by kernel_rfl); simpa using h
            have g76 : a'.tmps[76]?.getD undef = .int .i64 ((x.length - 1 : Nat) : Int) := by have h := hdep 11 _ rfl (by kernel_rfl); simpa using h
            clear ho hfr hdep
            refine cut_hi_any 77 28 _ _ 47 Try.underlying28 1 size_row (some ⟨gb, 0, none⟩) x.length hd.2.2 (by show a'.tmps.getD 70 undef = _; simpa using g70) .i64 (x.length - 1) (by show a'.tmps.getD 76 undef = _; simpa using g76) hcap ?_
            go_wp2_with fail
            exact ⟨rfl, _, rfl, Below.refl _ _, rfl⟩
        · intro g w9 hb9 hp9
          have p65 := hp9 0 _ rfl
          have p66 := hp9 1 _ rfl
          have p77 := hp9 12 _ rfl
          clear hp9
          simp at p65 p66 p77
          simp only [List.drop_succ_cons, List.drop_zero, List.map_cons, List.map_nil, putAll, Act.put, List.setIfInBounds_toArray, List.set_cons_succ, List.set_cons_zero, p65, p66, p77]
          clear p65 p66 p77
          have hb39 := hb3.trans (hb9.mono hb3.size)
          have hvz := hv4.below hb39
          have htz := hv4.top.below hb39
          have bkz := hbk.trans (hb39.mono hbk.size)
          refine index_known 78 23 _ _ 28 Try.underlying23 size_rows tb X.length c2 rfl _ _ i rfl rfl hiX ?_
          refine store_slice 28 _ _ size_rows tb i rfl (some ⟨gb, 0, none⟩) (x.length - 1) hd.2.2 rfl _ (htz.at_ HU.out) (htz.free i) ?_
          go_wp2_with fail
          go_ret
          have hfin := V4.cut_row (m := x.length - 1) hvz HHD.out HXI.out (by omega)
          rw [HG2.out] at hfin
          exact ⟨X.set i (x.take (x.length - 1)), _, _, _, by rw [List.length_set]; rfl, by rw [List.length_set]; exact hfin, bkz.setCell (p := ⟨tb, i, none⟩) hv4.top.base.1 _⟩
end Go.Proofs.Ytmjkhmebpciopaa
end

/- the text Free5 -/
section
/- A region that draws its order, as in XFree4; what is known of the chain may speak of slots of the others (EX), once they are written. No program in sight. -/
set_option linter.unusedVariables false
namespace Go.Dx
open Go.RowKit

structure ChInv5 (l : List Oper) (n : Nat) (CH TL T : List HOp) (EX : List Nat) (a0 : Act) (G : Nat → List Value → List Value → World → Prop) (listed : Array Bool) (a : Act) (w : World) : Prop where
  inv : HeadInv .any l.toArray n listed
  defers : a.defers = a0.defers
  size : a.tmps.size = a0.tmps.size
  frame : ∀ k, (∀ t ∈ T, t.d ≠ k) → a.tmps.getD k undef = a0.tmps.getD k undef
  stage : ∃ j, j ≤ CH.length ∧ (∀ m c, CH[m]? = some c → (listed.getD c.i false = true ↔ m < j)) ∧ G j (CH.map fun c => a.tmps.getD c.d undef) (EX.map fun k => a.tmps.getD k undef) w
  facts : ∀ t ∈ TL, listed.getD t.i false = true → t.fact a w

section
variable {P : Program}
/-- A chain operation without a slot (a store) is given a slot beyond the frame and 's' not []. -/
theorem wp_region_chain5 {id : Nat} {Q : Exit → Act → World → Prop} {a0 : Act} {w0 : World} {l : List Oper} (n : Nat) (R4 : World → World → Prop) (G : Nat → List Value → List Value → World → Prop) (CH TL : List HOp) (EX : List Nat) (mx : Nat) (hm : P.follows .mixedOrders = true)
    (hB : ((TL.all fun t => decide (t.d < a0.tmps.size)) && (CH.all fun c => if c.s = [] then decide (c.d < a0.tmps.size) else decide (a0.tmps.size ≤ c.d)) && headOk4 l n ((CH ++ TL).map fun t => (t.i, t.d, if TL.any (fun u => u.i == t.i) then t.s else [])) && linkOk l.toArray (CH.map (·.i)) && (TL.all fun t => CH.all fun c => t.i != c.i && t.d != c.d) && ((EX.all fun k => CH.all fun c => c.d != k) && (TL.all fun t => !EX.contains t.d || (match CH[mx]? with | some c => Region.waitsFor .any l.toArray c.i t.i | none => false)))) = true)
    (hG0 : G 0 (CH.map fun c => a0.tmps.getD c.d undef) (EX.map fun k => a0.tmps.getD k undef) { w0 with drawn := w0.drawn + 1 })
    (hR : ∀ w w', Below w.heap.size w w' → R4 w w')
    (hGm : ∀ j vs ex w w', Below w.heap.size w w' → G j vs ex w → G j vs ex w')
    (hGx : ∀ j, j ≤ mx → ∀ vs ex ex' w, G j vs ex w → G j vs ex' w)
    (hmono : All (fun t : HOp => ∀ vs w w', R4 w w' → t.p vs w → t.p vs w') TL)
    (hopC : ∀ m c, CH[m]? = some c → ∀ o, l[c.i]? = some o → ∀ (a : Act) (w : World), G m (CH.map fun c => a.tmps.getD c.d undef) (EX.map fun k => a.tmps.getD k undef) w →
      (∀ k, ((CH ++ TL).map (·.d)).contains k = false → a.tmps.getD k undef = a0.tmps.getD k undef) →
      (∀ (k : Nat) (u : HOp), TL[k]? = some u → Region.waitsFor .any l.toArray c.i u.i = true → u.p (u.s.map fun k => a.tmps.getD k undef) w) →
      wpList P l.toArray (OneTurn4 c a fun v w' => R4 w w' ∧ G (m + 1) (CH.map fun e => if e.d = c.d then (if c.s = [] then v else undef) else a.tmps.getD e.d undef) (EX.map fun k => a.tmps.getD k undef) w') [o] a w)
    (hopL : All (fun t : HOp => ∀ o, l[t.i]? = some o → ∀ (a : Act) (w : World),
      (∀ k, ((CH ++ TL).map (·.d)).contains k = false → a.tmps.getD k undef = a0.tmps.getD k undef) →
      (∀ (k : Nat) (u : HOp), TL[k]? = some u → Region.waitsFor .any l.toArray t.i u.i = true → u.p (u.s.map fun k => a.tmps.getD k undef) w) →
      (∃ j, (∀ m c, CH[m]? = some c → Region.waitsFor .any l.toArray t.i c.i = true → m < j) ∧ j ≤ CH.length ∧ G j (CH.map fun c => a.tmps.getD c.d undef) (EX.map fun k => a.tmps.getD k undef) w) →
      wpList P l.toArray (OneDone t.d a w fun v w' => t.p (t.s.map fun k => if t.d = k then v else a.tmps.getD k undef) w') [o] a w) TL)
    (hend : ∀ (g : Nat → Value) (w : World), G CH.length (CH.map fun c => g c.d) (EX.map g) w → (∀ (k : Nat) (u : HOp), TL[k]? = some u → u.p (u.s.map fun k => if k ∈ (CH ++ TL).map (·.d) then g k else a0.tmps.getD k undef) w) →
      wpList P l.toArray Q (l.drop n) (putAll a0 (((CH ++ TL).map (·.d)).map fun d => (d, g d))) w) : (Code.region id l.toArray true).wp P Q a0 w0 := by
  obtain ⟨T, hTdef⟩ : ∃ T, CH ++ TL = T := ⟨_, rfl⟩
  have memC : ∀ t ∈ CH, t ∈ T := fun t ht => by rw [← hTdef]; exact List.mem_append_left _ ht
  have memL : ∀ t ∈ TL, t ∈ T := fun t ht => by rw [← hTdef]; exact List.mem_append_right _ ht
  have split : ∀ t ∈ T, t ∈ CH ∨ t ∈ TL := fun t ht => by rw [← hTdef] at ht; exact List.mem_append.1 ht
  rw [hTdef] at hB hopC hopL hend
  rw [Bool.and_eq_true] at hB
  obtain ⟨hB, hEXB⟩ := hB
  rw [Bool.and_eq_true] at hEXB
  have hex1 : ∀ k ∈ EX, ∀ c ∈ CH, c.d ≠ k := fun k hk c hc => by
    have := List.all_eq_true.1 (List.all_eq_true.1 hEXB.1 k hk) c hc
    simpa using this
  have hex2 : ∀ t ∈ TL, t.d ∈ EX → ∃ c, CH[mx]? = some c ∧ Region.waitsFor .any l.toArray c.i t.i = true := fun t ht hd => by
    have h := List.all_eq_true.1 hEXB.2 t ht
    have hc : EX.contains t.d = true := by simpa using hd
    rw [hc] at h
    simp only [Bool.not_true, Bool.false_or] at h
    cases hm : CH[mx]? with
    | none => rw [hm] at h; cases h
    | some c => rw [hm] at h; exact ⟨c, rfl, h⟩
  rw [Bool.and_eq_true, Bool.and_eq_true] at hB
  obtain ⟨⟨hB, hlink⟩, hdis⟩ := hB
  rw [Bool.and_eq_true, Bool.and_eq_true] at hB
  obtain ⟨⟨hTLd, hCHd⟩, hB⟩ := hB
  have htl : ∀ t ∈ TL, t.d < a0.tmps.size := fun t ht => by simpa using List.all_eq_true.1 hTLd t ht
  have hch : ∀ c ∈ CH, c.s = [] → c.d < a0.tmps.size := fun c hc hs => by have := List.all_eq_true.1 hCHd c hc; simpa [hs] using this
  have hch2 : ∀ c ∈ CH, c.s ≠ [] → a0.tmps.size ≤ c.d := fun c hc hs => by have := List.all_eq_true.1 hCHd c hc; simpa [hs] using this
  have hdis2 : ∀ t ∈ TL, ∀ c ∈ CH, t.i ≠ c.i ∧ t.d ≠ c.d := by
    intro t ht c hc
    have := List.all_eq_true.1 (List.all_eq_true.1 hdis t ht) c hc
    simpa using this
  have hlk : ∀ m c e, CH[m]? = some c → CH[m + 1]? = some e → Region.waitsFor .any l.toArray e.i c.i = true := fun m c e h1 h2 =>
    linkOk_get hlink m c.i e.i (by rw [List.getElem?_map, h1]; rfl) (by rw [List.getElem?_map, h2]; rfl)
  simp only [headOk4, Bool.and_eq_true, decide_eq_true_eq] at hB
  obtain ⟨⟨⟨⟨⟨⟨⟨hnd, hn⟩, hs⟩, hc⟩, hseq⟩, hcov⟩, hT⟩, hpair⟩ := hB
  have hnodup : ∀ t ∈ T, ∀ u ∈ T, t.i = u.i → t = u := inj_nodup (·.i) T (by rw [List.map_map] at hnd; exact hnd)
  have hn' : n < l.toArray.size := by simpa using hn
  have cover : ∀ j, j < n → ∃ t ∈ T, t.i = j := by
    intro j hj
    have h := List.all_eq_true.1 hcov j (List.mem_range.2 hj)
    obtain ⟨x, hx, he⟩ := List.any_eq_true.1 h
    obtain ⟨t, ht, rfl⟩ := List.mem_map.1 hx
    exact ⟨t, ht, by simpa using he⟩
  have own : ∀ t ∈ T, t.i < n ∧ ∃ o, l[t.i]? = some o ∧ ∀ e ∈ o.after, Region.binds .any e = true → e.on < t.i := by
    intro t ht
    have h := List.all_eq_true.1 hT _ (List.mem_map.2 ⟨t, ht, rfl⟩)
    simp only [Bool.and_eq_true, decide_eq_true_eq] at h
    obtain ⟨h1, h3⟩ := h
    refine ⟨h1, ?_⟩
    cases ho : l[t.i]? with
    | none => rw [ho] at h3; cases h3
    | some o =>
      rw [ho] at h3
      refine ⟨o, rfl, fun e he hb => ?_⟩
      have := Array.all_eq_true_iff_forall_mem.1 h3 e he
      simpa [hb] using this
  have pair : ∀ t ∈ T, ∀ u ∈ T, t.i ≠ u.i → t.d ≠ u.d ∧ (u ∈ TL → t.d ∈ u.s → Region.waitsFor .any l.toArray u.i t.i = true) := by
    intro t ht u hu hne
    have h := List.all_eq_true.1 (List.all_eq_true.1 hpair _ (List.mem_map.2 ⟨t, ht, rfl⟩)) _ (List.mem_map.2 ⟨u, hu, rfl⟩)
    simp only [Bool.or_eq_true, beq_iff_eq, hne, false_or, Bool.and_eq_true, bne_iff_ne, ne_eq, Bool.not_eq_true'] at h
    refine ⟨h.1, fun huL hin => ?_⟩
    have hany : (TL.any fun v => v.i == u.i) = true := List.any_eq_true.2 ⟨u, huL, by simp⟩
    rw [hany, if_pos rfl] at h
    rcases h.2 with h2 | h2
    · have : u.s.contains t.d = true := by simpa using hin
      rw [this] at h2; cases h2
    · exact h2
  have key : ∀ (f : Nat) (listed : Array Bool) (a : Act) (w : World), ChInv5 l n CH TL T EX a0 G listed a w → todo listed n = f → wpAny P .any l.toArray Q (f + (l.length - n)) listed a w := by
    intro f
    induction f with
    | zero =>
      intro listed a w I h0
      have hall : ∀ j, j < n → listed.getD j true = true := by
        intro j hj
        cases hb : listed.getD j true with
        | true => rfl
        | false =>
          have : j ∈ (List.range n).filter fun j => !listed.getD j true := List.mem_filter.2 ⟨List.mem_range.2 hj, by rw [hb]; rfl⟩
          unfold todo at h0
          rw [List.eq_nil_of_length_eq_zero h0] at this
          cases this
      have hlist : listed = (List.replicate n true ++ List.replicate (l.length - n) false).toArray := by
        have hsz := I.inv.size
        apply Array.ext
        · simp at hsz ⊢; omega
        · intro j h1 h2
          by_cases hj : j < n
          · have := hall j hj
            simp [Array.getD, h1] at this
            simp [this, List.getElem_append_left, hj]
          · have := I.inv.tail j (by omega) (by rw [← hsz]; exact h1)
            simp [Array.getD, h1] at this
            simp only [this, List.getElem_toArray]
            rw [List.getElem_append_right (by simp; omega)]
            simp
      have ha : a = putAll a0 ((T.map (·.d)).map fun d => (d, a.tmps.getD d undef)) := by
        refine act_ext (by rw [putAll_defers]; exact I.defers) (by rw [putAll_size]; exact I.size) (fun k => ?_)
        rw [putAll_get4 (fun d => a.tmps.getD d undef)]
        by_cases h0 : k < a0.tmps.size
        · by_cases h : k ∈ T.map (·.d)
          · rw [if_pos ⟨h, h0⟩]
          · rw [if_neg (fun hh => h hh.1)]
            exact I.frame k (fun t ht e => h (List.mem_map.2 ⟨t, ht, e⟩))
        · rw [if_neg (fun hh => h0 hh.2)]
          have h1 := I.size
          have hk : ¬ k < a.tmps.size := by omega
          simp [Array.getD, hk, h0]
      have hls : ∀ t ∈ T, listed.getD t.i false = true := by
        intro t ht
        have := hall t.i (own t ht).1
        rcases Nat.lt_or_ge t.i listed.size with h' | h'
        · simp [h'] at this ⊢; exact this
        · have := I.inv.size; have := (own t ht).1; omega
      obtain ⟨j, hj, hjs, hG⟩ := I.stage
      have hjl : j = CH.length := by
        rcases Nat.lt_or_ge j CH.length with h | h
        · have h1 : CH[j]? = some CH[j] := by simp [h]
          have := (hjs j _ h1).1 (hls _ (memC _ (List.getElem_mem h)))
          omega
        · omega
      rw [hjl] at hG
      have hfin := hend (fun d => a.tmps.getD d undef) w hG (fun k u hu => by
        have hu' := List.mem_of_getElem? hu
        have h1 := I.facts u hu' (hls u (memL u hu'))
        unfold HOp.fact at h1
        have e : (u.s.map fun k => if k ∈ T.map (·.d) then a.tmps.getD k undef else a0.tmps.getD k undef) = u.s.map fun k => a.tmps.getD k undef := by
          apply List.map_congr_left
          intro k _
          by_cases h : k ∈ T.map (·.d)
          · rw [if_pos h]
          · rw [if_neg h]
            exact (I.frame k (fun t ht e => h (List.mem_map.2 ⟨t, ht, e⟩))).symm
        rw [e]
        exact h1)
      rw [← ha] at hfin
      rw [Nat.zero_add]
      have hseq' : Region.seqB .any l.toArray (l.drop n).length n listed = true := by rw [hlist, List.length_drop]; exact hseq
      have := wpAny_of_seq (md := .any) (Q' := Q) (l.drop n) n listed a w (fun j => by simp [List.getElem?_drop]) hseq' hfin
      rwa [List.length_drop] at this
    | succ f ih =>
      intro listed a w I hf
      have hex : ∃ j, j < n ∧ listed.getD j true = false := by
        cases hL : (List.range n).filter fun j => !listed.getD j true with
        | nil => unfold todo at hf; rw [hL] at hf; cases hf
        | cons j L =>
          have : j ∈ (List.range n).filter fun j => !listed.getD j true := by rw [hL]; exact List.mem_cons_self
          obtain ⟨h1, h2⟩ := List.mem_filter.1 this
          exact ⟨j, List.mem_range.1 h1, by simpa using h2⟩
      have hready : Region.ready .any l.toArray listed ≠ [] := by
        have hmin : ∀ m j, j ≤ m → j < n → listed.getD j true = false → ∃ i, i ∈ Region.ready .any l.toArray listed := by
          intro m
          induction m with
          | zero =>
            intro j hj hjn hjl
            have hj0 : j = 0 := by omega
            subst hj0
            obtain ⟨t, ht, hti⟩ := cover 0 hjn
            obtain ⟨_, o, ho, hb⟩ := own t ht
            rw [hti] at ho hb
            exact ⟨0, mem_ready.2 ⟨hjl, o, by simpa using ho, fun e he hbe => absurd (hb e he hbe) (by omega)⟩⟩
          | succ m ihm =>
            intro j hj hjn hjl
            obtain ⟨t, ht, hti⟩ := cover j hjn
            obtain ⟨_, o, ho, hb⟩ := own t ht
            rw [hti] at ho hb
            by_cases hall : ∀ e ∈ o.after, Region.binds .any e = true → listed.getD e.on false = true
            · exact ⟨j, mem_ready.2 ⟨hjl, o, by simpa using ho, hall⟩⟩
            · simp only [Classical.not_forall] at hall
              obtain ⟨e, he, hbe, hne⟩ := hall
              have hlt := hb e he hbe
              have hes : e.on < listed.size := by rw [I.inv.size]; simp; omega
              exact ihm e.on (by omega) (by omega) (getD_in hes (by simpa using hne))
        obtain ⟨j, hj, hjl⟩ := hex
        obtain ⟨i, hi⟩ := hmin j j (Nat.le_refl _) hj hjl
        intro h
        rw [h] at hi
        cases hi
      rw [show f + 1 + (l.length - n) = (f + (l.length - n)) + 1 by omega]
      refine ⟨fun h => absurd h hready, fun i hi => ?_⟩
      have hin : i < n := by
        rcases Nat.lt_or_ge i n with h | h
        · exact h
        · obtain ⟨j, hj, hjl⟩ := hex
          exact absurd hi (tail_waits hs hc hn' I.inv _ j rfl hj hjl i h)
      obtain ⟨t, ht, hti⟩ := cover i hin
      obtain ⟨_, o, ho, _⟩ := own t ht
      obtain ⟨hil, oi, hoi, hafter⟩ := mem_ready.1 hi
      have hoo : oi = o := by rw [hti] at ho; exact Option.some.inj (hoi.symm.trans (by simpa using ho))
      subst hoo
      have hframe : ∀ k, (T.map (·.d)).contains k = false → a.tmps.getD k undef = a0.tmps.getD k undef := fun k hk => I.frame k (fun u hu e => by
          have : (T.map (·.d)).contains k = true := by simpa using ⟨u, hu, e⟩
          rw [this] at hk; cases hk)
      have hfacts : ∀ (k : Nat) (u : HOp), TL[k]? = some u → Region.waitsFor .any l.toArray t.i u.i = true → u.p (u.s.map fun k => a.tmps.getD k undef) w := fun k u hu hw => by
        have hu' := List.mem_of_getElem? hu
        obtain ⟨oj, hoj, e, he, hb, hon⟩ := Region.waitsFor_spec hw
        have : oj = oi := by rw [hti] at hoj; exact Option.some.inj (hoj.symm.trans hoi)
        subst this
        have h1 := hafter e he hb
        rw [hon] at h1
        exact I.facts u hu' h1
      have step0 : ∀ (v : Value) (w' : World), R4 w w' → (∃ j, j ≤ CH.length ∧ (∀ m c, CH[m]? = some c → ((listed.setIfInBounds i true).getD c.i false = true ↔ m < j)) ∧ G j (CH.map fun c => (a.put (some t.d) v).tmps.getD c.d undef) (EX.map fun k => (a.put (some t.d) v).tmps.getD k undef) w') →
          (t ∈ TL → t.p (t.s.map fun k => if t.d = k then v else a.tmps.getD k undef) w') → wpAny P .any l.toArray Q (f + (l.length - n)) (listed.setIfInBounds i true) (a.put (some t.d) v) w' := by
        intro v w' hrr hst hp
        refine ih _ _ _ ⟨I.inv.set hi hin, I.defers, ?_, ?_, hst, ?_⟩ ?_
        · rw [← I.size]; simp [Act.put]
        · intro k hk
          rw [put_get, if_neg (fun h => hk t ht h.1)]
          exact I.frame k hk
        · intro u hu hul
          by_cases hui : t.i = u.i
          · unfold HOp.fact
            have hut : u = t := hnodup u (memL u hu) t ht hui.symm
            subst hut
            have e : (u.s.map fun k => (a.put (some u.d) v).tmps.getD k undef) = u.s.map fun k => if u.d = k then v else a.tmps.getD k undef := by
              apply List.map_congr_left
              intro k _
              rw [put_get, I.size]
              by_cases hk : u.d = k
              · rw [if_pos ⟨hk, htl _ hu⟩, if_pos hk]
              · rw [if_neg (fun h => hk h.1), if_neg hk]
            rw [e]
            exact hp hu
          · unfold HOp.fact
            have hul2 : listed.getD u.i false = true := by rw [← getD_set_ne false (i := i) (j := u.i) (by rw [← hti]; exact hui)]; exact hul
            have h1 := hmono.mem u hu _ w w' hrr (I.facts u hu hul2)
            have hnot : t.d ∉ u.s := by
              intro hin2
              have hw := (pair t ht u (memL u hu) hui).2 hu hin2
              obtain ⟨ou, hou, e, he, hb, hon⟩ := Region.waitsFor_spec hw
              have := I.inv.closed u.i ou hou hul2 e he hb
              rw [hon, hti, getD_both hil] at this
              cases this
            have e : (u.s.map fun k => (a.put (some t.d) v).tmps.getD k undef) = u.s.map fun k => a.tmps.getD k undef := by
              apply List.map_congr_left
              intro k hk
              rw [put_get, if_neg (fun (h : t.d = k ∧ t.d < a.tmps.size) => hnot (by rw [h.1]; exact hk))]
            rw [e]
            exact h1
        · have := todo_set hin hil; omega
      have fin : ∀ (R : Exit → Act → World → Prop), (∀ e a' w', R e a' w' → e = .normal) → (∀ a' w', R .normal a' w' → wpAny P .any l.toArray Q (f + (l.length - n)) (listed.setIfInBounds i true) a' w') → wpList P l.toArray R [oi] a w → wpOp P l.toArray Q i (fun a' w' => wpAny P .any l.toArray Q (f + (l.length - n)) (listed.setIfInBounds i true) a' w') a w := by
        intro R hR step H
        unfold wpList at H
        unfold wpOp
        rw [hoi]
        simp only
        by_cases hwant : Region.wanted oi (yielded l.toArray a.tmps) = true
        · rw [if_pos hwant] at H
          rw [if_pos hwant]
          left
          rcases H with H | ⟨_, a1, w1, h1⟩
          · exact wp_both (fun a' w' h => step a' w' h) (fun e a' w' he h => absurd (hR _ _ _ h) he) H
          · exact absurd (hR _ _ _ h1) (by simp)
        · rw [if_neg hwant] at H
          rw [if_neg hwant]
          exact step _ _ H
      obtain ⟨j, hj, hjs, hG⟩ := I.stage
      rcases split t ht with h | h
      · obtain ⟨j0, hj0l, hj0⟩ := List.mem_iff_getElem.1 h
        have hg0 : CH[j0]? = some t := by rw [List.getElem?_eq_getElem hj0l, hj0]
        have hnl : listed.getD t.i false = false := by rw [hti]; exact getD_both hil
        have h1 : ¬ j0 < j := fun h => by rw [(hjs j0 t hg0).2 h] at hnl; cases hnl
        have h2 : j0 ≤ j := by
          cases j0 with
          | zero => omega
          | succ q =>
            have hq : CH[q]? = some CH[q] := by simp
            obtain ⟨oj, hoj, e, he, hb, hon⟩ := Region.waitsFor_spec (hlk q _ t hq hg0)
            have : oj = oi := by rw [hti] at hoj; exact Option.some.inj (hoj.symm.trans hoi)
            subst this
            have h3 := hafter e he hb
            rw [hon] at h3
            have := (hjs q _ hq).1 h3
            omega
        obtain rfl : j0 = j := by omega
        refine fin _ (fun e a' w' h => h.1) ?_ (hopC j0 t hg0 oi ho a w hG hframe hfacts)
        rintro a' w' ⟨_, v, ha', hrr, hG'⟩
        obtain rfl : a' = a.put (some t.d) v := by
          rw [ha']
          by_cases hs0 : t.s = []
          · rw [if_pos hs0]
          · rw [if_neg hs0, put_out a t.d v (by rw [I.size]; exact hch2 t h hs0)]
        refine step0 v w' hrr ⟨j0 + 1, by omega, ?_, ?_⟩ (fun hL => absurd rfl (hdis2 t hL t h).1)
        · intro m c hc
          by_cases hci : c.i = i
          · have hct : c = t := hnodup c (memC c (List.mem_of_getElem? hc)) t ht (by rw [hci, hti])
            subst hct
            have hm0 : m = j0 := by
              rcases Nat.lt_trichotomy m j0 with h | h | h
              · have := (hjs m c hc).2 h
                rw [hnl] at this; cases this
              · exact h
              · exfalso
                have hnd2 : (CH.map (·.i)).Nodup := by
                  have h5 := hnd
                  rw [← hTdef, List.map_map, List.map_append] at h5
                  exact (List.nodup_append.1 h5).1
                have h6 : (CH.map (·.i))[m]? = some c.i := by rw [List.getElem?_map, hc]; rfl
                have h7 : (CH.map (·.i))[j0]? = some c.i := by rw [List.getElem?_map, hg0]; rfl
                obtain ⟨hm1, hm2⟩ := List.getElem?_eq_some_iff.1 h6
                have := (List.getElem?_inj hm1 hnd2).1 (h6.trans h7.symm)
                omega
            subst hm0
            have hlt : i < listed.size := by rw [I.inv.size]; simp; have := hn; omega
            rw [hci]
            simp [hlt]
          · rw [getD_set_ne false (fun e => hci e.symm), hjs m c hc]
            constructor
            · intro h; omega
            · intro h
              rcases Nat.lt_or_ge m j0 with h' | h'
              · exact h'
              · obtain rfl : m = j0 := by omega
                rw [hg0] at hc
                cases hc
                exact absurd hti hci
        · have e : (CH.map fun c => (a.put (some t.d) v).tmps.getD c.d undef) = CH.map fun e => if e.d = t.d then (if t.s = [] then v else undef) else a.tmps.getD e.d undef := by
            apply List.map_congr_left
            intro c _
            rw [put_get, I.size]
            by_cases hk : t.d = c.d
            · by_cases hs0 : t.s = []
              · rw [if_pos ⟨hk, hch t h hs0⟩, if_pos hk.symm, if_pos hs0]
              · have h2 := hch2 t h hs0
                rw [if_neg (fun hh => by omega), if_pos hk.symm, if_neg hs0]
                have h1 := I.size
                have hk : ¬ c.d < a.tmps.size := by omega
                simp [Array.getD, hk]
            · rw [if_neg (fun h => hk h.1), if_neg (fun h => hk h.symm)]
          have ex : (EX.map fun k => (a.put (some t.d) v).tmps.getD k undef) = EX.map fun k => a.tmps.getD k undef := by
            apply List.map_congr_left
            intro k hk
            rw [put_get, if_neg (fun hh => hex1 k hk t h hh.1)]
          rw [e, ex]
          exact hG'
      · refine fin _ (fun e a' w' h => h.1) ?_ (hopL.mem t h oi ho a w hframe hfacts ⟨j, ?_, hj, hG⟩)
        rotate_left
        · intro m c hc hw
          obtain ⟨oj, hoj, e, he, hb, hon⟩ := Region.waitsFor_spec hw
          have : oj = oi := by rw [hti] at hoj; exact Option.some.inj (hoj.symm.trans hoi)
          subst this
          have h3 := hafter e he hb
          rw [hon] at h3
          exact (hjs m c hc).1 h3
        rintro a' w' ⟨_, v, rfl, hbl, hp⟩
        refine step0 v _ (hR _ _ hbl) ⟨j, hj, ?_, ?_⟩ (fun _ => hp)
        · intro m c hc
          rw [getD_set_ne false (by rw [← hti]; exact (hdis2 t h c (List.mem_of_getElem? hc)).1)]
          exact hjs m c hc
        · have e : (CH.map fun c => (a.put (some t.d) v).tmps.getD c.d undef) = CH.map fun c => a.tmps.getD c.d undef := by
            apply List.map_congr_left
            intro c hc
            rw [put_get, if_neg (fun hh => (hdis2 t h c hc).2 hh.1)]
          rw [e]
          refine hGm _ _ _ _ _ hbl ?_
          by_cases hde : t.d ∈ EX
          · obtain ⟨c, hc, hw⟩ := hex2 t h hde
            refine hGx j ?_ _ _ _ _ hG
            rcases Nat.lt_or_ge mx j with hlt | hge
            · have h1 := (hjs mx c hc).2 hlt
              obtain ⟨oc, hoc, e, he, hb, hon⟩ := Region.waitsFor_spec hw
              have h2 := I.inv.closed c.i oc hoc h1 e he hb
              rw [hon, hti, getD_both hil] at h2
              cases h2
            · exact hge
          · have ex : (EX.map fun k => (a.put (some t.d) v).tmps.getD k undef) = EX.map fun k => a.tmps.getD k undef := by
              apply List.map_congr_left
              intro k hk
              rw [put_get, if_neg (fun hh => hde (by rw [hh.1]; exact hk))]
            rw [ex]
            exact hG
  refine wp_region_any hm ?_
  have inv0 : HeadInv .any l.toArray n (Array.replicate l.toArray.size false) :=
    ⟨by simp, fun j oj _ hl => (by rw [getD_replicate_false] at hl; cases hl), fun t _ ht => getD_in (by simpa using ht) (getD_replicate_false _ _)⟩
  have I0 : ChInv5 l n CH TL T EX a0 G (Array.replicate l.toArray.size false) a0 { w0 with drawn := w0.drawn + 1 } :=
    ⟨inv0, rfl, rfl, fun _ _ => rfl, ⟨0, Nat.zero_le _, fun m c _ => (by rw [getD_replicate_false]; simp), hG0⟩, fun t _ hl => (by rw [getD_replicate_false] at hl; cases hl)⟩
  have ht0 : todo (Array.replicate l.toArray.size false) n = n := by
    unfold todo
    rw [List.filter_eq_self.2 (fun j hj => by
      have hj' := List.mem_range.1 hj
      have : (Array.replicate l.toArray.size false).getD j true = false := getD_in (by simp; omega) (getD_replicate_false _ _)
      rw [this]; rfl), List.length_range]
  have := key n _ _ _ I0 ht0
  rwa [show n + (l.length - n) = l.toArray.size by simp; omega] at this
end
end Go.Dx
end

/- the text T39 -/
section
/- Chapter 15: a layout's answer, kept while its certificate is stored. -/
namespace Go.Proofs.Ytmjkhmebpciopaa
open Go.RowKit Go.Dx

theorem lay_any_N {X : List (List (List UInt8))} {W : Int} {P : List (List UInt8)} {F Ls : List Nat} (h : LayOf X W P F Ls) (hs : List Hd) (a : Option Addr) (n c : Nat) (w : World) (hp : Pg3 w a n c hs X) :
    Calls Try.prog 10 #[.slice a n c, .int .i64 W] w (GivesLayN P F Ls (errT X W) w) := by
  rcases h with ⟨h0, L, T, hS, rfl, rfl, rfl⟩ | ⟨h0, rfl, rfl, rfl⟩
  · rw [h0]; exact tab_Layout_N X hs a n c W L T w hp h0 hS
  · exact tab_Layout_no_N X hs a n c W w hp h0
theorem ref_lay_any_N {X : List (List (List UInt8))} {W : Int} {P : List (List UInt8)} {F Ls : List Nat} (h : LayOf X W P F Ls) (hW : -9223372036854775808 ≤ W ∧ W ≤ 9223372036854775807) (hs : List Hd) (a : Option Addr) (n c : Nat) (w : World) (hp : Pg3 w a n c hs X) :
    Calls Try.prog 11 #[.slice a n c, .int .i64 W] w (GivesLayN P F Ls (errT X W) w) := by
  rcases h with ⟨h0, L, T, hS, rfl, rfl, rfl⟩ | ⟨h0, rfl, rfl, rfl⟩
  · rw [h0]; exact ref15_Layout_N X hs a n c W L T w hp hW h0 hS
  · exact ref15_Layout_no_N X hs a n c W w hp hW h0

/-- a block of cells of type T stays one -/
def KeepsT (T : TypeId) (w w' : World) : Prop := ∀ (k : Nat) (C : Array Value) (z : Nat × Nat), w.heap[k]? = some (.cells C T z) → ∃ C' : Array Value, C'.size = C.size ∧ w'.heap[k]? = some (.cells C' T z)
theorem KeepsT.of {T : TypeId} {w w' : World} (h : Below w.heap.size w w') : KeepsT T w w' := fun k C _ hk => ⟨C, rfl, (h.block k (Array.getElem?_eq_some_iff.1 hk).1).trans hk⟩
theorem KeepsT.put {T : TypeId} {w w' : World} {b : Nat} {cs ds : List Value} (hb : Box w b T cs) (hl : ds.length = cs.length) (hd : Box w' b T ds) (hg : w.grownBy w' (some b)) : KeepsT T w w' := fun k C z hk => by
  by_cases h : k = b
  · subst h
    unfold Box at hb hd
    rw [hb] at hk
    injection hk with hk
    injection hk with h1 h2 h3
    subst h1 h3
    exact ⟨ds.toArray, by simpa using hl, hd⟩
  · exact ⟨C, rfl, (hg.block k (Array.getElem?_eq_some_iff.1 hk).1 (fun e => h (by simpa using e))).trans hk⟩
/-- a block of two cells of type T, whatever it holds -/
def BoxT (T : TypeId) (w : World) (b : Nat) : Prop := ∃ cs : List Value, cs.length = 2 ∧ Box w b T cs
theorem KeepsT.box {T : TypeId} {w w' : World} (h : KeepsT T w w') {b : Nat} (hb : BoxT T w b) : BoxT T w' b := by
  obtain ⟨cs, h1, h2⟩ := hb
  obtain ⟨C', h3, h4⟩ := h b _ _ h2
  exact ⟨C'.toList, by rw [Array.length_toList, h3]; simpa using h1, by unfold Box; rw [h4]⟩
/-- the three results of a layout -/
def Tup (M nf nl : Nat) (x : Int) (ap a1 a2 : Option Addr) (cp c1 c2 : Nat) : Value := .tuple #[.slice ap M cp, .agg #[.slice a1 nf c1, .slice a2 nl c2], .int .i64 x]
theorem Tup.inj {M nf nl : Nat} {x : Int} {ap a1 a2 ap' a1' a2' : Option Addr} {cp c1 c2 cp' c1' c2' : Nat} (h : Tup M nf nl x ap a1 a2 cp c1 c2 = Tup M nf nl x ap' a1' a2' cp' c1' c2') : ap = ap' ∧ a1 = a1' ∧ a2 = a2' ∧ cp = cp' ∧ c1 = c1' ∧ c2 = c2' := by
  unfold Tup at h
  simp at h
  obtain ⟨⟨h1, h2⟩, ⟨h3, h4⟩, h5, h6⟩ := h
  exact ⟨h1, h3, h5, h2, h4, h6⟩
/-- what lies behind them -/
structure LayQ (w : World) (P : List (List UInt8)) (F Ls : List Nat) (ap a1 a2 : Option Addr) (cp c1 c2 : Nat) (hs : List Hd) : Prop where
  pg : Pg w ap P.length cp hs P
  f : Sl w 1 a1 F.length c1 ((ints F).map I64)
  l : Sl w 1 a2 Ls.length c2 ((ints Ls).map I64)
  k : KindLay w ap hs a1 a2
theorem KindLay.below {w w' : World} {ap : Option Addr} {hs : List Hd} {a1 a2 : Option Addr} (h : KindLay w ap hs a1 a2) (hb : Below w.heap.size w w') : KindLay w' ap hs a1 a2 := ⟨h.pg.below hb, fun i x hx => (h.row i x hx).below hb, h.f.below hb, h.l.below hb⟩
theorem LayQ.below {w w' : World} {P : List (List UInt8)} {F Ls : List Nat} {ap a1 a2 : Option Addr} {cp c1 c2 : Nat} {hs : List Hd} (h : LayQ w P F Ls ap a1 a2 cp c1 c2 hs) (hb : Below w.heap.size w w') : LayQ w' P F Ls ap a1 a2 cp c1 c2 hs :=
  ⟨h.pg.below hb, h.f.below hb, h.l.below hb, h.k.below hb⟩
theorem KindOf.ne {e T : TypeId} {w : World} {a : Option Addr} {b : Nat} {cs : List Value} (h : KindOf e w a) (hb : Box w b T cs) (hT : e ≠ T) : ∀ q, a = some q → some q.block ≠ some b := fun q hq e0 => by
  obtain ⟨C, z, hC⟩ := h q hq
  have h2 : q.block = b := by simpa using e0
  unfold Box at hb
  rw [h2, hb] at hC
  injection hC with hC
  injection hC with _ hC
  exact hT hC.symm
theorem LayQ.put {T : TypeId} {w w' : World} {P : List (List UInt8)} {F Ls : List Nat} {ap a1 a2 : Option Addr} {cp c1 c2 : Nat} {hs : List Hd} {b : Nat} {cs : List Value} (h : LayQ w P F Ls ap a1 a2 cp c1 c2 hs) (hb : Box w b T cs) (hg : w.grownBy w' (some b))
    (h1 : 47 ≠ T) (h2 : 5 ≠ T) (h3 : 3 ≠ T) : LayQ w' P F Ls ap a1 a2 cp c1 c2 hs :=
  ⟨⟨h.pg.top.grown hg (h.k.pg.ne hb h1), h.pg.len, fun i x r hx hr => (h.pg.row i x r hx hr).grown hg ((h.k.row i x hx).ne hb h2)⟩, h.f.grown hg (h.k.f.ne hb h3), h.l.grown hg (h.k.l.ne hb h3),
   ⟨h.k.pg.grown hg (h.k.pg.ne hb h1), fun i x hx => (h.k.row i x hx).grown hg ((h.k.row i x hx).ne hb h2), h.k.f.grown hg (h.k.f.ne hb h3), h.k.l.grown hg (h.k.l.ne hb h3)⟩⟩
/-- how far 'p, c, e := Layout(..)' is: the slots of the call, of p; of c -/
def GL (T : TypeId) (P : List (List UInt8)) (F Ls : List Nat) (x : Int) (w0 : World) : Nat → List Value → List Value → World → Prop
  | 0, _, _, w => Below w0.heap.size w0 w
  | 1, vs, _, w => ∃ ap a1 a2 cp c1 c2 hs, LayQ w P F Ls ap a1 a2 cp c1 c2 hs ∧ vs.getD 0 undef = Tup P.length F.length Ls.length x ap a1 a2 cp c1 c2 ∧ Below w0.heap.size w0 w
  | 2, vs, _, w => ∃ ap a1 a2 cp c1 c2 hs, LayQ w P F Ls ap a1 a2 cp c1 c2 hs ∧ vs.getD 0 undef = Tup P.length F.length Ls.length x ap a1 a2 cp c1 c2 ∧ vs.getD 1 undef = .slice ap P.length cp ∧ Below w0.heap.size w0 w
  | _ + 3, vs, ex, w => ∃ ap a1 a2 cp c1 c2 hs, LayQ w P F Ls ap a1 a2 cp c1 c2 hs ∧ vs.getD 0 undef = Tup P.length F.length Ls.length x ap a1 a2 cp c1 c2 ∧ vs.getD 1 undef = .slice ap P.length cp ∧
      (∃ b, ex.getD 0 undef = .pointer (some ⟨b, 0, none⟩) ∧ w0.heap.size ≤ b ∧ Box w b T [.slice a1 F.length c1, .slice a2 Ls.length c2]) ∧ Below w0.heap.size w0 w
section
variable {T : TypeId} {P : List (List UInt8)} {F Ls : List Nat} {x : Int} {w0 : World}
theorem GL.bel {vs ex : List Value} {w : World} : ∀ {j}, GL T P F Ls x w0 j vs ex w → Below w0.heap.size w0 w := by
  intro j h
  match j, h with
  | 0, h => exact h
  | 1, ⟨_, _, _, _, _, _, _, _, _, h⟩ => exact h
  | 2, ⟨_, _, _, _, _, _, _, _, _, _, h⟩ => exact h
  | _ + 3, ⟨_, _, _, _, _, _, _, _, _, _, _, h⟩ => exact h
theorem GL.tup {vs ex : List Value} {w : World} : ∀ {j}, 1 ≤ j → GL T P F Ls x w0 j vs ex w → ∃ ap a1 a2 cp c1 c2, vs.getD 0 undef = Tup P.length F.length Ls.length x ap a1 a2 cp c1 c2 := by
  intro j hj h
  match j, h with
  | 1, ⟨ap, a1, a2, cp, c1, c2, _, _, h, _⟩ => exact ⟨ap, a1, a2, cp, c1, c2, h⟩
  | 2, ⟨ap, a1, a2, cp, c1, c2, _, _, h, _⟩ => exact ⟨ap, a1, a2, cp, c1, c2, h⟩
  | _ + 3, ⟨ap, a1, a2, cp, c1, c2, _, _, h, _⟩ => exact ⟨ap, a1, a2, cp, c1, c2, h⟩
theorem GL.mono : ∀ j vs ex w w', Below w.heap.size w w' → GL T P F Ls x w0 j vs ex w → GL T P F Ls x w0 j vs ex w' := by
  intro j vs ex w w' hb h
  match j, h with
  | 0, h => exact Below.trans h (hb.mono (Below.size h))
  | 1, ⟨ap, a1, a2, cp, c1, c2, hs, h1, h2, h3⟩ => exact ⟨ap, a1, a2, cp, c1, c2, hs, h1.below hb, h2, h3.trans (hb.mono h3.size)⟩
  | 2, ⟨ap, a1, a2, cp, c1, c2, hs, h1, h2, h4, h3⟩ => exact ⟨ap, a1, a2, cp, c1, c2, hs, h1.below hb, h2, h4, h3.trans (hb.mono h3.size)⟩
  | _ + 3, ⟨ap, a1, a2, cp, c1, c2, hs, h1, h2, h4, ⟨b, h5, h6, h7⟩, h3⟩ => exact ⟨ap, a1, a2, cp, c1, c2, hs, h1.below hb, h2, h4, ⟨b, h5, h6, h7.under hb⟩, h3.trans (hb.mono h3.size)⟩
theorem GL.ext : ∀ j, j ≤ 2 → ∀ vs ex ex' w, GL T P F Ls x w0 j vs ex w → GL T P F Ls x w0 j vs ex' w := by
  intro j hj vs ex ex' w h
  match j, hj, h with
  | 0, _, h => exact h
  | 1, _, h => exact h
  | 2, _, h => exact h
end
/-- the facts of the extracts -/
def IsTup (M nf nl : Nat) (x : Int) (v : Value) : Prop := ∃ ap a1 a2 cp c1 c2, v = Tup M nf nl x ap a1 a2 cp c1 c2
def MdF (M nf nl : Nat) (x : Int) (vs : List Value) : Prop := vs.getD 0 undef = vs.getD 1 undef ∧ IsTup M nf nl x (vs.getD 0 undef)
def EF0 (M nf nl : Nat) (x : Int) (vs : List Value) : Prop := ∃ ap a1 a2 cp c1 c2, vs.getD 1 undef = Tup M nf nl x ap a1 a2 cp c1 c2 ∧ vs.getD 0 undef = .slice ap M cp
def EF1 (M nf nl : Nat) (x : Int) (vs : List Value) : Prop := ∃ ap a1 a2 cp c1 c2, vs.getD 1 undef = Tup M nf nl x ap a1 a2 cp c1 c2 ∧ vs.getD 0 undef = .agg #[.slice a1 nf c1, .slice a2 nl c2]
theorem MdF.of {M nf nl : Nat} {x : Int} {ap a1 a2 : Option Addr} {cp c1 c2 : Nat} {u v : Value} (h : u = v) (hv : u = Tup M nf nl x ap a1 a2 cp c1 c2) : MdF M nf nl x [u, v] := ⟨h, ap, a1, a2, cp, c1, c2, hv⟩
theorem EF0.of {M nf nl : Nat} {x : Int} {ap a1 a2 : Option Addr} {cp c1 c2 : Nat} {u v : Value} (hu : u = .slice ap M cp) (hv : v = Tup M nf nl x ap a1 a2 cp c1 c2) : EF0 M nf nl x [u, v] := ⟨ap, a1, a2, cp, c1, c2, hv, hu⟩
theorem EF1.of {M nf nl : Nat} {x : Int} {ap a1 a2 : Option Addr} {cp c1 c2 : Nat} {u v : Value} (hu : u = .agg #[.slice a1 nf c1, .slice a2 nl c2]) (hv : v = Tup M nf nl x ap a1 a2 cp c1 c2) : EF1 M nf nl x [u, v] := ⟨ap, a1, a2, cp, c1, c2, hv, hu⟩
/-- lists of entries in a list -/
structure LX (w : World) (B n : Nat) (XS : List (List (List (List UInt8)))) : Prop where
  get : ∀ (i : Nat) (X : List (List (List UInt8))), XS[i]? = some X → ∃ a c hs, w.cell? ⟨B, i, none⟩ = some (.slice a X.length c) ∧ Pg3 w a X.length c hs X
  len : XS.length = n
  lt : B < w.heap.size
theorem LX.below {w w' : World} {B n : Nat} {XS : List (List (List (List UInt8)))} (h : LX w B n XS) (hb : Below w.heap.size w w') : LX w' B n XS :=
  ⟨fun i X hX => by obtain ⟨a, c, hs, h1, h2⟩ := h.get i X hX; exact ⟨a, c, hs, (World.cell?_of_block (hb.block B h.lt)).trans h1, h2.below hb⟩, h.len, Nat.lt_of_lt_of_le h.lt hb.size⟩
/-- rows without entries -/
theorem pg3_empty {w : World} {a : Option Addr} {n c : Nat} (hs : Sl w 1 a n c (List.replicate n (.slice none 0 0))) : Pg3 w a n c (List.replicate n (none, 0, 0)) (List.replicate n []) :=
  ⟨by rw [List.map_replicate]; exact hs, by simp, fun i x p h1 h2 => by
    rw [List.getElem?_replicate] at h1 h2
    by_cases hi : i < n
    · rw [if_pos hi] at h1 h2
      cases h1
      cases h2
      exact ⟨[], Sl.empty _ _, rfl, fun i h r h1 => by cases h1⟩
    · rw [if_neg hi] at h1; cases h1⟩
end Go.Proofs.Ytmjkhmebpciopaa
end

/- the text T40 -/
section
/- Chapter 15: the walk of TabularLays. -/
namespace Go.Proofs.Ytmjkhmebpciopaa
open Go.RowKit Go.Dx

theorem lx5 {w : World} {B : Nat} {a1 a2 a3 a4 : Option Addr} {c1 c2 : Nat} {X Y : List (List (List UInt8))} {h1 h2 h3 h4 : List Hd} (hx : Box w B 23 [.slice a1 X.length c1, .slice a2 Y.length c2, .slice none 0 0, .slice a3 1 1, .slice a4 13 13])
    (p1 : Pg3 w a1 X.length c1 h1 X) (p2 : Pg3 w a2 Y.length c2 h2 Y) (p3 : Pg3 w a3 1 1 h3 [[]]) (p4 : Pg3 w a4 13 13 h4 (List.replicate 13 [])) : LX w B 5 [X, Y, [], [[]], List.replicate 13 []] := by
  refine ⟨fun i Z hZ => ?_, rfl, hx.lt⟩
  rcases i with _ | _ | _ | _ | _ | i
  · cases hZ; exact ⟨_, _, _, hx.at_ (j := 0) rfl, p1⟩
  · cases hZ; exact ⟨_, _, _, hx.at_ (j := 1) rfl, p2⟩
  · cases hZ; exact ⟨_, _, [], hx.at_ (j := 2) rfl, ⟨Sl.empty _ _, rfl, fun i h r h1 => by cases h1⟩⟩
  · cases hZ; exact ⟨_, _, _, hx.at_ (j := 3) rfl, p3⟩
  · replace hZ : some (List.replicate 13 []) = some Z := hZ
    cases hZ; exact ⟨_, _, _, hx.at_ (j := 4) rfl, p4⟩
  · simp at hZ

set_option maxRecDepth 100000 in
set_option maxHeartbeats 2000000 in
theorem walk_TabularLays (l : List Int) (a : Option Addr) (n c : Nat) (wd at_ how by_ : Int) (w : World) (hs : Sl w 1 a n c (l.map I64)) (hl : ∀ x ∈ l, -9223372036854775808 ≤ x ∧ x ≤ 9223372036854775807)
    (hwd : -9223372036854775808 ≤ wd ∧ wd ≤ 9223372036854775807) (hat : -9223372036854775808 ≤ at_ ∧ at_ ≤ 9223372036854775807) (hho : -9223372036854775808 ≤ how ∧ how ≤ 9223372036854775807) (hby : -9223372036854775808 ≤ by_ ∧ by_ ≤ 9223372036854775807) :
    Calls Try.prog 3 #[.slice a n c, .int .i64 wd, .int .i64 at_, .int .i64 how, .int .i64 by_] w fun e w' => e = .returned (.bool true) ∧ Below w.heap.size w w' := by
  have hE := ref15_Entries l a n c w hs hl
  go_enter Try.func3, Try.ntmps3
  go_wp2_with fail
  refine hE.mono ?_
  rintro e w1 ⟨X, aX, cX, hsX, rfl, HX, hX4, hC6, hO, hb1⟩
  have hp1 := hO.pg
  clear hE hO hs hl
  go_upto_region 2 with fail
  refine wp_region_free 9 [⟨0, 24, [24], fun vs _ => vs = [.slice aX X.length cX]⟩, ⟨1, 25, [25], fun vs _ => vs = [.slice aX X.length cX]⟩, ⟨2, 26, [26], fun vs _ => vs = [.int .i64 at_]⟩, ⟨3, 27, [27], fun vs _ => vs = [.int .i64 how]⟩, ⟨4, 28, [28], fun vs _ => vs = [.int .i64 by_]⟩, ⟨5, 29, [29], fun vs w => ∃ Y a c hs, vs = [.slice a Y.length c] ∧ Pg3 w a Y.length c hs Y⟩, ⟨6, 30, [30], fun vs w => ∃ b, vs = [.slice (some ⟨b, 0, none⟩) 1 1] ∧ Pg3 w (some ⟨b, 0, none⟩) 1 1 [(none, 0, 0)] [[]]⟩, ⟨7, 31, [31], fun vs w => ∃ b, vs = [.slice (some ⟨b, 0, none⟩) 13 13] ∧ Pg3 w (some ⟨b, 0, none⟩) 13 13 (List.replicate 13 (none, 0, 0)) (List.replicate 13 [])⟩, ⟨8, 32, [32], fun vs w => ∃ B XS, vs = [.slice (some ⟨B, 0, none⟩) 5 5] ∧ LX w B 5 XS⟩] (by kernel_rfl) (by kernel_rfl) ?_ ?_ ?_
  · simp only [All]
    refine ⟨fun _ _ _ _ h => h, fun _ _ _ _ h => h, fun _ _ _ _ h => h, fun _ _ _ _ h => h, fun _ _ _ _ h => h, ?_, ?_, ?_, ?_, trivial⟩
    · rintro vs w w' hb ⟨Y, a, c, hs, h1, h2⟩
      exact ⟨Y, a, c, hs, h1, h2.below hb⟩
    · rintro vs w w' hb ⟨b, h1, h2⟩
      exact ⟨b, h1, h2.below hb⟩
    · rintro vs w w' hb ⟨b, h1, h2⟩
      exact ⟨b, h1, h2.below hb⟩
    · rintro vs w w' hb ⟨B, XS, h1, h2⟩
      exact ⟨B, XS, h1, h2.below hb⟩
  · simp only [All]
    refine ⟨?_, ?_, ?_, ?_, ?_, ?_, ?_, ?_, ?_, trivial⟩
    · intro o ho a' w' hb hfr hdep
      obtain rfl := Option.some.inj ho
      have g11 : a'.tmps[11]?.getD undef = .slice aX X.length cX := by have h := hfr 11 (by kernel_rfl); simpa using h
      clear ho hfr hdep
      go_wp2_with fail
      exact ⟨rfl, _, rfl, Below.refl _ _, rfl⟩
    · intro o ho a' w' hb hfr hdep
      obtain rfl := Option.some.inj ho
      have g11 : a'.tmps[11]?.getD undef = .slice aX X.length cX := by have h := hfr 11 (by kernel_rfl); simpa using h
      clear ho hfr hdep
      go_wp2_with fail
      exact ⟨rfl, _, rfl, Below.refl _ _, rfl⟩
    · intro o ho a' w' hb hfr hdep
      obtain rfl := Option.some.inj ho
      have g2 : a'.tmps[2]?.getD undef = .int .i64 at_ := by have h := hfr 2 (by kernel_rfl); simpa using h
      clear ho hfr hdep
      go_wp2_with fail
      exact ⟨rfl, _, rfl, Below.refl _ _, rfl⟩
    · intro o ho a' w' hb hfr hdep
      obtain rfl := Option.some.inj ho
      have g3 : a'.tmps[3]?.getD undef = .int .i64 how := by have h := hfr 3 (by kernel_rfl); simpa using h
      clear ho hfr hdep
      go_wp2_with fail
      exact ⟨rfl, _, rfl, Below.refl _ _, rfl⟩
    · intro o ho a' w' hb hfr hdep
      obtain rfl := Option.some.inj ho
      have g4 : a'.tmps[4]?.getD undef = .int .i64 by_ := by have h := hfr 4 (by kernel_rfl); simpa using h
      clear ho hfr hdep
      go_wp2_with fail
      exact ⟨rfl, _, rfl, Below.refl _ _, rfl⟩
    · intro o ho a' w' hb hfr hdep
      obtain rfl := Option.some.inj ho
      have g25 : a'.tmps[25]?.getD undef = .slice aX X.length cX := by have h := hdep 1 _ rfl (by kernel_rfl); simpa using h
      have g26 : a'.tmps[26]?.getD undef = .int .i64 at_ := by have h := hdep 2 _ rfl (by kernel_rfl); simpa using h
      have g27 : a'.tmps[27]?.getD undef = .int .i64 how := by have h := hdep 3 _ rfl (by kernel_rfl); simpa using h
      have g28 : a'.tmps[28]?.getD undef = .int .i64 by_ := by have h := hdep 4 _ rfl (by kernel_rfl); simpa using h
      clear ho hfr hdep
      go_wp2_with fail
      refine (ref15_Spoilt X hsX aX X.length cX at_ how by_ w' (hp1.below hb) HX hat hho hby).mono ?_
      rintro e w3 ⟨Y, a, c, hs, rfl, h2, h3⟩
      go_wp2_with fail
      exact ⟨rfl, _, rfl, h3, Y, a, c, hs, rfl, h2⟩
    · intro o ho a' w' hb hfr hdep
      obtain rfl := Option.some.inj ho
      clear ho hfr hdep
      refine build_3 30 1 _ [.slice none 0 0] rfl (by decide) (by decide) (by simp [Instr.fill, go_sem]) ?_; intro w3 o3 b3 z3
      go_wp2
      exact ⟨rfl, _, rfl, b3, w'.heap.size, rfl, pg3_empty (n := 1) o3.sl⟩
    · intro o ho a' w' hb hfr hdep
      obtain rfl := Option.some.inj ho
      clear ho hfr hdep
      go_wp2_with (with_reducible refine make_row 31 _ _ _ 28 (.slice none 0 0) 24 Try.underlying23 info_rows rfl _ _ _ _ 13 rfl rfl rfl rfl (by omega) (by omega) ?_; intro w3 hrow3 hb3 hz3)
      exact ⟨rfl, _, rfl, hb3, w'.heap.size, rfl, pg3_empty (row_sl' hrow3 (by unfold maxLen; omega) _ (by simp) (fun j u hu => by rw [List.getElem?_replicate] at hu; split at hu; cases hu; rfl; cases hu))⟩
    · intro o ho a' w' hb hfr hdep
      obtain rfl := Option.some.inj ho
      have g24 : a'.tmps[24]?.getD undef = .slice aX X.length cX := by have h := hdep 0 _ rfl (by kernel_rfl); simpa using h
      obtain ⟨Y, a2, c2, hs2, g29, hp2⟩ := hdep 5 _ rfl (by kernel_rfl)
      replace g29 : a'.tmps[29]?.getD undef = .slice a2 Y.length c2 := by simpa using g29
      obtain ⟨b3, g30, hp3⟩ := hdep 6 _ rfl (by kernel_rfl)
      replace g30 : a'.tmps[30]?.getD undef = .slice (some ⟨b3, 0, none⟩) 1 1 := by simpa using g30
      obtain ⟨b4, g31, hp4⟩ := hdep 7 _ rfl (by kernel_rfl)
      replace g31 : a'.tmps[31]?.getD undef = .slice (some ⟨b4, 0, none⟩) 13 13 := by simpa using g31
      clear ho hfr hdep
      have hp0 := hp1.below hb
      go_wp2_with fail
      have bz := blo w' (.cells #[.slice aX X.length cX, .slice a2 Y.length c2, .slice none 0 0, .slice (some ⟨b3, 0, none⟩) 1 1, .slice (some ⟨b4, 0, none⟩) 13 13] 23)
      have hx := Box.new w' 23 #[.slice aX X.length cX, .slice a2 Y.length c2, .slice none 0 0, .slice (some ⟨b3, 0, none⟩) 1 1, .slice (some ⟨b4, 0, none⟩) 13 13]
      exact ⟨rfl, _, rfl, bz, w'.heap.size, [X, Y, [], [[]], List.replicate 13 []], rfl, lx5 hx (hp0.below bz) (hp2.below bz) (hp3.below bz) (hp4.below bz)⟩
  · intro g w2 hb2 hp2
    obtain ⟨B, XS, g32, hLX⟩ := hp2 8 _ rfl
    replace g32 : g 32 = .slice (some ⟨B, 0, none⟩) 5 5 := by simpa using g32
    clear hp2
    simp only [List.drop_succ_cons, List.drop_zero, List.map_cons, List.map_nil, putAll, Act.put, List.setIfInBounds_toArray, List.set_cons_succ, List.set_cons_zero, g32]
    clear g32
    have hbw2 := hb1.trans (hb2.mono hb1.size)
    clear hp1 hb2 hb1
    go_wp2_with fail
    refine (law15_widths wd w2 hwd.1 hwd.2).mono ?_
    rintro e w3 ⟨a5, v0, v1, rfl, hsw, hv0, hv1, hb3⟩
    have hLX3 := hLX.below hb3
    have hbw3 := hbw2.trans (hb3.mono hbw2.size)
    clear hLX hbw2 hb3
    obtain ⟨ab, ao, rfl, hab, hcw⟩ := hsw.ex (by simp)
    have hlen := hLX3.len
    have HLEN := hide hlen
    clear hlen hsw
    go_wp2_with fail
    go_loopg [14] 5 (fun g i' w' => ∃ i : Nat, i ≤ 5 ∧ g = 5 - i ∧ i' = .int .i64 (i : Int) ∧ Below w3.heap.size w3 w')
    case atStart => exact ⟨0, by omega, by omega, rfl, Below.refl _ _⟩
    case round =>
      obtain ⟨i, hi, hg, rfl, hbi⟩ := hrel
      have HG := hide hg
      clear hg
      by_cases hil : i < 5
      · obtain ⟨Y, hY⟩ : ∃ Y, XS[i]? = some Y := ⟨XS[i]'(by rw [HLEN.out]; exact hil), by simp⟩
        obtain ⟨aY, cY, hsY, hcell, hpY⟩ := hLX3.get i Y hY
        clear hY
        have hBlt := hLX3.lt
        have d0 : decide ((i : Int) < 5) = true := decide_eq_true (by omega)
        obtain ⟨wy, rfl⟩ : ∃ wy : World, wy = wr := ⟨_, rfl⟩
        go_wp2_with fail
        go_loopg [15] 2 (fun g k' w' => ∃ k : Nat, k ≤ 2 ∧ g = 2 - k ∧ k' = .int .i64 (k : Int) ∧ Below w3.heap.size w3 w')
        case atStart => exact ⟨0, by omega, by omega, rfl, hbi⟩
        case round =>
          obtain ⟨k, hk, hg1, rfl, hbk⟩ := hrel
          have HG1 := hide hg1
          clear hg1
          by_cases hkl : k < 2
          · obtain ⟨v, hvk, hvb⟩ : ∃ v : Int, ([v0, v1].map I64)[k]? = some (.int .i64 v) ∧ (-1 ≤ v ∧ v ≤ 1001) := by
              rcases k with _ | _ | k
              · exact ⟨v0, rfl, by omega, by omega⟩
              · exact ⟨v1, rfl, hv1⟩
              · omega
            have hcv := hcw k _ hvk
            have hcY : ∀ w', Below wr.heap.size wr w' → w'.cell? ⟨B, i, none⟩ = some (.slice aY Y.length cY) := fun w' h => by
              have hb := hbk.trans (h.mono hbk.size)
              exact (World.cell?_of_block (hb.block B hBlt)).trans hcell
            have hcV : ∀ w', Below wr.heap.size wr w' → w'.cell? ⟨ab, ao + k, none⟩ = some (.int .i64 v) := fun w' h => by
              have hb := hbk.trans (h.mono hbk.size)
              exact (World.cell?_of_block (hb.block ab hab)).trans hcv
            obtain ⟨P, F, Ls, hlay⟩ := LayOf.ex Y v
            obtain ⟨E, HE⟩ : ∃ E, Hid (errT Y v = E) := ⟨_, hide rfl⟩
            have hL1 : ∀ w', Below wr.heap.size wr w' → Calls Try.prog 10 #[.slice aY Y.length cY, .int .i64 v] w' (GivesLayN P F Ls E w') := fun w' h => by
              have := lay_any_N hlay hsY aY Y.length cY w' (hpY.below (hbk.trans (h.mono hbk.size)))
              rw [HE.out] at this; exact this
            have hL2 : ∀ w', Below wr.heap.size wr w' → Calls Try.prog 11 #[.slice aY Y.length cY, .int .i64 v] w' (GivesLayN P F Ls E w') := fun w' h => by
              have := ref_lay_any_N hlay (by omega) hsY aY Y.length cY w' (hpY.below (hbk.trans (h.mono hbk.size)))
              rw [HE.out] at this; exact this
            have d1 : decide ((k : Int) < 2) = true := decide_eq_true (by omega)
            clear hvk hcv hlay
            go_upto_region 10 with fail
            refine wp_region_chain5 16 (KeepsT 31) (GL 31 P F Ls E wr) [⟨8, 54, [], fun _ _ => True⟩, ⟨14, 16, [], fun _ _ => True⟩, ⟨15, 110, [0], fun _ _ => True⟩] [⟨0, 46, [46], fun vs _ => vs = [.slice (some ⟨B, 0, none⟩) 5 5]⟩, ⟨1, 47, [47], fun vs _ => vs = [.int .i64 (i : Int)]⟩, ⟨2, 48, [48], fun vs _ => vs = [.pointer (some ⟨B, i, none⟩)]⟩, ⟨3, 49, [49], fun vs _ => vs = [.slice aY Y.length cY]⟩, ⟨4, 50, [50], fun vs _ => vs = [.slice (some ⟨ab, ao, none⟩) 2 2]⟩, ⟨5, 51, [51], fun vs _ => vs = [.int .i64 (k : Int)]⟩, ⟨6, 52, [52], fun vs _ => vs = [.pointer (some ⟨ab, ao + k, none⟩)]⟩, ⟨7, 53, [53], fun vs _ => vs = [.int .i64 v]⟩, ⟨9, 45, [45, 54], fun vs _ => MdF P.length F.length Ls.length E vs⟩, ⟨10, 55, [55, 45], fun vs _ => EF0 P.length F.length Ls.length E vs⟩, ⟨11, 56, [56, 45], fun vs _ => EF1 P.length F.length Ls.length E vs⟩, ⟨12, 57, [57], fun vs _ => vs = [.int .i64 E]⟩, ⟨13, 17, [17], fun vs w => ∃ b, vs = [.pointer (some ⟨b, 0, none⟩)] ∧ wr.heap.size ≤ b ∧ BoxT 31 w b⟩] [17] 2 (by kernel_rfl) (by kernel_rfl) ?_ (fun _ _ h => KeepsT.of h) GL.mono GL.ext ?_ ?_ ?_ ?_
            · exact (Still.below 1 : Below wr.heap.size wr (wr.drewN 1))
            · simp only [All]
              refine ⟨(fun _ _ _ _ h => h), (fun _ _ _ _ h => h), (fun _ _ _ _ h => h), (fun _ _ _ _ h => h), (fun _ _ _ _ h => h), (fun _ _ _ _ h => h), (fun _ _ _ _ h => h), (fun _ _ _ _ h => h), (fun _ _ _ _ h => h), (fun _ _ _ _ h => h), (fun _ _ _ _ h => h), (fun _ _ _ _ h => h), (fun vs w1 w2 hr ⟨b, h1, h0, h2⟩ => ⟨b, h1, h0, hr.box h2⟩), trivial⟩
            · intro m c hc o ho a w' hG hfr hdep
              rcases m with _ | _ | _ | m
              · cases hc
                obtain rfl := Option.some.inj ho
                have hB : Below wr.heap.size wr w' := hG
                have g49 : a.tmps[49]?.getD undef = .slice aY Y.length cY := by have h := hdep 3 _ rfl (by kernel_rfl); simpa using h
                have g53 : a.tmps[53]?.getD undef = .int .i64 v := by have h := hdep 7 _ rfl (by kernel_rfl); simpa using h
                clear hfr hdep
                go_wp2_with fail
                refine (hL1 _ hB).mono ?_
                rintro e w3 ⟨ap, cp, hs, a1, c1, a2, c2, rfl, hpg, hF, hL, hb, hk⟩
                have hB3 := hB.trans (hb.mono hB.size)
                have hkp := KeepsT.of (T := 31) hb
                go_wp2_with fail
                exact ⟨rfl, _, rfl, hkp, ap, a1, a2, cp, c1, c2, hs, ⟨hpg, hF, hL, hk⟩, rfl, hB3⟩
              · cases hc
                obtain rfl := Option.some.inj ho
                obtain ⟨ap, a1, a2, cp, c1, c2, hs, hQ, e54, hB⟩ := hG
                replace e54 : a.tmps.getD 54 undef = Tup P.length F.length Ls.length E ap a1 a2 cp c1 c2 := e54
                obtain ⟨e9, _⟩ := hdep 8 _ rfl (by kernel_rfl)
                replace e9 : a.tmps.getD 45 undef = a.tmps.getD 54 undef := e9
                obtain ⟨ap', a1', a2', cp', c1', c2', e45, e55⟩ := hdep 9 _ rfl (by kernel_rfl)
                replace e45 : a.tmps.getD 45 undef = Tup P.length F.length Ls.length E ap' a1' a2' cp' c1' c2' := e45
                obtain ⟨rfl, rfl, rfl, rfl, rfl, rfl⟩ := Tup.inj (e45.symm.trans (e9.trans e54))
                replace e55 : a.tmps[55]?.getD undef = .slice ap' P.length cp' := by have h : a.tmps.getD 55 undef = _ := e55; simpa using h
                clear hfr hdep e45 e9
                have E54 := hide e54
                clear e54
                go_wp2_with fail
                exact ⟨rfl, _, rfl, KeepsT.of (Below.refl _ _), ap', a1', a2', cp', c1', c2', hs, hQ, by first | rfl | exact E54.out | simpa using E54.out, rfl, hB⟩
              · cases hc
                obtain rfl := Option.some.inj ho
                obtain ⟨ap, a1, a2, cp, c1, c2, hs, hQ, e54, e16, hB⟩ := hG
                replace e54 : a.tmps.getD 54 undef = Tup P.length F.length Ls.length E ap a1 a2 cp c1 c2 := e54
                replace e16 : a.tmps.getD 16 undef = .slice ap P.length cp := e16
                obtain ⟨e9, _⟩ := hdep 8 _ rfl (by kernel_rfl)
                replace e9 : a.tmps.getD 45 undef = a.tmps.getD 54 undef := e9
                obtain ⟨ap', a1', a2', cp', c1', c2', e45, e56⟩ := hdep 10 _ rfl (by kernel_rfl)
                replace e45 : a.tmps.getD 45 undef = Tup P.length F.length Ls.length E ap' a1' a2' cp' c1' c2' := e45
                obtain ⟨rfl, rfl, rfl, rfl, rfl, rfl⟩ := Tup.inj (e45.symm.trans (e9.trans e54))
                replace e56 : a.tmps.getD 56 undef = .agg #[.slice a1' F.length c1', .slice a2' Ls.length c2'] := e56
                obtain ⟨b9, g17, hb9, cs9, hl9, hbx9⟩ := hdep 12 _ rfl (by kernel_rfl)
                replace g17 : a.tmps.getD 17 undef = .pointer (some ⟨b9, 0, none⟩) := by simpa using g17
                clear hfr hdep e45 e9
                refine store_all 31 _ _ 31 _ _ [.slice a1' F.length c1', .slice a2' Ls.length c2'] _ (size_tcert _ _) hbx9 g17 e56 rfl (by rw [hl9]; rfl) (by simp [Value.oneCell']) ?_
                intro w10 hx10 hg10 hs10
                have hkp := KeepsT.put hbx9 (by rw [hl9]; rfl) hx10 hg10
                have hQ2 := hQ.put hbx9 hg10 (by decide) (by decide) (by decide)
                have hb10 := hB.grown hg10 hB.size (fun k hk => by cases hk; exact hb9)
                have E54 := hide e54
                have E16 := hide e16
                have E17 := hide g17
                clear e54 e16 e56 g17 hl9 hs10
                go_wp2_with fail
                exact ⟨rfl, undef, rfl, hkp, ap', a1', a2', cp', c1', c2', hs, hQ2, by first | rfl | exact E54.out | simpa using E54.out, by first | rfl | exact E16.out | simpa using E16.out, ⟨b9, by first | rfl | exact E17.out | simpa using E17.out, hb9, hx10⟩, hb10⟩
              · cases hc
            · simp only [All]
              refine ⟨?_, ?_, ?_, ?_, ?_, ?_, ?_, ?_, ?_, ?_, ?_, ?_, ?_, trivial⟩
              · intro o ho a' w' hfr hdep hst
                obtain rfl := Option.some.inj ho
                have g12 : a'.tmps[12]?.getD undef = .slice (some ⟨B, 0, none⟩) 5 5 := by have h := hfr 12 (by kernel_rfl); simpa using h
                clear hst
                clear ho hfr hdep
                go_wp2_with fail
                exact ⟨rfl, _, rfl, Below.refl _ _, rfl⟩
              · intro o ho a' w' hfr hdep hst
                obtain rfl := Option.some.inj ho
                have g14 : a'.tmps[14]?.getD undef = .int .i64 (i : Int) := by have h := hfr 14 (by kernel_rfl); simpa using h
                clear hst
                clear ho hfr hdep
                go_wp2_with fail
                exact ⟨rfl, _, rfl, Below.refl _ _, rfl⟩
              · intro o ho a' w' hfr hdep hst
                obtain rfl := Option.some.inj ho
                have g46 : a'.tmps[46]?.getD undef = .slice (some ⟨B, 0, none⟩) 5 5 := by have h := hdep 0 _ rfl (by kernel_rfl); simpa using h
                have g47 : a'.tmps[47]?.getD undef = .int .i64 (i : Int) := by have h := hdep 1 _ rfl (by kernel_rfl); simpa using h
                clear hst
                clear ho hfr hdep
                go_wp2_with fail
                exact ⟨rfl, _, rfl, Below.refl _ _, rfl⟩
              · intro o ho a' w' hfr hdep hst
                obtain rfl := Option.some.inj ho
                have g48 : a'.tmps[48]?.getD undef = .pointer (some ⟨B, i, none⟩) := by have h := hdep 2 _ rfl (by kernel_rfl); simpa using h
                obtain ⟨j, _, _, hG⟩ := hst
                have hcl := hcY _ hG.bel
                clear hG
                clear ho hfr hdep
                go_wp2_with fail
                exact ⟨rfl, _, rfl, Below.refl _ _, rfl⟩
              · intro o ho a' w' hfr hdep hst
                obtain rfl := Option.some.inj ho
                have g13 : a'.tmps[13]?.getD undef = .slice (some ⟨ab, ao, none⟩) 2 2 := by have h := hfr 13 (by kernel_rfl); simpa using h
                clear hst
                clear ho hfr hdep
                go_wp2_with fail
                exact ⟨rfl, _, rfl, Below.refl _ _, rfl⟩
              · intro o ho a' w' hfr hdep hst
                obtain rfl := Option.some.inj ho
                have g15 : a'.tmps[15]?.getD undef = .int .i64 (k : Int) := by have h := hfr 15 (by kernel_rfl); simpa using h
                clear hst
                clear ho hfr hdep
                go_wp2_with fail
                exact ⟨rfl, _, rfl, Below.refl _ _, rfl⟩
              · intro o ho a' w' hfr hdep hst
                obtain rfl := Option.some.inj ho
                have g50 : a'.tmps[50]?.getD undef = .slice (some ⟨ab, ao, none⟩) 2 2 := by have h := hdep 4 _ rfl (by kernel_rfl); simpa using h
                have g51 : a'.tmps[51]?.getD undef = .int .i64 (k : Int) := by have h := hdep 5 _ rfl (by kernel_rfl); simpa using h
                clear hst
                clear ho hfr hdep
                go_wp2_with fail
                exact ⟨rfl, _, rfl, Below.refl _ _, rfl⟩
              · intro o ho a' w' hfr hdep hst
                obtain rfl := Option.some.inj ho
                have g52 : a'.tmps[52]?.getD undef = .pointer (some ⟨ab, ao + k, none⟩) := by have h := hdep 6 _ rfl (by kernel_rfl); simpa using h
                obtain ⟨j, _, _, hG⟩ := hst
                have hcl := hcV _ hG.bel
                clear hG
                clear ho hfr hdep
                go_wp2_with fail
                exact ⟨rfl, _, rfl, Below.refl _ _, rfl⟩
              · intro o ho a' w' hfr hdep hst
                obtain rfl := Option.some.inj ho
                obtain ⟨j, hj, hj3, hG⟩ := hst
                obtain ⟨ap, a1, a2, cp, c1, c2, e54⟩ := hG.tup (hj 0 _ rfl (by kernel_rfl))
                replace e54 : a'.tmps[54]?.getD undef = Tup P.length F.length Ls.length E ap a1 a2 cp c1 c2 := by have h : a'.tmps.getD 54 undef = _ := e54; simpa using h
                unfold Tup at e54
                clear ho hfr hdep hj hj3 hG
                have E54 := hide e54
                go_wp2_with fail
                exact ⟨rfl, _, rfl, Below.refl _ _, MdF.of (ap := ap) (a1 := a1) (a2 := a2) (cp := cp) (c1 := c1) (c2 := c2) (by first | rfl | exact E54.out.symm | simpa using E54.out.symm) rfl⟩
              · intro o ho a' w' hfr hdep hst
                obtain rfl := Option.some.inj ho
                obtain ⟨_, ap, a1, a2, cp, c1, c2, e45⟩ := hdep 8 _ rfl (by kernel_rfl)
                replace e45 : a'.tmps[45]?.getD undef = Tup P.length F.length Ls.length E ap a1 a2 cp c1 c2 := by have h : a'.tmps.getD 45 undef = _ := e45; simpa using h
                unfold Tup at e45
                clear ho hfr hdep hst
                have E45 := hide e45
                go_wp2_with fail
                exact ⟨rfl, _, rfl, Below.refl _ _, EF0.of (ap := ap) (a1 := a1) (a2 := a2) (cp := cp) (c1 := c1) (c2 := c2) rfl (by first | rfl | exact E45.out | simpa using E45.out)⟩
              · intro o ho a' w' hfr hdep hst
                obtain rfl := Option.some.inj ho
                obtain ⟨_, ap, a1, a2, cp, c1, c2, e45⟩ := hdep 8 _ rfl (by kernel_rfl)
                replace e45 : a'.tmps[45]?.getD undef = Tup P.length F.length Ls.length E ap a1 a2 cp c1 c2 := by have h : a'.tmps.getD 45 undef = _ := e45; simpa using h
                unfold Tup at e45
                clear ho hfr hdep hst
                have E45 := hide e45
                go_wp2_with fail
                exact ⟨rfl, _, rfl, Below.refl _ _, EF1.of (ap := ap) (a1 := a1) (a2 := a2) (cp := cp) (c1 := c1) (c2 := c2) rfl (by first | rfl | exact E45.out | simpa using E45.out)⟩
              · intro o ho a' w' hfr hdep hst
                obtain rfl := Option.some.inj ho
                obtain ⟨_, ap, a1, a2, cp, c1, c2, e45⟩ := hdep 8 _ rfl (by kernel_rfl)
                replace e45 : a'.tmps[45]?.getD undef = Tup P.length F.length Ls.length E ap a1 a2 cp c1 c2 := by have h : a'.tmps.getD 45 undef = _ := e45; simpa using h
                unfold Tup at e45
                clear ho hfr hdep hst
                have E45 := hide e45
                go_wp2_with fail
                exact ⟨rfl, _, rfl, Below.refl _ _, rfl⟩
              · intro o ho a' w' hfr hdep hst
                obtain rfl := Option.some.inj ho
                obtain ⟨j, _, _, hG⟩ := hst
                have hbl := hG.bel
                clear ho hfr hdep hG
                go_wp2_with fail
                exact ⟨rfl, _, rfl, (Below.refl _ _).alloc (Nat.le_refl _) _, w'.heap.size, rfl, hbl.size, [.slice none 0 0, .slice none 0 0], rfl, Box.new _ _ _⟩
            · intro g w9 hG hp
              obtain ⟨ap, a1, a2, cp, c1, c2, hs, hQ, _, g16, ⟨b9, g17, hb9, hbx⟩, hB⟩ := hG
              have g57 := hp 11 _ rfl
              replace g16 : g 16 = .slice ap P.length cp := g16
              replace g17 : g 17 = .pointer (some ⟨b9, 0, none⟩) := g17
              replace g57 : g 57 = .int .i64 E := by simpa using g57
              clear hp
              simp only [List.drop_succ_cons, List.drop_zero, List.map_cons, List.map_nil, List.cons_append, List.nil_append, putAll, Act.put, List.setIfInBounds_toArray, List.set_cons_succ, List.set_cons_zero, List.set_nil, g16, g17, g57]
              clear g16 g17 g57
              have hBA := hB
              have hQA := hQ
              have hbxA := hbx
              clear hB hQ hbx
              obtain ⟨wA, rfl⟩ : ∃ wA : World, wA = w9 := ⟨_, rfl⟩
              go_upto_region 11 with fail
              refine wp_region_chain5 16 (KeepsT 35) (GL 35 P F Ls E wA) [⟨8, 67, [], fun _ _ => True⟩, ⟨14, 19, [], fun _ _ => True⟩, ⟨15, 110, [0], fun _ _ => True⟩] [⟨0, 59, [59], fun vs _ => vs = [.slice (some ⟨B, 0, none⟩) 5 5]⟩, ⟨1, 60, [60], fun vs _ => vs = [.int .i64 (i : Int)]⟩, ⟨2, 61, [61], fun vs _ => vs = [.pointer (some ⟨B, i, none⟩)]⟩, ⟨3, 62, [62], fun vs _ => vs = [.slice aY Y.length cY]⟩, ⟨4, 63, [63], fun vs _ => vs = [.slice (some ⟨ab, ao, none⟩) 2 2]⟩, ⟨5, 64, [64], fun vs _ => vs = [.int .i64 (k : Int)]⟩, ⟨6, 65, [65], fun vs _ => vs = [.pointer (some ⟨ab, ao + k, none⟩)]⟩, ⟨7, 66, [66], fun vs _ => vs = [.int .i64 v]⟩, ⟨9, 58, [58, 67], fun vs _ => MdF P.length F.length Ls.length E vs⟩, ⟨10, 68, [68, 58], fun vs _ => EF0 P.length F.length Ls.length E vs⟩, ⟨11, 69, [69, 58], fun vs _ => EF1 P.length F.length Ls.length E vs⟩, ⟨12, 70, [70], fun vs _ => vs = [.int .i64 E]⟩, ⟨13, 20, [20], fun vs w => ∃ b, vs = [.pointer (some ⟨b, 0, none⟩)] ∧ wA.heap.size ≤ b ∧ BoxT 35 w b⟩] [20] 2 (by kernel_rfl) (by kernel_rfl) ?_ (fun _ _ h => KeepsT.of h) GL.mono GL.ext ?_ ?_ ?_ ?_
              · exact (Still.below 1 : Below wA.heap.size wA (wA.drewN 1))
              · simp only [All]
                refine ⟨(fun _ _ _ _ h => h), (fun _ _ _ _ h => h), (fun _ _ _ _ h => h), (fun _ _ _ _ h => h), (fun _ _ _ _ h => h), (fun _ _ _ _ h => h), (fun _ _ _ _ h => h), (fun _ _ _ _ h => h), (fun _ _ _ _ h => h), (fun _ _ _ _ h => h), (fun _ _ _ _ h => h), (fun _ _ _ _ h => h), (fun vs w1 w2 hr ⟨b, h1, h0, h2⟩ => ⟨b, h1, h0, hr.box h2⟩), trivial⟩
              · intro m c hc o ho a w' hG hfr hdep
                rcases m with _ | _ | _ | m
                · cases hc
                  obtain rfl := Option.some.inj ho
                  have hB : Below wA.heap.size wA w' := hG
                  have g62 : a.tmps[62]?.getD undef = .slice aY Y.length cY := by have h := hdep 3 _ rfl (by kernel_rfl); simpa using h
                  have g66 : a.tmps[66]?.getD undef = .int .i64 v := by have h := hdep 7 _ rfl (by kernel_rfl); simpa using h
                  clear hfr hdep
                  go_wp2_with fail
                  refine (hL2 _ (hBA.trans (hB.mono hBA.size))).mono ?_
                  rintro e w3 ⟨ap, cp, hs, a1, c1, a2, c2, rfl, hpg, hF, hL, hb, hk⟩
                  have hB3 := hB.trans (hb.mono hB.size)
                  have hkp := KeepsT.of (T := 35) hb
                  go_wp2_with fail
                  exact ⟨rfl, _, rfl, hkp, ap, a1, a2, cp, c1, c2, hs, ⟨hpg, hF, hL, hk⟩, rfl, hB3⟩
                · cases hc
                  obtain rfl := Option.some.inj ho
                  obtain ⟨ap, a1, a2, cp, c1, c2, hs, hQ, e54, hB⟩ := hG
                  replace e54 : a.tmps.getD 67 undef = Tup P.length F.length Ls.length E ap a1 a2 cp c1 c2 := e54
                  obtain ⟨e9, _⟩ := hdep 8 _ rfl (by kernel_rfl)
                  replace e9 : a.tmps.getD 58 undef = a.tmps.getD 67 undef := e9
                  obtain ⟨ap', a1', a2', cp', c1', c2', e45, e55⟩ := hdep 9 _ rfl (by kernel_rfl)
                  replace e45 : a.tmps.getD 58 undef = Tup P.length F.length Ls.length E ap' a1' a2' cp' c1' c2' := e45
                  obtain ⟨rfl, rfl, rfl, rfl, rfl, rfl⟩ := Tup.inj (e45.symm.trans (e9.trans e54))
                  replace e55 : a.tmps[68]?.getD undef = .slice ap' P.length cp' := by have h : a.tmps.getD 68 undef = _ := e55; simpa using h
                  clear hfr hdep e45 e9
                  have E54 := hide e54
                  clear e54
                  go_wp2_with fail
                  exact ⟨rfl, _, rfl, KeepsT.of (Below.refl _ _), ap', a1', a2', cp', c1', c2', hs, hQ, by first | rfl | exact E54.out | simpa using E54.out, rfl, hB⟩
                · cases hc
                  obtain rfl := Option.some.inj ho
                  obtain ⟨ap, a1, a2, cp, c1, c2, hs, hQ, e54, e16, hB⟩ := hG
                  replace e54 : a.tmps.getD 67 undef = Tup P.length F.length Ls.length E ap a1 a2 cp c1 c2 := e54
                  replace e16 : a.tmps.getD 19 undef = .slice ap P.length cp := e16
                  obtain ⟨e9, _⟩ := hdep 8 _ rfl (by kernel_rfl)
                  replace e9 : a.tmps.getD 58 undef = a.tmps.getD 67 undef := e9
                  obtain ⟨ap', a1', a2', cp', c1', c2', e45, e56⟩ := hdep 10 _ rfl (by kernel_rfl)
                  replace e45 : a.tmps.getD 58 undef = Tup P.length F.length Ls.length E ap' a1' a2' cp' c1' c2' := e45
                  obtain ⟨rfl, rfl, rfl, rfl, rfl, rfl⟩ := Tup.inj (e45.symm.trans (e9.trans e54))
                  replace e56 : a.tmps.getD 69 undef = .agg #[.slice a1' F.length c1', .slice a2' Ls.length c2'] := e56
                  obtain ⟨b9, g17, hb9, cs9, hl9, hbx9⟩ := hdep 12 _ rfl (by kernel_rfl)
                  replace g17 : a.tmps.getD 20 undef = .pointer (some ⟨b9, 0, none⟩) := by simpa using g17
                  clear hfr hdep e45 e9
                  refine store_all 35 _ _ 35 _ _ [.slice a1' F.length c1', .slice a2' Ls.length c2'] _ (size_rcert _ _) hbx9 g17 e56 rfl (by rw [hl9]; rfl) (by simp [Value.oneCell']) ?_
                  intro w10 hx10 hg10 hs10
                  have hkp := KeepsT.put hbx9 (by rw [hl9]; rfl) hx10 hg10
                  have hQ2 := hQ.put hbx9 hg10 (by decide) (by decide) (by decide)
                  have hb10 := hB.grown hg10 hB.size (fun k hk => by cases hk; exact hb9)
                  have E54 := hide e54
                  have E16 := hide e16
                  have E17 := hide g17
                  clear e54 e16 e56 g17 hl9 hs10
                  go_wp2_with fail
                  exact ⟨rfl, undef, rfl, hkp, ap', a1', a2', cp', c1', c2', hs, hQ2, by first | rfl | exact E54.out | simpa using E54.out, by first | rfl | exact E16.out | simpa using E16.out, ⟨b9, by first | rfl | exact E17.out | simpa using E17.out, hb9, hx10⟩, hb10⟩
                · cases hc
              · simp only [All]
                refine ⟨?_, ?_, ?_, ?_, ?_, ?_, ?_, ?_, ?_, ?_, ?_, ?_, ?_, trivial⟩
                · intro o ho a' w' hfr hdep hst
                  obtain rfl := Option.some.inj ho
                  have g12 : a'.tmps[12]?.getD undef = .slice (some ⟨B, 0, none⟩) 5 5 := by have h := hfr 12 (by kernel_rfl); simpa using h
                  clear hst
                  clear ho hfr hdep
                  go_wp2_with fail
                  exact ⟨rfl, _, rfl, Below.refl _ _, rfl⟩
                · intro o ho a' w' hfr hdep hst
                  obtain rfl := Option.some.inj ho
                  have g14 : a'.tmps[14]?.getD undef = .int .i64 (i : Int) := by have h := hfr 14 (by kernel_rfl); simpa using h
                  clear hst
                  clear ho hfr hdep
                  go_wp2_with fail
                  exact ⟨rfl, _, rfl, Below.refl _ _, rfl⟩
                · intro o ho a' w' hfr hdep hst
                  obtain rfl := Option.some.inj ho
                  have g59 : a'.tmps[59]?.getD undef = .slice (some ⟨B, 0, none⟩) 5 5 := by have h := hdep 0 _ rfl (by kernel_rfl); simpa using h
                  have g60 : a'.tmps[60]?.getD undef = .int .i64 (i : Int) := by have h := hdep 1 _ rfl (by kernel_rfl); simpa using h
                  clear hst
                  clear ho hfr hdep
                  go_wp2_with fail
                  exact ⟨rfl, _, rfl, Below.refl _ _, rfl⟩
                · intro o ho a' w' hfr hdep hst
                  obtain rfl := Option.some.inj ho
                  have g61 : a'.tmps[61]?.getD undef = .pointer (some ⟨B, i, none⟩) := by have h := hdep 2 _ rfl (by kernel_rfl); simpa using h
                  obtain ⟨j, _, _, hG⟩ := hst
                  have hcl := hcY _ (hBA.trans (hG.bel.mono hBA.size))
                  clear hG
                  clear ho hfr hdep
                  go_wp2_with fail
                  exact ⟨rfl, _, rfl, Below.refl _ _, rfl⟩
                · intro o ho a' w' hfr hdep hst
                  obtain rfl := Option.some.inj ho
                  have g13 : a'.tmps[13]?.getD undef = .slice (some ⟨ab, ao, none⟩) 2 2 := by have h := hfr 13 (by kernel_rfl); simpa using h
                  clear hst
                  clear ho hfr hdep
                  go_wp2_with fail
                  exact ⟨rfl, _, rfl, Below.refl _ _, rfl⟩
                · intro o ho a' w' hfr hdep hst
                  obtain rfl := Option.some.inj ho
                  have g15 : a'.tmps[15]?.getD undef = .int .i64 (k : Int) := by have h := hfr 15 (by kernel_rfl); simpa using h
                  clear hst
                  clear ho hfr hdep
                  go_wp2_with fail
                  exact ⟨rfl, _, rfl, Below.refl _ _, rfl⟩
                · intro o ho a' w' hfr hdep hst
                  obtain rfl := Option.some.inj ho
                  have g63 : a'.tmps[63]?.getD undef = .slice (some ⟨ab, ao, none⟩) 2 2 := by have h := hdep 4 _ rfl (by kernel_rfl); simpa using h
                  have g64 : a'.tmps[64]?.getD undef = .int .i64 (k : Int) := by have h := hdep 5 _ rfl (by kernel_rfl); simpa using h
                  clear hst
                  clear ho hfr hdep
                  go_wp2_with fail
                  exact ⟨rfl, _, rfl, Below.refl _ _, rfl⟩
                · intro o ho a' w' hfr hdep hst
                  obtain rfl := Option.some.inj ho
                  have g65 : a'.tmps[65]?.getD undef = .pointer (some ⟨ab, ao + k, none⟩) := by have h := hdep 6 _ rfl (by kernel_rfl); simpa using h
                  obtain ⟨j, _, _, hG⟩ := hst
                  have hcl := hcV _ (hBA.trans (hG.bel.mono hBA.size))
                  clear hG
                  clear ho hfr hdep
                  go_wp2_with fail
                  exact ⟨rfl, _, rfl, Below.refl _ _, rfl⟩
                · intro o ho a' w' hfr hdep hst
                  obtain rfl := Option.some.inj ho
                  obtain ⟨j, hj, hj3, hG⟩ := hst
                  obtain ⟨ap, a1, a2, cp, c1, c2, e54⟩ := hG.tup (hj 0 _ rfl (by kernel_rfl))
                  replace e54 : a'.tmps[67]?.getD undef = Tup P.length F.length Ls.length E ap a1 a2 cp c1 c2 := by have h : a'.tmps.getD 67 undef = _ := e54; simpa using h
                  unfold Tup at e54
                  clear ho hfr hdep hj hj3 hG
                  have E54 := hide e54
                  go_wp2_with fail
                  exact ⟨rfl, _, rfl, Below.refl _ _, MdF.of (ap := ap) (a1 := a1) (a2 := a2) (cp := cp) (c1 := c1) (c2 := c2) (by first | rfl | exact E54.out.symm | simpa using E54.out.symm) rfl⟩
                · intro o ho a' w' hfr hdep hst
                  obtain rfl := Option.some.inj ho
                  obtain ⟨_, ap, a1, a2, cp, c1, c2, e45⟩ := hdep 8 _ rfl (by kernel_rfl)
                  replace e45 : a'.tmps[58]?.getD undef = Tup P.length F.length Ls.length E ap a1 a2 cp c1 c2 := by have h : a'.tmps.getD 58 undef = _ := e45; simpa using h
                  unfold Tup at e45
                  clear ho hfr hdep hst
                  have E45 := hide e45
                  go_wp2_with fail
                  exact ⟨rfl, _, rfl, Below.refl _ _, EF0.of (ap := ap) (a1 := a1) (a2 := a2) (cp := cp) (c1 := c1) (c2 := c2) rfl (by first | rfl | exact E45.out | simpa using E45.out)⟩
                · intro o ho a' w' hfr hdep hst
                  obtain rfl := Option.some.inj ho
                  obtain ⟨_, ap, a1, a2, cp, c1, c2, e45⟩ := hdep 8 _ rfl (by kernel_rfl)
                  replace e45 : a'.tmps[58]?.getD undef = Tup P.length F.length Ls.length E ap a1 a2 cp c1 c2 := by have h : a'.tmps.getD 58 undef = _ := e45; simpa using h
                  unfold Tup at e45
                  clear ho hfr hdep hst
                  have E45 := hide e45
                  go_wp2_with fail
                  exact ⟨rfl, _, rfl, Below.refl _ _, EF1.of (ap := ap) (a1 := a1) (a2 := a2) (cp := cp) (c1 := c1) (c2 := c2) rfl (by first | rfl | exact E45.out | simpa using E45.out)⟩
                · intro o ho a' w' hfr hdep hst
                  obtain rfl := Option.some.inj ho
                  obtain ⟨_, ap, a1, a2, cp, c1, c2, e45⟩ := hdep 8 _ rfl (by kernel_rfl)
                  replace e45 : a'.tmps[58]?.getD undef = Tup P.length F.length Ls.length E ap a1 a2 cp c1 c2 := by have h : a'.tmps.getD 58 undef = _ := e45; simpa using h
                  unfold Tup at e45
                  clear ho hfr hdep hst
                  have E45 := hide e45
                  go_wp2_with fail
                  exact ⟨rfl, _, rfl, Below.refl _ _, rfl⟩
                · intro o ho a' w' hfr hdep hst
                  obtain rfl := Option.some.inj ho
                  obtain ⟨j, _, _, hG⟩ := hst
                  have hbl := hG.bel
                  clear ho hfr hdep hG
                  go_wp2_with fail
                  exact ⟨rfl, _, rfl, (Below.refl _ _).alloc (Nat.le_refl _) _, w'.heap.size, rfl, hbl.size, [.slice none 0 0, .slice none 0 0], rfl, Box.new _ _ _⟩
              · intro g w9 hG hp
                obtain ⟨ap, a1, a2, cp, c1, c2, hs, hQ, _, g16, ⟨b9, g17, hb9, hbx⟩, hB⟩ := hG
                have g57 := hp 11 _ rfl
                replace g16 : g 19 = .slice ap P.length cp := g16
                replace g17 : g 20 = .pointer (some ⟨b9, 0, none⟩) := g17
                replace g57 : g 70 = .int .i64 E := by simpa using g57
                clear hp
                simp only [List.drop_succ_cons, List.drop_zero, List.map_cons, List.map_nil, List.cons_append, List.nil_append, putAll, Act.put, List.setIfInBounds_toArray, List.set_cons_succ, List.set_cons_zero, List.set_nil, g16, g17, g57]
                clear g16 g17 g57
                have hQA9 := hQA.below hB
                have hbA9 := hbxA.under hB
                have hb9 := hbk.trans ((hBA.trans (hB.mono hBA.size)).mono hbk.size)
                have hsp := ref15_SamePage P P _ _ _ _ _ _ _ _ w9 hQA9.pg hQ.pg
                rw [decide_eq_true (rfl : P = P)] at hsp
                have hEE : (E != E) = false := by simp
                clear hQA hbxA hBA hB
                go_wp2_with fail
                refine hsp.mono ?_
                rintro e w12 ⟨rfl, b12⟩
                have hQA12 := hQA9.below b12
                have hQ12 := hQ.below b12
                have hbA12 := hbA9.under b12
                have hb12 := hbx.under b12
                have e1 := hbA12.at_ (j := 0) rfl
                have e2 := hb12.at_ (j := 0) rfl
                have hb9' := hb9.trans (b12.mono hb9.size)
                clear hsp hQA9 hQ hbA9 hbx hb9 b12
                go_wp2_with fail
                refine (SameInts_at (l1 := ints F) (l2 := ints F) (r := true) (by simp) hQA12.f hQ12.f).mono ?_
                rintro e w13 ⟨rfl, b13⟩
                have e3 := (hbA12.under b13).at_ (j := 1) rfl
                have e4 := (hb12.under b13).at_ (j := 1) rfl
                have hb13 := hb9'.trans (b13.mono hb9'.size)
                clear e1 e2 hb9'
                go_wp2_with fail
                refine (SameInts_at (l1 := ints Ls) (l2 := ints Ls) (r := true) (by simp) (hQA12.l.below b13) (hQ12.l.below b13)).mono ?_
                rintro e w14 ⟨rfl, b14⟩
                have hb14 := hb13.trans (b14.mono hb13.size)
                clear e3 e4 hQA12 hQ12 hbA12 hb12 b13 b14 hb13
                go_wp2_with fail
                go_roundg (2 - (k + 1))
                case measure => have := HG1.out; omega
                case rel => exact ⟨k + 1, by omega, rfl, by go_num, hb14⟩
          · obtain rfl : 2 = k := by omega
            go_wp2_with fail
            go_roundg (5 - (i + 1))
            case measure => have := HG.out; omega
            case rel => exact ⟨i + 1, by omega, rfl, by go_num, hbk⟩
      · obtain rfl : 5 = i := by omega
        go_wp2_with fail
        refine (law15_lives wr).mono ?_
        rintro e w4 ⟨rfl, b4⟩
        have hbz := hbw3.trans (hbi.mono hbw3.size)
        go_wp2_with fail
        go_ret
        exact ⟨rfl, hbz.trans (b4.mono hbz.size)⟩
end Go.Proofs.Ytmjkhmebpciopaa
end

/- the text Box2 -/
section
/- More laws on blocks that are known whole: a copy from a string, whole loads in drawn regions. No program in sight. -/
set_option linter.unusedVariables false
set_option linter.unusedSimpArgs false
namespace Go.Dx
open Go.RowKit
section
variable {P : Program} {w : World} {ops : Array Oper} {rest : List Oper} {o : Oper} {act : Act} {Q : Exit → Act → World → Prop}
/-- 'copy(dst, s)' from a string, dst lying in a block that is known whole -/
theorem copy_str (hgd : o.guard = none) (d s : Operand) (dT sT : TypeId) (hop : o.op = .call { callee := .builtin .copy, args := #[d, s], argTypes := #[dT, sT] }) (elem : TypeId) (hu : P.underlying dT = some (.slice elem)) (hsz : (P.info? elem).map (·.size) = some 1)
    (g off dLen dCap : Nat) (t : TypeId) (old : List Value) (hb : Box w g t old) (hd : act.eval d = .slice (some ⟨g, off, none⟩) dLen dCap) (x : ByteArray) (hs : act.eval s = .string x) (k : Nat) (hk : k = min x.size dLen) (hfit : off + k ≤ old.length)
    (hK : ∀ w', Box w' g t (old.take off ++ (x.data.toList.take k).map B8 ++ old.drop (off + k)) → w.grownBy w' (some g) → w'.heap.size = w.heap.size → wpList P ops Q rest (act.put o.dst (.int .i64 (k : Int))) w') :
    wpList P ops Q (o :: rest) act w := by
  refine wpList_plain hgd fun K hK' => ?_
  have hxl : x.data.toList.length = x.size := Array.length_toList
  have hcl : ((x.data.toList.take k).map B8).length = k := by rw [List.length_map, List.length_take]; omega
  have hst := run_storeCells_at P g off t ((x.data.toList.take k).map B8) 0 old.toArray w hb (by rw [hcl]; simpa using hfit) (one_map _ (fun _ => rfl) _)
  rw [hcl] at hst
  simp only [Nat.add_zero, List.toList_toArray] at hst
  have hmin : Nat.min x.size dLen = k := hk.symm
  have hrun : (Builtin.copy_ #[dT, sT] o.type #[.slice (some ⟨g, off, none⟩) dLen dCap, .string x]).run P w = .ok (.int .i64 (k : Int)) (w.setRow g (old.take off ++ (x.data.toList.take k).map B8 ++ old.drop (off + k)).toArray) := by
    obtain ⟨i, hq, hi⟩ := Option.map_eq_some_iff.1 hsz
    simp [Builtin.copy_, run_underlying hu, Builtin.lenOf, Builtin.firstCells, sizeOf, typeInfo, hq, hmin]
    have e : List.take k (List.map (fun b : UInt8 => Value.int IntKind.u8 (b.toNat : Int)) x.data.toList) = (x.data.toList.take k).map B8 := by rw [List.map_take]
    rw [e, hst]
    simp [Result.andThen]
    rfl
  unfold Oper.wp
  simp [execOp, hop, resolve, invoke, builtin, hd, hs, hrun, Result.andThen]
  refine hK' _ _ (hK _ ?_ ⟨rfl, rfl, rfl, by simp [World.setRow], fun k _ hk => setRow_other w g k _ (fun e => hk (by rw [e]))⟩ (by simp [World.setRow]))
  have := setRow_heap w g old.toArray (old.take off ++ (x.data.toList.take k).map B8 ++ old.drop (off + k)).toArray t (0, 0) hb
  simpa [Box] using this
theorem run_cut_var {P : Program} {w : World} (t e : TypeId) (n : Nat) (ht : P.underlying t = some (.array n e)) (hsz : (P.info? e).map (·.size) = some 1) (g off l u : Nat) (lo hi : Option Value)
    (hl : lo = none ∧ l = 0 ∨ ∃ k, lo = some (.int k (l : Int))) (hu : hi = none ∧ u = n ∨ ∃ k, hi = some (.int k (u : Int))) (hlu : l ≤ u) (hun : u ≤ n) (hln : l < n) :
    (Instr.sliceAt t (.pointer (some ⟨g, off, none⟩)) lo hi none).run P w = .ok (.slice (some ⟨g, off + l, none⟩) (u - l) (n - l)) w := by
  obtain ⟨i0, hi0, hs0⟩ := Option.map_eq_some_iff.1 hsz
  have h2 : (0 : Int) ≤ l ∧ (l : Int) ≤ u := by omega
  have h3 : (0 : Int) ≤ u ∧ (u : Int) ≤ n := by omega
  have hne : ¬ n = l := by omega
  rcases hl with ⟨rfl, rfl⟩ | ⟨k1, rfl⟩ <;> rcases hu with ⟨rfl, rfl⟩ | ⟨k2, rfl⟩ <;>
    simp [Instr.sliceAt, Instr.sureAddr, Instr.sliceBounds, Instr.sliceBound, asIntOf, run_underlying ht, sizeOf, typeInfo, hi0, hs0, h2, h3, Addr.add_lit, hlu, hun, hne]
/-- 'arr[lo:hi]' of an array variable -/
theorem cut_var {ty : TypeId} {pos : String} {after : Array Edge} (d : Nat) (t e : TypeId) (n : Nat) (x : Operand) (lo hi : Option Operand) (ht : P.underlying t = some (.array n e)) (hsz : (P.info? e).map (·.size) = some 1)
    (g off : Nat) (hx : act.eval x = .pointer (some ⟨g, off, none⟩)) (l u : Nat)
    (hl : lo.map act.eval = none ∧ l = 0 ∨ ∃ k, lo.map act.eval = some (.int k (l : Int))) (hu : hi.map act.eval = none ∧ u = n ∨ ∃ k, hi.map act.eval = some (.int k (u : Int))) (hlu : l ≤ u) (hun : u ≤ n) (hln : l < n)
    (hK : wpList P ops Q rest (act.put (some d) (.slice (some ⟨g, off + l, none⟩) (u - l) (n - l))) w) :
    wpList P ops Q ({ dst := some d, op := .slice t x lo hi none, type := ty, pos := pos, after := after, guard := none } :: rest) act w := by
  refine wpList_plain rfl fun K hK' => ?_
  have hrun := run_cut_var (P := P) (w := w) t e n ht hsz g off l u (lo.map act.eval) (hi.map act.eval) hl hu hlu hun hln
  unfold Oper.wp
  simp only [execOp, Option.map_none, hx, Sem.run_bind, hrun, Result.andThen, Sem.run_pure]
  exact hK' _ _ hK
end
/-- the walk stops ahead of a copy -/
theorem hold_copy {P : Program} {w : World} {ops : Array Oper} {rest : List Oper} {act : Act} {Q : Exit → Act → World → Prop} {dst : Option Tmp} {ty : TypeId} {as_ : Array Operand} {ts : Array TypeId} {pos : String} {after : Array Edge} {g : Option (Nat × Bool)}
    (h : Hid (wpList P ops Q ({ dst := dst, op := .call { callee := .builtin .copy, args := as_, argTypes := ts }, type := ty, pos := pos, after := after, guard := g } :: rest) act w)) :
    wpList P ops Q ({ dst := dst, op := .call { callee := .builtin .copy, args := as_, argTypes := ts }, type := ty, pos := pos, after := after, guard := g } :: rest) act w := h
section quiet
variable {P : Program} {w : World} {ops : Array Oper} {rest : List Oper} {act : Act} {Q : Act → Prop} {C : World → Prop} {ty : TypeId} {pos : String} {after : Array Edge}
/-- an operation of a quiet walk whose value is known in every world of the class -/
theorem quiet_in {o : Oper} (v : Value) (hw : Region.wanted o (yielded ops act.tmps) = true) (h : ∀ w', C w' → (execOp act.eval o).run P w' = .ok (.value v) w') (hK : wpQuiet P ops C Q rest (act.put o.dst v)) : wpQuiet P ops C Q (o :: rest) act := by
  refine wpQuiet_step fun K hK' => ?_
  rw [if_pos hw]
  refine ⟨v, ?_, hK' _ hK⟩
  intro w' hC
  unfold Oper.quietAt
  rw [h w' hC]
  exact ⟨rfl, rfl⟩
/-- a call of a quiet walk -/
theorem quiet_call {o : Oper} (f : FuncId) (args : Array Value) (v : Value) (hw : Region.wanted o (yielded ops act.tmps) = true) (h : ∀ w', C w' → (execOp act.eval o).run P w' = .ok (.enter f args) w') (hc : ∀ w', C w' → Calls P f args w' (fun e w'' => e = .returned v ∧ C w''))
    (hK : wpQuiet P ops C Q rest (act.put o.dst v)) : wpQuiet P ops C Q (o :: rest) act := by
  refine wpQuiet_step fun K hK' => ?_
  rw [if_pos hw]
  refine ⟨v, ?_, hK' _ hK⟩
  intro w' hC
  unfold Oper.quietAt
  rw [h w' hC]
  exact ⟨rfl, hc w' hC⟩
/-- a whole array or struct is loaded -/
theorem quiet_load_box (d : Nat) (t : TypeId) (x : Operand) (e : TypeId) (g off : Nat) (old cs : List Value) (hag : IsAgg P t) (hsz : (P.info? t).map (·.size) = some cs.length) (hb : ∀ w', C w' → Box w' g e old) (hx : act.eval x = .pointer (some ⟨g, off, none⟩))
    (hc : ∀ j u, cs[j]? = some u → old[off + j]? = some u) (hK : wpQuiet P ops C Q rest (act.put (some d) (.agg cs.toArray))) :
    wpQuiet P ops C Q ({ dst := some d, op := .load t x, type := ty, pos := pos, after := after, guard := none } :: rest) act := by
  refine quiet_in _ (by simp [Region.wanted]) (fun w' hC => ?_) hK
  simp [execOp, hx, Instr.loadAt, Instr.sureAddr, run_loadVar_box hag hsz (hb w' hC) hc]
theorem quiet_cut_var (d : Nat) (t e : TypeId) (n : Nat) (x : Operand) (lo hi : Option Operand) (ht : P.underlying t = some (.array n e)) (hsz : (P.info? e).map (·.size) = some 1)
    (g off : Nat) (hx : act.eval x = .pointer (some ⟨g, off, none⟩)) (l u : Nat)
    (hl : lo.map act.eval = none ∧ l = 0 ∨ ∃ k, lo.map act.eval = some (.int k (l : Int))) (hu : hi.map act.eval = none ∧ u = n ∨ ∃ k, hi.map act.eval = some (.int k (u : Int))) (hlu : l ≤ u) (hun : u ≤ n) (hln : l < n)
    (hK : wpQuiet P ops C Q rest (act.put (some d) (.slice (some ⟨g, off + l, none⟩) (u - l) (n - l)))) :
    wpQuiet P ops C Q ({ dst := some d, op := .slice t x lo hi none, type := ty, pos := pos, after := after, guard := none } :: rest) act := by
  refine quiet_in _ (by simp [Region.wanted]) (fun w' hC => ?_) hK
  have hrun := run_cut_var (P := P) (w := w') t e n ht hsz g off l u (lo.map act.eval) (hi.map act.eval) hl hu hlu hun hln
  simp only [execOp, Option.map_none, hx, Sem.run_bind, hrun, Result.andThen, Sem.run_pure]
end quiet
theorem run_conv_str {P : Program} {w : World} {src dst e : TypeId} (hsr : P.underlying src = some (.slice e)) (he : P.underlying e = some (.int .u8)) (hd : P.underlying dst = some .string)
    {a : Option Addr} {n c : Nat} {l : List UInt8} (hs : Sl w 1 a n c (l.map B8)) : (convert src dst (.slice a n c)).run P w = .ok (.string ⟨l.toArray⟩) w := by
  obtain rfl := hs.n_eq
  cases a with
  | some p => exact run_convert_bytes_back w src dst e p c l hsr he hd (fun j hj => hs.cell p rfl j _ (by simp [hj]))
  | none =>
    have := hs.nil rfl
    have := hs.le
    have hl : l = [] := List.eq_nil_of_length_eq_zero (by omega)
    subst hl
    simp [convert, run_underlying hsr, run_underlying hd, run_underlying he, Conv.bytesToString]
    rfl
section quiet2
variable {P : Program} {w : World} {ops : Array Oper} {rest : List Oper} {act : Act} {Q : Act → Prop} {C : World → Prop} {ty : TypeId} {pos : String} {after : Array Edge}
theorem quiet_conv_str (d : Nat) (src dst : TypeId) (x : Operand) (e : TypeId) (hsr : P.underlying src = some (.slice e)) (he : P.underlying e = some (.int .u8)) (hd : P.underlying dst = some .string)
    (a : Option Addr) (n c : Nat) (l : List UInt8) (hx : act.eval x = .slice a n c) (hs : ∀ w', C w' → Sl w' 1 a n c (l.map B8))
    (hK : wpQuiet P ops C Q rest (act.put (some d) (.string ⟨l.toArray⟩))) :
    wpQuiet P ops C Q ({ dst := some d, op := .convert src dst x, type := ty, pos := pos, after := after, guard := none } :: rest) act := by
  refine quiet_in _ (by simp [Region.wanted]) (fun w' hC => ?_) hK
  simp [execOp, hx, run_conv_str hsr he hd (hs w' hC), Result.andThen]
end quiet2
section guarded
variable {P : Program} {w : World} {ops : Array Oper} {rest : List Oper} {act : Act} {Q : Exit → Act → World → Prop} {ty : TypeId} {pos : String} {after : Array Edge} {g : Option (Nat × Bool)}
theorem unguard_any {dst : Option Nat} {op : Op} (hw : Region.wanted { dst := dst, op := op, type := ty, pos := pos, after := after, guard := g } (yielded ops act.tmps) = true)
    (h : wpList P ops Q ({ dst := dst, op := op, type := ty, pos := pos, after := after, guard := none } :: rest) act w) :
    wpList P ops Q ({ dst := dst, op := op, type := ty, pos := pos, after := after, guard := g } :: rest) act w := by
  have h2 : Region.wanted { dst := dst, op := op, type := ty, pos := pos, after := after, guard := none } (yielded ops act.tmps) = true := rfl
  unfold wpList at h ⊢
  rw [if_pos h2] at h
  rw [if_pos hw]
  exact h
/-- a whole array or struct is loaded, guarded or not -/
theorem load_box_g (d : Nat) (t : TypeId) (x : Operand) (e : TypeId) (b off : Nat) (old cs : List Value) (hag : IsAgg P t) (hsz : (P.info? t).map (·.size) = some cs.length) (hb : Box w b e old) (hx : act.eval x = .pointer (some ⟨b, off, none⟩))
    (hc : ∀ j u, cs[j]? = some u → old[off + j]? = some u) (hw : Region.wanted { dst := some d, op := .load t x, type := ty, pos := pos, after := after, guard := g } (yielded ops act.tmps) = true)
    (hK : wpList P ops Q rest (act.put (some d) (.agg cs.toArray)) w) :
    wpList P ops Q ({ dst := some d, op := .load t x, type := ty, pos := pos, after := after, guard := g } :: rest) act w :=
  unguard_any hw (load_box d t x e b off old cs hag hsz hb hx hc hK)
/-- '==' of two arrays of bytes, guarded or not -/
theorem eql_bytes_g (d : Nat) (t : TypeId) (x y : Operand) (e n : Nat) (ht : P.underlying t = some (.array n e)) (he : P.underlying e = some (.int .u8)) (hsz : (P.info? e).map (·.size) = some 1) (hgt : P.eqGuardType P.depth t = false)
    (xs ys : List UInt8) (hx : act.eval x = .agg (xs.map B8).toArray) (hy : act.eval y = .agg (ys.map B8).toArray) (hxl : xs.length = n) (hyl : ys.length = n)
    (hw : Region.wanted { dst := some d, op := .binOp .eql t x y t, type := ty, pos := pos, after := after, guard := g } (yielded ops act.tmps) = true)
    (hK : wpList P ops Q rest (act.put (some d) (.bool (decide (xs = ys)))) w) :
    wpList P ops Q ({ dst := some d, op := .binOp .eql t x y t, type := ty, pos := pos, after := after, guard := g } :: rest) act w := by
  refine unguard_any hw (val_at rfl _ ?_ hK)
  have h1 := run_eqGuard_agg (P := P) (w := w) .eql t x y (xs.map B8).toArray (ys.map B8).toArray hgt
  have h2 := run_eql_arr (P := P) w t e n .u8 ht he hsz (xs.map fun d => (d.toNat : Int)) (ys.map fun d => (d.toNat : Int)) (by simpa using hxl) (by simpa using hyl)
  rw [← bytes_ints, ← bytes_ints] at h2
  have h3 : decide ((xs.map fun d => (d.toNat : Int)) = (ys.map fun d => (d.toNat : Int))) = decide (xs = ys) := decide_eq_decide.2 bytes_inj
  rw [h3] at h2
  simp only [execOp, hx, hy, Sem.run_bind, h1, h2, Result.andThen_ok, Sem.run_pure]
end guarded
/-- a string's bytes -/
theorem str_none {y : ByteArray} (h : y.size = 0) : y.toList.isEmpty = true := by
  rw [Lib.toList_data, List.isEmpty_iff, ← List.length_eq_zero_iff]; exact h
theorem str_some {y : ByteArray} (h : y.size ≠ 0) : y.toList.isEmpty = false := by
  rw [Lib.toList_data, Bool.eq_false_iff, ne_eq, List.isEmpty_iff, ← List.length_eq_zero_iff]; exact h
theorem ext_list (y : ByteArray) (k : Nat) : (y.extract k y.size).data.toList = y.data.toList.drop k := by
  rw [Lib.extract_data]
  apply List.take_of_length_le
  rw [List.length_drop]
  exact Nat.le_of_eq rfl
end Go.Dx
end

/- the text T41 -/
section
/- Chapter 15: what Check says, in plain words; copies and comparisons of arrays of numbers. -/
namespace Go.Dx
open Go.RowKit
section
variable {P : Program} {w : World} {ops : Array Oper} {rest : List Oper} {o : Oper} {act : Act} {Q : Exit → Act → World → Prop} {ty : TypeId} {pos : String} {after : Array Edge}
/-- 'copy(arr[off:], xs)', the array in memory, all of xs fits -/
theorem copy_sl (hgd : o.guard = none) (d s : Operand) (dT sT : TypeId) (hop : o.op = .call { callee := .builtin .copy, args := #[d, s], argTypes := #[dT, sT] }) (elem : TypeId) (hu : P.underlying dT = some (.slice elem)) (hus : P.underlying sT = some (.slice elem)) (hsz : (P.info? elem).map (·.size) = some 1)
    (g off dLen dCap : Nat) (t : TypeId) (old : List Value) (hb : Box w g t old) (hd : act.eval d = .slice (some ⟨g, off, none⟩) dLen dCap) (a : Option Addr) (n c : Nat) (xs : List Value) (hs : act.eval s = .slice a n c) (hx : Sl w 1 a n c xs) (h1 : ∀ u ∈ xs, u.oneCell' = true) (hn : n ≤ dLen) (hfit : off + n ≤ old.length)
    (hK : ∀ w', Box w' g t (old.take off ++ xs ++ old.drop (off + n)) → w.grownBy w' (some g) → w'.heap.size = w.heap.size → wpList P ops Q rest (act.put o.dst (.int .i64 (n : Int))) w') :
    wpList P ops Q (o :: rest) act w := by
  have hxl : xs.length = n := by have := hx.len; omega
  refine wpList_plain hgd fun K hK' => ?_
  have hst := run_storeCells_at P g off t xs 0 old.toArray w hb (by rw [hxl]; simpa using hfit) h1
  rw [hxl] at hst
  simp only [Nat.add_zero, List.toList_toArray] at hst
  have hmin : min n dLen = n := by omega
  have hold : (Builtin.firstCells 1 n (.slice a n c)).run P w = .ok xs.toArray w := by
    cases a with
    | none =>
      have h2 := hx.nil rfl
      have h3 := hx.le
      obtain rfl : n = 0 := by omega
      have e : xs = [] := List.eq_nil_of_length_eq_zero hxl
      subst e
      exact run_firstCells_none w 1 0 0 c
    | some p => exact run_firstCells_some w 1 n p n c xs hx.len (by simpa using hx.cell p rfl)
  have hrun : (Builtin.copy_ #[dT, sT] o.type #[.slice (some ⟨g, off, none⟩) dLen dCap, .slice a n c]).run P w = .ok (.int .i64 (n : Int)) (w.setRow g (old.take off ++ xs ++ old.drop (off + n)).toArray) := by
    obtain ⟨i, hq, hi⟩ := Option.map_eq_some_iff.1 hsz
    simp [Builtin.copy_, run_underlying hu, Builtin.lenOf, sizeOf, typeInfo, hq, hi, hmin, hold, hst]
    rfl
  unfold Oper.wp
  simp [execOp, hop, resolve, invoke, builtin, hd, hs, hrun, Result.andThen]
  refine hK' _ _ (hK _ ?_ ⟨rfl, rfl, rfl, by simp [World.setRow], fun k _ hk => setRow_other w g k _ (fun e => hk (by rw [e]))⟩ (by simp [World.setRow]))
  have := setRow_heap w g old.toArray (old.take off ++ xs ++ old.drop (off + n)).toArray t (0, 0) hb
  simpa [Box] using this
/-- 'x != y' of two arrays of numbers -/
theorem neq_ints (d : Nat) (t : TypeId) (x y : Operand) (e n : Nat) (ht : P.underlying t = some (.array n e)) (he : P.underlying e = some (.int .i64)) (hsz : (P.info? e).map (·.size) = some 1) (hgt : P.eqGuardType P.depth t = false)
    (xs ys : List Int) (hx : act.eval x = .agg (xs.map (Value.int .i64)).toArray) (hy : act.eval y = .agg (ys.map (Value.int .i64)).toArray) (hxl : xs.length = n) (hyl : ys.length = n)
    (hK : wpList P ops Q rest (act.put (some d) (.bool (!decide (xs = ys)))) w) :
    wpList P ops Q ({ dst := some d, op := .binOp .neq t x y t, type := ty, pos := pos, after := after, guard := none } :: rest) act w := by
  refine val_at rfl _ ?_ hK
  have h1 := run_eqGuard_agg (P := P) (w := w) .neq t x y (xs.map (Value.int .i64)).toArray (ys.map (Value.int .i64)).toArray hgt
  have h2 := run_neq_arr (P := P) w t e n .i64 ht he hsz xs ys hxl hyl
  simp only [execOp, hx, hy, Sem.run_bind, h1, h2, Result.andThen_ok, Sem.run_pure]
end
end Go.Dx
namespace Go.Proofs.Ytmjkhmebpciopaa
open Go.RowKit Go.Dx

/-- the least numbers, as the program keeps them -/
def bestI (N : Nat) (L : List Int) : List Int := 0 :: (L ++ List.replicate (12 - N) 0)
theorem bestI_len {N : Nat} {L : List Int} (h : L.length = N) (hN : N ≤ 12) : (bestI N L).length = 13 := by unfold bestI; simp; omega
theorem bestI_inj {N : Nat} {L L' : List Int} (h : L.length = N) (h' : L'.length = N) : bestI N L = bestI N L' ↔ L = L' := by
  unfold bestI
  constructor
  · intro e
    injection e with _ e
    exact (List.append_inj e (by omega)).1
  · intro e; rw [e]
theorem bestL_I {N : Nat} {L : Nat → Nat} (hN : N ≤ 12) (h1 : 1 ≤ N) : bestL N L = (bestI N (ints (leastL N L))).map I64 := by
  apply List.ext_getElem?
  intro i
  unfold bestL bestI ints
  rw [List.getElem?_map, List.getElem?_map]
  rcases i with _ | i
  · simp [solveF]
  · rw [List.getElem?_cons_succ, List.getElem?_append, List.length_map, leastL_len]
    by_cases hi : i < N
    · rw [if_pos hi, List.getElem?_map, leastL_get L hi, List.getElem?_range (by omega)]
      unfold solveF
      by_cases h2 : i + 1 < N
      · simp [h2]
      · simp [h2]
    · rw [if_neg hi, List.getElem?_replicate]
      by_cases h2 : i < 12
      · rw [if_pos (by omega), List.getElem?_range (by omega)]
        simp [solveF]
        intro h3; omega
      · rw [if_neg (by omega), List.getElem?_eq_none (by simp; omega)]; rfl
/-- the end of part i -/
def toAt (F : List Int) (N i : Nat) : Int := if i + 1 < F.length then F.getD (i + 1) 0 else (N : Int)
/-- part i is one -/
def okPart (f : Nat → Nat) (N : Nat) (W : Int) (F : List Int) (i : Nat) : Bool :=
  decide ((i = 0 → F.getD i 0 = 1) ∧ 1 ≤ F.getD i 0 ∧ F.getD i 0 < toAt F N i ∧ toAt F N i ≤ N ∧ (sizeW f (F.getD i 0).toNat ((toAt F N i).toNat - (F.getD i 0).toNat) : Int) ≤ W)
/-- what Check answers -/
def chkT (X : List (List (List UInt8))) (W : Int) (m : Nat) (Ls : List Nat) (F L : List Int) : Int :=
  if errT X W ≠ 0 then errT X W else if L = ints Ls ∧ F.length = m then (if (List.range F.length).all (okPart (colW X) (nCols X) W F) = true then 0 else 19) else 19
theorem all_next {p : Nat → Bool} {k : Nat} (h : (List.range k).all p = true) (hk : p k = true) : (List.range (k + 1)).all p = true := by rw [List.range_succ, List.all_append, h]; simp [hk]
theorem all_no {p : Nat → Bool} {k n : Nat} (h : k < n) (hk : p k = false) : (List.range n).all p = false := by
  cases hb : (List.range n).all p with
  | false => rfl
  | true => have := List.all_eq_true.1 hb k (List.mem_range.2 h); rw [hk] at this; cases this
/-- the lines of the parts -/
theorem Sol.lines {f : Nat → Nat} {n R : Nat} {W : Int} {L T : Nat → Nat} (h : Sol f n R W L T 1) : ∀ k, 1 ≤ k → k < n → L k + 1 = (chain n T n k).length * (R + 1) := by
  have key : ∀ d k, n - k = d → 1 ≤ k → k < n → L k + 1 = (chain n T n k).length * (R + 1) := by
    intro d
    induction d using Nat.strongRecOn with
    | ind d ih =>
      intro k hd h1 h2
      have hb := h k h1 h2
      have hlt := hb.lt
      have hle := hb.le
      rw [chain_step h.gt h1 h2, List.length_cons, Nat.succ_mul, hb.val]
      unfold valL
      by_cases hn : T k < n
      · rw [if_pos hn, ← ih (n - T k) (by omega) (T k) rfl (by omega) hn]; omega
      · rw [if_neg hn, chain_stop hn]; simp
  exact fun k h1 h2 => key _ k rfl h1 h2
end Go.Proofs.Ytmjkhmebpciopaa
end

/- the text T42 -/
section
/- Chapter 15: tabular.Check. -/
namespace Go.Proofs.Ytmjkhmebpciopaa
open Go.RowKit Go.Dx

theorem chkT_err {X : List (List (List UInt8))} {W : Int} {m : Nat} {Ls : List Nat} {F L : List Int} (h : errT X W ≠ 0) : chkT X W m Ls F L = errT X W := if_pos h
set_option maxRecDepth 100000 in
set_option maxHeartbeats 400000 in
theorem tab_Check_no (X : List (List (List UInt8))) (hs : List Hd) (a : Option Addr) (n c : Nat) (W : Int) (aF aL : Option Addr) (nF cF nL cL : Nat) (w : World) (hp : Pg3 w a n c hs X) (hE : errT X W ≠ 0) :
    Calls Try.prog 23 #[.slice a n c, .int .i64 W, .agg #[.slice aF nF cF, .slice aL nL cL]] w fun e w' => e = .returned (.int .i64 (errT X W)) ∧ Below w.heap.size w w' := by
  have hb0 := blo w (.cells #[.slice aF nF cF, .slice aL nL cL] 31)
  have hv := tab_valid X hs a n c _ (hp.below hb0)
  by_cases hval : validT X = true ∧ 1 ≤ W ∧ W ≤ 1000
  · by_cases hfit : FitW (colW X) (nCols X) W
    · exact absurd (errT_ok hval hfit) hE
    · have HE := hide (errT_wide hval hfit)
      obtain ⟨hval, h1, h2⟩ := hval
      have HX := VX.of hval
      rw [hval] at hv
      have hwd := fun w' h => tab_widths X hs a n c w' (hp.below h) HX.row HX.r1 HX.c2
      have hft := fun w' a' h => tab_fits (widthsL X) W a' (nCols X) (nCols X) w' h (by rw [widthsL_len]; exact HX.c1) HX.le_w
      have hfd : decide ((wAt (widthsL X) 0 : Int) + (great ((widthsL X).drop 1) : Int) ≤ W) = false := decide_eq_false (fun h => hfit ((fits_dec HX.c1).1 h))
      rw [hfd] at hft
      have d1 : decide (W < 1) = false := decide_eq_false (by omega)
      have d2 : decide (1000 < W) = false := decide_eq_false (by omega)
      clear hfd hval hfit hE
      go_enter Try.func23, Try.ntmps23
      go_wp2_with fail
      refine hv.mono ?_
      rintro e w2 ⟨rfl, hb2⟩
      have hbw2 := hb0.trans (hb2.mono hb0.size)
      go_wp2_with fail
      refine (hwd _ hbw2).mono ?_
      rintro e w3 ⟨a3, rfl, hs3, hb3⟩
      go_wp2_with fail
      refine (hft _ _ hs3).mono ?_
      rintro e w4 ⟨rfl, rfl⟩
      go_wp2_with fail
      go_ret
      exact ⟨by rw [HE.out]; rfl, hbw2.trans (hb3.mono hbw2.size)⟩
  · have HE := hide (errT_arg hval)
    have HD : Hid (validT X = false ∨ validT X = true ∧ decide (W < 1) = true ∨ validT X = true ∧ decide (W < 1) = false ∧ decide (1000 < W) = true) := hide (by
      cases hv : validT X
      · exact .inl rfl
      · by_cases h1 : W < 1
        · exact .inr (.inl ⟨rfl, decide_eq_true h1⟩)
        · exact .inr (.inr ⟨rfl, decide_eq_false h1, decide_eq_true (by
            rcases Int.lt_or_le 1000 W with h | h
            · exact h
            · exact absurd ⟨hv, by omega, h⟩ hval)⟩))
    clear hval hE
    rcases HD.out with h1 | ⟨h1, d1⟩ | ⟨h1, d1, d2⟩ <;> rw [h1] at hv <;> clear h1 HD
    all_goals
      go_enter Try.func23, Try.ntmps23
      go_wp2_with fail
      refine hv.mono ?_
      rintro e w2 ⟨rfl, hb2⟩
      go_wp2_with fail
      go_ret
      exact ⟨by rw [HE.out]; rfl, hb0.trans (hb2.mono hb0.size)⟩

set_option maxRecDepth 100000 in
set_option maxHeartbeats 1000000 in
theorem tab_Check (X : List (List (List UInt8))) (hs : List Hd) (a : Option Addr) (n c : Nat) (W : Int) (L T : Nat → Nat) (F L' : List Int) (aF aL : Option Addr) (nF cF nL cL : Nat) (w : World) (hp : Pg3 w a n c hs X) (hE : errT X W = 0) (hS : Sol (colW X) (nCols X) X.length W L T 1)
    (hF : Sl w 1 aF nF cF (F.map I64)) (hL : Sl w 1 aL nL cL (L'.map I64)) (hFl : F.length ≤ 1000000) (hLl : L'.length ≤ 1000000) :
    Calls Try.prog 23 #[.slice a n c, .int .i64 W, .agg #[.slice aF nF cF, .slice aL nL cL]] w fun e w' => e = .returned (.int .i64 (chkT X W (chain (nCols X) T (nCols X) 1).length (leastL (nCols X) L) F L')) ∧ Below w.heap.size w w' := by
  obtain rfl := hp.n_eq
  obtain rfl : nF = F.length := hF.n_eq
  obtain rfl : nL = L'.length := hL.n_eq
  obtain ⟨HX, hW1, hW2, hfit⟩ := errT_zero hE
  have hb0 := blo w (.cells #[.slice aF F.length cF, .slice aL L'.length cL] 31)
  have hx0 := Box.new w 31 #[.slice aF F.length cF, .slice aL L'.length cL]
  have hv := tab_valid X hs a X.length c _ (hp.below hb0)
  rw [HX.back] at hv
  have hwd := fun w' h => tab_widths X hs a X.length c w' (hp.below h) HX.row HX.r1 HX.c2
  have hft := fun w' a' h => tab_fits (widthsL X) W a' (nCols X) (nCols X) w' h (by rw [widthsL_len]; exact HX.c1) HX.le_w
  have hfd : decide ((wAt (widthsL X) 0 : Int) + (great ((widthsL X).drop 1) : Int) ≤ W) = true := decide_eq_true ((fits_dec HX.c1).2 hfit)
  rw [hfd] at hft
  have hsv := fun w' a' h => tab_solve (widthsL X) a' (nCols X) (nCols X) X.length W L T w' h (by rw [widthsL_len]; exact HX.c1) (by rw [widthsL_len]; exact HX.c2) HX.r2 HX.le_w (by rw [widthsL_len]; exact ((fit_w HX.c1).2 hfit).cols) (by rw [widthsL_len]; exact hS.widths (fun i hi => (wAt_widths X i hi).symm))
  rw [widthsL_len] at hsv
  have hsz : ∀ (j k : Nat) (aw : Option Addr) (w' : World), Sl w' 1 aw (nCols X) (nCols X) ((ints (widthsL X)).map I64) → j ≤ k → k ≤ nCols X → 1 ≤ j → Calls Try.prog 44 #[.slice aw (nCols X) (nCols X), .int .i64 (j : Int), .int .i64 (k : Int)] w' fun e w2 => e = .returned (.int .i64 (sizeW (colW X) j (k - j) : Int)) ∧ w' = w2 := fun j k aw w' h hjk hk hj => by
    have := tab_size (widthsL X) aw (nCols X) (nCols X) j k w' h (by rw [widthsL_len]; exact HX.c1) hjk (by rw [widthsL_len]; exact hk) (by rw [widthsL_len]; have := HX.c2; omega) HX.le_w
    rw [sizeW_congr HX.c1 (wAt_widths X) (k - j) (by omega)] at this
    exact this
  have d1 : decide (W < 1) = false := decide_eq_false (by omega)
  have d2 : decide (1000 < W) = false := decide_eq_false (by omega)
  have hn1 := HX.c1
  have hn2 := HX.c2
  have hr2 := HX.r2
  have HCH : Hid (∀ (F L' : List Int), chkT X W (chain (nCols X) T (nCols X) 1).length (leastL (nCols X) L) F L' = if L' = ints (leastL (nCols X) L) ∧ F.length = (chain (nCols X) T (nCols X) 1).length then (if (List.range F.length).all (okPart (colW X) (nCols X) W F) = true then 0 else 19) else 19) := hide (fun F L' => by unfold chkT; rw [if_neg (fun h => h hE)])
  have HLL : Hid ((ints (leastL (nCols X) L)).length = nCols X) := hide (by unfold ints; rw [List.length_map, leastL_len])
  have HBI := hide (bestL_I (L := L) hn2 hn1)
  have hcl := chain_len (n := nCols X) (T := T) (nCols X) 1
  clear hfd hE hS hfit HX hp
  generalize chkT X W (chain (nCols X) T (nCols X) 1).length (leastL (nCols X) L) = CK at *
  generalize colW X = f at *
  generalize nCols X = N at *
  generalize widthsL X = ws at *
  obtain ⟨F0, HF⟩ : ∃ F, Hid (chain N T N 1 = F) := ⟨_, hide rfl⟩
  rw [HF.out] at hsv hcl
  rw [HF.out] at HCH
  generalize ints (leastL N L) = LI at *
  go_enter Try.func23, Try.ntmps23
  go_wp2_with fail
  refine hv.mono ?_
  rintro e w2 ⟨rfl, hb2⟩
  have hbw2 := hb0.trans (hb2.mono hb0.size)
  go_wp2_with fail
  refine (hwd _ hbw2).mono ?_
  rintro e w3 ⟨a3, rfl, hs3, hb3⟩
  have hbw3 := hbw2.trans (hb3.mono hbw2.size)
  go_wp2_with fail
  refine (hft _ _ hs3).mono ?_
  rintro e w4 ⟨rfl, rfl⟩
  have hx3 := (hx0.under hb2).under hb3
  have c1 := hx3.at_ (j := 1) rfl
  clear hv hwd hft hb2 hb3 hbw2 hx0 hb0
  by_cases hLn : L'.length = N
  case neg =>
    have hne : ((L'.length : Int) != (N : Int)) = true := neq_nat hLn
    have HANS : Hid (CK F L' = 19) := hide (by rw [HCH.out, if_neg (fun h => hLn (by rw [h.1]; exact HLL.out))])
    clear hLn
    go_wp2_with fail
    go_ret
    exact ⟨by rw [HANS.out]; rfl, hbw3⟩
  case pos =>
    have hne : ((L'.length : Int) != (N : Int)) = false := eq_nat hLn
    have HLN := hide hLn
    clear hLn
    obtain ⟨Z, HZ⟩ : ∃ Z : List Value, Hid (List.replicate 13 (Value.int .i64 0) = Z) := ⟨_, hide rfl⟩
    have hZl : Z.length = 13 := by rw [← HZ.out]; rfl
    go_upto_region 10 with fail
    have hxz : Box (w3.alloc (.cells #[.int .i64 0, .int .i64 0, .int .i64 0, .int .i64 0, .int .i64 0, .int .i64 0, .int .i64 0, .int .i64 0, .int .i64 0, .int .i64 0, .int .i64 0, .int .i64 0, .int .i64 0] 62)) w3.heap.size 62 Z := by
      have := Box.new w3 62 #[.int .i64 0, .int .i64 0, .int .i64 0, .int .i64 0, .int .i64 0, .int .i64 0, .int .i64 0, .int .i64 0, .int .i64 0, .int .i64 0, .int .i64 0, .int .i64 0, .int .i64 0]
      rw [← HZ.out]; exact this
    have hb4 := blo w3 (.cells #[.int .i64 0, .int .i64 0, .int .i64 0, .int .i64 0, .int .i64 0, .int .i64 0, .int .i64 0, .int .i64 0, .int .i64 0, .int .i64 0, .int .i64 0, .int .i64 0, .int .i64 0] 62)
    have hx4 := hx3.under hb4
    have hL3 := hL.below hbw3
    have hF3 := hF.below hbw3
    have hlt3 := hx3.lt
    have hlt34 := hxz.lt
    generalize w3.alloc (.cells #[.int .i64 0, .int .i64 0, .int .i64 0, .int .i64 0, .int .i64 0, .int .i64 0, .int .i64 0, .int .i64 0, .int .i64 0, .int .i64 0, .int .i64 0, .int .i64 0, .int .i64 0] 62) = w4 at *
    clear hne c1
    refine wp_region_free 3 [⟨0, 39, [39], fun vs _ => vs = [.slice (some ⟨w3.heap.size, 1, none⟩) 12 12]⟩, ⟨1, 40, [40], fun vs _ => vs = [.pointer (some ⟨w.heap.size, 1, none⟩)]⟩, ⟨2, 41, [41], fun vs _ => vs = [.slice aL L'.length cL]⟩] (by kernel_rfl) (by kernel_rfl) ?_ ?_ ?_
    · simp only [All]
      refine ⟨fun _ _ _ _ h => h, fun _ _ _ _ h => h, fun _ _ _ _ h => h, trivial⟩
    · simp only [All]
      refine ⟨?_, ?_, ?_, trivial⟩
      · intro o ho a' w' hb hfr hdep
        obtain rfl := Option.some.inj ho
        have g9 : a'.tmps[9]?.getD undef = .pointer (some ⟨w3.heap.size, 0, none⟩) := by have h := hfr 9 (by kernel_rfl); simpa using h
        clear ho hfr hdep
        refine cut_var 39 62 3 13 _ _ _ Try.underlying62 size_int w3.heap.size 0 (by show a'.tmps.getD 9 undef = _; simpa using g9) 1 13 (.inr ⟨.i64, rfl⟩) (.inl ⟨rfl, rfl⟩) (by omega) (by omega) (by omega) ?_
        go_wp2_with fail
        exact ⟨rfl, _, rfl, Below.refl _ _, rfl⟩
      · intro o ho a' w' hb hfr hdep
        obtain rfl := Option.some.inj ho
        have g5 : a'.tmps[5]?.getD undef = .pointer (some ⟨w.heap.size, 0, none⟩) := by have h := hfr 5 (by kernel_rfl); simpa using h
        clear ho hfr hdep
        go_wp2_with fail
        exact ⟨rfl, _, rfl, Below.refl _ _, rfl⟩
      · intro o ho a' w' hb hfr hdep
        obtain rfl := Option.some.inj ho
        have g40 : a'.tmps[40]?.getD undef = .pointer (some ⟨w.heap.size, 1, none⟩) := by have h := hdep 1 _ rfl (by kernel_rfl); simpa using h
        clear ho hfr hdep
        have hcl := (hx4.under hb).at_ (j := 1) rfl
        go_wp2_with fail
        exact ⟨rfl, _, rfl, Below.refl _ _, rfl⟩
    · intro g w5 hb5 hp5
      have p39 := hp5 0 _ rfl
      have p41 := hp5 2 _ rfl
      clear hp5
      simp at p39 p41
      simp only [List.drop_succ_cons, List.drop_zero, List.map_cons, List.map_nil, putAll, Act.put, List.setIfInBounds_toArray, List.set_cons_succ, List.set_cons_zero, p39, p41]
      clear p39 p41
      have hb35 := hb4.trans (hb5.mono hb4.size)
      have hxz5 := hxz.under hb5
      clear hx4 hb4 hb5 hxz
      refine copy_sl rfl _ _ 22 22 rfl 3 Try.underlying22 Try.underlying22 size_int w3.heap.size 1 12 12 62 Z hxz5 rfl aL L'.length cL (L'.map I64) rfl (hL3.below hb35) (one_map _ (fun _ => rfl) _) (by rw [HLN.out]; exact hn2) (by rw [hZl, HLN.out]; omega) ?_
      intro w6 hx6 hg6 hz6
      simp only [Act.put, List.setIfInBounds_toArray, List.set_cons_succ, List.set_cons_zero]
      have hgv : Box w6 w3.heap.size 62 ((bestI N L').map I64) := by
        have e : Z.take 1 ++ L'.map I64 ++ Z.drop (1 + L'.length) = (bestI N L').map I64 := by
          rw [← HZ.out, HLN.out]
          unfold bestI
          rw [List.map_cons, List.map_append, List.map_replicate, List.take_replicate, List.drop_replicate, show 13 - (1 + N) = 12 - N by omega]
          rfl
        rw [← e]; exact hx6
      have hb36 : Below w3.heap.size w3 w6 := hb35.grown hg6 hb35.size (fun k hk => by cases hk; exact Nat.le_refl _)
      have hs6 := hs3.below hb36
      clear hx6 hg6 hz6 hb35 hxz5 hZl
      go_wp2_with fail
      refine (hsv _ _ hs6).mono ?_
      rintro e w7 ⟨a4, c4, rfl, hs7, ha7, hb7⟩
      have hgv7 := hgv.under hb7
      have hb37 := hb36.trans (hb7.mono hb36.size)
      clear hsv hgv hb36 hs6 ha7 hs7 hb7
      go_wp2_with (with_reducible refine hold_st ?_)
      refine hide ?_
      refine store_all 62 _ _ 62 w7.heap.size _ (bestL N L) (.agg (bestL N L).toArray) (size_best N L) (Box.new w7 _ _) rfl rfl rfl (by rw [bestL_len]; rfl) (bestL_one N L) ?_
      intro w8 hx8 hg8 hs8
      have hb8 : Below w7.heap.size w7 w8 := (blo w7 _).grown hg8 (by simp) (fun k hk => by cases hk; exact Nat.le_refl _)
      have hgv8 := hgv7.under hb8
      have hb38 := hb37.trans (hb8.mono hb37.size)
      rw [HBI.out] at hx8
      clear hgv7 hb37 hg8 hs8 hb8
      have hF8 := hF3.below hb38
      have hx38 := hx3.under hb38
      have hs8 := hs3.below hb38
      have c0 := hx38.at_ (j := 0) rfl
      have hbw8 := hbw3.trans (hb38.mono hbw3.size)
      have hlA : ((bestI N L').map I64).length = 13 := by rw [List.length_map, bestI_len HLN.out hn2]
      have hlB : ((bestI N LI).map I64).length = 13 := by rw [List.length_map, bestI_len HLL.out hn2]
      have HLA := hide hlA
      have HLB := hide hlB
      clear hL3 hF3 hx3 hs3 hb38 hlA hlB hbw3
      by_cases hLe : L' = LI
      case neg =>
        have HANS : Hid (CK F L' = 19) := hide (by rw [HCH.out, if_neg (fun h => hLe h.1)])
        have d3 : decide (bestI N L' = bestI N LI) = false := decide_eq_false (fun h => hLe ((bestI_inj HLN.out HLL.out).1 h))
        clear hLe
        go_wp2_with (first
          | (with_reducible refine load_box 51 62 _ 62 w3.heap.size 0 _ ((bestI N L').map I64) isAgg_best (by rw [HLA.out]; exact size_13) hgv8 rfl (fun j u hj => by rw [Nat.zero_add]; exact hj) ?_)
          | (with_reducible refine load_box 52 62 _ 62 w7.heap.size 0 _ ((bestI N LI).map I64) isAgg_best (by rw [HLB.out]; exact size_13) hx8 rfl (fun j u hj => by rw [Nat.zero_add]; exact hj) ?_)
          | (with_reducible refine neq_ints 53 62 _ _ 3 13 Try.underlying62 Try.underlying3 size_int (by kernel_rfl) (bestI N L') (bestI N LI) rfl rfl (bestI_len HLN.out hn2) (bestI_len HLL.out hn2) ?_))
        go_ret
        exact ⟨by rw [HANS.out]; rfl, hbw8⟩
      case pos =>
        have d3 : decide (bestI N L' = bestI N LI) = true := decide_eq_true ((bestI_inj HLN.out HLL.out).2 hLe)
        have HLE := hide hLe
        clear hLe
        by_cases hFn : F.length = F0.length
        case neg =>
          have HANS : Hid (CK F L' = 19) := hide (by rw [HCH.out, if_neg (fun h => hFn h.2)])
          have d4 : ((F.length : Int) != (F0.length : Int)) = true := neq_nat hFn
          clear hFn
          go_wp2_with (first
            | (with_reducible refine load_box 51 62 _ 62 w3.heap.size 0 _ ((bestI N L').map I64) isAgg_best (by rw [HLA.out]; exact size_13) hgv8 rfl (fun j u hj => by rw [Nat.zero_add]; exact hj) ?_)
            | (with_reducible refine load_box 52 62 _ 62 w7.heap.size 0 _ ((bestI N LI).map I64) isAgg_best (by rw [HLB.out]; exact size_13) hx8 rfl (fun j u hj => by rw [Nat.zero_add]; exact hj) ?_)
            | (with_reducible refine neq_ints 53 62 _ _ 3 13 Try.underlying62 Try.underlying3 size_int (by kernel_rfl) (bestI N L') (bestI N LI) rfl rfl (bestI_len HLN.out hn2) (bestI_len HLL.out hn2) ?_))
          go_ret
          exact ⟨by rw [HANS.out]; rfl, hbw8⟩
        case pos =>
          have d4 : ((F.length : Int) != (F0.length : Int)) = false := eq_nat hFn
          have HFN := hide hFn
          have hcl2 : F.length ≤ N := by omega
          clear hFn
          go_wp2_with (first
            | (with_reducible refine load_box 51 62 _ 62 w3.heap.size 0 _ ((bestI N L').map I64) isAgg_best (by rw [HLA.out]; exact size_13) hgv8 rfl (fun j u hj => by rw [Nat.zero_add]; exact hj) ?_)
            | (with_reducible refine load_box 52 62 _ 62 w7.heap.size 0 _ ((bestI N LI).map I64) isAgg_best (by rw [HLB.out]; exact size_13) hx8 rfl (fun j u hj => by rw [Nat.zero_add]; exact hj) ?_)
            | (with_reducible refine neq_ints 53 62 _ _ 3 13 Try.underlying62 Try.underlying3 size_int (by kernel_rfl) (bestI N L') (bestI N LI) rfl rfl (bestI_len HLN.out hn2) (bestI_len HLL.out hn2) ?_))
          clear d3 d4 hgv8 hx8
          go_loopg [65] F.length (fun g j' w' => ∃ i : Nat, i ≤ F.length ∧ g = F.length - i ∧ j' = .int .i64 (i : Int) ∧ Hid ((List.range i).all (okPart f N W F) = true) ∧ w8 = w')
          case atStart => exact ⟨0, by omega, by omega, rfl, hide rfl, rfl⟩
          case round =>
            obtain ⟨i, hi, hg, rfl, HA, rfl⟩ := hrel
            have HG := hide hg
            clear hg
            by_cases hil : i < F.length
            · obtain ⟨x, hx⟩ : ∃ x, F[i]? = some x := ⟨F[i], by simp [hil]⟩
              have HX := hide hx
              obtain ⟨t, ht⟩ : ∃ t, toAt F N i = t := ⟨_, rfl⟩
              have HT := hide ht
              have HD : F.getD i 0 = x := by rw [List.getD_eq_getElem?_getD, hx]; rfl
              obtain ⟨r, hr⟩ : ∃ r, okPart f N W F i = r := ⟨_, rfl⟩
              have HR := hide hr
              have hok : okPart f N W F i = decide ((i = 0 → x = 1) ∧ 1 ≤ x ∧ x < t ∧ t ≤ N ∧ (sizeW f x.toNat (t.toNat - x.toNat) : Int) ≤ W) := by unfold okPart; rw [HD, ht]
              have HOK := hide hok
              clear hx ht HD hr hok
              have d0 : decide ((i : Int) < (F.length : Int)) = true := decide_eq_true (by omega)
              go_upto_region 17 with (with_reducible refine idx_i 68 _ _ _ _ _ _ rfl hF8 _ _ i rfl rfl _ HX.out ?_; intro b o hcell hbo)
              go_upto_if 76 with fail
              go_cut [14] (fun v w' => v = .int .i64 t ∧ w8 = w')
              case first =>
                by_cases h1 : i + 1 < F.length
                · obtain ⟨y, hy⟩ : ∃ y, F[i + 1]? = some y := ⟨F[i + 1], by simp [h1]⟩
                  have HY := hide hy
                  have hty : y = t := by rw [← HT.out]; unfold toAt; rw [if_pos h1, List.getD_eq_getElem?_getD, hy]; rfl
                  have HTY := hide hty
                  have d5 : decide ((i : Int) + 1 < (F.length : Int)) = true := decide_eq_true (by omega)
                  clear hy hty
                  go_wp2_with (with_reducible refine idx_i 81 _ _ _ _ _ _ rfl hF8 _ _ (i + 1) rfl (by omega) _ HY.out ?_; intro b2 o2 hcell2 hbo2)
                  go_meet
                  exact ⟨by rw [HTY.out], rfl⟩
                · have htN : (N : Int) = t := by rw [← HT.out]; unfold toAt; rw [if_neg h1]
                  have HTY := hide htN
                  have d5 : decide ((i : Int) + 1 < (F.length : Int)) = false := decide_eq_false (by omega)
                  clear htN
                  go_wp2_with fail
                  go_meet
                  exact ⟨by rw [HTY.out], rfl⟩
              case rest =>
                obtain ⟨rfl, rfl⟩ := hcut
                clear hcell hbo
                go_upto_region 20 with fail
                go_cut [110] (fun v w' => v = .bool (!r) ∧ w8 = w')
                case first =>
                  have hHR := HR.out
                  have hHOK := HOK.out
                  have hq : (∃ q : Bool, q = ((i : Int) == 0)) := ⟨_, rfl⟩
                  have hfin : (((i : Int) == 0) = true ∧ (x != 1) = true ∧ r = false) ∨ (((((i : Int) == 0) = true ∧ (x != 1) = false) ∨ ((i : Int) == 0) = false) ∧ ((decide (x < 1) = true ∧ r = false) ∨ (decide (x < 1) = false ∧ decide (t ≤ x) = true ∧ r = false) ∨ (decide (x < 1) = false ∧ decide (t ≤ x) = false ∧ decide ((N : Int) < t) = true ∧ r = false) ∨
                      (decide (x < 1) = false ∧ decide (t ≤ x) = false ∧ decide ((N : Int) < t) = false ∧ (1 ≤ x ∧ x < t ∧ t ≤ N) ∧ r = decide ((sizeW f x.toNat (t.toNat - x.toNat) : Int) ≤ W)))) := by
                    rw [← hHR, hHOK]
                    by_cases e0 : i = 0
                    · have e1 : ((i : Int) == 0) = true := by simp [e0]
                      by_cases e2 : x = 1
                      · have e3 : (x != 1) = false := by simp [e2]
                        refine .inr ⟨.inl ⟨e1, e3⟩, ?_⟩
                        have e4 : ¬ x < 1 := by omega
                        by_cases e5 : t ≤ x
                        · exact .inr (.inl ⟨decide_eq_false e4, decide_eq_true e5, decide_eq_false (fun h => by omega)⟩)
                        · by_cases e6 : (N : Int) < t
                          · exact .inr (.inr (.inl ⟨decide_eq_false e4, decide_eq_false e5, decide_eq_true e6, decide_eq_false (fun h => by omega)⟩))
                          · exact .inr (.inr (.inr ⟨decide_eq_false e4, decide_eq_false e5, decide_eq_false e6, ⟨by omega, by omega, by omega⟩, decide_eq_decide.2 ⟨fun h => h.2.2.2.2, fun h => ⟨fun _ => e2, by omega, by omega, by omega, h⟩⟩⟩))
                      · exact .inl ⟨e1, by simp [e2], decide_eq_false (fun h => e2 (h.1 e0))⟩
                    · have e1 : ((i : Int) == 0) = false := by simp [e0]
                      refine .inr ⟨.inr e1, ?_⟩
                      by_cases e4 : x < 1
                      · exact .inl ⟨decide_eq_true e4, decide_eq_false (fun h => by omega)⟩
                      · by_cases e5 : t ≤ x
                        · exact .inr (.inl ⟨decide_eq_false e4, decide_eq_true e5, decide_eq_false (fun h => by omega)⟩)
                        · by_cases e6 : (N : Int) < t
                          · exact .inr (.inr (.inl ⟨decide_eq_false e4, decide_eq_false e5, decide_eq_true e6, decide_eq_false (fun h => by omega)⟩))
                          · exact .inr (.inr (.inr ⟨decide_eq_false e4, decide_eq_false e5, decide_eq_false e6, ⟨by omega, by omega, by omega⟩, decide_eq_decide.2 ⟨fun h => h.2.2.2.2, fun h => ⟨fun hh => absurd hh e0, by omega, by omega, by omega, h⟩⟩⟩))
                  have HFI := hide hfin
                  clear hHR hHOK hq hfin HOK HR HT
                  rcases HFI.out with ⟨b0, b1, rr⟩ | ⟨⟨b0, b1⟩ | b0, ⟨b2, rr⟩ | ⟨b2, b3, rr⟩ | ⟨b2, b3, b4, rr⟩ | ⟨b2, b3, b4, ⟨g1, g2, g3⟩, rr⟩⟩
                  · have RR := hide rr
                    clear rr HFI
                    go_wp2_with fail
                    go_meet
                    exact ⟨by rw [RR.out]; rfl, rfl⟩
                  · have RR := hide rr
                    clear rr HFI
                    go_wp2_with fail
                    go_meet
                    exact ⟨by rw [RR.out]; rfl, rfl⟩
                  · have RR := hide rr
                    clear rr HFI
                    go_wp2_with fail
                    go_meet
                    exact ⟨by rw [RR.out]; rfl, rfl⟩
                  · have RR := hide rr
                    clear rr HFI
                    go_wp2_with fail
                    go_meet
                    exact ⟨by rw [RR.out]; rfl, rfl⟩
                  · obtain ⟨j, rfl⟩ := Int.eq_ofNat_of_zero_le (show 0 ≤ x by omega)
                    obtain ⟨k, rfl⟩ := Int.eq_ofNat_of_zero_le (show 0 ≤ t by omega)
                    have hszc := hsz j k a3 w8 hs8 (by omega) (by omega) (by omega)
                    have RR := hide rr
                    clear rr HFI
                    go_wp2_with fail
                    refine hszc.mono ?_
                    rintro e w9 ⟨rfl, rfl⟩
                    obtain ⟨S, HS⟩ : ∃ S, Hid (sizeW f j (k - j) = S) := ⟨_, hide rfl⟩
                    rw [HS.out]
                    have hrr : r = decide ((S : Int) ≤ W) := by have := RR.out; simpa [HS.out] using this
                    clear hszc
                    rcases Int.lt_or_le W S with hW | hW
                    · have d6 : decide (W < (S : Int)) = true := decide_eq_true hW
                      have RR2 : Hid (r = false) := hide (by rw [hrr]; exact decide_eq_false (by omega))
                      clear hrr
                      go_wp2_with fail
                      go_meet
                      exact ⟨by rw [RR2.out]; rfl, rfl⟩
                    · have d6 : decide (W < (S : Int)) = false := decide_eq_false (by omega)
                      have RR2 : Hid (r = true) := hide (by rw [hrr]; exact decide_eq_true (by omega))
                      clear hrr
                      go_wp2_with fail
                      go_meet
                      exact ⟨by rw [RR2.out, decide_eq_false (show ¬ k ≤ j by omega), decide_eq_false (show ¬ N < k by omega)]; rfl, rfl⟩
                  · have RR := hide rr
                    clear rr HFI
                    go_wp2_with fail
                    go_meet
                    exact ⟨by rw [RR.out]; rfl, rfl⟩
                  · have RR := hide rr
                    clear rr HFI
                    go_wp2_with fail
                    go_meet
                    exact ⟨by rw [RR.out]; rfl, rfl⟩
                  · have RR := hide rr
                    clear rr HFI
                    go_wp2_with fail
                    go_meet
                    exact ⟨by rw [RR.out]; rfl, rfl⟩
                  · obtain ⟨j, rfl⟩ := Int.eq_ofNat_of_zero_le (show 0 ≤ x by omega)
                    obtain ⟨k, rfl⟩ := Int.eq_ofNat_of_zero_le (show 0 ≤ t by omega)
                    have hszc := hsz j k a3 w8 hs8 (by omega) (by omega) (by omega)
                    have RR := hide rr
                    clear rr HFI
                    go_wp2_with fail
                    refine hszc.mono ?_
                    rintro e w9 ⟨rfl, rfl⟩
                    obtain ⟨S, HS⟩ : ∃ S, Hid (sizeW f j (k - j) = S) := ⟨_, hide rfl⟩
                    rw [HS.out]
                    have hrr : r = decide ((S : Int) ≤ W) := by have := RR.out; simpa [HS.out] using this
                    clear hszc
                    rcases Int.lt_or_le W S with hW | hW
                    · have d6 : decide (W < (S : Int)) = true := decide_eq_true hW
                      have RR2 : Hid (r = false) := hide (by rw [hrr]; exact decide_eq_false (by omega))
                      clear hrr
                      go_wp2_with fail
                      go_meet
                      exact ⟨by rw [RR2.out]; rfl, rfl⟩
                    · have d6 : decide (W < (S : Int)) = false := decide_eq_false (by omega)
                      have RR2 : Hid (r = true) := hide (by rw [hrr]; exact decide_eq_true (by omega))
                      clear hrr
                      go_wp2_with fail
                      go_meet
                      exact ⟨by rw [RR2.out, decide_eq_false (show ¬ k ≤ j by omega), decide_eq_false (show ¬ N < k by omega)]; rfl, rfl⟩
                case rest =>
                  obtain ⟨rfl, rfl⟩ := hcut
                  cases r
                  · have HANS : Hid (CK F L' = 19) := hide (by rw [HCH.out, if_pos ⟨HLE.out, HFN.out⟩, all_no hil HR.out, if_neg (by decide)])
                    go_wp2_with fail
                    go_ret
                    exact ⟨by rw [HANS.out]; rfl, hbw8⟩
                  · have HA2 := hide (all_next HA.out HR.out)
                    go_wp2_with fail
                    go_roundg (F.length - (i + 1))
                    case measure => have := HG.out; omega
                    case rel => exact ⟨i + 1, by omega, rfl, by go_num, HA2, rfl⟩
            · obtain rfl : F.length = i := by omega
              have HANS : Hid (CK F L' = 0) := hide (by rw [HCH.out, if_pos ⟨HLE.out, HFN.out⟩, if_pos HA.out])
              go_wp2_with fail
              go_ret
              exact ⟨by rw [HANS.out]; rfl, hbw8⟩
end Go.Proofs.Ytmjkhmebpciopaa
end
