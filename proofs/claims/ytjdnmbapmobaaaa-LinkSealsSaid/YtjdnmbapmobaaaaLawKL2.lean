/- The contracts of the functions that the law reaches, joined into one text. -/
import Derived.Test.YtjdnmbapmobaaaaBaseK21D
import Derived.OpenShut
import Derived.Deep.Slices
import Derived.Deep.Strs
import Derived.SizedLaws
set_option linter.unusedVariables false
set_option linter.unusedSimpArgs false

/- the text Row2 -/
section
/- How the arguments of a law read: slices of integers, of strings, of arrays of integers, with the form's own reach. No program. -/
namespace Go.Dx
open Go.RowKit Go.WideShapes Go.ChangeShapes Go.Deep

/-- no part is longer than the form lets it be -/
def Sized {H : Type} (P : Program) (t : TypeId) (d : DataW H) : Prop := ∀ n ∈ d.weights P t, n ≤ reachBytes
section
variable {H : Type} {enc : TypeId × Value → H} {P : Program} {w : World}
theorem sized_at {ts : List TypeId} {ds : List (DataW H)} (hwt : (DataW.weightsEach P ts ds).all (· ≤ reachBytes) = true) (j : Nat) {t : TypeId} {d : DataW H} (ht : ts[j]? = some t) (hd : ds[j]? = some d) : Sized P t d :=
  fun n hn => by simpa using List.all_eq_true.1 hwt _ (DataW.weights_mem_each ht hd n hn)
theorem sized_all {e : TypeId} : ∀ {l : List (DataW H)} {d : DataW H}, d ∈ l → ∀ n ∈ d.weights P e, n ∈ DataW.weightsAll P e l
  | x :: l, d, hd, n, hn => by
    simp only [DataW.weightsAll, List.mem_append]
    rcases List.mem_cons.1 hd with rfl | h
    · exact .inl hn
    · exact .inr (sized_all h n hn)
theorem Sized.slice {t e : TypeId} {elems spare : List (DataW H)} (h : Sized P t (.slice elems spare)) (hu : P.underlying t = some (.slice e)) :
    (elems.length + spare.length) * P.bytesOf e ≤ reachBytes ∧ (∀ d ∈ elems, Sized P e d) :=
  ⟨h _ (by simp [DataW.weights, hu]), fun d hd n hn => h n (by simp only [DataW.weights, hu, List.mem_cons, List.mem_append]; exact .inr (.inl (sized_all hd n hn)))⟩
theorem Sized.string {t : TypeId} {b : List UInt8} (h : Sized P t (DataW.lit (H := H) (.string b))) : b.length ≤ reachBytes := h _ (by simp [DataW.weights])

theorem add_cells {a : Addr} {n : Nat} : a.add n = a.add n := rfl

theorem trod_ints {t e : TypeId} {k : IntKind} (ht : P.underlying t = some (.slice e)) (he : P.underlying e = some (.int k)) (hc : P.cellsOf e = 1) (hb : 0 < P.bytesOf e) {a : Option Addr} {len cap : Nat} {d : DataW H} {p : List MemPlace}
    (hs : Sized P t d) (h : DataW.Trod enc P w 0 (fun _ => true) true t (.slice a len cap) d p) :
    ∃ zs : List Int, Sl w 1 a len cap (zs.map (Value.int k)) ∧ (∀ n ∈ zs, (Lit.int k n).wf = true) ∧ len ≤ reachBytes := by
  obtain ⟨fuel, hf⟩ := h
  rcases open_ints ht he hc hf with ⟨hcs, _⟩ | ⟨x, l, c, zs, hcs, _, hl, hm, hz, hx, hcell, hwz⟩
  · simp [Value.cells] at hcs
    obtain ⟨rfl, rfl, rfl⟩ := hcs
    exact ⟨[], Sl.empty w 1, by simp, Nat.zero_le _⟩
  · simp [Value.cells] at hcs
    obtain ⟨rfl, rfl, rfl⟩ := hcs
    have hz2 : zs.length = cap := by simpa using hz
    have hd := congrArg Prod.fst hx
    simp only at hd
    subst hd
    refine ⟨zs.take len, ⟨by simp; omega, hl, hm, (fun h => by cases h), ?_⟩, fun n hn => hwz n (List.mem_of_mem_take hn), ?_⟩
    · intro q hq j u hj
      cases hq
      rw [List.getElem?_map, List.getElem?_take] at hj
      by_cases hlt : j < len
      · rw [if_pos hlt] at hj
        have hjz : j < zs.length := by omega
        rw [List.getElem?_eq_getElem hjz] at hj
        simp at hj
        rw [hcell j hjz, ← hj, List.getD_eq_getElem?_getD, List.getElem?_eq_getElem hjz]
        rfl
      · rw [if_neg hlt] at hj; cases hj
    · have hsz := (hs.slice ht).1
      rw [show ∀ (k : IntKind) (l : List Int), (lits (H := H) k l).length = l.length from fun k l => by simp [lits], List.length_take, show min len zs.length = len by omega] at hsz
      exact Nat.le_trans (Nat.le_trans (Nat.le_add_right _ _) (Nat.le_mul_of_pos_right _ hb)) hsz

theorem trod_bytes {t e : TypeId} (ht : P.underlying t = some (.slice e)) (he : P.underlying e = some (.int .u8)) (hc : P.cellsOf e = 1) (hb : 0 < P.bytesOf e) {a : Option Addr} {len cap : Nat} {d : DataW H} {p : List MemPlace}
    (hs : Sized P t d) (h : DataW.Trod enc P w 0 (fun _ => true) true t (.slice a len cap) d p) :
    ∃ l : List UInt8, Sl w 1 a len cap (l.map B8) ∧ len ≤ reachBytes := by
  obtain ⟨zs, h1, h2, h3⟩ := trod_ints ht he hc hb hs h
  refine ⟨zs.map fun n => UInt8.ofNat n.toNat, ?_, h3⟩
  have e : (zs.map fun n => UInt8.ofNat n.toNat).map B8 = zs.map (Value.int .u8) := by
    rw [List.map_map]
    apply List.map_congr_left
    intro n hn
    have hb : 0 ≤ n ∧ n ≤ 255 := bounds_u8 (h2 n hn)
    show Value.int .u8 ((UInt8.ofNat n.toNat).toNat : Int) = _
    rw [UInt8.toNat_ofNat']
    congr 1
    omega
  rw [e]
  exact h1
theorem trod_i64s {t e : TypeId} (ht : P.underlying t = some (.slice e)) (he : P.underlying e = some (.int .i64)) (hc : P.cellsOf e = 1) (hb : 0 < P.bytesOf e) {a : Option Addr} {len cap : Nat} {d : DataW H} {p : List MemPlace}
    (hs : Sized P t d) (h : DataW.Trod enc P w 0 (fun _ => true) true t (.slice a len cap) d p) :
    ∃ l : List Int, Sl w 1 a len cap (l.map I64) ∧ (∀ n ∈ l, -9223372036854775808 ≤ n ∧ n ≤ 9223372036854775807) ∧ len ≤ reachBytes := by
  obtain ⟨zs, h1, h2, h3⟩ := trod_ints ht he hc hb hs h
  exact ⟨zs, h1, fun n hn => bounds_i64 (h2 n hn), h3⟩

theorem trod_strs {t e : TypeId} (ht : P.underlying t = some (.slice e)) (he : P.underlying e = some .string) (hc : P.cellsOf e = 1) (hb : 0 < P.bytesOf e) {a : Option Addr} {len cap : Nat} {d : DataW H} {p : List MemPlace}
    (hs : Sized P t d) (h : DataW.Trod enc P w 0 (fun _ => true) true t (.slice a len cap) d p) :
    ∃ l : List ByteArray, Sl w 1 a len cap (l.map Value.string) ∧ (∀ s ∈ l, s.size ≤ reachBytes) ∧ len ≤ reachBytes ∧ (l = [] ∨ ∃ sp, d = .slice (l.map fun s => .lit (.string s.data.toList)) sp) := by
  obtain ⟨fuel, hf⟩ := h
  rcases open_strs ht he hc hf with ⟨hcs, _⟩ | ⟨x, l, c, m, Sx, hcs, _, hl, hm, hmm, hx, hcell⟩
  · simp [Value.cells] at hcs
    obtain ⟨rfl, rfl, rfl⟩ := hcs
    exact ⟨[], Sl.empty w 1, by simp, Nat.zero_le _, .inl rfl⟩
  · simp [Value.cells] at hcs
    obtain ⟨rfl, rfl, rfl⟩ := hcs
    simp only [if_true] at hmm
    subst hmm
    have hd := congrArg Prod.fst hx
    simp only at hd
    subst hd
    obtain ⟨z1, z2⟩ := hs.slice ht
    refine ⟨(List.range len).map Sx, ⟨by simp, hl, hm, (fun h => by cases h), ?_⟩, ?_, ?_, .inr ⟨_, by rw [List.map_map]; rfl⟩⟩
    · intro q hq j u hj
      cases hq
      have hlt : j < len := by have := (List.getElem?_eq_some_iff.1 hj).1; simpa using this
      rw [(hcell j (by omega)).1]
      simp [hlt] at hj
      rw [hj]
    · intro s hs
      obtain ⟨i, hi, rfl⟩ := List.mem_map.1 hs
      have := Sized.string (z2 _ (List.mem_map.2 ⟨i, hi, rfl⟩))
      rwa [show (Sx i).data.toList.length = (Sx i).size from Array.length_toList] at this
    · simp only [List.length_map, List.length_range] at z1
      exact Nat.le_trans (Nat.le_trans (Nat.le_add_right _ _) (Nat.le_mul_of_pos_right _ hb)) z1

theorem trod_arr {t e n : Nat} {k : IntKind} {base : Nat} {spare : Nat → Bool} {held : Bool} {fuel : Nat} {cs : List Value} {x : DataW H × List MemPlace} (ht : P.underlying t = some (.array n e)) (he : P.underlying e = some (.int k)) (hc : P.cellsOf e = 1) (hct : P.cellsOf t = n)
    (h : DataW.trod enc P w base spare held fuel t cs = some x) : cs.length = n ∧ ∀ i, i < n → ∃ z, cs[i]? = some (.int k z) ∧ (Lit.int k z).wf = true := by
  obtain ⟨xs, m, _, _, hl, hxl, hi⟩ := DataW.trod_array ht h
  rw [hct] at hl
  refine ⟨hl, fun i hin => ?_⟩
  have h1 := hi i hin
  rw [hc, Nat.mul_one, List.getElem?_eq_getElem (by omega)] at h1
  obtain ⟨z, hz, _, hw⟩ := DataW.trod_int he h1
  refine ⟨z, ?_, hw⟩
  have := congrArg (·[0]?) hz
  simpa [List.getElem?_take, List.getElem?_drop] using this

theorem trod_arrs {t e q n : Nat} {k : IntKind} (ht : P.underlying t = some (.slice e)) (he : P.underlying e = some (.array n q)) (hq : P.underlying q = some (.int k)) (hc : P.cellsOf q = 1) (hce : P.cellsOf e = n) (hb : 0 < P.bytesOf e) (hn0 : 0 < n)
    {a : Option Addr} {len cap : Nat} {d : DataW H} {p : List MemPlace} (hs : Sized P t d) (h : DataW.Trod enc P w 0 (fun _ => true) true t (.slice a len cap) d p) :
    ∃ zs : List Int, Sl w n a len cap (zs.map (Value.int k)) ∧ (∀ n ∈ zs, (Lit.int k n).wf = true) ∧ len ≤ reachBytes := by
  obtain ⟨fuel, hf⟩ := h
  rcases open_slice ht hf with ⟨hcs, _⟩ | ⟨x, l, c, m, g, D, Pl, hcs, _, hl, hm, hmm, hx, hel⟩
  · simp [Value.cells] at hcs
    obtain ⟨rfl, rfl, rfl⟩ := hcs
    exact ⟨[], Sl.empty w n, by simp, Nat.zero_le _⟩
  · simp [Value.cells] at hcs
    obtain ⟨rfl, rfl, rfl⟩ := hcs
    simp only [if_true] at hmm
    subst hmm
    have hd := congrArg Prod.fst hx
    simp only at hd
    subst hd
    obtain ⟨z1, z2⟩ := hs.slice ht
    have each : ∀ j, j < len * n → ∃ z, w.cell? (x.add j) = some (.int k z) ∧ (Lit.int k z).wf = true := by
      intro j hj
      have hi : j / n < len := (Nat.div_lt_iff_lt_mul hn0).2 hj
      obtain ⟨cs', h1, h2⟩ := hel (j / n) (by omega)
      rw [hce] at h1
      obtain ⟨_, hcl, hat⟩ := World.cells?_some h1
      have hr : j % n < n := Nat.mod_lt _ hn0
      obtain ⟨z, hz, hwz⟩ := (trod_arr he hq hc hce h2).2 (j % n) hr
      refine ⟨z, ?_, hwz⟩
      have := hat (j % n) hr
      rw [sl_add, Nat.div_add_mod'] at this
      rw [this, hz]
    obtain ⟨Z, hZ⟩ := choose_lt each
    refine ⟨(List.range (len * n)).map Z, ⟨by simp, hl, hm, (fun h => by cases h), ?_⟩, ?_, ?_⟩
    · intro q hq j u hj
      cases hq
      have hlt : j < len * n := by have := (List.getElem?_eq_some_iff.1 hj).1; simpa using this
      rw [(hZ j hlt).1]
      simp [hlt] at hj
      rw [hj]
    · intro z hz
      obtain ⟨i, hi, rfl⟩ := List.mem_map.1 hz
      exact (hZ i (List.mem_range.1 hi)).2
    · simp only [List.length_map, List.length_range] at z1
      exact Nat.le_trans (Nat.le_trans (Nat.le_add_right _ _) (Nat.le_mul_of_pos_right _ hb)) z1
theorem bytes_of_wf {zs : List Int} (h : ∀ n ∈ zs, (Lit.int .u8 n).wf = true) : ∃ l : List UInt8, l.map B8 = zs.map (Value.int .u8) := by
  refine ⟨zs.map fun n => UInt8.ofNat n.toNat, ?_⟩
  rw [List.map_map]
  apply List.map_congr_left
  intro n hn
  have hb : 0 ≤ n ∧ n ≤ 255 := bounds_u8 (h n hn)
  show Value.int .u8 ((UInt8.ofNat n.toNat).toNat : Int) = _
  rw [UInt8.toNat_ofNat']
  congr 1
  omega
end
end Go.Dx
end

/- the text K22 -/
section
/- Chapter 37: the reference's Open. -/
set_option linter.unusedVariables false
namespace Go.Proofs.Ytjdnmbapmobaaaa
open Go.RowKit Go.Dx Go.Al
theorem sealL_iff (key : UInt64) (l : List UInt8) (m : Nat) (hm : l.length = m + 8) : (sealL key (l.take m) = l) ↔ (sealB key (l.take m) = l.drop m) := by
  unfold sealL
  constructor
  · intro h
    have h2 := congrArg (List.drop m) h
    rw [List.drop_left' (by rw [List.length_take]; omega)] at h2
    exact h2
  · intro h
    rw [h, List.take_append_drop]
def GivesR (l : List UInt8) (E : Int) (w : World) (r : Ending) (w' : World) : Prop :=
  ∃ a c, r = .returned (.tuple #[.slice a l.length c, .int .i64 E]) ∧ Sl w' 1 a l.length c (l.map B8) ∧ Below w.heap.size w w'
set_option maxRecDepth 100000 in
set_option maxHeartbeats 2000000 in
theorem ref_Open (key : UInt64) (l : List UInt8) (a : Option Addr) (n c : Nat) (w : World) (hs : Sl w 1 a n c (l.map B8)) (hl : l.length ≤ 1000) {r : List UInt8 × Int} (hr : openZ key l = r) :
    Calls Try.prog 30 #[V64 key, .slice a n c] w (GivesR r.1 r.2 w) := by
  obtain rfl := hs.n_eq
  by_cases h8 : l.length < 8
  · have hZ : openZ key l = ([], 2) := by unfold openZ; rw [if_pos h8]
    have hr1 : ([], 2) = r := hZ ▸ hr
    subst hr1
    have HS := hide hs
    clear hZ hr hs
    obtain ⟨n, hn⟩ : ∃ n, Hid (l.length = n) := ⟨_, hide rfl⟩
    have hn8 : n < 8 := by rw [← hn.out]; exact h8
    have d0 : decide ((n : Int) - 8 < 0) = true := decide_eq_true (by omega)
    rw [hn.out]
    clear h8 hl
    go_enter Try.func30, Try.ntmps30
    go_wp2_with fail
    go_ret2
    exact ⟨none, 0, rfl, Sl.empty _ _, Below.refl _ _⟩
  · obtain ⟨m, hm⟩ : ∃ m, l.length = m + 8 := ⟨l.length - 8, by omega⟩
    have hst : Hid (Sl w 1 a m c ((l.take m).map B8)) := hide (by
      have h := hs.take m (by omega)
      rw [← List.map_take] at h
      exact h)
    obtain ⟨T, hT⟩ : ∃ T, Hid (l.take m = T) := ⟨_, hide rfl⟩
    obtain ⟨R, hR⟩ : ∃ R, Hid (sealL key T = R) := ⟨_, hide rfl⟩
    have hTl : Hid (T.length = m) := hide (by rw [← hT.out, List.length_take]; omega)
    have hst2 : Hid (Sl w 1 a m c (T.map B8)) := hide (by have h := hst.out; rw [hT.out] at h; exact h)
    have hz : openZ key l = if R = l then (T, 0) else ([], 9) := by
      have h1 := sealL_iff key l m hm
      unfold openZ
      rw [if_neg (by omega), show l.length - 8 = m by omega, hT.out]
      rw [hT.out, hR.out] at h1
      by_cases h : R = l
      · rw [if_pos h, if_pos (h1.1 h)]
      · rw [if_neg h, if_neg (fun hh => h (h1.2 hh))]
    have HR : Hid ((if R = l then (T, (0 : Int)) else ([], 9)) = r) := hide (by rw [← hz]; exact hr)
    obtain ⟨bb, hbb⟩ : ∃ bb, Hid (decide (R = l) = bb) := ⟨_, hide rfl⟩
    have hm2 : m ≤ 1000 := by omega
    have hmc : m + 8 ≤ c := by have := hs.le; omega
    have HS := hide hs
    have hsame : Hid (∀ (a1 : Option Addr) (n1 c1 : Nat) (w : World), Sl w 1 a1 n1 c1 (R.map B8) → Sl w 1 a (m + 8) c (l.map B8) → Calls Try.prog 29 #[.slice a1 n1 c1, .slice a (m + 8) c] w (Go.Dx.Still (.bool bb) w)) := hide (fun a1 n1 c1 w h1 h2 => by
      have h3 := ref_Same R l a1 a n1 (m + 8) c1 c w h1 h2
      rw [hbb.out] at h3
      exact h3)
    have d0 : decide ((m : Int) < 0) = false := decide_eq_false (by omega)
    rw [hm] at HS
    rw [hm]
    have hS8 : Hid (Sl w 1 a (m + 8) c (l.map B8)) := HS
    clear hs hst hz hr h8 HS hl hm
    have hcut : ∀ w', Sl w' 1 a (m + 8) c (l.map B8) → Sl w' 1 a m c (T.map B8) := fun w' h => by
      have h2 := h.take m (by omega)
      rw [← List.map_take, hT.out] at h2
      exact h2
    have HC := hide hcut
    clear hcut
    cases hbc : bb
    · have hr2 : ([], 9) = r := by
        have h1 := hbb.out
        rw [hbc] at h1
        rw [← HR.out, if_neg (of_decide_eq_false h1)]
      subst hr2
      rw [hbc] at hsame
      clear hbc
      go_enter Try.func30, Try.ntmps30
      go_wp2_with (first
        | (with_reducible refine cuthi_b 15 _ _ _ _ _ l rfl hS8.out .i64 _ m rfl rfl (by omega) ?_; intro hcc; clear hcc)
        | (go_at_call 17; refine (ref_Seal key T a m c w hst2.out (by have := hTl.out; omega) hR.out).mono ?_; rintro e1 w1 ⟨a1, c1, rfl, o1, b1⟩; have s1 := o1.sl; have s2 := hS8.out.below b1; clear o1)
        | (go_at_call 29; refine (hsame.out _ _ _ _ s1 s2).mono ?_; rintro e2 w2 ⟨rfl, nq, rfl⟩))
      go_ret2
      exact ⟨none, 0, rfl, Sl.empty _ _, b1.trans ((Still.below nq).mono b1.size)⟩
    · have hr2 : (T, 0) = r := by
        have h1 := hbb.out
        rw [hbc] at h1
        rw [← HR.out, if_pos (of_decide_eq_true h1)]
      subst hr2
      rw [hbc] at hsame
      clear hbc
      go_enter Try.func30, Try.ntmps30
      go_wp2_with (first
        | (with_reducible refine cuthi_b 15 _ _ _ _ _ l rfl hS8.out .i64 _ m rfl rfl (by omega) ?_; intro hcc; clear hcc)
        | (go_at_call 17; refine (ref_Seal key T a m c w hst2.out (by have := hTl.out; omega) hR.out).mono ?_; rintro e1 w1 ⟨a1, c1, rfl, o1, b1⟩; have s1 := o1.sl; have s2 := hS8.out.below b1; clear o1)
        | (go_at_call 29; refine (hsame.out _ _ _ _ s1 s2).mono ?_; rintro e2 w2 ⟨rfl, nq, rfl⟩; have s3 := s2.below (Still.below nq))
        | (with_reducible refine cuthi_b 22 _ _ _ _ _ l rfl s3 .i64 _ m rfl rfl (by omega) ?_; intro hcc; clear hcc))
      go_ret2
      have s4 := HC.out _ s3
      have e4 := hTl.out
      refine ⟨a, c, by show _ = Ending.returned (.tuple #[.slice a T.length c, .int .i64 0]); rw [e4]; rfl, ?_, b1.trans ((Still.below nq).mono b1.size)⟩
      show Sl _ 1 a T.length c (T.map B8)
      rw [e4]
      exact s4
end Go.Proofs.Ytjdnmbapmobaaaa
end

/- the text Free3 -/
section
/- A region that draws its order, whose operations that change the world follow one another (CH); the others (TL) leave the world as it is and may come at any time. No program in sight. -/
set_option linter.unusedVariables false
namespace Go.Dx
open Go.RowKit

structure ChInv (l : List Oper) (n : Nat) (CH TL T : List HOp) (a0 : Act) (G : Nat → List Value → World → Prop) (listed : Array Bool) (a : Act) (w : World) : Prop where
  inv : HeadInv .any l.toArray n listed
  defers : a.defers = a0.defers
  size : a.tmps.size = a0.tmps.size
  frame : ∀ k, (∀ t ∈ T, t.d ≠ k) → a.tmps.getD k undef = a0.tmps.getD k undef
  stage : ∃ j, j ≤ CH.length ∧ (∀ m c, CH[m]? = some c → (listed.getD c.i false = true ↔ m < j)) ∧ G j (CH.map fun c => a.tmps.getD c.d undef) w
  facts : ∀ t ∈ TL, listed.getD t.i false = true → t.fact a w

/-- each waits for the one before it -/
def linkOk (ops : Array Oper) : List Nat → Bool
  | i :: j :: l => Region.waitsFor .any ops j i && linkOk ops (j :: l)
  | _ => true
theorem linkOk_get {ops : Array Oper} : ∀ {L : List Nat}, linkOk ops L = true → ∀ m i j, L[m]? = some i → L[m + 1]? = some j → Region.waitsFor .any ops j i = true := by
  intro L
  induction L with
  | nil => intro _ m i j h; cases h
  | cons x L ih =>
    intro h m i j h1 h2
    cases L with
    | nil => cases m <;> simp at h2
    | cons y L =>
      simp only [linkOk, Bool.and_eq_true] at h
      cases m with
      | zero => cases h1; cases h2; exact h.1
      | succ m => exact ih h.2 m i j h1 h2

section
variable {P : Program}
theorem wp_region_chain {id : Nat} {Q : Exit → Act → World → Prop} {a0 : Act} {w0 : World} {l : List Oper} (n : Nat) (G : Nat → List Value → World → Prop) (CH TL : List HOp) (hm : P.follows .mixedOrders = true)
    (hB : (headOk l n ((CH ++ TL).map fun t => (t.i, t.d, t.s)) a0.tmps.size && linkOk l.toArray (CH.map (·.i)) && (TL.all fun t => CH.all fun c => t.i != c.i && t.d != c.d)) = true)
    (hG0 : G 0 (CH.map fun c => a0.tmps.getD c.d undef) { w0 with drawn := w0.drawn + 1 })
    (hmono : All (fun t : HOp => ∀ vs w w', t.p vs w → t.p vs w') TL)
    (hopC : ∀ m c, CH[m]? = some c → ∀ o, l[c.i]? = some o → ∀ (a : Act) (w : World), G m (CH.map fun c => a.tmps.getD c.d undef) w →
      (∀ k, ((CH ++ TL).map (·.d)).contains k = false → a.tmps.getD k undef = a0.tmps.getD k undef) →
      (∀ (k : Nat) (u : HOp), TL[k]? = some u → Region.waitsFor .any l.toArray c.i u.i = true → u.p (u.s.map fun k => a.tmps.getD k undef) w) →
      wpList P l.toArray (OneTurn c.d a fun v w' => G (m + 1) (CH.map fun e => if e.d = c.d then v else a.tmps.getD e.d undef) w') [o] a w)
    (hopL : All (fun t : HOp => ∀ o, l[t.i]? = some o → ∀ (a : Act) (w : World),
      (∀ k, ((CH ++ TL).map (·.d)).contains k = false → a.tmps.getD k undef = a0.tmps.getD k undef) →
      (∀ (k : Nat) (u : HOp), TL[k]? = some u → Region.waitsFor .any l.toArray t.i u.i = true → u.p (u.s.map fun k => a.tmps.getD k undef) w) →
      wpList P l.toArray (OneStill t.d a w fun v w' => t.p (t.s.map fun k => if t.d = k then v else a.tmps.getD k undef) w') [o] a w) TL)
    (hend : ∀ (g : Nat → Value) (w : World), G CH.length (CH.map fun c => g c.d) w → (∀ (k : Nat) (u : HOp), TL[k]? = some u → u.p (u.s.map fun k => if k ∈ (CH ++ TL).map (·.d) then g k else a0.tmps.getD k undef) w) →
      wpList P l.toArray Q (l.drop n) (putAll a0 (((CH ++ TL).map (·.d)).map fun d => (d, g d))) w) : (Code.region id l.toArray true).wp P Q a0 w0 := by
  obtain ⟨T, hTdef⟩ : ∃ T, CH ++ TL = T := ⟨_, rfl⟩
  have memC : ∀ t ∈ CH, t ∈ T := fun t ht => by rw [← hTdef]; exact List.mem_append_left _ ht
  have memL : ∀ t ∈ TL, t ∈ T := fun t ht => by rw [← hTdef]; exact List.mem_append_right _ ht
  have split : ∀ t ∈ T, t ∈ CH ∨ t ∈ TL := fun t ht => by rw [← hTdef] at ht; exact List.mem_append.1 ht
  rw [hTdef] at hB hopC hopL hend
  rw [Bool.and_eq_true, Bool.and_eq_true] at hB
  obtain ⟨⟨hB, hlink⟩, hdis⟩ := hB
  have hdis2 : ∀ t ∈ TL, ∀ c ∈ CH, t.i ≠ c.i ∧ t.d ≠ c.d := by
    intro t ht c hc
    have := List.all_eq_true.1 (List.all_eq_true.1 hdis t ht) c hc
    simpa using this
  have hlk : ∀ m c e, CH[m]? = some c → CH[m + 1]? = some e → Region.waitsFor .any l.toArray e.i c.i = true := fun m c e h1 h2 =>
    linkOk_get hlink m c.i e.i (by rw [List.getElem?_map, h1]; rfl) (by rw [List.getElem?_map, h2]; rfl)
  simp only [headOk, Bool.and_eq_true, decide_eq_true_eq] at hB
  obtain ⟨⟨⟨⟨⟨⟨⟨hnd, hn⟩, hs⟩, hc⟩, hseq⟩, hcov⟩, hT⟩, hpair⟩ := hB
  have hnodup : ∀ t ∈ T, ∀ u ∈ T, t.i = u.i → t = u := inj_nodup (·.i) T (by rw [List.map_map] at hnd; exact hnd)
  have hn' : n < l.toArray.size := by simpa using hn
  have cover : ∀ j, j < n → ∃ t ∈ T, t.i = j := by
    intro j hj
    have h := List.all_eq_true.1 hcov j (List.mem_range.2 hj)
    obtain ⟨x, hx, he⟩ := List.any_eq_true.1 h
    obtain ⟨t, ht, rfl⟩ := List.mem_map.1 hx
    exact ⟨t, ht, by simpa using he⟩
  have own : ∀ t ∈ T, t.i < n ∧ t.d < a0.tmps.size ∧ ∃ o, l[t.i]? = some o ∧ o.dst = some t.d ∧ ∀ e ∈ o.after, Region.binds .any e = true → e.on < t.i := by
    intro t ht
    have h := List.all_eq_true.1 hT _ (List.mem_map.2 ⟨t, ht, rfl⟩)
    simp only [Bool.and_eq_true, decide_eq_true_eq] at h
    obtain ⟨⟨h1, h2⟩, h3⟩ := h
    refine ⟨h1, h2, ?_⟩
    cases ho : l[t.i]? with
    | none => rw [ho] at h3; cases h3
    | some o =>
      rw [ho] at h3
      simp only [Bool.and_eq_true, beq_iff_eq] at h3
      refine ⟨o, rfl, h3.1, fun e he hb => ?_⟩
      have := Array.all_eq_true_iff_forall_mem.1 h3.2 e he
      simpa [hb] using this
  have pair : ∀ t ∈ T, ∀ u ∈ T, t.i ≠ u.i → t.d ≠ u.d ∧ (t.d ∈ u.s → Region.waitsFor .any l.toArray u.i t.i = true) := by
    intro t ht u hu hne
    have h := List.all_eq_true.1 (List.all_eq_true.1 hpair _ (List.mem_map.2 ⟨t, ht, rfl⟩)) _ (List.mem_map.2 ⟨u, hu, rfl⟩)
    simp only [Bool.or_eq_true, beq_iff_eq, hne, false_or, Bool.and_eq_true, bne_iff_ne, ne_eq, Bool.not_eq_true'] at h
    refine ⟨h.1, fun hin => ?_⟩
    rcases h.2 with h2 | h2
    · have : u.s.contains t.d = true := by simpa using hin
      rw [this] at h2; cases h2
    · exact h2
  have key : ∀ (f : Nat) (listed : Array Bool) (a : Act) (w : World), ChInv l n CH TL T a0 G listed a w → todo listed n = f → wpAny P .any l.toArray Q (f + (l.length - n)) listed a w := by
    intro f
    induction f with
    | zero =>
      intro listed a w I h0
      have hall : ∀ j, j < n → listed.getD j true = true := by
        intro j hj
        cases hb : listed.getD j true with
        | true => rfl
        | false =>
          have : j ∈ (List.range n).filter fun j => !listed.getD j true := List.mem_filter.2 ⟨List.mem_range.2 hj, by rw [hb]; rfl⟩
          unfold todo at h0
          rw [List.eq_nil_of_length_eq_zero h0] at this
          cases this
      have hlist : listed = (List.replicate n true ++ List.replicate (l.length - n) false).toArray := by
        have hsz := I.inv.size
        apply Array.ext
        · simp at hsz ⊢; omega
        · intro j h1 h2
          by_cases hj : j < n
          · have := hall j hj
            simp [Array.getD, h1] at this
            simp [this, List.getElem_append_left, hj]
          · have := I.inv.tail j (by omega) (by rw [← hsz]; exact h1)
            simp [Array.getD, h1] at this
            simp only [this, List.getElem_toArray]
            rw [List.getElem_append_right (by simp; omega)]
            simp
      have ha : a = putAll a0 ((T.map (·.d)).map fun d => (d, a.tmps.getD d undef)) := by
        have hd : ∀ d ∈ T.map (·.d), d < a0.tmps.size := by
          intro d hd
          obtain ⟨t, ht, rfl⟩ := List.mem_map.1 hd
          exact (own t ht).2.1
        refine act_ext (by rw [putAll_defers]; exact I.defers) (by rw [putAll_size]; exact I.size) (fun k => ?_)
        rw [putAll_get (fun d => a.tmps.getD d undef) _ _ _ hd]
        by_cases h : k ∈ T.map (·.d)
        · rw [if_pos h]
        · rw [if_neg h]
          exact I.frame k (fun t ht e => h (List.mem_map.2 ⟨t, ht, e⟩))
      have hls : ∀ t ∈ T, listed.getD t.i false = true := by
        intro t ht
        have := hall t.i (own t ht).1
        rcases Nat.lt_or_ge t.i listed.size with h' | h'
        · simp [h'] at this ⊢; exact this
        · have := I.inv.size; have := (own t ht).1; omega
      obtain ⟨j, hj, hjs, hG⟩ := I.stage
      have hjl : j = CH.length := by
        rcases Nat.lt_or_ge j CH.length with h | h
        · have h1 : CH[j]? = some CH[j] := by simp [h]
          have := (hjs j _ h1).1 (hls _ (memC _ (List.getElem_mem h)))
          omega
        · omega
      rw [hjl] at hG
      have hfin := hend (fun d => a.tmps.getD d undef) w hG (fun k u hu => by
        have hu' := List.mem_of_getElem? hu
        have h1 := I.facts u hu' (hls u (memL u hu'))
        unfold HOp.fact at h1
        have e : (u.s.map fun k => if k ∈ T.map (·.d) then a.tmps.getD k undef else a0.tmps.getD k undef) = u.s.map fun k => a.tmps.getD k undef := by
          apply List.map_congr_left
          intro k _
          by_cases h : k ∈ T.map (·.d)
          · rw [if_pos h]
          · rw [if_neg h]
            exact (I.frame k (fun t ht e => h (List.mem_map.2 ⟨t, ht, e⟩))).symm
        rw [e]
        exact h1)
      rw [← ha] at hfin
      rw [Nat.zero_add]
      have hseq' : Region.seqB .any l.toArray (l.drop n).length n listed = true := by rw [hlist, List.length_drop]; exact hseq
      have := wpAny_of_seq (md := .any) (Q' := Q) (l.drop n) n listed a w (fun j => by simp [List.getElem?_drop]) hseq' hfin
      rwa [List.length_drop] at this
    | succ f ih =>
      intro listed a w I hf
      have hex : ∃ j, j < n ∧ listed.getD j true = false := by
        cases hL : (List.range n).filter fun j => !listed.getD j true with
        | nil => unfold todo at hf; rw [hL] at hf; cases hf
        | cons j L =>
          have : j ∈ (List.range n).filter fun j => !listed.getD j true := by rw [hL]; exact List.mem_cons_self
          obtain ⟨h1, h2⟩ := List.mem_filter.1 this
          exact ⟨j, List.mem_range.1 h1, by simpa using h2⟩
      have hready : Region.ready .any l.toArray listed ≠ [] := by
        have hmin : ∀ m j, j ≤ m → j < n → listed.getD j true = false → ∃ i, i ∈ Region.ready .any l.toArray listed := by
          intro m
          induction m with
          | zero =>
            intro j hj hjn hjl
            have hj0 : j = 0 := by omega
            subst hj0
            obtain ⟨t, ht, hti⟩ := cover 0 hjn
            obtain ⟨_, _, o, ho, _, hb⟩ := own t ht
            rw [hti] at ho hb
            exact ⟨0, mem_ready.2 ⟨hjl, o, by simpa using ho, fun e he hbe => absurd (hb e he hbe) (by omega)⟩⟩
          | succ m ihm =>
            intro j hj hjn hjl
            obtain ⟨t, ht, hti⟩ := cover j hjn
            obtain ⟨_, _, o, ho, _, hb⟩ := own t ht
            rw [hti] at ho hb
            by_cases hall : ∀ e ∈ o.after, Region.binds .any e = true → listed.getD e.on false = true
            · exact ⟨j, mem_ready.2 ⟨hjl, o, by simpa using ho, hall⟩⟩
            · simp only [Classical.not_forall] at hall
              obtain ⟨e, he, hbe, hne⟩ := hall
              have hlt := hb e he hbe
              have hes : e.on < listed.size := by rw [I.inv.size]; simp; omega
              exact ihm e.on (by omega) (by omega) (getD_in hes (by simpa using hne))
        obtain ⟨j, hj, hjl⟩ := hex
        obtain ⟨i, hi⟩ := hmin j j (Nat.le_refl _) hj hjl
        intro h
        rw [h] at hi
        cases hi
      rw [show f + 1 + (l.length - n) = (f + (l.length - n)) + 1 by omega]
      refine ⟨fun h => absurd h hready, fun i hi => ?_⟩
      have hin : i < n := by
        rcases Nat.lt_or_ge i n with h | h
        · exact h
        · obtain ⟨j, hj, hjl⟩ := hex
          exact absurd hi (tail_waits hs hc hn' I.inv _ j rfl hj hjl i h)
      obtain ⟨t, ht, hti⟩ := cover i hin
      obtain ⟨_, htd, o, ho, hdst, _⟩ := own t ht
      obtain ⟨hil, oi, hoi, hafter⟩ := mem_ready.1 hi
      have hoo : oi = o := by rw [hti] at ho; exact Option.some.inj (hoi.symm.trans (by simpa using ho))
      subst hoo
      have hframe : ∀ k, (T.map (·.d)).contains k = false → a.tmps.getD k undef = a0.tmps.getD k undef := fun k hk => I.frame k (fun u hu e => by
          have : (T.map (·.d)).contains k = true := by simpa using ⟨u, hu, e⟩
          rw [this] at hk; cases hk)
      have hfacts : ∀ (k : Nat) (u : HOp), TL[k]? = some u → Region.waitsFor .any l.toArray t.i u.i = true → u.p (u.s.map fun k => a.tmps.getD k undef) w := fun k u hu hw => by
        have hu' := List.mem_of_getElem? hu
        obtain ⟨oj, hoj, e, he, hb, hon⟩ := Region.waitsFor_spec hw
        have : oj = oi := by rw [hti] at hoj; exact Option.some.inj (hoj.symm.trans hoi)
        subst this
        have h1 := hafter e he hb
        rw [hon] at h1
        exact I.facts u hu' h1
      have step0 : ∀ (v : Value) (w' : World), (∃ j, j ≤ CH.length ∧ (∀ m c, CH[m]? = some c → ((listed.setIfInBounds i true).getD c.i false = true ↔ m < j)) ∧ G j (CH.map fun c => (a.put (some t.d) v).tmps.getD c.d undef) w') →
          (t ∈ TL → t.p (t.s.map fun k => if t.d = k then v else a.tmps.getD k undef) w') → wpAny P .any l.toArray Q (f + (l.length - n)) (listed.setIfInBounds i true) (a.put (some t.d) v) w' := by
        intro v w' hst hp
        refine ih _ _ _ ⟨I.inv.set hi hin, I.defers, ?_, ?_, hst, ?_⟩ ?_
        · rw [← I.size]; simp [Act.put]
        · intro k hk
          rw [put_get, if_neg (fun h => hk t ht h.1)]
          exact I.frame k hk
        · intro u hu hul
          by_cases hui : t.i = u.i
          · unfold HOp.fact
            have hut : u = t := hnodup u (memL u hu) t ht hui.symm
            subst hut
            have e : (u.s.map fun k => (a.put (some u.d) v).tmps.getD k undef) = u.s.map fun k => if u.d = k then v else a.tmps.getD k undef := by
              apply List.map_congr_left
              intro k _
              rw [put_get, I.size]
              by_cases hk : u.d = k
              · rw [if_pos ⟨hk, htd⟩, if_pos hk]
              · rw [if_neg (fun h => hk h.1), if_neg hk]
            rw [e]
            exact hp hu
          · unfold HOp.fact
            have hul2 : listed.getD u.i false = true := by rw [← getD_set_ne false (i := i) (j := u.i) (by rw [← hti]; exact hui)]; exact hul
            have h1 := hmono.mem u hu _ w w' (I.facts u hu hul2)
            have hnot : t.d ∉ u.s := by
              intro hin2
              have hw := (pair t ht u (memL u hu) hui).2 hin2
              obtain ⟨ou, hou, e, he, hb, hon⟩ := Region.waitsFor_spec hw
              have := I.inv.closed u.i ou hou hul2 e he hb
              rw [hon, hti, getD_both hil] at this
              cases this
            have e : (u.s.map fun k => (a.put (some t.d) v).tmps.getD k undef) = u.s.map fun k => a.tmps.getD k undef := by
              apply List.map_congr_left
              intro k hk
              rw [put_get, if_neg (fun (h : t.d = k ∧ t.d < a.tmps.size) => hnot (by rw [h.1]; exact hk))]
            rw [e]
            exact h1
        · have := todo_set hin hil; omega
      have fin : ∀ (R : Exit → Act → World → Prop), (∀ e a' w', R e a' w' → e = .normal) → (∀ a' w', R .normal a' w' → wpAny P .any l.toArray Q (f + (l.length - n)) (listed.setIfInBounds i true) a' w') → wpList P l.toArray R [oi] a w → wpOp P l.toArray Q i (fun a' w' => wpAny P .any l.toArray Q (f + (l.length - n)) (listed.setIfInBounds i true) a' w') a w := by
        intro R hR step H
        unfold wpList at H
        unfold wpOp
        rw [hoi]
        simp only
        by_cases hwant : Region.wanted oi (yielded l.toArray a.tmps) = true
        · rw [if_pos hwant] at H
          rw [if_pos hwant]
          left
          rcases H with H | ⟨_, a1, w1, h1⟩
          · exact wp_both (fun a' w' h => step a' w' h) (fun e a' w' he h => absurd (hR _ _ _ h) he) H
          · exact absurd (hR _ _ _ h1) (by simp)
        · rw [if_neg hwant] at H
          rw [if_neg hwant]
          exact step _ _ H
      obtain ⟨j, hj, hjs, hG⟩ := I.stage
      rcases split t ht with h | h
      · obtain ⟨j0, hj0l, hj0⟩ := List.mem_iff_getElem.1 h
        have hg0 : CH[j0]? = some t := by rw [List.getElem?_eq_getElem hj0l, hj0]
        have hnl : listed.getD t.i false = false := by rw [hti]; exact getD_both hil
        have h1 : ¬ j0 < j := fun h => by rw [(hjs j0 t hg0).2 h] at hnl; cases hnl
        have h2 : j0 ≤ j := by
          cases j0 with
          | zero => omega
          | succ q =>
            have hq : CH[q]? = some CH[q] := by simp
            obtain ⟨oj, hoj, e, he, hb, hon⟩ := Region.waitsFor_spec (hlk q _ t hq hg0)
            have : oj = oi := by rw [hti] at hoj; exact Option.some.inj (hoj.symm.trans hoi)
            subst this
            have h3 := hafter e he hb
            rw [hon] at h3
            have := (hjs q _ hq).1 h3
            omega
        obtain rfl : j0 = j := by omega
        refine fin _ (fun e a' w' h => h.1) ?_ (hopC j0 t hg0 oi ho a w hG hframe hfacts)
        rintro a' w' ⟨_, v, rfl, hG'⟩
        refine step0 v w' ⟨j0 + 1, by omega, ?_, ?_⟩ (fun hL => absurd rfl (hdis2 t hL t h).1)
        · intro m c hc
          by_cases hci : c.i = i
          · have hct : c = t := hnodup c (memC c (List.mem_of_getElem? hc)) t ht (by rw [hci, hti])
            subst hct
            have hm0 : m = j0 := by
              rcases Nat.lt_trichotomy m j0 with h | h | h
              · have := (hjs m c hc).2 h
                rw [hnl] at this; cases this
              · exact h
              · exfalso
                have hnd2 : (CH.map (·.i)).Nodup := by
                  have h5 := hnd
                  rw [← hTdef, List.map_map, List.map_append] at h5
                  exact (List.nodup_append.1 h5).1
                have h6 : (CH.map (·.i))[m]? = some c.i := by rw [List.getElem?_map, hc]; rfl
                have h7 : (CH.map (·.i))[j0]? = some c.i := by rw [List.getElem?_map, hg0]; rfl
                obtain ⟨hm1, hm2⟩ := List.getElem?_eq_some_iff.1 h6
                have := (List.getElem?_inj hm1 hnd2).1 (h6.trans h7.symm)
                omega
            subst hm0
            have hlt : i < listed.size := by rw [I.inv.size]; simp; have := hn; omega
            rw [hci]
            simp [hlt]
          · rw [getD_set_ne false (fun e => hci e.symm), hjs m c hc]
            constructor
            · intro h; omega
            · intro h
              rcases Nat.lt_or_ge m j0 with h' | h'
              · exact h'
              · obtain rfl : m = j0 := by omega
                rw [hg0] at hc
                cases hc
                exact absurd hti hci
        · have e : (CH.map fun c => (a.put (some t.d) v).tmps.getD c.d undef) = CH.map fun e => if e.d = t.d then v else a.tmps.getD e.d undef := by
            apply List.map_congr_left
            intro c _
            rw [put_get, I.size]
            by_cases hk : t.d = c.d
            · rw [if_pos ⟨hk, htd⟩, if_pos hk.symm]
            · rw [if_neg (fun h => hk h.1), if_neg (fun h => hk h.symm)]
          rw [e]
          exact hG'
      · refine fin _ (fun e a' w' h => h.1) ?_ (hopL.mem t h oi ho a w hframe hfacts)
        rintro a' w' ⟨_, v, rfl, rfl, hp⟩
        refine step0 v _ ⟨j, hj, ?_, ?_⟩ (fun _ => hp)
        · intro m c hc
          rw [getD_set_ne false (by rw [← hti]; exact (hdis2 t h c (List.mem_of_getElem? hc)).1)]
          exact hjs m c hc
        · have e : (CH.map fun c => (a.put (some t.d) v).tmps.getD c.d undef) = CH.map fun c => a.tmps.getD c.d undef := by
            apply List.map_congr_left
            intro c hc
            rw [put_get, if_neg (fun hh => (hdis2 t h c hc).2 hh.1)]
          rw [e]
          exact hG
  refine wp_region_any hm ?_
  have inv0 : HeadInv .any l.toArray n (Array.replicate l.toArray.size false) :=
    ⟨by simp, fun j oj _ hl => (by rw [getD_replicate_false] at hl; cases hl), fun t _ ht => getD_in (by simpa using ht) (getD_replicate_false _ _)⟩
  have I0 : ChInv l n CH TL T a0 G (Array.replicate l.toArray.size false) a0 { w0 with drawn := w0.drawn + 1 } :=
    ⟨inv0, rfl, rfl, fun _ _ => rfl, ⟨0, Nat.zero_le _, fun m c _ => (by rw [getD_replicate_false]; simp), hG0⟩, fun t _ hl => (by rw [getD_replicate_false] at hl; cases hl)⟩
  have ht0 : todo (Array.replicate l.toArray.size false) n = n := by
    unfold todo
    rw [List.filter_eq_self.2 (fun j hj => by
      have hj' := List.mem_range.1 hj
      have : (Array.replicate l.toArray.size false).getD j true = false := getD_in (by simp; omega) (getD_replicate_false _ _)
      rw [this]; rfl), List.length_range]
  have := key n _ _ _ I0 ht0
  rwa [show n + (l.length - n) = l.toArray.size by simp; omega] at this
end
end Go.Dx
end

/- the text Free4 -/
section
/- A region that draws its order: some operations follow one another (CH) and may change what they own; the others (TL) may make memory, come at any time, and their facts outlast what the chain does (R). No program in sight. -/
set_option linter.unusedVariables false
namespace Go.Dx
open Go.RowKit

def headOk4 (l : List Oper) (n : Nat) (T : List (Nat × Nat × List Nat)) : Bool :=
  let ops := l.toArray
  decide ((T.map (·.1)).Nodup) && decide (n < l.length) && Region.sinkB .any ops n && Region.chainB .any ops n && Region.seqB .any ops (l.length - n) n ((List.replicate n true ++ List.replicate (l.length - n) false).toArray) &&
  (List.range n).all (fun j => T.any fun t => t.1 == j) &&
  T.all (fun t => decide (t.1 < n) && (match l[t.1]? with | some o => (o.after.all fun e => !Region.binds .any e || decide (e.on < t.1)) | none => false)) &&
  T.all (fun t => T.all fun u => t.1 == u.1 || (t.2.1 != u.2.1 && (!u.2.2.contains t.2.1 || Region.waitsFor .any ops u.1 t.1)))
theorem putAll_get4 (g : Nat → Value) : ∀ (L : List Nat) (a : Act) (k : Nat), (putAll a (L.map fun d => (d, g d))).tmps.getD k undef = if k ∈ L ∧ k < a.tmps.size then g k else a.tmps.getD k undef := by
  intro L
  induction L with
  | nil => intro a k; simp [putAll]
  | cons d L ih =>
    intro a k
    have hz : (a.put (some d) (g d)).tmps.size = a.tmps.size := by simp [Act.put]
    rw [List.map_cons, putAll, ih, put_get, hz]
    by_cases h0 : k < a.tmps.size
    · by_cases h1 : k ∈ L
      · rw [if_pos ⟨h1, h0⟩, if_pos ⟨List.mem_cons_of_mem _ h1, h0⟩]
      · rw [if_neg (fun h => h1 h.1)]
        by_cases h2 : d = k
        · subst h2; rw [if_pos ⟨rfl, h0⟩, if_pos ⟨List.mem_cons_self, h0⟩]
        · rw [if_neg (fun h => h2 h.1), if_neg (fun h => by rcases List.mem_cons.1 h.1 with h | h; exact h2 h.symm; exact h1 h)]
    · rw [if_neg (fun h => h0 h.2), if_neg (fun h => h0 (by omega)), if_neg (fun h => h0 h.2)]
section
variable {P : Program}
/-- one operation of the chain is done -/
def OneTurn4 (c : HOp) (a : Act) (R : Value → World → Prop) (e : Exit) (a' : Act) (w' : World) : Prop := e = .normal ∧ ∃ v, a' = (if c.s = [] then a.put (some c.d) v else a) ∧ R v w'
theorem put_out (a : Act) (d : Nat) (v : Value) (h : a.tmps.size ≤ d) : a.put (some d) v = a := by
  refine act_ext rfl (by simp [Act.put]) (fun k => ?_)
  rw [put_get, if_neg (fun hh => by omega)]
/-- A chain operation without a slot (a store) is given a slot beyond the frame and 's' not []. -/
theorem wp_region_chain4 {id : Nat} {Q : Exit → Act → World → Prop} {a0 : Act} {w0 : World} {l : List Oper} (n : Nat) (R4 : World → World → Prop) (G : Nat → List Value → World → Prop) (CH TL : List HOp) (hm : P.follows .mixedOrders = true)
    (hB : ((TL.all fun t => decide (t.d < a0.tmps.size)) && (CH.all fun c => if c.s = [] then decide (c.d < a0.tmps.size) else decide (a0.tmps.size ≤ c.d)) && headOk4 l n ((CH ++ TL).map fun t => (t.i, t.d, if TL.any (fun u => u.i == t.i) then t.s else [])) && linkOk l.toArray (CH.map (·.i)) && (TL.all fun t => CH.all fun c => t.i != c.i && t.d != c.d)) = true)
    (hG0 : G 0 (CH.map fun c => a0.tmps.getD c.d undef) { w0 with drawn := w0.drawn + 1 })
    (hR : ∀ w w', Below w.heap.size w w' → R4 w w')
    (hGm : ∀ j vs w w', Below w.heap.size w w' → G j vs w → G j vs w')
    (hmono : All (fun t : HOp => ∀ vs w w', R4 w w' → t.p vs w → t.p vs w') TL)
    (hopC : ∀ m c, CH[m]? = some c → ∀ o, l[c.i]? = some o → ∀ (a : Act) (w : World), G m (CH.map fun c => a.tmps.getD c.d undef) w →
      (∀ k, ((CH ++ TL).map (·.d)).contains k = false → a.tmps.getD k undef = a0.tmps.getD k undef) →
      (∀ (k : Nat) (u : HOp), TL[k]? = some u → Region.waitsFor .any l.toArray c.i u.i = true → u.p (u.s.map fun k => a.tmps.getD k undef) w) →
      wpList P l.toArray (OneTurn4 c a fun v w' => R4 w w' ∧ G (m + 1) (CH.map fun e => if e.d = c.d then (if c.s = [] then v else undef) else a.tmps.getD e.d undef) w') [o] a w)
    (hopL : All (fun t : HOp => ∀ o, l[t.i]? = some o → ∀ (a : Act) (w : World),
      (∀ k, ((CH ++ TL).map (·.d)).contains k = false → a.tmps.getD k undef = a0.tmps.getD k undef) →
      (∀ (k : Nat) (u : HOp), TL[k]? = some u → Region.waitsFor .any l.toArray t.i u.i = true → u.p (u.s.map fun k => a.tmps.getD k undef) w) →
      (∃ j, (∀ m c, CH[m]? = some c → Region.waitsFor .any l.toArray t.i c.i = true → m < j) ∧ j ≤ CH.length ∧ G j (CH.map fun c => a.tmps.getD c.d undef) w) →
      wpList P l.toArray (OneDone t.d a w fun v w' => t.p (t.s.map fun k => if t.d = k then v else a.tmps.getD k undef) w') [o] a w) TL)
    (hend : ∀ (g : Nat → Value) (w : World), G CH.length (CH.map fun c => g c.d) w → (∀ (k : Nat) (u : HOp), TL[k]? = some u → u.p (u.s.map fun k => if k ∈ (CH ++ TL).map (·.d) then g k else a0.tmps.getD k undef) w) →
      wpList P l.toArray Q (l.drop n) (putAll a0 (((CH ++ TL).map (·.d)).map fun d => (d, g d))) w) : (Code.region id l.toArray true).wp P Q a0 w0 := by
  obtain ⟨T, hTdef⟩ : ∃ T, CH ++ TL = T := ⟨_, rfl⟩
  have memC : ∀ t ∈ CH, t ∈ T := fun t ht => by rw [← hTdef]; exact List.mem_append_left _ ht
  have memL : ∀ t ∈ TL, t ∈ T := fun t ht => by rw [← hTdef]; exact List.mem_append_right _ ht
  have split : ∀ t ∈ T, t ∈ CH ∨ t ∈ TL := fun t ht => by rw [← hTdef] at ht; exact List.mem_append.1 ht
  rw [hTdef] at hB hopC hopL hend
  rw [Bool.and_eq_true, Bool.and_eq_true] at hB
  obtain ⟨⟨hB, hlink⟩, hdis⟩ := hB
  rw [Bool.and_eq_true, Bool.and_eq_true] at hB
  obtain ⟨⟨hTLd, hCHd⟩, hB⟩ := hB
  have htl : ∀ t ∈ TL, t.d < a0.tmps.size := fun t ht => by simpa using List.all_eq_true.1 hTLd t ht
  have hch : ∀ c ∈ CH, c.s = [] → c.d < a0.tmps.size := fun c hc hs => by have := List.all_eq_true.1 hCHd c hc; simpa [hs] using this
  have hch2 : ∀ c ∈ CH, c.s ≠ [] → a0.tmps.size ≤ c.d := fun c hc hs => by have := List.all_eq_true.1 hCHd c hc; simpa [hs] using this
  have hdis2 : ∀ t ∈ TL, ∀ c ∈ CH, t.i ≠ c.i ∧ t.d ≠ c.d := by
    intro t ht c hc
    have := List.all_eq_true.1 (List.all_eq_true.1 hdis t ht) c hc
    simpa using this
  have hlk : ∀ m c e, CH[m]? = some c → CH[m + 1]? = some e → Region.waitsFor .any l.toArray e.i c.i = true := fun m c e h1 h2 =>
    linkOk_get hlink m c.i e.i (by rw [List.getElem?_map, h1]; rfl) (by rw [List.getElem?_map, h2]; rfl)
  simp only [headOk4, Bool.and_eq_true, decide_eq_true_eq] at hB
  obtain ⟨⟨⟨⟨⟨⟨⟨hnd, hn⟩, hs⟩, hc⟩, hseq⟩, hcov⟩, hT⟩, hpair⟩ := hB
  have hnodup : ∀ t ∈ T, ∀ u ∈ T, t.i = u.i → t = u := inj_nodup (·.i) T (by rw [List.map_map] at hnd; exact hnd)
  have hn' : n < l.toArray.size := by simpa using hn
  have cover : ∀ j, j < n → ∃ t ∈ T, t.i = j := by
    intro j hj
    have h := List.all_eq_true.1 hcov j (List.mem_range.2 hj)
    obtain ⟨x, hx, he⟩ := List.any_eq_true.1 h
    obtain ⟨t, ht, rfl⟩ := List.mem_map.1 hx
    exact ⟨t, ht, by simpa using he⟩
  have own : ∀ t ∈ T, t.i < n ∧ ∃ o, l[t.i]? = some o ∧ ∀ e ∈ o.after, Region.binds .any e = true → e.on < t.i := by
    intro t ht
    have h := List.all_eq_true.1 hT _ (List.mem_map.2 ⟨t, ht, rfl⟩)
    simp only [Bool.and_eq_true, decide_eq_true_eq] at h
    obtain ⟨h1, h3⟩ := h
    refine ⟨h1, ?_⟩
    cases ho : l[t.i]? with
    | none => rw [ho] at h3; cases h3
    | some o =>
      rw [ho] at h3
      refine ⟨o, rfl, fun e he hb => ?_⟩
      have := Array.all_eq_true_iff_forall_mem.1 h3 e he
      simpa [hb] using this
  have pair : ∀ t ∈ T, ∀ u ∈ T, t.i ≠ u.i → t.d ≠ u.d ∧ (u ∈ TL → t.d ∈ u.s → Region.waitsFor .any l.toArray u.i t.i = true) := by
    intro t ht u hu hne
    have h := List.all_eq_true.1 (List.all_eq_true.1 hpair _ (List.mem_map.2 ⟨t, ht, rfl⟩)) _ (List.mem_map.2 ⟨u, hu, rfl⟩)
    simp only [Bool.or_eq_true, beq_iff_eq, hne, false_or, Bool.and_eq_true, bne_iff_ne, ne_eq, Bool.not_eq_true'] at h
    refine ⟨h.1, fun huL hin => ?_⟩
    have hany : (TL.any fun v => v.i == u.i) = true := List.any_eq_true.2 ⟨u, huL, by simp⟩
    rw [hany, if_pos rfl] at h
    rcases h.2 with h2 | h2
    · have : u.s.contains t.d = true := by simpa using hin
      rw [this] at h2; cases h2
    · exact h2
  have key : ∀ (f : Nat) (listed : Array Bool) (a : Act) (w : World), ChInv l n CH TL T a0 G listed a w → todo listed n = f → wpAny P .any l.toArray Q (f + (l.length - n)) listed a w := by
    intro f
    induction f with
    | zero =>
      intro listed a w I h0
      have hall : ∀ j, j < n → listed.getD j true = true := by
        intro j hj
        cases hb : listed.getD j true with
        | true => rfl
        | false =>
          have : j ∈ (List.range n).filter fun j => !listed.getD j true := List.mem_filter.2 ⟨List.mem_range.2 hj, by rw [hb]; rfl⟩
          unfold todo at h0
          rw [List.eq_nil_of_length_eq_zero h0] at this
          cases this
      have hlist : listed = (List.replicate n true ++ List.replicate (l.length - n) false).toArray := by
        have hsz := I.inv.size
        apply Array.ext
        · simp at hsz ⊢; omega
        · intro j h1 h2
          by_cases hj : j < n
          · have := hall j hj
            simp [Array.getD, h1] at this
            simp [this, List.getElem_append_left, hj]
          · have := I.inv.tail j (by omega) (by rw [← hsz]; exact h1)
            simp [Array.getD, h1] at this
            simp only [this, List.getElem_toArray]
            rw [List.getElem_append_right (by simp; omega)]
            simp
      have ha : a = putAll a0 ((T.map (·.d)).map fun d => (d, a.tmps.getD d undef)) := by
        refine act_ext (by rw [putAll_defers]; exact I.defers) (by rw [putAll_size]; exact I.size) (fun k => ?_)
        rw [putAll_get4 (fun d => a.tmps.getD d undef)]
        by_cases h0 : k < a0.tmps.size
        · by_cases h : k ∈ T.map (·.d)
          · rw [if_pos ⟨h, h0⟩]
          · rw [if_neg (fun hh => h hh.1)]
            exact I.frame k (fun t ht e => h (List.mem_map.2 ⟨t, ht, e⟩))
        · rw [if_neg (fun hh => h0 hh.2)]
          have h1 := I.size
          have hk : ¬ k < a.tmps.size := by omega
          simp [Array.getD, hk, h0]
      have hls : ∀ t ∈ T, listed.getD t.i false = true := by
        intro t ht
        have := hall t.i (own t ht).1
        rcases Nat.lt_or_ge t.i listed.size with h' | h'
        · simp [h'] at this ⊢; exact this
        · have := I.inv.size; have := (own t ht).1; omega
      obtain ⟨j, hj, hjs, hG⟩ := I.stage
      have hjl : j = CH.length := by
        rcases Nat.lt_or_ge j CH.length with h | h
        · have h1 : CH[j]? = some CH[j] := by simp [h]
          have := (hjs j _ h1).1 (hls _ (memC _ (List.getElem_mem h)))
          omega
        · omega
      rw [hjl] at hG
      have hfin := hend (fun d => a.tmps.getD d undef) w hG (fun k u hu => by
        have hu' := List.mem_of_getElem? hu
        have h1 := I.facts u hu' (hls u (memL u hu'))
        unfold HOp.fact at h1
        have e : (u.s.map fun k => if k ∈ T.map (·.d) then a.tmps.getD k undef else a0.tmps.getD k undef) = u.s.map fun k => a.tmps.getD k undef := by
          apply List.map_congr_left
          intro k _
          by_cases h : k ∈ T.map (·.d)
          · rw [if_pos h]
          · rw [if_neg h]
            exact (I.frame k (fun t ht e => h (List.mem_map.2 ⟨t, ht, e⟩))).symm
        rw [e]
        exact h1)
      rw [← ha] at hfin
      rw [Nat.zero_add]
      have hseq' : Region.seqB .any l.toArray (l.drop n).length n listed = true := by rw [hlist, List.length_drop]; exact hseq
      have := wpAny_of_seq (md := .any) (Q' := Q) (l.drop n) n listed a w (fun j => by simp [List.getElem?_drop]) hseq' hfin
      rwa [List.length_drop] at this
    | succ f ih =>
      intro listed a w I hf
      have hex : ∃ j, j < n ∧ listed.getD j true = false := by
        cases hL : (List.range n).filter fun j => !listed.getD j true with
        | nil => unfold todo at hf; rw [hL] at hf; cases hf
        | cons j L =>
          have : j ∈ (List.range n).filter fun j => !listed.getD j true := by rw [hL]; exact List.mem_cons_self
          obtain ⟨h1, h2⟩ := List.mem_filter.1 this
          exact ⟨j, List.mem_range.1 h1, by simpa using h2⟩
      have hready : Region.ready .any l.toArray listed ≠ [] := by
        have hmin : ∀ m j, j ≤ m → j < n → listed.getD j true = false → ∃ i, i ∈ Region.ready .any l.toArray listed := by
          intro m
          induction m with
          | zero =>
            intro j hj hjn hjl
            have hj0 : j = 0 := by omega
            subst hj0
            obtain ⟨t, ht, hti⟩ := cover 0 hjn
            obtain ⟨_, o, ho, hb⟩ := own t ht
            rw [hti] at ho hb
            exact ⟨0, mem_ready.2 ⟨hjl, o, by simpa using ho, fun e he hbe => absurd (hb e he hbe) (by omega)⟩⟩
          | succ m ihm =>
            intro j hj hjn hjl
            obtain ⟨t, ht, hti⟩ := cover j hjn
            obtain ⟨_, o, ho, hb⟩ := own t ht
            rw [hti] at ho hb
            by_cases hall : ∀ e ∈ o.after, Region.binds .any e = true → listed.getD e.on false = true
            · exact ⟨j, mem_ready.2 ⟨hjl, o, by simpa using ho, hall⟩⟩
            · simp only [Classical.not_forall] at hall
              obtain ⟨e, he, hbe, hne⟩ := hall
              have hlt := hb e he hbe
              have hes : e.on < listed.size := by rw [I.inv.size]; simp; omega
              exact ihm e.on (by omega) (by omega) (getD_in hes (by simpa using hne))
        obtain ⟨j, hj, hjl⟩ := hex
        obtain ⟨i, hi⟩ := hmin j j (Nat.le_refl _) hj hjl
        intro h
        rw [h] at hi
        cases hi
      rw [show f + 1 + (l.length - n) = (f + (l.length - n)) + 1 by omega]
      refine ⟨fun h => absurd h hready, fun i hi => ?_⟩
      have hin : i < n := by
        rcases Nat.lt_or_ge i n with h | h
        · exact h
        · obtain ⟨j, hj, hjl⟩ := hex
          exact absurd hi (tail_waits hs hc hn' I.inv _ j rfl hj hjl i h)
      obtain ⟨t, ht, hti⟩ := cover i hin
      obtain ⟨_, o, ho, _⟩ := own t ht
      obtain ⟨hil, oi, hoi, hafter⟩ := mem_ready.1 hi
      have hoo : oi = o := by rw [hti] at ho; exact Option.some.inj (hoi.symm.trans (by simpa using ho))
      subst hoo
      have hframe : ∀ k, (T.map (·.d)).contains k = false → a.tmps.getD k undef = a0.tmps.getD k undef := fun k hk => I.frame k (fun u hu e => by
          have : (T.map (·.d)).contains k = true := by simpa using ⟨u, hu, e⟩
          rw [this] at hk; cases hk)
      have hfacts : ∀ (k : Nat) (u : HOp), TL[k]? = some u → Region.waitsFor .any l.toArray t.i u.i = true → u.p (u.s.map fun k => a.tmps.getD k undef) w := fun k u hu hw => by
        have hu' := List.mem_of_getElem? hu
        obtain ⟨oj, hoj, e, he, hb, hon⟩ := Region.waitsFor_spec hw
        have : oj = oi := by rw [hti] at hoj; exact Option.some.inj (hoj.symm.trans hoi)
        subst this
        have h1 := hafter e he hb
        rw [hon] at h1
        exact I.facts u hu' h1
      have step0 : ∀ (v : Value) (w' : World), R4 w w' → (∃ j, j ≤ CH.length ∧ (∀ m c, CH[m]? = some c → ((listed.setIfInBounds i true).getD c.i false = true ↔ m < j)) ∧ G j (CH.map fun c => (a.put (some t.d) v).tmps.getD c.d undef) w') →
          (t ∈ TL → t.p (t.s.map fun k => if t.d = k then v else a.tmps.getD k undef) w') → wpAny P .any l.toArray Q (f + (l.length - n)) (listed.setIfInBounds i true) (a.put (some t.d) v) w' := by
        intro v w' hrr hst hp
        refine ih _ _ _ ⟨I.inv.set hi hin, I.defers, ?_, ?_, hst, ?_⟩ ?_
        · rw [← I.size]; simp [Act.put]
        · intro k hk
          rw [put_get, if_neg (fun h => hk t ht h.1)]
          exact I.frame k hk
        · intro u hu hul
          by_cases hui : t.i = u.i
          · unfold HOp.fact
            have hut : u = t := hnodup u (memL u hu) t ht hui.symm
            subst hut
            have e : (u.s.map fun k => (a.put (some u.d) v).tmps.getD k undef) = u.s.map fun k => if u.d = k then v else a.tmps.getD k undef := by
              apply List.map_congr_left
              intro k _
              rw [put_get, I.size]
              by_cases hk : u.d = k
              · rw [if_pos ⟨hk, htl _ hu⟩, if_pos hk]
              · rw [if_neg (fun h => hk h.1), if_neg hk]
            rw [e]
            exact hp hu
          · unfold HOp.fact
            have hul2 : listed.getD u.i false = true := by rw [← getD_set_ne false (i := i) (j := u.i) (by rw [← hti]; exact hui)]; exact hul
            have h1 := hmono.mem u hu _ w w' hrr (I.facts u hu hul2)
            have hnot : t.d ∉ u.s := by
              intro hin2
              have hw := (pair t ht u (memL u hu) hui).2 hu hin2
              obtain ⟨ou, hou, e, he, hb, hon⟩ := Region.waitsFor_spec hw
              have := I.inv.closed u.i ou hou hul2 e he hb
              rw [hon, hti, getD_both hil] at this
              cases this
            have e : (u.s.map fun k => (a.put (some t.d) v).tmps.getD k undef) = u.s.map fun k => a.tmps.getD k undef := by
              apply List.map_congr_left
              intro k hk
              rw [put_get, if_neg (fun (h : t.d = k ∧ t.d < a.tmps.size) => hnot (by rw [h.1]; exact hk))]
            rw [e]
            exact h1
        · have := todo_set hin hil; omega
      have fin : ∀ (R : Exit → Act → World → Prop), (∀ e a' w', R e a' w' → e = .normal) → (∀ a' w', R .normal a' w' → wpAny P .any l.toArray Q (f + (l.length - n)) (listed.setIfInBounds i true) a' w') → wpList P l.toArray R [oi] a w → wpOp P l.toArray Q i (fun a' w' => wpAny P .any l.toArray Q (f + (l.length - n)) (listed.setIfInBounds i true) a' w') a w := by
        intro R hR step H
        unfold wpList at H
        unfold wpOp
        rw [hoi]
        simp only
        by_cases hwant : Region.wanted oi (yielded l.toArray a.tmps) = true
        · rw [if_pos hwant] at H
          rw [if_pos hwant]
          left
          rcases H with H | ⟨_, a1, w1, h1⟩
          · exact wp_both (fun a' w' h => step a' w' h) (fun e a' w' he h => absurd (hR _ _ _ h) he) H
          · exact absurd (hR _ _ _ h1) (by simp)
        · rw [if_neg hwant] at H
          rw [if_neg hwant]
          exact step _ _ H
      obtain ⟨j, hj, hjs, hG⟩ := I.stage
      rcases split t ht with h | h
      · obtain ⟨j0, hj0l, hj0⟩ := List.mem_iff_getElem.1 h
        have hg0 : CH[j0]? = some t := by rw [List.getElem?_eq_getElem hj0l, hj0]
        have hnl : listed.getD t.i false = false := by rw [hti]; exact getD_both hil
        have h1 : ¬ j0 < j := fun h => by rw [(hjs j0 t hg0).2 h] at hnl; cases hnl
        have h2 : j0 ≤ j := by
          cases j0 with
          | zero => omega
          | succ q =>
            have hq : CH[q]? = some CH[q] := by simp
            obtain ⟨oj, hoj, e, he, hb, hon⟩ := Region.waitsFor_spec (hlk q _ t hq hg0)
            have : oj = oi := by rw [hti] at hoj; exact Option.some.inj (hoj.symm.trans hoi)
            subst this
            have h3 := hafter e he hb
            rw [hon] at h3
            have := (hjs q _ hq).1 h3
            omega
        obtain rfl : j0 = j := by omega
        refine fin _ (fun e a' w' h => h.1) ?_ (hopC j0 t hg0 oi ho a w hG hframe hfacts)
        rintro a' w' ⟨_, v, ha', hrr, hG'⟩
        obtain rfl : a' = a.put (some t.d) v := by
          rw [ha']
          by_cases hs0 : t.s = []
          · rw [if_pos hs0]
          · rw [if_neg hs0, put_out a t.d v (by rw [I.size]; exact hch2 t h hs0)]
        refine step0 v w' hrr ⟨j0 + 1, by omega, ?_, ?_⟩ (fun hL => absurd rfl (hdis2 t hL t h).1)
        · intro m c hc
          by_cases hci : c.i = i
          · have hct : c = t := hnodup c (memC c (List.mem_of_getElem? hc)) t ht (by rw [hci, hti])
            subst hct
            have hm0 : m = j0 := by
              rcases Nat.lt_trichotomy m j0 with h | h | h
              · have := (hjs m c hc).2 h
                rw [hnl] at this; cases this
              · exact h
              · exfalso
                have hnd2 : (CH.map (·.i)).Nodup := by
                  have h5 := hnd
                  rw [← hTdef, List.map_map, List.map_append] at h5
                  exact (List.nodup_append.1 h5).1
                have h6 : (CH.map (·.i))[m]? = some c.i := by rw [List.getElem?_map, hc]; rfl
                have h7 : (CH.map (·.i))[j0]? = some c.i := by rw [List.getElem?_map, hg0]; rfl
                obtain ⟨hm1, hm2⟩ := List.getElem?_eq_some_iff.1 h6
                have := (List.getElem?_inj hm1 hnd2).1 (h6.trans h7.symm)
                omega
            subst hm0
            have hlt : i < listed.size := by rw [I.inv.size]; simp; have := hn; omega
            rw [hci]
            simp [hlt]
          · rw [getD_set_ne false (fun e => hci e.symm), hjs m c hc]
            constructor
            · intro h; omega
            · intro h
              rcases Nat.lt_or_ge m j0 with h' | h'
              · exact h'
              · obtain rfl : m = j0 := by omega
                rw [hg0] at hc
                cases hc
                exact absurd hti hci
        · have e : (CH.map fun c => (a.put (some t.d) v).tmps.getD c.d undef) = CH.map fun e => if e.d = t.d then (if t.s = [] then v else undef) else a.tmps.getD e.d undef := by
            apply List.map_congr_left
            intro c _
            rw [put_get, I.size]
            by_cases hk : t.d = c.d
            · by_cases hs0 : t.s = []
              · rw [if_pos ⟨hk, hch t h hs0⟩, if_pos hk.symm, if_pos hs0]
              · have h2 := hch2 t h hs0
                rw [if_neg (fun hh => by omega), if_pos hk.symm, if_neg hs0]
                have h1 := I.size
                have hk : ¬ c.d < a.tmps.size := by omega
                simp [Array.getD, hk]
            · rw [if_neg (fun h => hk h.1), if_neg (fun h => hk h.symm)]
          rw [e]
          exact hG'
      · refine fin _ (fun e a' w' h => h.1) ?_ (hopL.mem t h oi ho a w hframe hfacts ⟨j, ?_, hj, hG⟩)
        rotate_left
        · intro m c hc hw
          obtain ⟨oj, hoj, e, he, hb, hon⟩ := Region.waitsFor_spec hw
          have : oj = oi := by rw [hti] at hoj; exact Option.some.inj (hoj.symm.trans hoi)
          subst this
          have h3 := hafter e he hb
          rw [hon] at h3
          exact (hjs m c hc).1 h3
        rintro a' w' ⟨_, v, rfl, hbl, hp⟩
        refine step0 v _ (hR _ _ hbl) ⟨j, hj, ?_, ?_⟩ (fun _ => hp)
        · intro m c hc
          rw [getD_set_ne false (by rw [← hti]; exact (hdis2 t h c (List.mem_of_getElem? hc)).1)]
          exact hjs m c hc
        · have e : (CH.map fun c => (a.put (some t.d) v).tmps.getD c.d undef) = CH.map fun c => a.tmps.getD c.d undef := by
            apply List.map_congr_left
            intro c hc
            rw [put_get, if_neg (fun hh => (hdis2 t h c hc).2 hh.1)]
          rw [e]
          exact hGm _ _ _ _ hbl hG
  refine wp_region_any hm ?_
  have inv0 : HeadInv .any l.toArray n (Array.replicate l.toArray.size false) :=
    ⟨by simp, fun j oj _ hl => (by rw [getD_replicate_false] at hl; cases hl), fun t _ ht => getD_in (by simpa using ht) (getD_replicate_false _ _)⟩
  have I0 : ChInv l n CH TL T a0 G (Array.replicate l.toArray.size false) a0 { w0 with drawn := w0.drawn + 1 } :=
    ⟨inv0, rfl, rfl, fun _ _ => rfl, ⟨0, Nat.zero_le _, fun m c _ => (by rw [getD_replicate_false]; simp), hG0⟩, fun t _ hl => (by rw [getD_replicate_false] at hl; cases hl)⟩
  have ht0 : todo (Array.replicate l.toArray.size false) n = n := by
    unfold todo
    rw [List.filter_eq_self.2 (fun j hj => by
      have hj' := List.mem_range.1 hj
      have : (Array.replicate l.toArray.size false).getD j true = false := getD_in (by simp; omega) (getD_replicate_false _ _)
      rw [this]; rfl), List.length_range]
  have := key n _ _ _ I0 ht0
  rwa [show n + (l.length - n) = l.toArray.size by simp; omega] at this
end
end Go.Dx
end

/- the text KL2 -/
section
/- Chapter 37: the walk of LinkSeals. -/
set_option linter.unusedVariables false
namespace Go.Proofs.Ytjdnmbapmobaaaa
open Go.RowKit Go.Dx Go.Al
/-- a byte block of two cells at least changes, or none -/
def KeepB (w w' : World) : Prop := ∃ row, w.grownBy w' row ∧ ∀ b, row = some b → ∃ C z, w.heap[b]? = some (.cells C 5 z) ∧ 2 ≤ C.size
theorem KeepB.of {w w' : World} (h : Below w.heap.size w w') : KeepB w w' := ⟨none, ⟨h.os, h.tape, h.output, h.size, fun k hk _ => h.block k hk⟩, fun b hb => by cases hb⟩
theorem KeepB.app {w w' : World} {B n c : Nat} {a : Option Addr} {cs : List Value} (h : Own w B 5 1 a n c cs) (hn : 2 ≤ n) (hg : w.grownBy w' (a.map (·.block))) : KeepB w w' := by
  refine ⟨_, hg, fun b hb => ?_⟩
  rcases h.2 with ⟨h1, h2⟩ | ⟨g, cap, cur, h1, h2, h3, h4, h5, h6, h7⟩
  · omega
  · injection h1 with h1
    subst h1
    cases hb
    exact ⟨cur, _, h3, by omega⟩
theorem KeepB.ints {w w' : World} {B n c : Nat} {a : Option Addr} {cs : List Value} (h : KeepB w w') (o : Own w B 3 1 a n c cs) : Own w' B 3 1 a n c cs := by
  obtain ⟨row, hg, hr⟩ := h
  refine own_same o fun q hq => hg.block q.block (World.ownsRow.lt o _ (by rw [hq]; rfl)).2 (fun e0 => ?_)
  obtain ⟨C, z, hc, _⟩ := hr q.block e0.symm
  rw [hq] at o
  exact kind_ne o hc (by decide) rfl
theorem KeepB.box {w w' : World} {g : Nat} {v : Value} (h : KeepB w w') (x : Box w g 5 [v]) : Box w' g 5 [v] := by
  obtain ⟨row, hg, hr⟩ := h
  refine x.grown hg fun e0 => ?_
  obtain ⟨C, z, hc, h2⟩ := hr g e0.symm
  have hx : w.heap[g]? = some (.cells [v].toArray 5 (0, 0)) := x
  rw [hc] at hx
  injection hx with hx
  injection hx with hx _ _
  rw [hx] at h2
  simp at h2
def GS4 (w3 : World) (XI XB P Z : List UInt8) : Nat → List Value → World → Prop
  | 0, _, w' => Below w3.heap.size w3 w'
  | 1, vs, w' => ∃ a c, vs.getD 0 undef = .slice a XI.length c ∧ Own w' w3.heap.size 5 1 a XI.length c (XI.map B8) ∧ Below w3.heap.size w3 w'
  | 2, vs, w' => ∃ a c a2 c2, vs.getD 0 undef = .slice a XI.length c ∧ vs.getD 1 undef = .slice a2 XB.length c2 ∧ Own w' w3.heap.size 5 1 a XI.length c (XI.map B8) ∧ Sl w' 1 a2 XB.length c2 (XB.map B8) ∧ Below w3.heap.size w3 w'
  | 3, vs, w' => ∃ a c, vs.getD 2 undef = .slice a (XI.length + XB.length) c ∧ Own w' w3.heap.size 5 1 a (XI.length + XB.length) c (P.map B8) ∧ Below w3.heap.size w3 w'
  | _, vs, w' => ∃ a c, vs.getD 3 undef = .slice a Z.length c ∧ Sl w' 1 a Z.length c (Z.map B8) ∧ Kind w' a ∧ Below w3.heap.size w3 w'
theorem GS4.base {w3 : World} {XI XB P Z : List UInt8} : ∀ {j : Nat} {vs : List Value} {w' : World}, GS4 w3 XI XB P Z j vs w' → Below w3.heap.size w3 w'
  | 0, _, _, h => h
  | 1, _, _, ⟨_, _, _, _, h⟩ => h
  | 2, _, _, ⟨_, _, _, _, _, _, _, _, h⟩ => h
  | 3, _, _, ⟨_, _, _, _, h⟩ => h
  | _ + 4, _, _, ⟨_, _, _, _, _, h⟩ => h
theorem GS4.mono {w3 : World} {XI XB P Z : List UInt8} : ∀ (j : Nat) (vs : List Value) (w w' : World), Below w.heap.size w w' → GS4 w3 XI XB P Z j vs w → GS4 w3 XI XB P Z j vs w'
  | 0, _, _, _, hb, h => h.trans (hb.mono h.size)
  | 1, _, _, _, hb, ⟨a, c, h1, h2, h⟩ => ⟨a, c, h1, h2.below hb, h.trans (hb.mono h.size)⟩
  | 2, _, _, _, hb, ⟨a, c, a2, c2, h1, h2, h3, h4, h⟩ => ⟨a, c, a2, c2, h1, h2, h3.below hb, h4.below hb, h.trans (hb.mono h.size)⟩
  | 3, _, _, _, hb, ⟨a, c, h1, h2, h⟩ => ⟨a, c, h1, h2.below hb, h.trans (hb.mono h.size)⟩
  | _ + 4, _, _, _, hb, ⟨a, c, h1, h2, h3, h⟩ => ⟨a, c, h1, h2.below hb, h3.below hb, h.trans (hb.mono h.size)⟩
def GS13 (w10 : World) (X : List UInt8) (y : UInt8) (m g20 c20 : Nat) (a2 : Option Addr) (c2 : Nat) (F : List UInt8) (a1 : Option Addr) (c1 : Nat) : Nat → List Value → World → Prop
  | 0, _, w' => Below w10.heap.size w10 w'
  | 1, vs, w' => ∃ a c, vs.getD 0 undef = .slice a X.length c ∧ Own w' w10.heap.size 5 1 a X.length c (X.map B8) ∧ Below w10.heap.size w10 w'
  | 2, vs, w' => ∃ a c, vs.getD 1 undef = .slice a (X.length + 1) c ∧ Own w' w10.heap.size 5 1 a (X.length + 1) c ((X ++ [y]).map B8) ∧ Below w10.heap.size w10 w'
  | _, vs, w' => ∃ g a c, vs.getD 2 undef = .slice (some ⟨g, 0, none⟩) 6 6 ∧ Own w' w10.heap.size 33 1 (some ⟨g, 0, none⟩) 6 6 [.slice (some ⟨g20, 0, none⟩) X.length c20, .slice a2 m c2, .slice a1 F.length c1, .slice a2 X.length c2, .slice none 0 0, .slice a (X.length + 1) c] ∧ Own w' w10.heap.size 5 1 a (X.length + 1) c ((X ++ [y]).map B8) ∧ Below w10.heap.size w10 w'
section
variable {w10 : World} {X : List UInt8} {y : UInt8} {m g20 c20 : Nat} {a2 : Option Addr} {c2 : Nat} {F : List UInt8} {a1 : Option Addr} {c1 : Nat}
theorem GS13.base : ∀ {j : Nat} {vs : List Value} {w' : World}, GS13 w10 X y m g20 c20 a2 c2 F a1 c1 j vs w' → Below w10.heap.size w10 w'
  | 0, _, _, h => h
  | 1, _, _, ⟨_, _, _, _, h⟩ => h
  | 2, _, _, ⟨_, _, _, _, h⟩ => h
  | _ + 3, _, _, ⟨_, _, _, _, _, _, h⟩ => h
theorem GS13.mono : ∀ (j : Nat) (vs : List Value) (w w' : World), Below w.heap.size w w' → GS13 w10 X y m g20 c20 a2 c2 F a1 c1 j vs w → GS13 w10 X y m g20 c20 a2 c2 F a1 c1 j vs w'
  | 0, _, _, _, hb, h => h.trans (hb.mono h.size)
  | 1, _, _, _, hb, ⟨a, c, h1, h2, h⟩ => ⟨a, c, h1, h2.below hb, h.trans (hb.mono h.size)⟩
  | 2, _, _, _, hb, ⟨a, c, h1, h2, h⟩ => ⟨a, c, h1, h2.below hb, h.trans (hb.mono h.size)⟩
  | _ + 3, _, _, _, hb, ⟨g, a, c, h1, h2, h3, h⟩ => ⟨g, a, c, h1, h2.below hb, h3.below hb, h.trans (hb.mono h.size)⟩
end
set_option maxRecDepth 100000 in
set_option maxHeartbeats 2000000 in
theorem walk_Seals0 (key other : UInt64) (l : List UInt8) (at_ : Int) (y : UInt8) (a : Option Addr) (n c : Nat) (w : World) (hs : Sl w 1 a n c (l.map B8)) (hat1 : -9223372036854775808 ≤ at_) (hat2 : at_ ≤ 9223372036854775807) :
    Calls Try.prog 4 #[V64 key, V64 other, .slice a n c, .int .i64 at_, .int .u8 (y.toNat : Int)] w fun r w' => r = .returned (.bool true) ∧ Below w.heap.size w w' := by
  have hs0 := hide hs
  have hatl := hide hat1
  have hatu := hide hat2
  obtain ⟨F, hF⟩ : ∃ F, Hid (l.take 60 = F) := ⟨_, hide rfl⟩
  have hFl : F.length ≤ 60 := by rw [← hF.out, List.length_take]; omega
  have HF60 : ∀ w, Sl w 1 a n c (l.map B8) → Calls Try.prog 16 #[.slice a n c, .int .i64 60] w (Gives 5 1 F.length (F.map B8) w) := fun w h => by
    have h1 := ref_Few l 60 a n c w h (by decide)
    rw [hF.out] at h1
    exact h1
  obtain ⟨X, hX⟩ : ∃ X, Hid (sealL key F = X) := ⟨_, hide rfl⟩
  have hXl0 : X.length = F.length + 8 := by rw [← hX.out, sealL_len]
  have hXl1 : X.length ≤ 68 := by omega
  have hXl2 : 8 ≤ X.length := by omega
  have hXF : Hid (X.length = F.length + 8) := hide hXl0
  have hOX : Hid (openZ key X = (F, 0)) := hide (by rw [← hX.out]; exact open_seal key F)
  obtain ⟨XI, hXI⟩ : ∃ XI, Hid (encInts [1, 0] = XI) := ⟨_, hide rfl⟩
  obtain ⟨XB, hXB⟩ : ∃ XB, Hid (encBytes F = XB) := ⟨_, hide rfl⟩
  obtain ⟨P, hP⟩ : ∃ P, Hid (pkB ⟨1, 0, F⟩ = P) := ⟨_, hide rfl⟩
  have hPIB : Hid (XI ++ XB = P) := hide (by rw [← hXI.out, ← hXB.out, ← hP.out]; rfl)
  have hPl : Hid (P.length ≤ 1000) := hide (by rw [← hP.out]; exact pkB_le _ _ _ (by show F.length ≤ 900; omega))
  have hI2 : 2 ≤ XI.length := by rw [← hXI.out]; decide +kernel
  have hIl : XI.length ≤ 1000 := by have h1 := hPl.out; rw [← hPIB.out, List.length_append] at h1; omega
  have hBl : XB.length ≤ 1000 := by have h1 := hPl.out; rw [← hPIB.out, List.length_append] at h1; omega
  obtain ⟨Z, hZ⟩ : ∃ Z, Hid (sealL key P = Z) := ⟨_, hide rfl⟩
  have hZl : Hid (Z.length ≤ 1000) := hide (by
    rw [← hZ.out, sealL_len, ← hP.out]
    unfold pkB
    have h1 := encInts_le [1, 0]
    have h3 := encInt_le ((F.length : Nat) : Int)
    unfold encBytes
    simp only [List.length_append, List.length_cons, List.length_nil] at *
    omega)
  have hWI : Hid (∀ a n c w, Sl w 1 a n c (([1, 0] : List Int).map I64) → Calls Try.prog 26 #[.slice a n c] w (Gives 5 1 XI.length (XI.map B8) w)) := hide (fun a n c w h => wire_Ints_at hXI.out (by
    intro x hx
    rcases List.mem_cons.1 hx with rfl | hx
    · decide
    · rcases List.mem_cons.1 hx with rfl | hx
      · decide
      · cases hx) (by decide) a n c w h)
  have hWB : Hid (∀ w, Calls Try.prog 27 #[.string (byB F)] w (Gives 5 1 XB.length (XB.map B8) w)) := hide (fun w => wire_Bytes_at hXB.out (by rw [byB_size]; omega) w)
  have hIn : Hid (inE (newE 1 key) Z = (⟨1, key, [], 0, 1, [], true, 0⟩, [F], 0)) := hide (by rw [← hZ.out, ← hP.out]; exact first_in 1 key 0 F hFl)
  have HN : Hid (∀ w, Calls Try.prog 28 #[.int .i64 1, V64 key] w fun e w' => ∃ p m, e = .returned (.tuple #[.pointer (some ⟨p, 0, none⟩), .int .i64 0]) ∧ EndAt w' p none m (newE 1 key) ∧ (∀ b ∈ foot p none m, w.heap.size ≤ b) ∧ Below w.heap.size w w') := hide (fun w => lk_New 1 key w (by decide) (by decide))
  clear hs hat1 hat2 hF hXl0
  go_enter Try.func4, Try.ntmps4
  go_upto_region 4 with (first
    | (go_at_call 16; refine (HF60 w hs0.out).mono ?_; rintro e1 w1 ⟨a1, c1, rfl, o1, b1⟩; have s1 := o1.sl; have k1 := own_kindB o1; have bw1 := hide b1; clear o1 b1)
    | (go_at_call 24; refine (lk_Seal key F a1 F.length c1 w1 s1 (by omega) hX.out).mono ?_; rintro e2 w2 ⟨a2, c2, rfl, o2, b2⟩; have s2 := o2.sl; have k2 := own_kindB o2; have bw2 := hide (bw1.out.trans (b2.mono bw1.out.size)); have s12 := s1.below b2; have k12 := k1.below b2; clear o2 b2 s1 k1 bw1)
    | (go_at_call 25; refine (lk_Open key X a2 X.length c2 w2 s2 (by omega) hOX.out).mono ?_; rintro e3 w3 ⟨a3, c3, rfl, o3, b3⟩; have sF := hide (s12.below b3); have kF := hide (k12.below b3); have sX := hide (s2.below b3); have kX := hide (k2.below b3); have OY := hide o3.sl; have kY := hide (own_kindB o3); have bw3 := hide (bw2.out.trans (b3.mono bw2.out.size)); clear s12 k12 s2 k2 o3 b3 bw2))
  refine wp_region_chain4 8 KeepB (GS4 w3 XI XB P Z) [⟨2, 42, [], fun _ _ => True⟩, ⟨5, 45, [], fun _ _ => True⟩, ⟨6, 46, [], fun _ _ => True⟩, ⟨7, 47, [], fun _ _ => True⟩] [⟨0, 40, [40], fun vs _ => vs = [V64 key]⟩, ⟨1, 41, [41], fun vs w' => ∃ g, vs = [.slice (some ⟨g, 0, none⟩) 2 2] ∧ Own w' 0 3 1 (some ⟨g, 0, none⟩) 2 2 (([1, 0] : List Int).map I64)⟩, ⟨3, 43, [43], fun vs _ => vs = [.slice a1 F.length c1]⟩, ⟨4, 44, [44], fun vs _ => vs = [.string (byB F)]⟩] (by kernel_rfl) (by kernel_rfl) ?_ (fun _ _ h => KeepB.of h) GS4.mono ?_ ?_ ?_ ?_
  · exact (Still.below 1 : Below w3.heap.size w3 (w3.drewN 1))
  · simp only [All]
    refine ⟨(fun _ _ _ _ h => h), (fun vs w1 w2 hr ⟨g, h1, h2⟩ => ⟨g, h1, hr.ints h2⟩), (fun _ _ _ _ h => h), (fun _ _ _ _ h => h), trivial⟩
  · intro m c hc o ho a w' hG hfr hdep
    rcases m with _ | _ | _ | _ | m
    · cases hc
      obtain rfl := Option.some.inj ho
      have hB : Below w3.heap.size w3 w' := hG
      obtain ⟨g, g41, o41⟩ := hdep 1 _ rfl (by kernel_rfl)
      have g41' : a.tmps[41]?.getD undef = .slice (some ⟨g, 0, none⟩) 2 2 := by simpa using g41
      clear hfr hdep g41
      go_wp2_with fail
      refine (hWI.out _ _ _ _ o41.sl).mono ?_
      rintro e w2 ⟨a2, c2, rfl, o2, h2⟩
      go_wp2_with fail
      exact ⟨rfl, _, rfl, KeepB.of h2, a2, c2, rfl, o2.mono hB.size, hB.trans (h2.mono hB.size)⟩
    · cases hc
      obtain rfl := Option.some.inj ho
      obtain ⟨a2, c2, g42, o2, hB⟩ := hG
      replace g42 : a.tmps[42]?.getD undef = .slice a2 XI.length c2 := by simpa using g42
      have g44 : a.tmps[44]?.getD undef = .string (byB F) := by have h := hdep 3 _ rfl (by kernel_rfl); simpa using h
      clear hfr hdep
      go_wp2_with fail
      refine (hWB.out _).mono ?_
      rintro e w2 ⟨a5, c5, rfl, o5, h2⟩
      go_wp2_with fail
      exact ⟨rfl, _, rfl, KeepB.of h2, a2, c2, a5, c5, by simp, rfl, o2.below h2, o5.sl, hB.trans (h2.mono hB.size)⟩
    · cases hc
      obtain rfl := Option.some.inj ho
      obtain ⟨a2, c2, a5, c5, g42, g45, o2, s5, hB⟩ := hG
      replace g42 : a.tmps.getD 42 undef = .slice a2 XI.length c2 := by simpa using g42
      replace g45 : a.tmps.getD 45 undef = .slice a5 XB.length c5 := by simpa using g45
      clear hfr hdep
      refine app_bs rfl _ _ rfl w3 w3.heap.size a2 XI.length c2 _ g42 o2 a5 XB.length c5 XB g45 s5 (by omega) hB.size hB ?_
      intro a6 c6 w6 ho6 hg6 hb6
      rw [← List.map_append, hPIB.out] at ho6
      have hk := KeepB.app o2 (by omega) hg6
      go_wp2_with fail
      exact ⟨rfl, _, rfl, hk, a6, c6, rfl, ho6, hb6⟩
    · cases hc
      obtain rfl := Option.some.inj ho
      obtain ⟨a6, c6, g46, o6, hB⟩ := hG
      replace g46 : a.tmps[46]?.getD undef = .slice a6 (XI.length + XB.length) c6 := by simpa using g46
      have g40 : a.tmps[40]?.getD undef = V64 key := by have h := hdep 0 _ rfl (by kernel_rfl); simpa using h
      clear hfr hdep
      go_wp2_with fail
      refine (lk_Seal key P a6 (XI.length + XB.length) c6 w' o6.sl (by have := hPl.out; omega) hZ.out).mono ?_
      rintro e w2 ⟨a7, c7, rfl, o7, h2⟩
      go_wp2_with fail
      exact ⟨rfl, _, rfl, KeepB.of h2, a7, c7, rfl, o7.sl, own_kindB o7, hB.trans (h2.mono hB.size)⟩
    · cases hc
  · simp only [All]
    refine ⟨?_, ?_, ?_, ?_, trivial⟩
    · intro o ho a' w' hfr hdep hst
      obtain rfl := Option.some.inj ho
      have g0 : a'.tmps[0]?.getD undef = V64 key := by have h := hfr 0 (by kernel_rfl); simpa using h
      clear ho hfr hdep hst
      go_wp2_with fail
      exact ⟨rfl, _, rfl, Below.refl _ _, rfl⟩
    · intro o ho a' w' hfr hdep hst
      obtain rfl := Option.some.inj ho
      clear ho hfr hdep hst
      go_wp2_with fail
      exact ⟨rfl, _, rfl, sblo _ _, _, rfl, Own.built w' 0 3 1 2 #[.int .i64 1, .int .i64 0] (Nat.zero_le _) rfl (by decide)⟩
    · intro o ho a' w' hfr hdep hst
      obtain rfl := Option.some.inj ho
      have g11 : a'.tmps[11]?.getD undef = .slice a1 F.length c1 := by have h := hfr 11 (by kernel_rfl); simpa using h
      clear ho hfr hdep hst
      go_wp2_with fail
      exact ⟨rfl, _, rfl, Below.refl _ _, rfl⟩
    · intro o ho a' w' hfr hdep hst
      obtain rfl := Option.some.inj ho
      have g43 : a'.tmps[43]?.getD undef = .slice a1 F.length c1 := by have h := hdep 2 _ rfl (by kernel_rfl); simpa using h
      obtain ⟨j, _, _, hG⟩ := hst
      clear ho hfr hdep
      have hB := GS4.base hG
      clear hG
      refine to_str 44 _ a1 F.length c1 F (by show a'.tmps.getD 43 undef = _; simpa using g43) (sF.out.below hB) ?_
      exact ⟨rfl, _, rfl, Below.refl _ _, rfl⟩
  · intro gg w4 hG hp
    obtain ⟨aZ, cZ, g47, sZ0, kZ0, hb⟩ := hG
    replace g47 : gg 47 = .slice aZ Z.length cZ := by simpa using g47
    clear hp
    simp only [List.drop_succ_cons, List.drop_zero, List.map_cons, List.map_nil, List.cons_append, List.nil_append, putAll, Act.put, List.setIfInBounds_toArray, List.set_cons_succ, List.set_cons_zero, g47]
    clear g47
    have bw4 := hide (bw3.out.trans (hb.mono bw3.out.size))
    have sF4 := hide (sF.out.below hb)
    have kF4 := hide (kF.out.below hb)
    have sX4 := hide (sX.out.below hb)
    have kX4 := hide (kX.out.below hb)
    have sY4 := hide (OY.out.below hb)
    have kY4 := hide (kY.out.below hb)
    have sZ := hide sZ0
    clear sZ0 kZ0 hb sF kF sX kX OY kY bw3
    go_upto_region 8 with (go_at_call 28; refine (HN.out w4).mono ?_; rintro e5 w5 ⟨pa, ma, rfl, A5, f5, b5⟩; have D5 := hide A5; have G5 : Hid (∀ b ∈ foot pa none ma, w.heap.size ≤ b) := hide (fun b hb => Nat.le_trans bw4.out.size (f5 b hb)); have F5 : Hid (Fr [] w w5) := hide (Fr.of (bw4.out.trans (b5.mono bw4.out.size))); have R5 : Hid (Rows w5 [(a1, F.length, c1), (a2, X.length, c2), (a3, F.length, c3)] [F, X, F]) := hide ((Rows.cons sF4.out kF4.out (Rows.cons sX4.out kX4.out (Rows.one sY4.out kY4.out))).below b5); have sZ5 := hide (sZ.out.below b5); clear A5 f5 b5)
    clear sF4 kF4 sX4 kX4 sY4 kY4 sZ bw4
    have hI := lk_In pa none ma (newE 1 key) Z aZ Z.length cZ w5 D5.out sZ5.out hZl.out (Nat.zero_le _) (Nat.zero_le _) (Nat.zero_le _) (Nat.zero_le _) (Nat.zero_le _)
    unfold GivesIn at hI
    rw [hIn.out] at hI
    go_upto_region 9 with (go_at_call 19; refine hI.mono ?_; rintro e6 w6 ⟨a6, c6, h6, rfl, o6, r6, A', F'⟩)
    clear hI
    have F6 := hide (F5.out.on F' (fun b hb => .inr (G5.out b hb)))
    have R6 := hide (R5.out.fr F' D5.out.nob)
    have T6 : Hid (Tops w6 [] a6 1 c6 h6 [F]) := hide (Tops.new o6 r6 (by simp))
    clear A' F' D5 G5 F5 R5 sZ5 o6 r6
    obtain ⟨g6, x6, y6, z6, rfl, q6, s6, k6, -⟩ := T6.out.get (i := 0) rfl
    have sF6 := hide (R6.out.2 0 _ _ rfl rfl).1
    have sX6 := hide (R6.out.2 1 _ _ rfl rfl).1
    have sY6 := hide (R6.out.2 2 _ _ rfl rfl).1
    have S6 := hide s6
    have bw6 := hide F6.out.nil
    clear s6 k6 T6 F6
    have hS1 : Hid (∀ w', Below w6.heap.size w6 w' → Calls Try.prog 29 #[.slice x6 y6 z6, .slice a1 F.length c1] w' (Go.Dx.Still (.bool true) w')) := hide (fun w' h => by
      have h1 := ref_Same F F x6 a1 y6 F.length z6 c1 w' (S6.out.below h) (sF6.out.below h)
      rw [show decide (F = F) = true by simp] at h1
      exact h1)
    have hS2 : Hid (∀ w', Below w6.heap.size w6 w' → Calls Try.prog 29 #[.slice a3 F.length c3, .slice a1 F.length c1] w' (Go.Dx.Still (.bool true) w')) := hide (fun w' h => by
      have h1 := ref_Same F F a3 a1 F.length F.length c3 c1 w' (sY6.out.below h) (sF6.out.below h)
      rw [show decide (F = F) = true by simp] at h1
      exact h1)
    have hS4 : Hid (∀ w' a c, Below w6.heap.size w6 w' → Sl w' 1 a X.length c (X.map B8) → Calls Try.prog 29 #[.slice a2 X.length c2, .slice a X.length c] w' (Go.Dx.Still (.bool true) w')) := hide (fun w' a c h h2 => by
      have h1 := ref_Same X X a2 a X.length X.length c2 c w' (sX6.out.below h) h2
      rw [show decide (X = X) = true by simp] at h1
      exact h1)
    have hSe : Hid (∀ w', Below w6.heap.size w6 w' → Calls Try.prog 17 #[V64 key, .slice a1 F.length c1] w' (Gives 5 1 X.length (X.map B8) w')) := hide (fun w' h => ref_Seal key F a1 F.length c1 w' (sF6.out.below h) (by omega) hX.out)
    have dX : ((X.length : Int) != (F.length : Int) + 8) = false := by have := hXF.out; simp; omega
    go_upto_region 11 with (first
      | (go_at_call_of 29 (Value.slice x6 y6 z6); refine (hS1.out _ (Below.refl _ _)).mono ?_; rintro e7 w7 ⟨rfl, n1, rfl⟩; have bz1 := hide (Still.below (w := w6) n1))
      | (go_at_call_of 29 (Value.slice a3 F.length c3); refine (hS2.out _ bz1.out).mono ?_; rintro e7 w7 ⟨rfl, n2, rfl⟩; have bz2 := hide (bz1.out.trans ((Still.below n2).mono bz1.out.size)))
      | (go_at_call 17; refine (hSe.out _ (by first | exact bz2.out | exact Still.below _)).mono ?_; rintro e7 w7 ⟨a7, c7, rfl, o7, b7⟩; have bz3 : Hid (Below w6.heap.size w6 w7) := hide ((Still.below (n1 + n2)).trans (b7.mono (Still.below (n1 + n2)).size)); have s7 := hide o7.sl; clear o7 b7)
      | (go_at_call_of 29 (Value.slice a2 X.length c2); refine (hS4.out _ _ _ bz3.out s7.out).mono ?_; rintro e8 w8 ⟨rfl, n4, rfl⟩; have bz4 := hide (bz3.out.trans ((Still.below n4).mono bz3.out.size))))
    have R8 := hide (R6.out.below bz4.out)
    have bw8 := hide (bw6.out.trans (bz4.out.mono bw6.out.size))
    clear bz1 bz2 bz3 bz4 s7 hS1 hS2 hS4 hSe q6 S6 sF6 sX6 sY6 R6 bw6 dX
    generalize w7.drewN n4 = w8 at *
    have sX9 := hide (R8.out.2 1 _ _ rfl rfl).1
    have HFX : Calls Try.prog 16 #[.slice a2 X.length c2, .int .i64 (X.length : Int)] w8 (Gives 5 1 X.length (X.map B8) w8) := by
      have h1 := ref_Few X X.length a2 X.length c2 w8 sX9.out (by omega)
      rw [List.take_of_length_le (Nat.le_refl _)] at h1
      exact h1
    go_upto_region 12 with (go_at_call 16; refine HFX.mono ?_; rintro e9 w9 ⟨a20, c20, rfl, o9, b9⟩; have O9 := hide o9; have b89 := hide b9; clear o9 b9)
    clear HFX
    obtain ⟨g20, rfl⟩ := own_zero O9.out (by omega)
    obtain ⟨k0, hk0⟩ : ∃ k, Hid (aroundF at_ X.length = k) := ⟨_, hide rfl⟩
    have hkl : k0 < X.length := by rw [← hk0.out]; exact aroundF_lt (by omega)
    obtain ⟨u, hu⟩ : ∃ u, Hid (X[k0]? = some u) := ⟨X[k0], hide (by simp)⟩
    have hAr : Calls Try.prog 10 #[.int .i64 at_, .int .i64 (X.length : Int)] w9 fun e w' => e = .returned (.int .i64 (k0 : Int)) ∧ w9 = w' := by
      have h1 := ref_Around at_ (X.length : Int) X.length w9 rfl hatl.out hatu.out (by omega) (by omega)
      rw [hk0.out] at h1
      exact h1
    have fX := own_free O9.out k0
    have cX := own_cell O9.out (box_at hu.out)
    go_upto_region 13 with (go_at_call 10; refine hAr.mono ?_; rintro e3 w10 ⟨rfl, rfl⟩)
    obtain ⟨X1, hX1⟩ : ∃ X1, Hid (X.set k0 y = X1) := ⟨_, hide rfl⟩
    have hX1l : Hid (X1.length = X.length) := hide (by rw [← hX1.out, List.length_set])
    have O10 : Hid (Own (w9.setCell ⟨g20, k0, none⟩ (.int .u8 (y.toNat : Int))) w8.heap.size 5 1 (some ⟨g20, 0, none⟩) X.length c20 (X1.map B8)) := hide (by
      have h1 := own_set O9.out k0 (B8 y)
      rw [← List.map_set, hX1.out] at h1
      exact h1)
    have b810 : Hid (Below w8.heap.size w8 (w9.setCell ⟨g20, k0, none⟩ (.int .u8 (y.toNat : Int)))) := hide (b89.out.grown grown_set b89.out.size (fun b hb => by cases hb; exact O9.out.base.1))
    clear fX cX hAr sX9 O9 b89
    generalize w9.setCell ⟨g20, k0, none⟩ (.int .u8 (y.toNat : Int)) = w10 at *
    have R10 := hide (R8.out.below b810.out)
    have bw10 := hide (bw8.out.trans (b810.out.mono bw8.out.size))
    have sX9 : Hid (Sl w10 1 a2 X.length c2 (X.map B8)) := hide (R10.out.2 1 _ _ rfl rfl).1
    have hFX : Hid (∀ w, Sl w 1 a2 X.length c2 (X.map B8) → Calls Try.prog 16 #[.slice a2 X.length c2, .int .i64 (X.length : Int)] w (Gives 5 1 X.length (X.map B8) w)) := hide (fun w h => by
      have h1 := ref_Few X X.length a2 X.length c2 w h (by omega)
      rw [List.take_of_length_le (Nat.le_refl _)] at h1
      exact h1)
    clear R8 bw8 b810
    obtain ⟨m, hm⟩ : ∃ m : Nat, (X.length : Int) - 1 = (m : Int) := ⟨X.length - 1, by omega⟩
    have hmx : m + 1 = X.length := by omega
    have hmlt : m < X.length := by omega
    have HMX := hide hmx
    clear hmx
    refine wp_region_chain4 16 KeepB (GS13 w10 X y m g20 c20 a2 c2 F a1 c1) [⟨11, 128, [], fun _ _ => True⟩, ⟨14, 131, [], fun _ _ => True⟩, ⟨15, 132, [], fun _ _ => True⟩] [⟨0, 117, [117], fun vs _ => vs = [.slice (some ⟨g20, 0, none⟩) X.length c20]⟩, ⟨1, 118, [118], fun vs _ => vs = [.slice a2 X.length c2]⟩, ⟨2, 119, [119], fun vs _ => vs = [.slice a2 X.length c2]⟩, ⟨3, 120, [120], fun vs _ => vs = [.int .i64 (X.length : Int)]⟩, ⟨4, 121, [121], fun vs _ => vs = [.int .i64 (m : Int)]⟩, ⟨5, 122, [122], fun vs _ => vs = [.slice a2 m c2]⟩, ⟨6, 123, [123], fun vs _ => vs = [.slice a1 F.length c1]⟩, ⟨7, 124, [124], fun vs _ => vs = [.slice a2 X.length c2]⟩, ⟨8, 125, [125], fun vs _ => vs = [.slice a2 X.length c2]⟩, ⟨9, 126, [126], fun vs _ => vs = [.slice a2 X.length c2]⟩, ⟨10, 127, [127], fun vs _ => vs = [.int .i64 (X.length : Int)]⟩, ⟨12, 129, [129], fun vs _ => vs = [.int .u8 (y.toNat : Int)]⟩, ⟨13, 130, [130], fun vs w' => ∃ g, vs = [.slice (some ⟨g, 0, none⟩) 1 1] ∧ Box w' g 5 [.int .u8 (y.toNat : Int)]⟩] (by kernel_rfl) (by kernel_rfl) ?_ (fun _ _ h => KeepB.of h) GS13.mono ?_ ?_ ?_ ?_
    · exact (Still.below 1 : Below w10.heap.size w10 (w10.drewN 1))
    · simp only [All]
      refine ⟨(fun _ _ _ _ h => h), (fun _ _ _ _ h => h), (fun _ _ _ _ h => h), (fun _ _ _ _ h => h), (fun _ _ _ _ h => h), (fun _ _ _ _ h => h), (fun _ _ _ _ h => h), (fun _ _ _ _ h => h), (fun _ _ _ _ h => h), (fun _ _ _ _ h => h), (fun _ _ _ _ h => h), (fun _ _ _ _ h => h), (fun vs w1 w2 hr ⟨g, h1, h2⟩ => ⟨g, h1, hr.box h2⟩), trivial⟩
    · intro m c hc o ho a w' hG hfr hdep
      rcases m with _ | _ | _ | m
      · cases hc
        obtain rfl := Option.some.inj ho
        have hB : Below w10.heap.size w10 w' := hG
        have g125 : a.tmps[125]?.getD undef = .slice a2 X.length c2 := by have h := hdep 8 _ rfl (by kernel_rfl); simpa using h
        have g127 : a.tmps[127]?.getD undef = .int .i64 (X.length : Int) := by have h := hdep 10 _ rfl (by kernel_rfl); simpa using h
        clear hfr hdep
        go_wp2_with fail
        refine (hFX.out _ (sX9.out.below hB)).mono ?_
        rintro e w2 ⟨a8, c8, rfl, o8, h2⟩
        go_wp2_with fail
        exact ⟨rfl, _, rfl, KeepB.of h2, a8, c8, rfl, o8.mono hB.size, hB.trans (h2.mono hB.size)⟩
      · cases hc
        obtain rfl := Option.some.inj ho
        obtain ⟨a8, c8, g128, o8, hB⟩ := hG
        replace g128 : a.tmps.getD 128 undef = .slice a8 X.length c8 := by simpa using g128
        obtain ⟨g, g130, x130⟩ := hdep 12 _ rfl (by kernel_rfl)
        replace g130 : a.tmps.getD 130 undef = .slice (some ⟨g, 0, none⟩) 1 1 := by simpa using g130
        clear hfr hdep
        have sy := x130.sl_al (n := 1) rfl (by decide)
        refine app_bs rfl _ _ rfl w10 w10.heap.size a8 X.length c8 _ g128 o8 (some ⟨g, 0, none⟩) 1 1 [y] g130 sy (by omega) hB.size hB ?_
        intro a9 c9 w9 ho9 hg9 hb9
        rw [← List.map_append] at ho9
        have hk := KeepB.app o8 (by omega) hg9
        go_wp2_with fail
        exact ⟨rfl, _, rfl, hk, a9, c9, rfl, ho9, hb9⟩
      · cases hc
        obtain rfl := Option.some.inj ho
        obtain ⟨a9, c9, g131, o9, hB⟩ := hG
        replace g131 : a.tmps[131]?.getD undef = .slice a9 (X.length + 1) c9 := by simpa using g131
        have g117 : a.tmps[117]?.getD undef = .slice (some ⟨g20, 0, none⟩) X.length c20 := by have h := hdep 0 _ rfl (by kernel_rfl); simpa using h
        have g122 : a.tmps[122]?.getD undef = .slice a2 m c2 := by have h := hdep 5 _ rfl (by kernel_rfl); simpa using h
        have g123 : a.tmps[123]?.getD undef = .slice a1 F.length c1 := by have h := hdep 6 _ rfl (by kernel_rfl); simpa using h
        have g124 : a.tmps[124]?.getD undef = .slice a2 X.length c2 := by have h := hdep 7 _ rfl (by kernel_rfl); simpa using h
        clear hfr hdep
        go_wp2_with fail
        exact ⟨rfl, _, rfl, KeepB.of (sblo _ _), w'.heap.size, a9, c9, rfl, Own.built w' w10.heap.size 33 1 6 #[.slice (some ⟨g20, 0, none⟩) X.length c20, .slice a2 m c2, .slice a1 F.length c1, .slice a2 X.length c2, .slice none 0 0, .slice a9 (X.length + 1) c9] hB.size rfl (by decide), o9.alloc _, hB.trans ((sblo _ _).mono hB.size)⟩
      · cases hc
    · simp only [All]
      refine ⟨?_, ?_, ?_, ?_, ?_, ?_, ?_, ?_, ?_, ?_, ?_, ?_, ?_, trivial⟩
      · intro o ho a' w' hfr hdep hst
        obtain rfl := Option.some.inj ho
        have g20 : a'.tmps[20]?.getD undef = .slice (some ⟨g20, 0, none⟩) X.length c20 := by have h := hfr 20 (by kernel_rfl); simpa using h
        clear ho hfr hdep hst
        go_wp2_with fail
        exact ⟨rfl, _, rfl, Below.refl _ _, rfl⟩
      · intro o ho a' w' hfr hdep hst
        obtain rfl := Option.some.inj ho
        have g12 : a'.tmps[12]?.getD undef = .slice a2 X.length c2 := by have h := hfr 12 (by kernel_rfl); simpa using h
        clear ho hfr hdep hst
        go_wp2_with fail
        exact ⟨rfl, _, rfl, Below.refl _ _, rfl⟩
      · intro o ho a' w' hfr hdep hst
        obtain rfl := Option.some.inj ho
        have g12 : a'.tmps[12]?.getD undef = .slice a2 X.length c2 := by have h := hfr 12 (by kernel_rfl); simpa using h
        clear ho hfr hdep hst
        go_wp2_with fail
        exact ⟨rfl, _, rfl, Below.refl _ _, rfl⟩
      · intro o ho a' w' hfr hdep hst
        obtain rfl := Option.some.inj ho
        have g119 : a'.tmps[119]?.getD undef = .slice a2 X.length c2 := by have h := hdep 2 _ rfl (by kernel_rfl); simpa using h
        clear ho hfr hdep hst
        go_wp2_with fail
        exact ⟨rfl, _, rfl, Below.refl _ _, rfl⟩
      · intro o ho a' w' hfr hdep hst
        obtain rfl := Option.some.inj ho
        have g120 : a'.tmps[120]?.getD undef = .int .i64 (X.length : Int) := by have h := hdep 3 _ rfl (by kernel_rfl); simpa using h
        clear ho hfr hdep hst
        go_wp2_with fail
        exact ⟨rfl, _, rfl, Below.refl _ _, rfl⟩
      · intro o ho a' w' hfr hdep hst
        obtain rfl := Option.some.inj ho
        have g118 : a'.tmps[118]?.getD undef = .slice a2 X.length c2 := by have h := hdep 1 _ rfl (by kernel_rfl); simpa using h
        have g121 : a'.tmps[121]?.getD undef = .int .i64 (m : Int) := by have h := hdep 4 _ rfl (by kernel_rfl); simpa using h
        obtain ⟨j, _, _, hG⟩ := hst
        clear ho hfr hdep
        have hB := GS13.base hG
        clear hG
        refine cuthi_b 122 _ _ _ _ _ X (by simpa [Act.eval] using g118) (sX9.out.below hB) .i64 _ m (by simpa [Act.eval] using g121) rfl (by omega) ?_
        intro hcut
        exact ⟨rfl, _, rfl, Below.refl _ _, rfl⟩
      · intro o ho a' w' hfr hdep hst
        obtain rfl := Option.some.inj ho
        have g11 : a'.tmps[11]?.getD undef = .slice a1 F.length c1 := by have h := hfr 11 (by kernel_rfl); simpa using h
        clear ho hfr hdep hst
        go_wp2_with fail
        exact ⟨rfl, _, rfl, Below.refl _ _, rfl⟩
      · intro o ho a' w' hfr hdep hst
        obtain rfl := Option.some.inj ho
        have g12 : a'.tmps[12]?.getD undef = .slice a2 X.length c2 := by have h := hfr 12 (by kernel_rfl); simpa using h
        clear ho hfr hdep hst
        go_wp2_with fail
        exact ⟨rfl, _, rfl, Below.refl _ _, rfl⟩
      · intro o ho a' w' hfr hdep hst
        obtain rfl := Option.some.inj ho
        have g12 : a'.tmps[12]?.getD undef = .slice a2 X.length c2 := by have h := hfr 12 (by kernel_rfl); simpa using h
        clear ho hfr hdep hst
        go_wp2_with fail
        exact ⟨rfl, _, rfl, Below.refl _ _, rfl⟩
      · intro o ho a' w' hfr hdep hst
        obtain rfl := Option.some.inj ho
        have g12 : a'.tmps[12]?.getD undef = .slice a2 X.length c2 := by have h := hfr 12 (by kernel_rfl); simpa using h
        clear ho hfr hdep hst
        go_wp2_with fail
        exact ⟨rfl, _, rfl, Below.refl _ _, rfl⟩
      · intro o ho a' w' hfr hdep hst
        obtain rfl := Option.some.inj ho
        have g126 : a'.tmps[126]?.getD undef = .slice a2 X.length c2 := by have h := hdep 9 _ rfl (by kernel_rfl); simpa using h
        clear ho hfr hdep hst
        go_wp2_with fail
        exact ⟨rfl, _, rfl, Below.refl _ _, rfl⟩
      · intro o ho a' w' hfr hdep hst
        obtain rfl := Option.some.inj ho
        have g4 : a'.tmps[4]?.getD undef = .int .u8 (y.toNat : Int) := by have h := hfr 4 (by kernel_rfl); simpa using h
        clear ho hfr hdep hst
        go_wp2_with fail
        exact ⟨rfl, _, rfl, Below.refl _ _, rfl⟩
      · intro o ho a' w' hfr hdep hst
        obtain rfl := Option.some.inj ho
        have g129 : a'.tmps[129]?.getD undef = .int .u8 (y.toNat : Int) := by have h := hdep 11 _ rfl (by kernel_rfl); simpa using h
        clear ho hfr hdep hst
        go_wp2_with fail
        exact ⟨rfl, _, rfl, sblo _ _, _, rfl, Box.new w' _ #[.int .u8 (y.toNat : Int)]⟩
    · intro gg w13 hG hp
      obtain ⟨gT, a9, c9, g132, oT, o9, hb⟩ := hG
      replace g132 : gg 132 = .slice (some ⟨gT, 0, none⟩) 6 6 := by simpa using g132
      clear hp
      simp only [List.drop_succ_cons, List.drop_zero, List.map_cons, List.map_nil, List.cons_append, List.nil_append, putAll, Act.put, List.setIfInBounds_toArray, List.set_cons_succ, List.set_cons_zero, g132]
      clear g132 hm
      have R13 := R10.out.below hb
      have hsF := R13.2 0 _ _ rfl rfl
      have hsX := R13.2 1 _ _ rfl rfl
      have hsM : Sl w13 1 a2 m c2 ((X.take m).map B8) := by
        have h := hsX.1.take m (by show m ≤ X.length; have := HMX.out; omega)
        rw [← List.map_take] at h
        exact h
      have h0 : Sl w13 1 (some ⟨g20, 0, none⟩) X.length c20 (X1.map B8) := O10.out.sl.below hb
      have T13 : Hid (Tops w13 [] (some ⟨gT, 0, none⟩) 6 6 [(some ⟨g20, 0, none⟩, X.length, c20), (a2, m, c2), (a1, F.length, c1), (a2, X.length, c2), (none, 0, 0), (a9, X.length + 1, c9)] [X1, X.take m, F, X, [], X ++ [y]]) := hide ⟨oT.mono (Nat.zero_le _), Rows.cons h0 ((own_kindB O10.out).below hb) (Rows.cons hsM hsX.2 (Rows.cons hsF.1 hsF.2 (Rows.cons hsX.1 hsX.2 (Rows.cons (Sl.nil0 _) (fun q hq => by cases hq) (Rows.one o9.sl (own_kindB o9)))))), fun q hq hS => by cases hS⟩
      have bw13 := hide (bw10.out.trans (hb.mono bw10.out.size))
      have hTl : Hid (∀ r ∈ ([X1, X.take m, F, X, [], X ++ [y]] : List (List UInt8)), r.length ≤ 1000) := hide (by
        intro r hr
        have h1 := hX1l.out
        simp only [List.mem_cons, List.not_mem_nil, or_false] at hr
        rcases hr with rfl | rfl | rfl | rfl | rfl | rfl
        · omega
        · rw [List.length_take]; omega
        · omega
        · omega
        · simp
        · rw [List.length_append, List.length_singleton]; omega)
      have hT6 : Hid (([X1, X.take m, F, X, [], X ++ [y]] : List (List UInt8)).length = 6) := hide rfl
      obtain ⟨TL, hTL⟩ : ∃ TL, Hid (([X1, X.take m, F, X, [], X ++ [y]] : List (List UInt8)) = TL) := ⟨_, hide rfl⟩
      obtain ⟨HL, hHL⟩ : ∃ HL : List Hd, Hid (([(some ⟨g20, 0, none⟩, X.length, c20), (a2, m, c2), (a1, F.length, c1), (a2, X.length, c2), (none, 0, 0), (a9, X.length + 1, c9)] : List Hd) = HL) := ⟨_, hide rfl⟩
      rw [hTL.out] at T13 hTl hT6
      rw [hHL.out] at T13
      clear R13 hsF hsX hsM h0 oT o9 hb R10 bw10 sX9 hFX O10 hX1l hX1 hTL hHL
      have X14 : Hid (Box (w13.alloc (.cells #[V64 key, V64 other] 22)) w13.heap.size 22 [V64 key, V64 other]) := hide (Box.new w13 _ #[V64 key, V64 other])
      have T14 := hide (T13.out.below (sblo w13 (.cells #[V64 key, V64 other] 22)))
      have bw14 := hide (bw13.out.trans ((sblo w13 (.cells #[V64 key, V64 other] 22)).mono bw13.out.size))
      clear T13 bw13
      go_upto_region 15 with fail
      generalize w13.alloc (.cells #[V64 key, V64 other] 22) = w14 at *
      generalize w13.heap.size = gK at *
      go_wp2_with fail
      go_loopg [23] 6 (fun gh v w' => ∃ i : Nat, i ≤ 6 ∧ gh = 6 - i ∧ v = .int .i64 (i : Int) ∧ Below w14.heap.size w14 w')
      case atStart => exact ⟨0, by omega, by omega, rfl, Below.refl _ _⟩
      case round =>
        obtain ⟨i, hi, hg, rfl, hb14⟩ := hrel
        have HGI := hide hg
        have B14 := hide hb14
        clear hg hb14
        by_cases hi6 : i < 6
        · have d0 : decide ((i : Int) < 6) = true := decide_eq_true (by omega)
          obtain ⟨r, hr⟩ : ∃ r, TL[i]? = some r := ⟨_, List.getElem?_eq_getElem (by rw [hT6.out]; exact hi6)⟩
          have HR := hide hr
          have hrl := hTl.out r (List.mem_of_getElem? hr)
          clear hr
          go_wp2_with fail
          go_loopg [24] 2 (fun gh v w' => ∃ k : Nat, k ≤ 2 ∧ gh = 2 - k ∧ v = .int .i64 (k : Int) ∧ Below w14.heap.size w14 w')
          case atStart => exact ⟨0, by omega, by omega, rfl, B14.out⟩
          case round =>
            obtain ⟨k, hk, hg, rfl, hbk⟩ := hrel
            have HGK := hide hg
            have b0 := hide hbk
            clear hg hbk
            by_cases hk2 : k < 2
            · have d1 : decide ((k : Int) < 2) = true := decide_eq_true (by omega)
              obtain ⟨KK, hKK⟩ : ∃ KK, ([V64 key, V64 other] : List Value)[k]? = some (V64 KK) := by
                rcases k with _ | _ | k
                · exact ⟨key, rfl⟩
                · exact ⟨other, rfl⟩
                · omega
              have qK := (X14.out.under b0.out).at_ hKK
              obtain ⟨gT2, xr, yr, zr, hgT, qT, sr0, kr, -⟩ := (T14.out.below b0.out).get HR.out
              obtain rfl : gT = gT2 := by cases hgT; rfl
              have sr := hide sr0
              obtain ⟨⟨R1, E1⟩, hO⟩ : ∃ o, Hid (openZ KK r = o) := ⟨_, hide rfl⟩
              have hOpA : Hid (∀ w, Sl w 1 xr yr zr (r.map B8) → Calls Try.prog 25 #[V64 KK, .slice xr yr zr] w (GivesE R1 E1 w)) := hide (fun w h => lk_Open KK r xr yr zr w h hrl hO.out)
              have hOpB : Hid (∀ w, Sl w 1 xr yr zr (r.map B8) → Calls Try.prog 30 #[V64 KK, .slice xr yr zr] w (GivesR R1 E1 w)) := hide (fun w h => ref_Open KK r xr yr zr w h hrl hO.out)
              clear hKK hgT sr0 kr hO
              go_upto_region 21 with fail
              refine wp_region_free 13 [⟨0, 145, [145], fun vs _ => vs = [.slice (some ⟨gK, 0, none⟩) 2 2]⟩, ⟨1, 146, [146], fun vs _ => vs = [.int .i64 (k : Int)]⟩, ⟨2, 147, [147], fun vs _ => vs = [.pointer (some ⟨gK, k, none⟩)]⟩, ⟨3, 148, [148], fun vs _ => vs = [V64 KK]⟩, ⟨4, 149, [149], fun vs _ => vs = [.slice (some ⟨gT, 0, none⟩) 6 6]⟩, ⟨5, 150, [150], fun vs _ => vs = [.int .i64 (i : Int)]⟩, ⟨6, 151, [151], fun vs _ => vs = [.pointer (some ⟨gT, i, none⟩)]⟩, ⟨7, 152, [152], fun vs _ => vs = [.slice xr yr zr]⟩, ⟨8, 153, [153], fun vs w' => ∃ a c, vs = [.tuple #[.slice a R1.length c, .int .i64 E1]] ∧ Sl w' 1 a R1.length c (R1.map B8)⟩, ⟨9, 144, [144], fun vs w' => ∃ a c, vs = [.tuple #[.slice a R1.length c, .int .i64 E1]] ∧ Sl w' 1 a R1.length c (R1.map B8)⟩, ⟨10, 154, [154], fun vs w' => ∃ a c, vs = [.slice a R1.length c] ∧ Sl w' 1 a R1.length c (R1.map B8)⟩, ⟨11, 155, [155], fun vs _ => vs = [.int .i64 E1]⟩, ⟨12, 25, [25], fun vs w' => ∃ a c, vs = [.slice a R1.length c] ∧ Sl w' 1 a R1.length c (R1.map B8)⟩] (by kernel_rfl) (by kernel_rfl) ?_ ?_ ?_
              · simp only [All]
                refine ⟨fun _ _ _ _ h => h, fun _ _ _ _ h => h, fun _ _ _ _ h => h, fun _ _ _ _ h => h, fun _ _ _ _ h => h, fun _ _ _ _ h => h, fun _ _ _ _ h => h, fun _ _ _ _ h => h, ?_, ?_, ?_, fun _ _ _ _ h => h, ?_, trivial⟩
                · rintro vs w w' hb ⟨a, c, h1, h2⟩
                  exact ⟨a, c, h1, h2.below hb⟩
                · rintro vs w w' hb ⟨a, c, h1, h2⟩
                  exact ⟨a, c, h1, h2.below hb⟩
                · rintro vs w w' hb ⟨a, c, h1, h2⟩
                  exact ⟨a, c, h1, h2.below hb⟩
                · rintro vs w w' hb ⟨a, c, h1, h2⟩
                  exact ⟨a, c, h1, h2.below hb⟩
              · simp only [All]
                refine ⟨?_, ?_, ?_, ?_, ?_, ?_, ?_, ?_, ?_, ?_, ?_, ?_, ?_, trivial⟩
                · intro o ho a' w' hb hfr hdep
                  obtain rfl := Option.some.inj ho
                  have g22 : a'.tmps[22]?.getD undef = .slice (some ⟨gK, 0, none⟩) 2 2 := by have h := hfr 22 (by kernel_rfl); simpa using h
                  clear ho hfr hdep
                  go_wp2_with fail
                  exact ⟨rfl, _, rfl, Below.refl _ _, rfl⟩
                · intro o ho a' w' hb hfr hdep
                  obtain rfl := Option.some.inj ho
                  have g24 : a'.tmps[24]?.getD undef = .int .i64 (k : Int) := by have h := hfr 24 (by kernel_rfl); simpa using h
                  clear ho hfr hdep
                  go_wp2_with fail
                  exact ⟨rfl, _, rfl, Below.refl _ _, rfl⟩
                · intro o ho a' w' hb hfr hdep
                  obtain rfl := Option.some.inj ho
                  have g145 : a'.tmps[145]?.getD undef = .slice (some ⟨gK, 0, none⟩) 2 2 := by have h := hdep 0 _ rfl (by kernel_rfl); simpa using h
                  have g146 : a'.tmps[146]?.getD undef = .int .i64 (k : Int) := by have h := hdep 1 _ rfl (by kernel_rfl); simpa using h
                  clear ho hfr hdep
                  go_wp2_with fail
                  exact ⟨rfl, _, rfl, Below.refl _ _, rfl⟩
                · intro o ho a' w' hb hfr hdep
                  obtain rfl := Option.some.inj ho
                  have g147 : a'.tmps[147]?.getD undef = .pointer (some ⟨gK, k, none⟩) := by have h := hdep 2 _ rfl (by kernel_rfl); simpa using h
                  clear ho hfr hdep
                  have hcl := cell_blw qK hb
                  go_wp2_with fail
                  exact ⟨rfl, _, rfl, Below.refl _ _, rfl⟩
                · intro o ho a' w' hb hfr hdep
                  obtain rfl := Option.some.inj ho
                  have g21 : a'.tmps[21]?.getD undef = .slice (some ⟨gT, 0, none⟩) 6 6 := by have h := hfr 21 (by kernel_rfl); simpa using h
                  clear ho hfr hdep
                  go_wp2_with fail
                  exact ⟨rfl, _, rfl, Below.refl _ _, rfl⟩
                · intro o ho a' w' hb hfr hdep
                  obtain rfl := Option.some.inj ho
                  have g23 : a'.tmps[23]?.getD undef = .int .i64 (i : Int) := by have h := hfr 23 (by kernel_rfl); simpa using h
                  clear ho hfr hdep
                  go_wp2_with fail
                  exact ⟨rfl, _, rfl, Below.refl _ _, rfl⟩
                · intro o ho a' w' hb hfr hdep
                  obtain rfl := Option.some.inj ho
                  have g149 : a'.tmps[149]?.getD undef = .slice (some ⟨gT, 0, none⟩) 6 6 := by have h := hdep 4 _ rfl (by kernel_rfl); simpa using h
                  have g150 : a'.tmps[150]?.getD undef = .int .i64 (i : Int) := by have h := hdep 5 _ rfl (by kernel_rfl); simpa using h
                  clear ho hfr hdep
                  go_wp2_with fail
                  exact ⟨rfl, _, rfl, Below.refl _ _, rfl⟩
                · intro o ho a' w' hb hfr hdep
                  obtain rfl := Option.some.inj ho
                  have g151 : a'.tmps[151]?.getD undef = .pointer (some ⟨gT, i, none⟩) := by have h := hdep 6 _ rfl (by kernel_rfl); simpa using h
                  clear ho hfr hdep
                  have hcl := cell_blw qT hb
                  go_wp2_with fail
                  exact ⟨rfl, _, rfl, Below.refl _ _, rfl⟩
                · intro o ho a' w' hb hfr hdep
                  obtain rfl := Option.some.inj ho
                  have g148 : a'.tmps[148]?.getD undef = V64 KK := by have h := hdep 3 _ rfl (by kernel_rfl); simpa using h
                  have g152 : a'.tmps[152]?.getD undef = .slice xr yr zr := by have h := hdep 7 _ rfl (by kernel_rfl); simpa using h
                  clear ho hfr hdep
                  go_wp2_with fail
                  refine (hOpA.out _ (sr.out.below hb)).mono ?_
                  rintro e w2 ⟨a2, c2, rfl, o2, h2⟩
                  go_wp2_with fail
                  exact ⟨rfl, _, rfl, h2, _, _, rfl, o2.sl⟩
                · intro o ho a' w' hb hfr hdep
                  obtain rfl := Option.some.inj ho
                  obtain ⟨aT153, cT153, hT153, sT153⟩ := hdep 8 _ rfl (by kernel_rfl)
                  have g153 : a'.tmps[153]?.getD undef = .tuple #[.slice aT153 R1.length cT153, .int .i64 E1] := by simpa using hT153
                  clear ho hfr hdep
                  go_wp2_with fail
                  exact ⟨rfl, _, rfl, Below.refl _ _, _, _, rfl, sT153⟩
                · intro o ho a' w' hb hfr hdep
                  obtain rfl := Option.some.inj ho
                  obtain ⟨aT144, cT144, hT144, sT144⟩ := hdep 9 _ rfl (by kernel_rfl)
                  have g144 : a'.tmps[144]?.getD undef = .tuple #[.slice aT144 R1.length cT144, .int .i64 E1] := by simpa using hT144
                  clear ho hfr hdep
                  go_wp2_with fail
                  exact ⟨rfl, _, rfl, Below.refl _ _, _, _, rfl, sT144⟩
                · intro o ho a' w' hb hfr hdep
                  obtain rfl := Option.some.inj ho
                  obtain ⟨aT144, cT144, hT144, sT144⟩ := hdep 9 _ rfl (by kernel_rfl)
                  have g144 : a'.tmps[144]?.getD undef = .tuple #[.slice aT144 R1.length cT144, .int .i64 E1] := by simpa using hT144
                  clear ho hfr hdep
                  go_wp2_with fail
                  exact ⟨rfl, _, rfl, Below.refl _ _, rfl⟩
                · intro o ho a' w' hb hfr hdep
                  obtain rfl := Option.some.inj ho
                  obtain ⟨aT154, cT154, hT154, sT154⟩ := hdep 10 _ rfl (by kernel_rfl)
                  have g154 : a'.tmps[154]?.getD undef = .slice aT154 R1.length cT154 := by simpa using hT154
                  clear ho hfr hdep
                  go_wp2_with fail
                  exact ⟨rfl, _, rfl, Below.refl _ _, _, _, rfl, sT154⟩
              · intro gg w21 hb hp'
                obtain ⟨aA, cA, p25, sA0⟩ := hp' 12 _ rfl
                have p155 := hp' 11 _ rfl
                clear hp'
                simp at p25 p155
                simp only [List.drop_succ_cons, List.drop_zero, List.map_cons, List.map_nil, putAll, Act.put, List.setIfInBounds_toArray, List.set_cons_succ, List.set_cons_zero, List.cons_append, List.nil_append, p25, p155]
                clear p25 p155
                have sA := hide sA0
                have b21 := hide hb
                have qK2 := cell_blw qK hb
                have qT2 := cell_blw qT hb
                clear sA0 hb qK qT
                go_upto_region 22 with fail
                refine wp_region_free 13 [⟨0, 157, [157], fun vs _ => vs = [.slice (some ⟨gK, 0, none⟩) 2 2]⟩, ⟨1, 158, [158], fun vs _ => vs = [.int .i64 (k : Int)]⟩, ⟨2, 159, [159], fun vs _ => vs = [.pointer (some ⟨gK, k, none⟩)]⟩, ⟨3, 160, [160], fun vs _ => vs = [V64 KK]⟩, ⟨4, 161, [161], fun vs _ => vs = [.slice (some ⟨gT, 0, none⟩) 6 6]⟩, ⟨5, 162, [162], fun vs _ => vs = [.int .i64 (i : Int)]⟩, ⟨6, 163, [163], fun vs _ => vs = [.pointer (some ⟨gT, i, none⟩)]⟩, ⟨7, 164, [164], fun vs _ => vs = [.slice xr yr zr]⟩, ⟨8, 165, [165], fun vs w' => ∃ a c, vs = [.tuple #[.slice a R1.length c, .int .i64 E1]] ∧ Sl w' 1 a R1.length c (R1.map B8)⟩, ⟨9, 156, [156], fun vs w' => ∃ a c, vs = [.tuple #[.slice a R1.length c, .int .i64 E1]] ∧ Sl w' 1 a R1.length c (R1.map B8)⟩, ⟨10, 166, [166], fun vs w' => ∃ a c, vs = [.slice a R1.length c] ∧ Sl w' 1 a R1.length c (R1.map B8)⟩, ⟨11, 167, [167], fun vs _ => vs = [.int .i64 E1]⟩, ⟨12, 27, [27], fun vs w' => ∃ a c, vs = [.slice a R1.length c] ∧ Sl w' 1 a R1.length c (R1.map B8)⟩] (by kernel_rfl) (by kernel_rfl) ?_ ?_ ?_
                · simp only [All]
                  refine ⟨fun _ _ _ _ h => h, fun _ _ _ _ h => h, fun _ _ _ _ h => h, fun _ _ _ _ h => h, fun _ _ _ _ h => h, fun _ _ _ _ h => h, fun _ _ _ _ h => h, fun _ _ _ _ h => h, ?_, ?_, ?_, fun _ _ _ _ h => h, ?_, trivial⟩
                  · rintro vs w w' hb ⟨a, c, h1, h2⟩
                    exact ⟨a, c, h1, h2.below hb⟩
                  · rintro vs w w' hb ⟨a, c, h1, h2⟩
                    exact ⟨a, c, h1, h2.below hb⟩
                  · rintro vs w w' hb ⟨a, c, h1, h2⟩
                    exact ⟨a, c, h1, h2.below hb⟩
                  · rintro vs w w' hb ⟨a, c, h1, h2⟩
                    exact ⟨a, c, h1, h2.below hb⟩
                · simp only [All]
                  refine ⟨?_, ?_, ?_, ?_, ?_, ?_, ?_, ?_, ?_, ?_, ?_, ?_, ?_, trivial⟩
                  · intro o ho a' w' hb hfr hdep
                    obtain rfl := Option.some.inj ho
                    have g22 : a'.tmps[22]?.getD undef = .slice (some ⟨gK, 0, none⟩) 2 2 := by have h := hfr 22 (by kernel_rfl); simpa using h
                    clear ho hfr hdep
                    go_wp2_with fail
                    exact ⟨rfl, _, rfl, Below.refl _ _, rfl⟩
                  · intro o ho a' w' hb hfr hdep
                    obtain rfl := Option.some.inj ho
                    have g24 : a'.tmps[24]?.getD undef = .int .i64 (k : Int) := by have h := hfr 24 (by kernel_rfl); simpa using h
                    clear ho hfr hdep
                    go_wp2_with fail
                    exact ⟨rfl, _, rfl, Below.refl _ _, rfl⟩
                  · intro o ho a' w' hb hfr hdep
                    obtain rfl := Option.some.inj ho
                    have g157 : a'.tmps[157]?.getD undef = .slice (some ⟨gK, 0, none⟩) 2 2 := by have h := hdep 0 _ rfl (by kernel_rfl); simpa using h
                    have g158 : a'.tmps[158]?.getD undef = .int .i64 (k : Int) := by have h := hdep 1 _ rfl (by kernel_rfl); simpa using h
                    clear ho hfr hdep
                    go_wp2_with fail
                    exact ⟨rfl, _, rfl, Below.refl _ _, rfl⟩
                  · intro o ho a' w' hb hfr hdep
                    obtain rfl := Option.some.inj ho
                    have g159 : a'.tmps[159]?.getD undef = .pointer (some ⟨gK, k, none⟩) := by have h := hdep 2 _ rfl (by kernel_rfl); simpa using h
                    clear ho hfr hdep
                    have hcl := cell_blw qK2 hb
                    go_wp2_with fail
                    exact ⟨rfl, _, rfl, Below.refl _ _, rfl⟩
                  · intro o ho a' w' hb hfr hdep
                    obtain rfl := Option.some.inj ho
                    have g21 : a'.tmps[21]?.getD undef = .slice (some ⟨gT, 0, none⟩) 6 6 := by have h := hfr 21 (by kernel_rfl); simpa using h
                    clear ho hfr hdep
                    go_wp2_with fail
                    exact ⟨rfl, _, rfl, Below.refl _ _, rfl⟩
                  · intro o ho a' w' hb hfr hdep
                    obtain rfl := Option.some.inj ho
                    have g23 : a'.tmps[23]?.getD undef = .int .i64 (i : Int) := by have h := hfr 23 (by kernel_rfl); simpa using h
                    clear ho hfr hdep
                    go_wp2_with fail
                    exact ⟨rfl, _, rfl, Below.refl _ _, rfl⟩
                  · intro o ho a' w' hb hfr hdep
                    obtain rfl := Option.some.inj ho
                    have g161 : a'.tmps[161]?.getD undef = .slice (some ⟨gT, 0, none⟩) 6 6 := by have h := hdep 4 _ rfl (by kernel_rfl); simpa using h
                    have g162 : a'.tmps[162]?.getD undef = .int .i64 (i : Int) := by have h := hdep 5 _ rfl (by kernel_rfl); simpa using h
                    clear ho hfr hdep
                    go_wp2_with fail
                    exact ⟨rfl, _, rfl, Below.refl _ _, rfl⟩
                  · intro o ho a' w' hb hfr hdep
                    obtain rfl := Option.some.inj ho
                    have g163 : a'.tmps[163]?.getD undef = .pointer (some ⟨gT, i, none⟩) := by have h := hdep 6 _ rfl (by kernel_rfl); simpa using h
                    clear ho hfr hdep
                    have hcl := cell_blw qT2 hb
                    go_wp2_with fail
                    exact ⟨rfl, _, rfl, Below.refl _ _, rfl⟩
                  · intro o ho a' w' hb hfr hdep
                    obtain rfl := Option.some.inj ho
                    have g160 : a'.tmps[160]?.getD undef = V64 KK := by have h := hdep 3 _ rfl (by kernel_rfl); simpa using h
                    have g164 : a'.tmps[164]?.getD undef = .slice xr yr zr := by have h := hdep 7 _ rfl (by kernel_rfl); simpa using h
                    clear ho hfr hdep
                    go_wp2_with fail
                    refine (hOpB.out _ (sr.out.below (b21.out.trans (hb.mono b21.out.size)))).mono ?_
                    rintro e w2 ⟨a2, c2, rfl, o2, h2⟩
                    go_wp2_with fail
                    exact ⟨rfl, _, rfl, h2, _, _, rfl, o2⟩
                  · intro o ho a' w' hb hfr hdep
                    obtain rfl := Option.some.inj ho
                    obtain ⟨aT165, cT165, hT165, sT165⟩ := hdep 8 _ rfl (by kernel_rfl)
                    have g165 : a'.tmps[165]?.getD undef = .tuple #[.slice aT165 R1.length cT165, .int .i64 E1] := by simpa using hT165
                    clear ho hfr hdep
                    go_wp2_with fail
                    exact ⟨rfl, _, rfl, Below.refl _ _, _, _, rfl, sT165⟩
                  · intro o ho a' w' hb hfr hdep
                    obtain rfl := Option.some.inj ho
                    obtain ⟨aT156, cT156, hT156, sT156⟩ := hdep 9 _ rfl (by kernel_rfl)
                    have g156 : a'.tmps[156]?.getD undef = .tuple #[.slice aT156 R1.length cT156, .int .i64 E1] := by simpa using hT156
                    clear ho hfr hdep
                    go_wp2_with fail
                    exact ⟨rfl, _, rfl, Below.refl _ _, _, _, rfl, sT156⟩
                  · intro o ho a' w' hb hfr hdep
                    obtain rfl := Option.some.inj ho
                    obtain ⟨aT156, cT156, hT156, sT156⟩ := hdep 9 _ rfl (by kernel_rfl)
                    have g156 : a'.tmps[156]?.getD undef = .tuple #[.slice aT156 R1.length cT156, .int .i64 E1] := by simpa using hT156
                    clear ho hfr hdep
                    go_wp2_with fail
                    exact ⟨rfl, _, rfl, Below.refl _ _, rfl⟩
                  · intro o ho a' w' hb hfr hdep
                    obtain rfl := Option.some.inj ho
                    obtain ⟨aT166, cT166, hT166, sT166⟩ := hdep 10 _ rfl (by kernel_rfl)
                    have g166 : a'.tmps[166]?.getD undef = .slice aT166 R1.length cT166 := by simpa using hT166
                    clear ho hfr hdep
                    go_wp2_with fail
                    exact ⟨rfl, _, rfl, Below.refl _ _, _, _, rfl, sT166⟩
                · intro gg w22 hb hp'
                  obtain ⟨aB, cB, p27, sB⟩ := hp' 12 _ rfl
                  have p167 := hp' 11 _ rfl
                  clear hp'
                  simp at p27 p167
                  simp only [List.drop_succ_cons, List.drop_zero, List.map_cons, List.map_nil, putAll, Act.put, List.setIfInBounds_toArray, List.set_cons_succ, List.set_cons_zero, List.cons_append, List.nil_append, p27, p167]
                  clear p27 p167
                  have sA22 := sA.out.below hb
                  have b22 := b21.out.trans (hb.mono b21.out.size)
                  have hSm := ref_Same R1 R1 aA aB R1.length R1.length cA cB w22 sA22 sB
                  rw [show decide (R1 = R1) = true by simp] at hSm
                  have hne : ((E1 : Int) != E1) = false := by simp
                  go_wp2_with (go_at_call 29; refine hSm.mono ?_; rintro e23 w23 ⟨rfl, n23, rfl⟩)
                  have b23 := b22.trans ((Still.below n23).mono b22.size)
                  go_roundg (2 - (k + 1))
                  case measure => have := HGK.out; omega
                  case rel => exact ⟨k + 1, by omega, rfl, by go_num, b0.out.trans (b23.mono b0.out.size)⟩
                
      
            · obtain rfl : k = 2 := by omega
              have d1 : decide ((2 : Int) < 2) = false := by decide
              go_wp2_with fail
              go_roundg (6 - (i + 1))
              case measure => have := HGI.out; omega
              case rel => exact ⟨i + 1, by omega, rfl, by go_num, b0.out⟩
        · obtain rfl : i = 6 := by omega
          have d0 : decide ((6 : Int) < 6) = false := by decide
          go_wp2_with (go_at_call 23; refine (law37_lives _).mono ?_; rintro e w2 ⟨rfl, h2⟩)
          go_ret
          exact ⟨rfl, (bw14.out.trans (B14.out.mono bw14.out.size)).trans (h2.mono (bw14.out.trans (B14.out.mono bw14.out.size)).size)⟩
theorem walk_Seals (l : List UInt8) (z z2 at_ y : Int) (a : Option Addr) (n c : Nat) (w : World) (hz : (Lit.int .u64 z).wf = true) (hz2 : (Lit.int .u64 z2).wf = true) (hs : Sl w 1 a n c (l.map B8)) (hat : -9223372036854775808 ≤ at_ ∧ at_ ≤ 9223372036854775807) (hy : (Lit.int .u8 y).wf = true) :
    Calls Try.prog 4 #[.int .u64 z, .int .u64 z2, .slice a n c, .int .i64 at_, .int .u8 y] w fun r w' => r = .returned (.bool true) ∧ Below w.heap.size w w' := by
  obtain ⟨key, rfl⟩ := u64_of hz
  obtain ⟨key2, rfl⟩ := u64_of hz2
  obtain ⟨v, rfl⟩ := u8_of7 hy
  exact walk_Seals0 key key2 l at_ v a n c w hs hat.1 hat.2
end Go.Proofs.Ytjdnmbapmobaaaa
end
