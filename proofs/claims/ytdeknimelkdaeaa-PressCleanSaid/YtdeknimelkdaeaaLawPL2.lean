/- The contracts of the functions that the law reaches, joined into one text. -/
import Derived.Test.YtdeknimelkdaeaaBaseP23E
import Derived.OpenShut
import Derived.Deep.Slices
import Derived.Deep.Strs
import Derived.SizedLaws
set_option linter.unusedVariables false
set_option linter.unusedSimpArgs false

/- the text Row2 -/
section
/- How the arguments of a law read: slices of integers, of strings, of arrays of integers, with the form's own reach. No program. -/
namespace Go.Dx
open Go.RowKit Go.WideShapes Go.ChangeShapes Go.Deep

/-- no part is longer than the form lets it be -/
def Sized {H : Type} (P : Program) (t : TypeId) (d : DataW H) : Prop := ∀ n ∈ d.weights P t, n ≤ reachBytes
section
variable {H : Type} {enc : TypeId × Value → H} {P : Program} {w : World}
theorem sized_at {ts : List TypeId} {ds : List (DataW H)} (hwt : (DataW.weightsEach P ts ds).all (· ≤ reachBytes) = true) (j : Nat) {t : TypeId} {d : DataW H} (ht : ts[j]? = some t) (hd : ds[j]? = some d) : Sized P t d :=
  fun n hn => by simpa using List.all_eq_true.1 hwt _ (DataW.weights_mem_each ht hd n hn)
theorem sized_all {e : TypeId} : ∀ {l : List (DataW H)} {d : DataW H}, d ∈ l → ∀ n ∈ d.weights P e, n ∈ DataW.weightsAll P e l
  | x :: l, d, hd, n, hn => by
    simp only [DataW.weightsAll, List.mem_append]
    rcases List.mem_cons.1 hd with rfl | h
    · exact .inl hn
    · exact .inr (sized_all h n hn)
theorem Sized.slice {t e : TypeId} {elems spare : List (DataW H)} (h : Sized P t (.slice elems spare)) (hu : P.underlying t = some (.slice e)) :
    (elems.length + spare.length) * P.bytesOf e ≤ reachBytes ∧ (∀ d ∈ elems, Sized P e d) :=
  ⟨h _ (by simp [DataW.weights, hu]), fun d hd n hn => h n (by simp only [DataW.weights, hu, List.mem_cons, List.mem_append]; exact .inr (.inl (sized_all hd n hn)))⟩
theorem Sized.string {t : TypeId} {b : List UInt8} (h : Sized P t (DataW.lit (H := H) (.string b))) : b.length ≤ reachBytes := h _ (by simp [DataW.weights])

theorem add_cells {a : Addr} {n : Nat} : a.add n = a.add n := rfl

theorem trod_ints {t e : TypeId} {k : IntKind} (ht : P.underlying t = some (.slice e)) (he : P.underlying e = some (.int k)) (hc : P.cellsOf e = 1) (hb : 0 < P.bytesOf e) {a : Option Addr} {len cap : Nat} {d : DataW H} {p : List MemPlace}
    (hs : Sized P t d) (h : DataW.Trod enc P w 0 (fun _ => true) true t (.slice a len cap) d p) :
    ∃ zs : List Int, Sl w 1 a len cap (zs.map (Value.int k)) ∧ (∀ n ∈ zs, (Lit.int k n).wf = true) ∧ len ≤ reachBytes := by
  obtain ⟨fuel, hf⟩ := h
  rcases open_ints ht he hc hf with ⟨hcs, _⟩ | ⟨x, l, c, zs, hcs, _, hl, hm, hz, hx, hcell, hwz⟩
  · simp [Value.cells] at hcs
    obtain ⟨rfl, rfl, rfl⟩ := hcs
    exact ⟨[], Sl.empty w 1, by simp, Nat.zero_le _⟩
  · simp [Value.cells] at hcs
    obtain ⟨rfl, rfl, rfl⟩ := hcs
    have hz2 : zs.length = cap := by simpa using hz
    have hd := congrArg Prod.fst hx
    simp only at hd
    subst hd
    refine ⟨zs.take len, ⟨by simp; omega, hl, hm, (fun h => by cases h), ?_⟩, fun n hn => hwz n (List.mem_of_mem_take hn), ?_⟩
    · intro q hq j u hj
      cases hq
      rw [List.getElem?_map, List.getElem?_take] at hj
      by_cases hlt : j < len
      · rw [if_pos hlt] at hj
        have hjz : j < zs.length := by omega
        rw [List.getElem?_eq_getElem hjz] at hj
        simp at hj
        rw [hcell j hjz, ← hj, List.getD_eq_getElem?_getD, List.getElem?_eq_getElem hjz]
        rfl
      · rw [if_neg hlt] at hj; cases hj
    · have hsz := (hs.slice ht).1
      rw [show ∀ (k : IntKind) (l : List Int), (lits (H := H) k l).length = l.length from fun k l => by simp [lits], List.length_take, show min len zs.length = len by omega] at hsz
      exact Nat.le_trans (Nat.le_trans (Nat.le_add_right _ _) (Nat.le_mul_of_pos_right _ hb)) hsz

theorem trod_bytes {t e : TypeId} (ht : P.underlying t = some (.slice e)) (he : P.underlying e = some (.int .u8)) (hc : P.cellsOf e = 1) (hb : 0 < P.bytesOf e) {a : Option Addr} {len cap : Nat} {d : DataW H} {p : List MemPlace}
    (hs : Sized P t d) (h : DataW.Trod enc P w 0 (fun _ => true) true t (.slice a len cap) d p) :
    ∃ l : List UInt8, Sl w 1 a len cap (l.map B8) ∧ len ≤ reachBytes := by
  obtain ⟨zs, h1, h2, h3⟩ := trod_ints ht he hc hb hs h
  refine ⟨zs.map fun n => UInt8.ofNat n.toNat, ?_, h3⟩
  have e : (zs.map fun n => UInt8.ofNat n.toNat).map B8 = zs.map (Value.int .u8) := by
    rw [List.map_map]
    apply List.map_congr_left
    intro n hn
    have hb : 0 ≤ n ∧ n ≤ 255 := bounds_u8 (h2 n hn)
    show Value.int .u8 ((UInt8.ofNat n.toNat).toNat : Int) = _
    rw [UInt8.toNat_ofNat']
    congr 1
    omega
  rw [e]
  exact h1
theorem trod_i64s {t e : TypeId} (ht : P.underlying t = some (.slice e)) (he : P.underlying e = some (.int .i64)) (hc : P.cellsOf e = 1) (hb : 0 < P.bytesOf e) {a : Option Addr} {len cap : Nat} {d : DataW H} {p : List MemPlace}
    (hs : Sized P t d) (h : DataW.Trod enc P w 0 (fun _ => true) true t (.slice a len cap) d p) :
    ∃ l : List Int, Sl w 1 a len cap (l.map I64) ∧ (∀ n ∈ l, -9223372036854775808 ≤ n ∧ n ≤ 9223372036854775807) ∧ len ≤ reachBytes := by
  obtain ⟨zs, h1, h2, h3⟩ := trod_ints ht he hc hb hs h
  exact ⟨zs, h1, fun n hn => bounds_i64 (h2 n hn), h3⟩

theorem trod_strs {t e : TypeId} (ht : P.underlying t = some (.slice e)) (he : P.underlying e = some .string) (hc : P.cellsOf e = 1) (hb : 0 < P.bytesOf e) {a : Option Addr} {len cap : Nat} {d : DataW H} {p : List MemPlace}
    (hs : Sized P t d) (h : DataW.Trod enc P w 0 (fun _ => true) true t (.slice a len cap) d p) :
    ∃ l : List ByteArray, Sl w 1 a len cap (l.map Value.string) ∧ (∀ s ∈ l, s.size ≤ reachBytes) ∧ len ≤ reachBytes ∧ (l = [] ∨ ∃ sp, d = .slice (l.map fun s => .lit (.string s.data.toList)) sp) := by
  obtain ⟨fuel, hf⟩ := h
  rcases open_strs ht he hc hf with ⟨hcs, _⟩ | ⟨x, l, c, m, Sx, hcs, _, hl, hm, hmm, hx, hcell⟩
  · simp [Value.cells] at hcs
    obtain ⟨rfl, rfl, rfl⟩ := hcs
    exact ⟨[], Sl.empty w 1, by simp, Nat.zero_le _, .inl rfl⟩
  · simp [Value.cells] at hcs
    obtain ⟨rfl, rfl, rfl⟩ := hcs
    simp only [if_true] at hmm
    subst hmm
    have hd := congrArg Prod.fst hx
    simp only at hd
    subst hd
    obtain ⟨z1, z2⟩ := hs.slice ht
    refine ⟨(List.range len).map Sx, ⟨by simp, hl, hm, (fun h => by cases h), ?_⟩, ?_, ?_, .inr ⟨_, by rw [List.map_map]; rfl⟩⟩
    · intro q hq j u hj
      cases hq
      have hlt : j < len := by have := (List.getElem?_eq_some_iff.1 hj).1; simpa using this
      rw [(hcell j (by omega)).1]
      simp [hlt] at hj
      rw [hj]
    · intro s hs
      obtain ⟨i, hi, rfl⟩ := List.mem_map.1 hs
      have := Sized.string (z2 _ (List.mem_map.2 ⟨i, hi, rfl⟩))
      rwa [show (Sx i).data.toList.length = (Sx i).size from Array.length_toList] at this
    · simp only [List.length_map, List.length_range] at z1
      exact Nat.le_trans (Nat.le_trans (Nat.le_add_right _ _) (Nat.le_mul_of_pos_right _ hb)) z1

theorem trod_arr {t e n : Nat} {k : IntKind} {base : Nat} {spare : Nat → Bool} {held : Bool} {fuel : Nat} {cs : List Value} {x : DataW H × List MemPlace} (ht : P.underlying t = some (.array n e)) (he : P.underlying e = some (.int k)) (hc : P.cellsOf e = 1) (hct : P.cellsOf t = n)
    (h : DataW.trod enc P w base spare held fuel t cs = some x) : cs.length = n ∧ ∀ i, i < n → ∃ z, cs[i]? = some (.int k z) ∧ (Lit.int k z).wf = true := by
  obtain ⟨xs, m, _, _, hl, hxl, hi⟩ := DataW.trod_array ht h
  rw [hct] at hl
  refine ⟨hl, fun i hin => ?_⟩
  have h1 := hi i hin
  rw [hc, Nat.mul_one, List.getElem?_eq_getElem (by omega)] at h1
  obtain ⟨z, hz, _, hw⟩ := DataW.trod_int he h1
  refine ⟨z, ?_, hw⟩
  have := congrArg (·[0]?) hz
  simpa [List.getElem?_take, List.getElem?_drop] using this

theorem trod_arrs {t e q n : Nat} {k : IntKind} (ht : P.underlying t = some (.slice e)) (he : P.underlying e = some (.array n q)) (hq : P.underlying q = some (.int k)) (hc : P.cellsOf q = 1) (hce : P.cellsOf e = n) (hb : 0 < P.bytesOf e) (hn0 : 0 < n)
    {a : Option Addr} {len cap : Nat} {d : DataW H} {p : List MemPlace} (hs : Sized P t d) (h : DataW.Trod enc P w 0 (fun _ => true) true t (.slice a len cap) d p) :
    ∃ zs : List Int, Sl w n a len cap (zs.map (Value.int k)) ∧ (∀ n ∈ zs, (Lit.int k n).wf = true) ∧ len ≤ reachBytes := by
  obtain ⟨fuel, hf⟩ := h
  rcases open_slice ht hf with ⟨hcs, _⟩ | ⟨x, l, c, m, g, D, Pl, hcs, _, hl, hm, hmm, hx, hel⟩
  · simp [Value.cells] at hcs
    obtain ⟨rfl, rfl, rfl⟩ := hcs
    exact ⟨[], Sl.empty w n, by simp, Nat.zero_le _⟩
  · simp [Value.cells] at hcs
    obtain ⟨rfl, rfl, rfl⟩ := hcs
    simp only [if_true] at hmm
    subst hmm
    have hd := congrArg Prod.fst hx
    simp only at hd
    subst hd
    obtain ⟨z1, z2⟩ := hs.slice ht
    have each : ∀ j, j < len * n → ∃ z, w.cell? (x.add j) = some (.int k z) ∧ (Lit.int k z).wf = true := by
      intro j hj
      have hi : j / n < len := (Nat.div_lt_iff_lt_mul hn0).2 hj
      obtain ⟨cs', h1, h2⟩ := hel (j / n) (by omega)
      rw [hce] at h1
      obtain ⟨_, hcl, hat⟩ := World.cells?_some h1
      have hr : j % n < n := Nat.mod_lt _ hn0
      obtain ⟨z, hz, hwz⟩ := (trod_arr he hq hc hce h2).2 (j % n) hr
      refine ⟨z, ?_, hwz⟩
      have := hat (j % n) hr
      rw [sl_add, Nat.div_add_mod'] at this
      rw [this, hz]
    obtain ⟨Z, hZ⟩ := choose_lt each
    refine ⟨(List.range (len * n)).map Z, ⟨by simp, hl, hm, (fun h => by cases h), ?_⟩, ?_, ?_⟩
    · intro q hq j u hj
      cases hq
      have hlt : j < len * n := by have := (List.getElem?_eq_some_iff.1 hj).1; simpa using this
      rw [(hZ j hlt).1]
      simp [hlt] at hj
      rw [hj]
    · intro z hz
      obtain ⟨i, hi, rfl⟩ := List.mem_map.1 hz
      exact (hZ i (List.mem_range.1 hi)).2
    · simp only [List.length_map, List.length_range] at z1
      exact Nat.le_trans (Nat.le_trans (Nat.le_add_right _ _) (Nat.le_mul_of_pos_right _ hb)) z1
theorem bytes_of_wf {zs : List Int} (h : ∀ n ∈ zs, (Lit.int .u8 n).wf = true) : ∃ l : List UInt8, l.map B8 = zs.map (Value.int .u8) := by
  refine ⟨zs.map fun n => UInt8.ofNat n.toNat, ?_⟩
  rw [List.map_map]
  apply List.map_congr_left
  intro n hn
  have hb : 0 ≤ n ∧ n ≤ 255 := bounds_u8 (h n hn)
  show Value.int .u8 ((UInt8.ofNat n.toNat).toNat : Int) = _
  rw [UInt8.toNat_ofNat']
  congr 1
  omega
end
end Go.Dx
end

/- the text P24 -/
section
/- Chapter 35: Good finds as many sheets of a kind as there are (plain Lean). -/
set_option linter.unusedVariables false
namespace Go.Proofs.Ytdeknimelkdaeaa
open Go.RowKit Go.Dx Go.Al
abbrev KeyS := Pgl × Pgl
def keyS (s : Sht) : KeyS := (plainL s.1, plainL s.2)
theorem samS_iff (s t : Sht) : samS s t = true ↔ keyS s = keyS t := by
  unfold samS keyS
  simp only [Bool.and_eq_true, decide_eq_true_eq, Prod.mk.injEq]
/-- sheet k is taken and of this kind -/
def tkn (all : List Sht) (T : List Bool) (κ : KeyS) (k : Nat) : Bool := T.getD k false && decide (keyS (all.getD k ([], [])) = κ)
def ofK (all : List Sht) (κ : KeyS) (k : Nat) : Bool := decide (keyS (all.getD k ([], [])) = κ)
def cntT (all : List Sht) (T : List Bool) (κ : KeyS) : Nat := (List.range all.length).countP (tkn all T κ)
def cntS (l : List Sht) (κ : KeyS) : Nat := l.countP fun s => decide (keyS s = κ)
theorem countP_flip {p q : Nat → Bool} {k : Nat} : ∀ n, k < n → p k = false → q k = true → (∀ j, j ≠ k → q j = p j) → (List.range n).countP q = (List.range n).countP p + 1
  | 0, h, _, _, _ => by omega
  | n + 1, h, h1, h2, h3 => by
    rw [List.range_succ, List.countP_append, List.countP_append]
    by_cases hk : k = n
    · subst hk
      have e : (List.range k).countP q = (List.range k).countP p := List.countP_congr fun j hj => by
        rw [List.mem_range] at hj
        rw [h3 j (by omega)]
      rw [e]
      simp [List.countP_cons, h1, h2]
    · have ih := countP_flip n (by omega) h1 h2 h3
      rw [ih]
      have e : q n = p n := h3 n (Ne.symm hk)
      simp [List.countP_cons, e]
      omega
theorem cntS_all (all : List Sht) (κ : KeyS) : cntS all κ = (List.range all.length).countP (ofK all κ) := by
  unfold cntS
  have e : all = (List.range all.length).map fun k => all.getD k ([], []) := by
    apply List.ext_getElem
    · simp
    · intro i h1 h2
      simp [List.getD_eq_getElem?_getD, h1]
  conv => lhs; rw [e]
  rw [List.countP_map]
  rfl
/-- what stands after m sheets: of each kind, all are taken, or as many as were met -/
def GInv (all out : List Sht) (m : Nat) : Prop :=
  ∀ κ, (∀ k, k < all.length → keyS (all.getD k ([], [])) = κ → (goodUp all out m).2.getD k false = true) ∨ cntT all (goodUp all out m).2 κ = cntS (out.take m) κ
theorem pick_some {all : List Sht} {T : List Bool} {s : Sht} {k : Nat} (h : pickG all T s = some k) : k < all.length ∧ T.getD k true = false ∧ keyS s = keyS (all.getD k ([], [])) := by
  have h1 := List.find?_some h
  have h2 := List.mem_of_find?_eq_some h
  rw [List.mem_range] at h2
  unfold cand at h1
  simp only [Bool.and_eq_true, Bool.not_eq_true'] at h1
  exact ⟨h2, h1.1, (samS_iff _ _).1 h1.2⟩
theorem pick_none {all : List Sht} {T : List Bool} {s : Sht} (hl : T.length = all.length) (h : pickG all T s = none) (k : Nat) (hk : k < all.length) (hs : keyS (all.getD k ([], [])) = keyS s) : T.getD k false = true := by
  have h1 := List.find?_eq_none.1 h k (by simp [hk])
  unfold cand at h1
  have h2 : samS s (all.getD k ([], [])) = true := (samS_iff _ _).2 hs.symm
  rw [h2] at h1
  simp only [Bool.and_true, Bool.not_eq_true', Bool.not_eq_false] at h1
  rw [List.getD_eq_getElem?_getD, List.getElem?_eq_getElem (by omega)] at h1 ⊢
  simpa using h1
theorem ginv (all out : List Sht) : ∀ m, m ≤ out.length → GInv all out m
  | 0, _ => fun κ => .inr (by
    unfold cntT cntS
    simp only [List.take_zero, List.countP_nil]
    rw [List.countP_eq_zero]
    intro k hk
    rw [List.mem_range] at hk
    unfold tkn goodUp
    simp [List.getD_eq_getElem?_getD, hk])
  | m + 1, hm => by
    have ih := ginv all out m (by omega)
    have hlen := (goodUp_len all out m).1
    obtain ⟨s, hs⟩ : ∃ s, out[m]? = some s := ⟨out[m], by simp [show m < out.length by omega]⟩
    have htake : out.take (m + 1) = out.take m ++ [s] := take_snoc hs
    intro κ
    have hg : out.getD m ([], []) = s := by rw [List.getD_eq_getElem?_getD, hs]; rfl
    cases hp : pickG all (goodUp all out m).2 s with
    | none =>
      have e : goodUp all out (m + 1) = goodUp all out m := by rw [goodUp, hg, hp]
      rw [e]
      by_cases hκ : keyS s = κ
      · exact .inl fun k hk hks => pick_none hlen hp k hk (by rw [hks, hκ])
      · rcases ih κ with h | h
        · exact .inl h
        · refine .inr ?_
          rw [h, htake]
          unfold cntS
          simp [List.countP_append, List.countP_cons, hκ]
    | some k =>
      obtain ⟨hk, hT, hks⟩ := pick_some hp
      have e : goodUp all out (m + 1) = ((goodUp all out m).1 ++ [m], (goodUp all out m).2.set k true) := by rw [goodUp, hg, hp]
      rw [e]
      have ihk := ih κ
      clear ih
      generalize (goodUp all out m).2 = T at *
      have hTk : T.getD k false = false := by
        rw [List.getD_eq_getElem?_getD, List.getElem?_eq_getElem (by omega)] at hT ⊢
        simpa using hT
      have hset : ∀ j, (T.set k true).getD j false = if j = k then true else T.getD j false := fun j => by
        rw [List.getD_eq_getElem?_getD, List.getElem?_set, List.getD_eq_getElem?_getD]
        by_cases hj : j = k
        · rw [if_pos hj.symm, if_pos hj, if_pos (by omega)]; rfl
        · rw [if_neg (Ne.symm hj), if_neg hj]
      rcases ihk with h | h
      · refine .inl fun j hj hjs => ?_
        rw [hset]
        split
        · rfl
        · exact h j hj hjs
      · refine .inr ?_
        rw [htake]
        by_cases hκ : keyS s = κ
        · have h1 : cntT all (T.set k true) κ = cntT all T κ + 1 := by
            unfold cntT
            refine countP_flip (k := k) _ hk ?_ ?_ ?_
            · unfold tkn; rw [hTk]; rfl
            · unfold tkn
              rw [hset, if_pos rfl, ← hks, hκ]
              simp
            · intro j hj
              unfold tkn
              rw [hset, if_neg hj]
          rw [h1, h]
          unfold cntS
          simp [List.countP_append, List.countP_cons, hκ]
        · have h1 : cntT all (T.set k true) κ = cntT all T κ := by
            unfold cntT
            refine List.countP_congr fun j hj => ?_
            unfold tkn
            rw [hset]
            by_cases hjk : j = k
            · rw [if_pos hjk, hjk, ← hks]
              simp [hκ]
            · rw [if_neg hjk]
          rw [h1, h]
          unfold cntS
          simp [List.countP_append, List.countP_cons, hκ]
/-- where as many sheets of its kind are met as there are, a sheet is taken -/
theorem taken_of_cnt {all out : List Sht} {k : Nat} (hk : k < all.length) (h : cntS all (keyS (all.getD k ([], []))) ≤ cntS out (keyS (all.getD k ([], [])))) : (goodUp all out out.length).2.getD k false = true := by
  rcases ginv all out out.length (Nat.le_refl _) (keyS (all.getD k ([], []))) with h1 | h1
  · exact h1 k hk rfl
  · rw [List.take_length] at h1
    rw [← h1, cntS_all] at h
    unfold cntT at h
    generalize (goodUp all out out.length).2 = T at *
    cases hT : T.getD k false with
    | true => rfl
    | false =>
      have hle : (List.range all.length).countP (tkn all T (keyS (all.getD k ([], [])))) + 1 ≤ (List.range all.length).countP (ofK all (keyS (all.getD k ([], [])))) := by
        have hq : (List.range all.length).countP (fun j => tkn all T (keyS (all.getD k ([], []))) j || decide (j = k)) = (List.range all.length).countP (tkn all T (keyS (all.getD k ([], [])))) + 1 := by
          refine countP_flip (k := k) _ hk ?_ ?_ ?_
          · unfold tkn; rw [hT]; rfl
          · simp
          · intro j hj; simp [hj]
        rw [← hq]
        refine List.countP_mono_left fun j hj hp => ?_
        unfold ofK
        simp only [Bool.or_eq_true, decide_eq_true_eq] at hp ⊢
        rcases hp with hp | hp
        · unfold tkn at hp
          simp only [Bool.and_eq_true, decide_eq_true_eq] at hp
          exact hp.2
        · rw [hp]
      omega
theorem missUp_nil {T : List Bool} {n : Nat} (h : ∀ k, 2 * k < n → T.getD k true = true) : missUp T n = [] := by
  unfold missUp
  rw [List.filter_eq_nil_iff]
  intro i hi
  rw [List.mem_range] at hi
  have := h (i / 2) (by omega)
  rw [this]
  simp
theorem getD_tf {T : List Bool} {k : Nat} (h : T.getD k false = true) : T.getD k true = true := by
  rw [List.getD_eq_getElem?_getD] at h ⊢
  cases hk : T[k]? with
  | none => rfl
  | some b => rw [hk] at h; simpa using h
end Go.Proofs.Ytdeknimelkdaeaa
end

/- the text P25 -/
section
/- Chapter 35: a machine that runs without faults (plain Lean). -/
set_option linter.unusedVariables false
namespace Go.Proofs.Ytdeknimelkdaeaa
open Go.RowKit Go.Dx Go.Al
/-- the first r rows of a page, on a sheet of 25 rows -/
def pad (r : Nat) (p : Pgl) : Pgl := (List.range 25).map fun i => if i < r then p.getD i [] else []
theorem pad_len (r : Nat) (p : Pgl) : (pad r p).length = 25 := by simp [pad]
theorem pad_get (r : Nat) (p : Pgl) (i : Nat) : (pad r p)[i]? = if i < 25 then some (if i < r then p.getD i [] else []) else none := by
  unfold pad
  rw [List.getElem?_map]
  by_cases h : i < 25
  · rw [if_pos h, List.getElem?_range h]; rfl
  · rw [if_neg h, List.getElem?_eq_none (by simp; omega)]; rfl
theorem pad_zero (p : Pgl) : pad 0 p = blank := by
  apply List.ext_getElem?
  intro i
  rw [pad_get]
  unfold blank
  rw [List.getElem?_replicate]
  by_cases h : i < 25
  · rw [if_pos h, if_pos h]; rfl
  · rw [if_neg h, if_neg h]
theorem rowD_pad {r : Nat} (p : Pgl) (hr : r < 25) : rowD r p (pad r p) = pad (r + 1) p := by
  unfold rowD
  apply List.ext_getElem?
  intro i
  split
  · rename_i hp
    rw [List.getElem?_set, pad_get, pad_get, pad_len]
    by_cases hri : r = i
    · subst hri
      rw [if_pos rfl, if_pos hr, if_pos hr, if_pos (by omega)]
    · rw [if_neg hri]
      by_cases h25 : i < 25
      · rw [if_pos h25, if_pos h25]
        by_cases h : i < r
        · rw [if_pos h, if_pos (by omega)]
        · rw [if_neg h, if_neg (by omega)]
      · rw [if_neg h25, if_neg h25]
  · rename_i hp
    rw [pad_get, pad_get]
    by_cases h25 : i < 25
    · rw [if_pos h25, if_pos h25]
      by_cases h : i < r
      · rw [if_pos h, if_pos (by omega)]
      · rw [if_neg h]
        by_cases h2 : i < r + 1
        · rw [if_pos h2, List.getD_eq_getElem?_getD, List.getElem?_eq_none (by omega)]; rfl
        · rw [if_neg h2]
    · rw [if_neg h25, if_neg h25]
def padS (r : Nat) (s : Sht) : Sht := (pad r s.1, pad r s.2)
theorem pad_plain {p : Pgl} (h : p.length ≤ 25) : plainL (pad 25 p) = plainL p := by
  rw [plain_eq_iff]
  intro Y X
  unfold pcell pad
  by_cases hY : Y < 25
  · rw [List.getD_eq_getElem?_getD (i := Y), List.getElem?_map, List.getElem?_range hY]
    simp [hY]
  · have e1 : ((List.range 25).map fun i => if i < 25 then p.getD i [] else []).getD Y [] = [] := by
      rw [List.getD_eq_getElem?_getD, List.getElem?_eq_none (by simp; omega)]; rfl
    have e2 : p.getD Y [] = [] := by rw [List.getD_eq_getElem?_getD, List.getElem?_eq_none (by omega)]; rfl
    rw [e1, e2]
theorem padS_key {s : Sht} (h1 : s.1.length ≤ 25) (h2 : s.2.length ≤ 25) : keyS (padS 25 s) = keyS s := by
  unfold keyS padS
  rw [pad_plain h1, pad_plain h2]
/-- the machine, j rows after its start with sheets all, T0 in its tray -/
def clnS (all T0 : List Sht) (p0 k r : Nat) : Pr :=
  if r = 0 then ⟨[], [], [], [], 0, false, p0 - k, all.drop k, T0 ++ (all.take k).map (padS 25), 0⟩
  else ⟨(all.getD k ([], [])).1, (all.getD k ([], [])).2, pad r (all.getD k ([], [])).1, pad r (all.getD k ([], [])).2, r, true, p0 - (k + 1), all.drop (k + 1), T0 ++ (all.take k).map (padS 25), 0⟩
theorem cln_step {all T0 : List Sht} {p0 k r : Nat} (hk : k < all.length) (hp : all.length ≤ p0) (hr : r < 25) :
    stepP (clnS all T0 p0 k r) 0 = (if r + 1 = 25 then clnS all T0 p0 (k + 1) 0 else clnS all T0 p0 k (r + 1), 0) := by
  obtain ⟨s, hs⟩ : ∃ s, all[k]? = some s := ⟨all[k], by simp [hk]⟩
  have hg : all.getD k ([], []) = s := by rw [List.getD_eq_getElem?_getD, hs]; rfl
  have hd : all.drop k = s :: all.drop (k + 1) := by rw [List.drop_eq_getElem_cons hk]; congr 1; rw [List.getElem?_eq_getElem hk] at hs; exact Option.some.inj hs
  have htk : all.take (k + 1) = all.take k ++ [s] := take_snoc hs
  have hT : takeP (clnS all T0 p0 k r) = (⟨s.1, s.2, pad r s.1, pad r s.2, r, true, p0 - (k + 1), all.drop (k + 1), T0 ++ (all.take k).map (padS 25), 0⟩, 0) := by
    unfold clnS
    by_cases h0 : r = 0
    · subst h0
      rw [if_pos rfl, hd]
      unfold takeP
      simp only [Bool.false_eq_true, if_false]
      rw [if_neg (by omega), pad_zero, pad_zero]
      congr 2
    · rw [if_neg h0, hg]
      rfl
  have hmd : (clnS all T0 p0 k r).mode = 0 := by unfold clnS; split <;> rfl
  unfold stepP
  rw [hmd, if_neg (by decide), if_neg (by decide), hT]
  simp only [ne_eq, not_true_eq_false, if_false, if_true, reduceCtorEq]
  congr 1
  unfold doneP embP emS
  simp only [Nat.lt_irrefl, Nat.zero_lt_two, Nat.one_lt_two, if_true]
  rw [rowD_pad _ hr, rowD_pad _ hr]
  by_cases h25 : r + 1 = 25
  · rw [if_pos h25, if_pos h25]
    unfold layP clnS
    rw [if_pos rfl, htk, List.map_append, h25, ← List.append_assoc]
    rfl
  · rw [if_neg h25, if_neg h25]
    unfold clnS
    rw [if_neg (by omega), hg]
/-- after j rows -/
theorem cln_rows {all T0 : List Sht} {p0 : Nat} (hp : all.length ≤ p0) (j : Nat) (hj : j < 25 * all.length) :
    stepP (clnS all T0 p0 (j / 25) (j % 25)) 0 = (clnS all T0 p0 ((j + 1) / 25) ((j + 1) % 25), 0) := by
  rw [cln_step (by omega) hp (by omega)]
  by_cases h : j % 25 + 1 = 25
  · rw [if_pos h, show (j + 1) / 25 = j / 25 + 1 by omega, show (j + 1) % 25 = 0 by omega]
  · rw [if_neg h, show (j + 1) / 25 = j / 25 by omega, show (j + 1) % 25 = j % 25 + 1 by omega]
theorem cln_end {all T0 : List Sht} {p0 k : Nat} (hk : all.length ≤ k) : stepP (clnS all T0 p0 k 0) 0 = (clnS all T0 p0 k 0, 6) ∧ (clnS all T0 p0 k 0).tray = T0 ++ all.map (padS 25) := by
  unfold clnS
  rw [if_pos rfl, List.drop_of_length_le hk, List.take_of_length_le hk]
  exact ⟨rfl, rfl⟩
theorem cntS_keys {l l' : List Sht} (h : l.map keyS = l'.map keyS) (κ : KeyS) : cntS l κ = cntS l' κ := by
  have e : ∀ l : List Sht, cntS l κ = (l.map keyS).countP (fun x => decide (x = κ)) := fun l => by
    unfold cntS; rw [List.countP_map]; rfl
  rw [e, e, h]
theorem keys_pad {all : List Sht} (h : ∀ s ∈ all, s.1.length ≤ 25 ∧ s.2.length ≤ 25) : (all.map (padS 25)).map keyS = all.map keyS := by
  rw [List.map_map]
  exact List.map_congr_left fun s hs => padS_key (h s hs).1 (h s hs).2
/-- the number of good sheets is the number of sheets taken -/
theorem goodUp_true (all out : List Sht) : ∀ m, (goodUp all out m).1.length = (goodUp all out m).2.countP id
  | 0 => by unfold goodUp; simp [List.countP_replicate]
  | m + 1 => by
    have ih := goodUp_true all out m
    have hlen := (goodUp_len all out m).1
    rw [goodUp]
    cases hp : pickG all (goodUp all out m).2 (out.getD m ([], [])) with
    | none => exact ih
    | some k =>
      obtain ⟨hk, hT, -⟩ := pick_some hp
      simp only
      rw [List.length_append, ih]
      generalize (goodUp all out m).2 = T at *
      have hkl : k < T.length := by omega
      have hf : T[k] = false := by rw [List.getD_eq_getElem?_getD, List.getElem?_eq_getElem hkl] at hT; simpa using hT
      rw [List.countP_set hkl]
      simp [hf]
theorem clean_good {L : List Pgl} (h : ∀ p ∈ L, p.length ≤ 25) : (goodF L ((sheetsL L).map (padS 25))).1.length = (sheetsL L).length ∧ (goodF L ((sheetsL L).map (padS 25))).2 = [] := by
  have hs : ∀ s ∈ sheetsL L, s.1.length ≤ 25 ∧ s.2.length ≤ 25 := fun s hs => by
    obtain ⟨h1, h2⟩ := sheetsL_mem L s hs
    refine ⟨h _ h1, ?_⟩
    rcases h2 with h2 | h2
    · exact h _ h2
    · rw [h2]; simp
  have hall : ∀ k, k < (sheetsL L).length → (goodUp (sheetsL L) ((sheetsL L).map (padS 25)) ((sheetsL L).map (padS 25)).length).2.getD k false = true := fun k hk => by
    refine taken_of_cnt hk ?_
    rw [cntS_keys (keys_pad hs)]
    exact Nat.le_refl _
  have hl := (goodUp_len (sheetsL L) ((sheetsL L).map (padS 25)) ((sheetsL L).map (padS 25)).length).1
  refine ⟨?_, missUp_nil fun k hk => getD_tf (hall k (by rw [sheetsL_len]; omega))⟩
  unfold goodF
  simp only
  rw [goodUp_true]
  generalize (goodUp (sheetsL L) ((sheetsL L).map (padS 25)) ((sheetsL L).map (padS 25)).length).2 = T at *
  rw [List.countP_eq_length.2 fun b hb => by
    obtain ⟨i, hi, rfl⟩ := List.mem_iff_getElem.1 hb
    have := hall i (by omega)
    rw [List.getD_eq_getElem?_getD, List.getElem?_eq_getElem hi] at this
    simpa using this]
  exact hl
end Go.Proofs.Ytdeknimelkdaeaa
end

/- the text PL2 -/
section
/- Chapter 35: the walk of PressClean. -/
set_option linter.unusedVariables false
namespace Go.Proofs.Ytdeknimelkdaeaa
open Go.RowKit Go.Dx Go.Al
theorem Tbs.pgs {w : World} {a : Option Addr} {B n c : Nat} {hs : List Hd} {L : List Pgl} (h : Tbs w hs L) (ho : Own w B 28 1 a n c (hs.map hv)) : Pgs w a n c hs L :=
  ⟨ho.sl, h.len, fun i x p h1 h2 => (h.get i x p h1 h2).pg⟩
theorem load_ok {S : Pr} {L : List Pgl} (hL : ∀ p ∈ L, PF p) (h : S.waiting.length + (L.length + 1) / 2 ≤ 64) : loadP S L = ({ S with waiting := S.waiting ++ sheetsL L }, 0) := by
  unfold loadP
  have h1 : L.any badPg = false := List.any_eq_false.2 fun p hp => by unfold badPg; rw [(hL p hp).fits]; simp
  rw [h1, if_neg (by decide), if_neg (by omega)]
theorem inv_cln {L : List Pgl} {p0 : Nat} (hL : ∀ p ∈ L, PF p) (h64 : (L.length + 1) / 2 ≤ 64) (hp : (sheetsL L).length ≤ p0) (hp2 : p0 ≤ 1000) : ∀ i, i ≤ 25 * (sheetsL L).length → PInv (clnS (sheetsL L) [] p0 (i / 25) (i % 25))
  | 0, _ => by
    have h := inv_load (inv_new hp2) L
    rw [load_ok hL (by show 0 + _ ≤ 64; omega)] at h
    exact h
  | i + 1, hi => by
    have ih := inv_cln hL h64 hp hp2 i (by omega)
    have h := inv_step ih 0
    rw [cln_rows hp i (by omega)] at h
    exact h
theorem PF.p25 {p : Pgl} (h : PF p) : p.length ≤ 25 := h.1
set_option maxRecDepth 100000 in
set_option maxHeartbeats 8000000 in
theorem walk_PressClean (l : List Int) (a : Option Addr) (n c : Nat) (more : Int) (w : World) (hs : Sl w 1 a n c (l.map I64)) (hl : ∀ x ∈ l, -9223372036854775808 ≤ x ∧ x ≤ 9223372036854775807) (hm : -9223372036854775808 ≤ more ∧ more ≤ 9223372036854775807) :
    Calls Try.prog 4 #[.slice a n c, .int .i64 more] w fun e w' => e = .returned (.bool true) ∧ Below w.heap.size w w' := by
  have hpages := ref35_Pages l 7 a n c w hs hl (by omega)
  obtain ⟨v, hv⟩ : ∃ v, aroundF more 3 = v := ⟨_, rfl⟩
  have hv3 : v < 3 := by rw [← hv]; exact aroundF_lt (by omega)
  have har : ∀ w', Calls Try.prog 10 #[.int .i64 more, .int .i64 3] w' fun e w2 => e = .returned (.int .i64 (v : Int)) ∧ w' = w2 := fun w' => Around_at hv rfl (by omega) (by omega) hm.1 hm.2
  clear hs hl hm hv
  go_enter Try.func4, Try.ntmps4
  go_wp2_with (go_at_call 8; refine hpages.mono ?_; rintro e w1 ⟨aL, cL, hsL, L, rfl, hO, hT, hL7, hLF, hb1⟩; refine hold ?_)
  refine hide ?_
  clear hpages
  have HP := hide (hT.pgs hO)
  have HLF := hide hLF
  have hlen := sheetsL_len L
  obtain ⟨N, hN⟩ : ∃ N, Hid (L.length = N) := ⟨_, hide rfl⟩
  obtain ⟨K, hK⟩ : ∃ K, Hid ((sheetsL L).length = K) := ⟨_, hide rfl⟩
  rw [hN.out] at hL7 hlen ⊢
  rw [hK.out] at hlen
  have hd1 : ((N : Int) + 1) / 2 = (K : Int) := by omega
  have hd2 : Int.tdiv ((N : Int) + 1) 2 = (K : Int) := by rw [Int.tdiv_eq_ediv_of_nonneg (by omega)]; exact hd1
  have hK4 : K ≤ 4 := by omega
  have hlenH := hide hlen
  clear hO hT hLF hlen
  obtain ⟨p0, hp0⟩ : ∃ p0, Hid (K + v = p0) := ⟨_, hide rfl⟩
  have hpi : (K : Int) + (v : Int) = (p0 : Int) := by have := hp0.out; omega
  have hp6 : p0 ≤ 6 := by have := hp0.out; omega
  have hpK : K ≤ p0 := by have := hp0.out; omega
  have hnew := pr_New (p0 : Int) p0 w1 rfl (by omega)
  have hnewH := hide hnew
  clear hnew
  go_wp2_with (first
    | (go_at_call 10; refine (har _).mono ?_; rintro e w4 ⟨rfl, rfl⟩)
    | (go_at_call 15; refine hnewH.out.mono ?_; rintro e w2 ⟨g, rfl, A2, hg2, hb2⟩; refine hold ?_))
  refine hide ?_
  have hinv : Hid (∀ i, i ≤ 25 * K → PInv (clnS (sheetsL L) [] p0 (i / 25) (i % 25))) := hide (by
    have := inv_cln (p0 := p0) HLF.out (by rw [hN.out]; have := hlenH.out; omega) (by rw [hK.out]; exact hpK) (by omega)
    rw [hK.out] at this
    exact this)
  have hld : loadP (newP p0) L = (clnS (sheetsL L) [] p0 0 0, 0) := load_ok HLF.out (by rw [hN.out]; show 0 + _ ≤ 64; omega)
  have hload := pr_Load g m0 (newP p0) w2 A2 (Nat.zero_le _) L _ _ _ _ (HP.out.below hb2) (by rw [hN.out]; omega)
  rw [hld, hN.out] at hload
  have hn2 : ∀ b ∈ pfoot g m0, w1.heap.size ≤ b := fun b hm => by
    simp [pfoot, mutB, m0, blk, hb, nilH, hbs] at hm
    rw [hm]
    exact hg2
  have hloadH := hide hload
  clear hload hld A2 har hnewH
  go_wp2_with (go_at_call 16; refine hloadH.out.mono ?_; rintro e w3 ⟨rfl, m3, A3, MV3⟩; refine hold ?_)
  refine hide ?_
  have B3 : Below w1.heap.size w1 w3 := hb2.trans (MV3.blw hb2.size hn2)
  have N3 := MV3.new hb2.size hn2
  have HA3 := hide A3
  clear MV3 hn2 A3 hg2 hb2 hloadH
  obtain ⟨Q, hQ⟩ : ∃ Q, Hid (25 * K = Q) := ⟨_, hide rfl⟩
  have hQi : 25 * (K : Int) = (Q : Int) := by have := hQ.out; omega
  have hQ1 : Q ≤ 100 := by have := hQ.out; omega
  go_wp2_with fail
  go_loopg [9] Q (fun gh v w' => ∃ (i : Nat) (m : PM), i ≤ Q ∧ gh = Q - i ∧ v = .int .i64 (i : Int) ∧ PAt w' g m (clnS (sheetsL L) [] p0 (i / 25) (i % 25)) ∧ Below w1.heap.size w1 w' ∧ (∀ b ∈ pfoot g m, w1.heap.size ≤ b))
  case atStart => exact ⟨0, m3, by omega, by omega, rfl, HA3.out, B3, N3⟩
  case round =>
    clear HA3 B3 N3
    obtain ⟨i, m, hi, hg, rfl, hA, hbB, hnB⟩ := hrel
    have HG2 := hide hg
    have HA := hide hA
    clear hg hA
    have HI := hide (hinv.out i (by rw [hQ.out]; exact hi))
    by_cases hiQ : i < Q
    · have hst : Calls Try.prog 17 #[.pointer (some ⟨g, 0, none⟩), .int .i64 0] wr fun e w' => e = .returned (.int .i64 0) ∧ ∃ m', PAt w' g m' (clnS (sheetsL L) [] p0 ((i + 1) / 25) ((i + 1) % 25)) ∧ Mv wr w' (pfoot g m) (pfoot g m') := by
        have h1 := pr_Step g m _ 0 wr HA.out HI.out (by omega)
        rw [cln_rows (by rw [hK.out]; exact hpK) i (by rw [hK.out, hQ.out]; exact hiQ)] at h1
        exact h1
      have hstH := hide hst
      clear hst
      go_wp2_with (go_at_call 17; refine hstH.out.mono ?_; rintro e w4 ⟨rfl, m4, A4, MV4⟩)
      have B4 := MV4.blw hbB.size hnB
      have N4 := MV4.new hbB.size hnB
      have HA4 := hide A4
      clear MV4 A4 hstH
      go_roundg (Q - (i + 1))
      case measure => have := HG2.out; omega
      case rel => exact ⟨i + 1, m4, by omega, rfl, by go_num, HA4.out, hbB.trans B4, N4⟩
    · obtain rfl : i = Q := by omega
      have hce := cln_end (all := sheetsL L) (T0 := []) (p0 := p0) (k := K) (by rw [hK.out]; exact Nat.le_refl _)
      have hk1 : i / 25 = K := by have := hQ.out; omega
      have hk2 : i % 25 = 0 := by have := hQ.out; omega
      rw [hk1, hk2] at HA HI
      have htl : (clnS (sheetsL L) [] p0 K 0).tray.length = K := by rw [hce.2, List.nil_append, List.length_map, hK.out]
      have hout := hide (pr_Out g m _ wr HA.out HI.out.cts (by rw [htl]; omega))
      rw [htl, hce.2, List.nil_append] at hout
      obtain ⟨hg1, hg2⟩ := clean_good (L := L) fun p hp => (HLF.out p hp).1
      rw [hK.out] at hg1
      have hgl1 := hide hg1
      have hgl2 := hide hg2
      clear hg1 hg2 htl hk1 hk2
      go_wp2_with (go_at_call 18; refine hout.out.mono ?_; rintro e w6 ⟨a6, c6, ws6, rfl, S6, hb6⟩; refine hold ?_)
      refine hide ?_
      have hB6 : Below w1.heap.size w1 w6 := hbB.trans (hb6.mono hbB.size)
      have hgood := hide (pr_Good L _ ((sheetsL L).map (padS 25)) ws6 _ a6 _ _ _ c6 w6 (HP.out.below hB6) S6.shp (fun p hp => ⟨(HLF.out p hp).sm.cp, (HLF.out p hp).sm.1⟩)
        (fun s hs => by
          obtain ⟨s', -, rfl⟩ := List.mem_map.1 hs
          unfold padS
          simp only [pad_len]
          exact ⟨by omega, by omega⟩) (by rw [hN.out]; omega) (by rw [List.length_map, hK.out]; omega))
      rw [hgl1.out, hgl2.out, hN.out] at hgood
      have HA6 := hide (HA.out.below hb6)
      clear hout S6 HA
      go_wp2_with (go_at_call 11; refine hgood.out.mono ?_; rintro e w7 ⟨ag, cg, am, cm, rfl, hs7, ht7, hb7⟩; refine hold ?_)
      refine hide ?_
      have hB7 : Below w1.heap.size w1 w7 := hB6.trans (hb7.mono hB6.size)
      have hst : Hid (Calls Try.prog 17 #[.pointer (some ⟨g, 0, none⟩), .int .i64 0] w7 fun e w' => e = .returned (.int .i64 6) ∧ Below w1.heap.size w1 w') := hide (by
        have h1 := pr_Step g m _ 0 w7 (HA6.out.below hb7) HI.out (by omega)
        rw [hce.1] at h1
        refine h1.mono ?_
        rintro e w' ⟨rfl, m', A', MV'⟩
        exact ⟨rfl, hB7.trans (MV'.blw hB7.size hnB)⟩)
      have hlv := fun w' => law35_lives w'
      clear hgood hs7 ht7 HA6 hnB hb6 hb7 hce
      go_wp2_with (first
        | (go_at_call 17; refine hst.out.mono ?_; rintro e w8 ⟨rfl, hb8⟩)
        | (go_at_call 14; refine (hlv _).mono ?_; rintro e w9 ⟨rfl, hb9⟩))
      go_ret
      exact ⟨rfl, hb1.trans ((hb8.trans (hb9.mono hb8.size)).mono hb1.size)⟩
end Go.Proofs.Ytdeknimelkdaeaa
end
