/- The contracts of the functions that the law reaches, joined into one text. -/
import Derived.Test.YtdeknimelkdaeaaBaseP23E
import Derived.OpenShut
import Derived.Deep.Slices
import Derived.Deep.Strs
import Derived.SizedLaws
set_option linter.unusedVariables false
set_option linter.unusedSimpArgs false

/- the text Row2 -/
section
/- How the arguments of a law read: slices of integers, of strings, of arrays of integers, with the form's own reach. No program. -/
namespace Go.Dx
open Go.RowKit Go.WideShapes Go.ChangeShapes Go.Deep

/-- no part is longer than the form lets it be -/
def Sized {H : Type} (P : Program) (t : TypeId) (d : DataW H) : Prop := ∀ n ∈ d.weights P t, n ≤ reachBytes
section
variable {H : Type} {enc : TypeId × Value → H} {P : Program} {w : World}
theorem sized_at {ts : List TypeId} {ds : List (DataW H)} (hwt : (DataW.weightsEach P ts ds).all (· ≤ reachBytes) = true) (j : Nat) {t : TypeId} {d : DataW H} (ht : ts[j]? = some t) (hd : ds[j]? = some d) : Sized P t d :=
  fun n hn => by simpa using List.all_eq_true.1 hwt _ (DataW.weights_mem_each ht hd n hn)
theorem sized_all {e : TypeId} : ∀ {l : List (DataW H)} {d : DataW H}, d ∈ l → ∀ n ∈ d.weights P e, n ∈ DataW.weightsAll P e l
  | x :: l, d, hd, n, hn => by
    simp only [DataW.weightsAll, List.mem_append]
    rcases List.mem_cons.1 hd with rfl | h
    · exact .inl hn
    · exact .inr (sized_all h n hn)
theorem Sized.slice {t e : TypeId} {elems spare : List (DataW H)} (h : Sized P t (.slice elems spare)) (hu : P.underlying t = some (.slice e)) :
    (elems.length + spare.length) * P.bytesOf e ≤ reachBytes ∧ (∀ d ∈ elems, Sized P e d) :=
  ⟨h _ (by simp [DataW.weights, hu]), fun d hd n hn => h n (by simp only [DataW.weights, hu, List.mem_cons, List.mem_append]; exact .inr (.inl (sized_all hd n hn)))⟩
theorem Sized.string {t : TypeId} {b : List UInt8} (h : Sized P t (DataW.lit (H := H) (.string b))) : b.length ≤ reachBytes := h _ (by simp [DataW.weights])

theorem add_cells {a : Addr} {n : Nat} : a.add n = a.add n := rfl

theorem trod_ints {t e : TypeId} {k : IntKind} (ht : P.underlying t = some (.slice e)) (he : P.underlying e = some (.int k)) (hc : P.cellsOf e = 1) (hb : 0 < P.bytesOf e) {a : Option Addr} {len cap : Nat} {d : DataW H} {p : List MemPlace}
    (hs : Sized P t d) (h : DataW.Trod enc P w 0 (fun _ => true) true t (.slice a len cap) d p) :
    ∃ zs : List Int, Sl w 1 a len cap (zs.map (Value.int k)) ∧ (∀ n ∈ zs, (Lit.int k n).wf = true) ∧ len ≤ reachBytes := by
  obtain ⟨fuel, hf⟩ := h
  rcases open_ints ht he hc hf with ⟨hcs, _⟩ | ⟨x, l, c, zs, hcs, _, hl, hm, hz, hx, hcell, hwz⟩
  · simp [Value.cells] at hcs
    obtain ⟨rfl, rfl, rfl⟩ := hcs
    exact ⟨[], Sl.empty w 1, by simp, Nat.zero_le _⟩
  · simp [Value.cells] at hcs
    obtain ⟨rfl, rfl, rfl⟩ := hcs
    have hz2 : zs.length = cap := by simpa using hz
    have hd := congrArg Prod.fst hx
    simp only at hd
    subst hd
    refine ⟨zs.take len, ⟨by simp; omega, hl, hm, (fun h => by cases h), ?_⟩, fun n hn => hwz n (List.mem_of_mem_take hn), ?_⟩
    · intro q hq j u hj
      cases hq
      rw [List.getElem?_map, List.getElem?_take] at hj
      by_cases hlt : j < len
      · rw [if_pos hlt] at hj
        have hjz : j < zs.length := by omega
        rw [List.getElem?_eq_getElem hjz] at hj
        simp at hj
        rw [hcell j hjz, ← hj, List.getD_eq_getElem?_getD, List.getElem?_eq_getElem hjz]
        rfl
      · rw [if_neg hlt] at hj; cases hj
    · have hsz := (hs.slice ht).1
      rw [show ∀ (k : IntKind) (l : List Int), (lits (H := H) k l).length = l.length from fun k l => by simp [lits], List.length_take, show min len zs.length = len by omega] at hsz
      exact Nat.le_trans (Nat.le_trans (Nat.le_add_right _ _) (Nat.le_mul_of_pos_right _ hb)) hsz

theorem trod_bytes {t e : TypeId} (ht : P.underlying t = some (.slice e)) (he : P.underlying e = some (.int .u8)) (hc : P.cellsOf e = 1) (hb : 0 < P.bytesOf e) {a : Option Addr} {len cap : Nat} {d : DataW H} {p : List MemPlace}
    (hs : Sized P t d) (h : DataW.Trod enc P w 0 (fun _ => true) true t (.slice a len cap) d p) :
    ∃ l : List UInt8, Sl w 1 a len cap (l.map B8) ∧ len ≤ reachBytes := by
  obtain ⟨zs, h1, h2, h3⟩ := trod_ints ht he hc hb hs h
  refine ⟨zs.map fun n => UInt8.ofNat n.toNat, ?_, h3⟩
  have e : (zs.map fun n => UInt8.ofNat n.toNat).map B8 = zs.map (Value.int .u8) := by
    rw [List.map_map]
    apply List.map_congr_left
    intro n hn
    have hb : 0 ≤ n ∧ n ≤ 255 := bounds_u8 (h2 n hn)
    show Value.int .u8 ((UInt8.ofNat n.toNat).toNat : Int) = _
    rw [UInt8.toNat_ofNat']
    congr 1
    omega
  rw [e]
  exact h1
theorem trod_i64s {t e : TypeId} (ht : P.underlying t = some (.slice e)) (he : P.underlying e = some (.int .i64)) (hc : P.cellsOf e = 1) (hb : 0 < P.bytesOf e) {a : Option Addr} {len cap : Nat} {d : DataW H} {p : List MemPlace}
    (hs : Sized P t d) (h : DataW.Trod enc P w 0 (fun _ => true) true t (.slice a len cap) d p) :
    ∃ l : List Int, Sl w 1 a len cap (l.map I64) ∧ (∀ n ∈ l, -9223372036854775808 ≤ n ∧ n ≤ 9223372036854775807) ∧ len ≤ reachBytes := by
  obtain ⟨zs, h1, h2, h3⟩ := trod_ints ht he hc hb hs h
  exact ⟨zs, h1, fun n hn => bounds_i64 (h2 n hn), h3⟩

theorem trod_strs {t e : TypeId} (ht : P.underlying t = some (.slice e)) (he : P.underlying e = some .string) (hc : P.cellsOf e = 1) (hb : 0 < P.bytesOf e) {a : Option Addr} {len cap : Nat} {d : DataW H} {p : List MemPlace}
    (hs : Sized P t d) (h : DataW.Trod enc P w 0 (fun _ => true) true t (.slice a len cap) d p) :
    ∃ l : List ByteArray, Sl w 1 a len cap (l.map Value.string) ∧ (∀ s ∈ l, s.size ≤ reachBytes) ∧ len ≤ reachBytes ∧ (l = [] ∨ ∃ sp, d = .slice (l.map fun s => .lit (.string s.data.toList)) sp) := by
  obtain ⟨fuel, hf⟩ := h
  rcases open_strs ht he hc hf with ⟨hcs, _⟩ | ⟨x, l, c, m, Sx, hcs, _, hl, hm, hmm, hx, hcell⟩
  · simp [Value.cells] at hcs
    obtain ⟨rfl, rfl, rfl⟩ := hcs
    exact ⟨[], Sl.empty w 1, by simp, Nat.zero_le _, .inl rfl⟩
  · simp [Value.cells] at hcs
    obtain ⟨rfl, rfl, rfl⟩ := hcs
    simp only [if_true] at hmm
    subst hmm
    have hd := congrArg Prod.fst hx
    simp only at hd
    subst hd
    obtain ⟨z1, z2⟩ := hs.slice ht
    refine ⟨(List.range len).map Sx, ⟨by simp, hl, hm, (fun h => by cases h), ?_⟩, ?_, ?_, .inr ⟨_, by rw [List.map_map]; rfl⟩⟩
    · intro q hq j u hj
      cases hq
      have hlt : j < len := by have := (List.getElem?_eq_some_iff.1 hj).1; simpa using this
      rw [(hcell j (by omega)).1]
      simp [hlt] at hj
      rw [hj]
    · intro s hs
      obtain ⟨i, hi, rfl⟩ := List.mem_map.1 hs
      have := Sized.string (z2 _ (List.mem_map.2 ⟨i, hi, rfl⟩))
      rwa [show (Sx i).data.toList.length = (Sx i).size from Array.length_toList] at this
    · simp only [List.length_map, List.length_range] at z1
      exact Nat.le_trans (Nat.le_trans (Nat.le_add_right _ _) (Nat.le_mul_of_pos_right _ hb)) z1

theorem trod_arr {t e n : Nat} {k : IntKind} {base : Nat} {spare : Nat → Bool} {held : Bool} {fuel : Nat} {cs : List Value} {x : DataW H × List MemPlace} (ht : P.underlying t = some (.array n e)) (he : P.underlying e = some (.int k)) (hc : P.cellsOf e = 1) (hct : P.cellsOf t = n)
    (h : DataW.trod enc P w base spare held fuel t cs = some x) : cs.length = n ∧ ∀ i, i < n → ∃ z, cs[i]? = some (.int k z) ∧ (Lit.int k z).wf = true := by
  obtain ⟨xs, m, _, _, hl, hxl, hi⟩ := DataW.trod_array ht h
  rw [hct] at hl
  refine ⟨hl, fun i hin => ?_⟩
  have h1 := hi i hin
  rw [hc, Nat.mul_one, List.getElem?_eq_getElem (by omega)] at h1
  obtain ⟨z, hz, _, hw⟩ := DataW.trod_int he h1
  refine ⟨z, ?_, hw⟩
  have := congrArg (·[0]?) hz
  simpa [List.getElem?_take, List.getElem?_drop] using this

theorem trod_arrs {t e q n : Nat} {k : IntKind} (ht : P.underlying t = some (.slice e)) (he : P.underlying e = some (.array n q)) (hq : P.underlying q = some (.int k)) (hc : P.cellsOf q = 1) (hce : P.cellsOf e = n) (hb : 0 < P.bytesOf e) (hn0 : 0 < n)
    {a : Option Addr} {len cap : Nat} {d : DataW H} {p : List MemPlace} (hs : Sized P t d) (h : DataW.Trod enc P w 0 (fun _ => true) true t (.slice a len cap) d p) :
    ∃ zs : List Int, Sl w n a len cap (zs.map (Value.int k)) ∧ (∀ n ∈ zs, (Lit.int k n).wf = true) ∧ len ≤ reachBytes := by
  obtain ⟨fuel, hf⟩ := h
  rcases open_slice ht hf with ⟨hcs, _⟩ | ⟨x, l, c, m, g, D, Pl, hcs, _, hl, hm, hmm, hx, hel⟩
  · simp [Value.cells] at hcs
    obtain ⟨rfl, rfl, rfl⟩ := hcs
    exact ⟨[], Sl.empty w n, by simp, Nat.zero_le _⟩
  · simp [Value.cells] at hcs
    obtain ⟨rfl, rfl, rfl⟩ := hcs
    simp only [if_true] at hmm
    subst hmm
    have hd := congrArg Prod.fst hx
    simp only at hd
    subst hd
    obtain ⟨z1, z2⟩ := hs.slice ht
    have each : ∀ j, j < len * n → ∃ z, w.cell? (x.add j) = some (.int k z) ∧ (Lit.int k z).wf = true := by
      intro j hj
      have hi : j / n < len := (Nat.div_lt_iff_lt_mul hn0).2 hj
      obtain ⟨cs', h1, h2⟩ := hel (j / n) (by omega)
      rw [hce] at h1
      obtain ⟨_, hcl, hat⟩ := World.cells?_some h1
      have hr : j % n < n := Nat.mod_lt _ hn0
      obtain ⟨z, hz, hwz⟩ := (trod_arr he hq hc hce h2).2 (j % n) hr
      refine ⟨z, ?_, hwz⟩
      have := hat (j % n) hr
      rw [sl_add, Nat.div_add_mod'] at this
      rw [this, hz]
    obtain ⟨Z, hZ⟩ := choose_lt each
    refine ⟨(List.range (len * n)).map Z, ⟨by simp, hl, hm, (fun h => by cases h), ?_⟩, ?_, ?_⟩
    · intro q hq j u hj
      cases hq
      have hlt : j < len * n := by have := (List.getElem?_eq_some_iff.1 hj).1; simpa using this
      rw [(hZ j hlt).1]
      simp [hlt] at hj
      rw [hj]
    · intro z hz
      obtain ⟨i, hi, rfl⟩ := List.mem_map.1 hz
      exact (hZ i (List.mem_range.1 hi)).2
    · simp only [List.length_map, List.length_range] at z1
      exact Nat.le_trans (Nat.le_trans (Nat.le_add_right _ _) (Nat.le_mul_of_pos_right _ hb)) z1
theorem bytes_of_wf {zs : List Int} (h : ∀ n ∈ zs, (Lit.int .u8 n).wf = true) : ∃ l : List UInt8, l.map B8 = zs.map (Value.int .u8) := by
  refine ⟨zs.map fun n => UInt8.ofNat n.toNat, ?_⟩
  rw [List.map_map]
  apply List.map_congr_left
  intro n hn
  have hb : 0 ≤ n ∧ n ≤ 255 := bounds_u8 (h n hn)
  show Value.int .u8 ((UInt8.ofNat n.toNat).toNat : Int) = _
  rw [UInt8.toNat_ofNat']
  congr 1
  omega
end
end Go.Dx
end

/- the text P24 -/
section
/- Chapter 35: Good finds as many sheets of a kind as there are (plain Lean). -/
set_option linter.unusedVariables false
namespace Go.Proofs.Ytdeknimelkdaeaa
open Go.RowKit Go.Dx Go.Al
abbrev KeyS := Pgl × Pgl
def keyS (s : Sht) : KeyS := (plainL s.1, plainL s.2)
theorem samS_iff (s t : Sht) : samS s t = true ↔ keyS s = keyS t := by
  unfold samS keyS
  simp only [Bool.and_eq_true, decide_eq_true_eq, Prod.mk.injEq]
/-- sheet k is taken and of this kind -/
def tkn (all : List Sht) (T : List Bool) (κ : KeyS) (k : Nat) : Bool := T.getD k false && decide (keyS (all.getD k ([], [])) = κ)
def ofK (all : List Sht) (κ : KeyS) (k : Nat) : Bool := decide (keyS (all.getD k ([], [])) = κ)
def cntT (all : List Sht) (T : List Bool) (κ : KeyS) : Nat := (List.range all.length).countP (tkn all T κ)
def cntS (l : List Sht) (κ : KeyS) : Nat := l.countP fun s => decide (keyS s = κ)
theorem countP_flip {p q : Nat → Bool} {k : Nat} : ∀ n, k < n → p k = false → q k = true → (∀ j, j ≠ k → q j = p j) → (List.range n).countP q = (List.range n).countP p + 1
  | 0, h, _, _, _ => by omega
  | n + 1, h, h1, h2, h3 => by
    rw [List.range_succ, List.countP_append, List.countP_append]
    by_cases hk : k = n
    · subst hk
      have e : (List.range k).countP q = (List.range k).countP p := List.countP_congr fun j hj => by
        rw [List.mem_range] at hj
        rw [h3 j (by omega)]
      rw [e]
      simp [List.countP_cons, h1, h2]
    · have ih := countP_flip n (by omega) h1 h2 h3
      rw [ih]
      have e : q n = p n := h3 n (Ne.symm hk)
      simp [List.countP_cons, e]
      omega
theorem cntS_all (all : List Sht) (κ : KeyS) : cntS all κ = (List.range all.length).countP (ofK all κ) := by
  unfold cntS
  have e : all = (List.range all.length).map fun k => all.getD k ([], []) := by
    apply List.ext_getElem
    · simp
    · intro i h1 h2
      simp [List.getD_eq_getElem?_getD, h1]
  conv => lhs; rw [e]
  rw [List.countP_map]
  rfl
/-- what stands after m sheets: of each kind, all are taken, or as many as were met -/
def GInv (all out : List Sht) (m : Nat) : Prop :=
  ∀ κ, (∀ k, k < all.length → keyS (all.getD k ([], [])) = κ → (goodUp all out m).2.getD k false = true) ∨ cntT all (goodUp all out m).2 κ = cntS (out.take m) κ
theorem pick_some {all : List Sht} {T : List Bool} {s : Sht} {k : Nat} (h : pickG all T s = some k) : k < all.length ∧ T.getD k true = false ∧ keyS s = keyS (all.getD k ([], [])) := by
  have h1 := List.find?_some h
  have h2 := List.mem_of_find?_eq_some h
  rw [List.mem_range] at h2
  unfold cand at h1
  simp only [Bool.and_eq_true, Bool.not_eq_true'] at h1
  exact ⟨h2, h1.1, (samS_iff _ _).1 h1.2⟩
theorem pick_none {all : List Sht} {T : List Bool} {s : Sht} (hl : T.length = all.length) (h : pickG all T s = none) (k : Nat) (hk : k < all.length) (hs : keyS (all.getD k ([], [])) = keyS s) : T.getD k false = true := by
  have h1 := List.find?_eq_none.1 h k (by simp [hk])
  unfold cand at h1
  have h2 : samS s (all.getD k ([], [])) = true := (samS_iff _ _).2 hs.symm
  rw [h2] at h1
  simp only [Bool.and_true, Bool.not_eq_true', Bool.not_eq_false] at h1
  rw [List.getD_eq_getElem?_getD, List.getElem?_eq_getElem (by omega)] at h1 ⊢
  simpa using h1
theorem ginv (all out : List Sht) : ∀ m, m ≤ out.length → GInv all out m
  | 0, _ => fun κ => .inr (by
    unfold cntT cntS
    simp only [List.take_zero, List.countP_nil]
    rw [List.countP_eq_zero]
    intro k hk
    rw [List.mem_range] at hk
    unfold tkn goodUp
    simp [List.getD_eq_getElem?_getD, hk])
  | m + 1, hm => by
    have ih := ginv all out m (by omega)
    have hlen := (goodUp_len all out m).1
    obtain ⟨s, hs⟩ : ∃ s, out[m]? = some s := ⟨out[m], by simp [show m < out.length by omega]⟩
    have htake : out.take (m + 1) = out.take m ++ [s] := take_snoc hs
    intro κ
    have hg : out.getD m ([], []) = s := by rw [List.getD_eq_getElem?_getD, hs]; rfl
    cases hp : pickG all (goodUp all out m).2 s with
    | none =>
      have e : goodUp all out (m + 1) = goodUp all out m := by rw [goodUp, hg, hp]
      rw [e]
      by_cases hκ : keyS s = κ
      · exact .inl fun k hk hks => pick_none hlen hp k hk (by rw [hks, hκ])
      · rcases ih κ with h | h
        · exact .inl h
        · refine .inr ?_
          rw [h, htake]
          unfold cntS
          simp [List.countP_append, List.countP_cons, hκ]
    | some k =>
      obtain ⟨hk, hT, hks⟩ := pick_some hp
      have e : goodUp all out (m + 1) = ((goodUp all out m).1 ++ [m], (goodUp all out m).2.set k true) := by rw [goodUp, hg, hp]
      rw [e]
      have ihk := ih κ
      clear ih
      generalize (goodUp all out m).2 = T at *
      have hTk : T.getD k false = false := by
        rw [List.getD_eq_getElem?_getD, List.getElem?_eq_getElem (by omega)] at hT ⊢
        simpa using hT
      have hset : ∀ j, (T.set k true).getD j false = if j = k then true else T.getD j false := fun j => by
        rw [List.getD_eq_getElem?_getD, List.getElem?_set, List.getD_eq_getElem?_getD]
        by_cases hj : j = k
        · rw [if_pos hj.symm, if_pos hj, if_pos (by omega)]; rfl
        · rw [if_neg (Ne.symm hj), if_neg hj]
      rcases ihk with h | h
      · refine .inl fun j hj hjs => ?_
        rw [hset]
        split
        · rfl
        · exact h j hj hjs
      · refine .inr ?_
        rw [htake]
        by_cases hκ : keyS s = κ
        · have h1 : cntT all (T.set k true) κ = cntT all T κ + 1 := by
            unfold cntT
            refine countP_flip (k := k) _ hk ?_ ?_ ?_
            · unfold tkn; rw [hTk]; rfl
            · unfold tkn
              rw [hset, if_pos rfl, ← hks, hκ]
              simp
            · intro j hj
              unfold tkn
              rw [hset, if_neg hj]
          rw [h1, h]
          unfold cntS
          simp [List.countP_append, List.countP_cons, hκ]
        · have h1 : cntT all (T.set k true) κ = cntT all T κ := by
            unfold cntT
            refine List.countP_congr fun j hj => ?_
            unfold tkn
            rw [hset]
            by_cases hjk : j = k
            · rw [if_pos hjk, hjk, ← hks]
              simp [hκ]
            · rw [if_neg hjk]
          rw [h1, h]
          unfold cntS
          simp [List.countP_append, List.countP_cons, hκ]
/-- where as many sheets of its kind are met as there are, a sheet is taken -/
theorem taken_of_cnt {all out : List Sht} {k : Nat} (hk : k < all.length) (h : cntS all (keyS (all.getD k ([], []))) ≤ cntS out (keyS (all.getD k ([], [])))) : (goodUp all out out.length).2.getD k false = true := by
  rcases ginv all out out.length (Nat.le_refl _) (keyS (all.getD k ([], []))) with h1 | h1
  · exact h1 k hk rfl
  · rw [List.take_length] at h1
    rw [← h1, cntS_all] at h
    unfold cntT at h
    generalize (goodUp all out out.length).2 = T at *
    cases hT : T.getD k false with
    | true => rfl
    | false =>
      have hle : (List.range all.length).countP (tkn all T (keyS (all.getD k ([], [])))) + 1 ≤ (List.range all.length).countP (ofK all (keyS (all.getD k ([], [])))) := by
        have hq : (List.range all.length).countP (fun j => tkn all T (keyS (all.getD k ([], []))) j || decide (j = k)) = (List.range all.length).countP (tkn all T (keyS (all.getD k ([], [])))) + 1 := by
          refine countP_flip (k := k) _ hk ?_ ?_ ?_
          · unfold tkn; rw [hT]; rfl
          · simp
          · intro j hj; simp [hj]
        rw [← hq]
        refine List.countP_mono_left fun j hj hp => ?_
        unfold ofK
        simp only [Bool.or_eq_true, decide_eq_true_eq] at hp ⊢
        rcases hp with hp | hp
        · unfold tkn at hp
          simp only [Bool.and_eq_true, decide_eq_true_eq] at hp
          exact hp.2
        · rw [hp]
      omega
theorem missUp_nil {T : List Bool} {n : Nat} (h : ∀ k, 2 * k < n → T.getD k true = true) : missUp T n = [] := by
  unfold missUp
  rw [List.filter_eq_nil_iff]
  intro i hi
  rw [List.mem_range] at hi
  have := h (i / 2) (by omega)
  rw [this]
  simp
theorem getD_tf {T : List Bool} {k : Nat} (h : T.getD k false = true) : T.getD k true = true := by
  rw [List.getD_eq_getElem?_getD] at h ⊢
  cases hk : T[k]? with
  | none => rfl
  | some b => rw [hk] at h; simpa using h
end Go.Proofs.Ytdeknimelkdaeaa
end

/- the text P25 -/
section
/- Chapter 35: a machine that runs without faults (plain Lean). -/
set_option linter.unusedVariables false
namespace Go.Proofs.Ytdeknimelkdaeaa
open Go.RowKit Go.Dx Go.Al
/-- the first r rows of a page, on a sheet of 25 rows -/
def pad (r : Nat) (p : Pgl) : Pgl := (List.range 25).map fun i => if i < r then p.getD i [] else []
theorem pad_len (r : Nat) (p : Pgl) : (pad r p).length = 25 := by simp [pad]
theorem pad_get (r : Nat) (p : Pgl) (i : Nat) : (pad r p)[i]? = if i < 25 then some (if i < r then p.getD i [] else []) else none := by
  unfold pad
  rw [List.getElem?_map]
  by_cases h : i < 25
  · rw [if_pos h, List.getElem?_range h]; rfl
  · rw [if_neg h, List.getElem?_eq_none (by simp; omega)]; rfl
theorem pad_zero (p : Pgl) : pad 0 p = blank := by
  apply List.ext_getElem?
  intro i
  rw [pad_get]
  unfold blank
  rw [List.getElem?_replicate]
  by_cases h : i < 25
  · rw [if_pos h, if_pos h]; rfl
  · rw [if_neg h, if_neg h]
theorem rowD_pad {r : Nat} (p : Pgl) (hr : r < 25) : rowD r p (pad r p) = pad (r + 1) p := by
  unfold rowD
  apply List.ext_getElem?
  intro i
  split
  · rename_i hp
    rw [List.getElem?_set, pad_get, pad_get, pad_len]
    by_cases hri : r = i
    · subst hri
      rw [if_pos rfl, if_pos hr, if_pos hr, if_pos (by omega)]
    · rw [if_neg hri]
      by_cases h25 : i < 25
      · rw [if_pos h25, if_pos h25]
        by_cases h : i < r
        · rw [if_pos h, if_pos (by omega)]
        · rw [if_neg h, if_neg (by omega)]
      · rw [if_neg h25, if_neg h25]
  · rename_i hp
    rw [pad_get, pad_get]
    by_cases h25 : i < 25
    · rw [if_pos h25, if_pos h25]
      by_cases h : i < r
      · rw [if_pos h, if_pos (by omega)]
      · rw [if_neg h]
        by_cases h2 : i < r + 1
        · rw [if_pos h2, List.getD_eq_getElem?_getD, List.getElem?_eq_none (by omega)]; rfl
        · rw [if_neg h2]
    · rw [if_neg h25, if_neg h25]
def padS (r : Nat) (s : Sht) : Sht := (pad r s.1, pad r s.2)
theorem pad_plain {p : Pgl} (h : p.length ≤ 25) : plainL (pad 25 p) = plainL p := by
  rw [plain_eq_iff]
  intro Y X
  unfold pcell pad
  by_cases hY : Y < 25
  · rw [List.getD_eq_getElem?_getD (i := Y), List.getElem?_map, List.getElem?_range hY]
    simp [hY]
  · have e1 : ((List.range 25).map fun i => if i < 25 then p.getD i [] else []).getD Y [] = [] := by
      rw [List.getD_eq_getElem?_getD, List.getElem?_eq_none (by simp; omega)]; rfl
    have e2 : p.getD Y [] = [] := by rw [List.getD_eq_getElem?_getD, List.getElem?_eq_none (by omega)]; rfl
    rw [e1, e2]
theorem padS_key {s : Sht} (h1 : s.1.length ≤ 25) (h2 : s.2.length ≤ 25) : keyS (padS 25 s) = keyS s := by
  unfold keyS padS
  rw [pad_plain h1, pad_plain h2]
/-- the machine, j rows after its start with sheets all, T0 in its tray -/
def clnS (all T0 : List Sht) (p0 k r : Nat) : Pr :=
  if r = 0 then ⟨[], [], [], [], 0, false, p0 - k, all.drop k, T0 ++ (all.take k).map (padS 25), 0⟩
  else ⟨(all.getD k ([], [])).1, (all.getD k ([], [])).2, pad r (all.getD k ([], [])).1, pad r (all.getD k ([], [])).2, r, true, p0 - (k + 1), all.drop (k + 1), T0 ++ (all.take k).map (padS 25), 0⟩
theorem cln_step {all T0 : List Sht} {p0 k r : Nat} (hk : k < all.length) (hp : all.length ≤ p0) (hr : r < 25) :
    stepP (clnS all T0 p0 k r) 0 = (if r + 1 = 25 then clnS all T0 p0 (k + 1) 0 else clnS all T0 p0 k (r + 1), 0) := by
  obtain ⟨s, hs⟩ : ∃ s, all[k]? = some s := ⟨all[k], by simp [hk]⟩
  have hg : all.getD k ([], []) = s := by rw [List.getD_eq_getElem?_getD, hs]; rfl
  have hd : all.drop k = s :: all.drop (k + 1) := by rw [List.drop_eq_getElem_cons hk]; congr 1; rw [List.getElem?_eq_getElem hk] at hs; exact Option.some.inj hs
  have htk : all.take (k + 1) = all.take k ++ [s] := take_snoc hs
  have hT : takeP (clnS all T0 p0 k r) = (⟨s.1, s.2, pad r s.1, pad r s.2, r, true, p0 - (k + 1), all.drop (k + 1), T0 ++ (all.take k).map (padS 25), 0⟩, 0) := by
    unfold clnS
    by_cases h0 : r = 0
    · subst h0
      rw [if_pos rfl, hd]
      unfold takeP
      simp only [Bool.false_eq_true, if_false]
      rw [if_neg (by omega), pad_zero, pad_zero]
      congr 2
    · rw [if_neg h0, hg]
      rfl
  have hmd : (clnS all T0 p0 k r).mode = 0 := by unfold clnS; split <;> rfl
  unfold stepP
  rw [hmd, if_neg (by decide), if_neg (by decide), hT]
  simp only [ne_eq, not_true_eq_false, if_false, if_true, reduceCtorEq]
  congr 1
  unfold doneP embP emS
  simp only [Nat.lt_irrefl, Nat.zero_lt_two, Nat.one_lt_two, if_true]
  rw [rowD_pad _ hr, rowD_pad _ hr]
  by_cases h25 : r + 1 = 25
  · rw [if_pos h25, if_pos h25]
    unfold layP clnS
    rw [if_pos rfl, htk, List.map_append, h25, ← List.append_assoc]
    rfl
  · rw [if_neg h25, if_neg h25]
    unfold clnS
    rw [if_neg (by omega), hg]
/-- after j rows -/
theorem cln_rows {all T0 : List Sht} {p0 : Nat} (hp : all.length ≤ p0) (j : Nat) (hj : j < 25 * all.length) :
    stepP (clnS all T0 p0 (j / 25) (j % 25)) 0 = (clnS all T0 p0 ((j + 1) / 25) ((j + 1) % 25), 0) := by
  rw [cln_step (by omega) hp (by omega)]
  by_cases h : j % 25 + 1 = 25
  · rw [if_pos h, show (j + 1) / 25 = j / 25 + 1 by omega, show (j + 1) % 25 = 0 by omega]
  · rw [if_neg h, show (j + 1) / 25 = j / 25 by omega, show (j + 1) % 25 = j % 25 + 1 by omega]
theorem cln_end {all T0 : List Sht} {p0 k : Nat} (hk : all.length ≤ k) : stepP (clnS all T0 p0 k 0) 0 = (clnS all T0 p0 k 0, 6) ∧ (clnS all T0 p0 k 0).tray = T0 ++ all.map (padS 25) := by
  unfold clnS
  rw [if_pos rfl, List.drop_of_length_le hk, List.take_of_length_le hk]
  exact ⟨rfl, rfl⟩
theorem cntS_keys {l l' : List Sht} (h : l.map keyS = l'.map keyS) (κ : KeyS) : cntS l κ = cntS l' κ := by
  have e : ∀ l : List Sht, cntS l κ = (l.map keyS).countP (fun x => decide (x = κ)) := fun l => by
    unfold cntS; rw [List.countP_map]; rfl
  rw [e, e, h]
theorem keys_pad {all : List Sht} (h : ∀ s ∈ all, s.1.length ≤ 25 ∧ s.2.length ≤ 25) : (all.map (padS 25)).map keyS = all.map keyS := by
  rw [List.map_map]
  exact List.map_congr_left fun s hs => padS_key (h s hs).1 (h s hs).2
/-- the number of good sheets is the number of sheets taken -/
theorem goodUp_true (all out : List Sht) : ∀ m, (goodUp all out m).1.length = (goodUp all out m).2.countP id
  | 0 => by unfold goodUp; simp [List.countP_replicate]
  | m + 1 => by
    have ih := goodUp_true all out m
    have hlen := (goodUp_len all out m).1
    rw [goodUp]
    cases hp : pickG all (goodUp all out m).2 (out.getD m ([], [])) with
    | none => exact ih
    | some k =>
      obtain ⟨hk, hT, -⟩ := pick_some hp
      simp only
      rw [List.length_append, ih]
      generalize (goodUp all out m).2 = T at *
      have hkl : k < T.length := by omega
      have hf : T[k] = false := by rw [List.getD_eq_getElem?_getD, List.getElem?_eq_getElem hkl] at hT; simpa using hT
      rw [List.countP_set hkl]
      simp [hf]
theorem clean_good {L : List Pgl} (h : ∀ p ∈ L, p.length ≤ 25) : (goodF L ((sheetsL L).map (padS 25))).1.length = (sheetsL L).length ∧ (goodF L ((sheetsL L).map (padS 25))).2 = [] := by
  have hs : ∀ s ∈ sheetsL L, s.1.length ≤ 25 ∧ s.2.length ≤ 25 := fun s hs => by
    obtain ⟨h1, h2⟩ := sheetsL_mem L s hs
    refine ⟨h _ h1, ?_⟩
    rcases h2 with h2 | h2
    · exact h _ h2
    · rw [h2]; simp
  have hall : ∀ k, k < (sheetsL L).length → (goodUp (sheetsL L) ((sheetsL L).map (padS 25)) ((sheetsL L).map (padS 25)).length).2.getD k false = true := fun k hk => by
    refine taken_of_cnt hk ?_
    rw [cntS_keys (keys_pad hs)]
    exact Nat.le_refl _
  have hl := (goodUp_len (sheetsL L) ((sheetsL L).map (padS 25)) ((sheetsL L).map (padS 25)).length).1
  refine ⟨?_, missUp_nil fun k hk => getD_tf (hall k (by rw [sheetsL_len]; omega))⟩
  unfold goodF
  simp only
  rw [goodUp_true]
  generalize (goodUp (sheetsL L) ((sheetsL L).map (padS 25)) ((sheetsL L).map (padS 25)).length).2 = T at *
  rw [List.countP_eq_length.2 fun b hb => by
    obtain ⟨i, hi, rfl⟩ := List.mem_iff_getElem.1 hb
    have := hall i (by omega)
    rw [List.getD_eq_getElem?_getD, List.getElem?_eq_getElem hi] at this
    simpa using this]
  exact hl
end Go.Proofs.Ytdeknimelkdaeaa
end

/- the text PL2 -/
section
/- Chapter 35: the walk of PressClean. -/
set_option linter.unusedVariables false
namespace Go.Proofs.Ytdeknimelkdaeaa
open Go.RowKit Go.Dx Go.Al
theorem Tbs.pgs {w : World} {a : Option Addr} {B n c : Nat} {hs : List Hd} {L : List Pgl} (h : Tbs w hs L) (ho : Own w B 28 1 a n c (hs.map hv)) : Pgs w a n c hs L :=
  ⟨ho.sl, h.len, fun i x p h1 h2 => (h.get i x p h1 h2).pg⟩
theorem load_ok {S : Pr} {L : List Pgl} (hL : ∀ p ∈ L, PF p) (h : S.waiting.length + (L.length + 1) / 2 ≤ 64) : loadP S L = ({ S with waiting := S.waiting ++ sheetsL L }, 0) := by
  unfold loadP
  have h1 : L.any badPg = false := List.any_eq_false.2 fun p hp => by unfold badPg; rw [(hL p hp).fits]; simp
  rw [h1, if_neg (by decide), if_neg (by omega)]
theorem inv_cln {L : List Pgl} {p0 : Nat} (hL : ∀ p ∈ L, PF p) (h64 : (L.length + 1) / 2 ≤ 64) (hp : (sheetsL L).length ≤ p0) (hp2 : p0 ≤ 1000) : ∀ i, i ≤ 25 * (sheetsL L).length → PInv (clnS (sheetsL L) [] p0 (i / 25) (i % 25))
  | 0, _ => by
    have h := inv_load (inv_new hp2) L
    rw [load_ok hL (by show 0 + _ ≤ 64; omega)] at h
    exact h
  | i + 1, hi => by
    have ih := inv_cln hL h64 hp hp2 i (by omega)
    have h := inv_step ih 0
    rw [cln_rows hp i (by omega)] at h
    exact h
theorem PF.p25 {p : Pgl} (h : PF p) : p.length ≤ 25 := h.1
set_option maxRecDepth 100000 in
set_option maxHeartbeats 8000000 in
theorem walk_PressClean (l : List Int) (a : Option Addr) (n c : Nat) (more : Int) (w : World) (hs : Sl w 1 a n c (l.map I64)) (hl : ∀ x ∈ l, -9223372036854775808 ≤ x ∧ x ≤ 9223372036854775807) (hm : -9223372036854775808 ≤ more ∧ more ≤ 9223372036854775807) :
    Calls Try.prog 4 #[.slice a n c, .int .i64 more] w fun e w' => e = .returned (.bool true) ∧ Below w.heap.size w w' := by
  have hpages := ref35_Pages l 7 a n c w hs hl (by omega)
  obtain ⟨v, hv⟩ : ∃ v, aroundF more 3 = v := ⟨_, rfl⟩
  have hv3 : v < 3 := by rw [← hv]; exact aroundF_lt (by omega)
  have har : ∀ w', Calls Try.prog 10 #[.int .i64 more, .int .i64 3] w' fun e w2 => e = .returned (.int .i64 (v : Int)) ∧ w' = w2 := fun w' => Around_at hv rfl (by omega) (by omega) hm.1 hm.2
  clear hs hl hm hv
  go_enter Try.func4, Try.ntmps4
  go_wp2_with (go_at_call 8; refine hpages.mono ?_; rintro e w1 ⟨aL, cL, hsL, L, rfl, hO, hT, hL7, hLF, hb1⟩; refine hold ?_)
  refine hide ?_
  clear hpages
  have HP := hide (hT.pgs hO)
  have HLF := hide hLF
  have hlen := sheetsL_len L
  obtain ⟨N, hN⟩ : ∃ N, Hid (L.length = N) := ⟨_, hide rfl⟩
  obtain ⟨K, hK⟩ : ∃ K, Hid ((sheetsL L).length = K) := ⟨_, hide rfl⟩
  rw [hN.out] at hL7 hlen ⊢
  rw [hK.out] at hlen
  have hd1 : ((N : Int) + 1) / 2 = (K : Int) := by omega
  have hd2 : Int.tdiv ((N : Int) + 1) 2 = (K : Int) := by rw [Int.tdiv_eq_ediv_of_nonneg (by omega)]; exact hd1
  have hK4 : K ≤ 4 := by omega
  have hlenH := hide hlen
  clear hO hT hLF hlen
  obtain ⟨p0, hp0⟩ : ∃ p0, Hid (K + v = p0) := ⟨_, hide rfl⟩
  have hpi : (K : Int) + (v : Int) = (p0 : Int) := by have := hp0.out; omega
  have hp6 : p0 ≤ 6 := by have := hp0.out; omega
  have hpK : K ≤ p0 := by have := hp0.out; omega
  have hnew := pr_New (p0 : Int) p0 w1 rfl (by omega)
  have hnewH := hide hnew
  clear hnew
  go_wp2_with (first
    | (go_at_call 10; refine (har _).mono ?_; rintro e w4 ⟨rfl, rfl⟩)
    | (go_at_call 15; refine hnewH.out.mono ?_; rintro e w2 ⟨g, rfl, A2, hg2, hb2⟩; refine hold ?_))
  refine hide ?_
  have hinv : Hid (∀ i, i ≤ 25 * K → PInv (clnS (sheetsL L) [] p0 (i / 25) (i % 25))) := hide (by
    have := inv_cln (p0 := p0) HLF.out (by rw [hN.out]; have := hlenH.out; omega) (by rw [hK.out]; exact hpK) (by omega)
    rw [hK.out] at this
    exact this)
  have hld : loadP (newP p0) L = (clnS (sheetsL L) [] p0 0 0, 0) := load_ok HLF.out (by rw [hN.out]; show 0 + _ ≤ 64; omega)
  have hload := pr_Load g m0 (newP p0) w2 A2 (Nat.zero_le _) L _ _ _ _ (HP.out.below hb2) (by rw [hN.out]; omega)
  rw [hld, hN.out] at hload
  have hn2 : ∀ b ∈ pfoot g m0, w1.heap.size ≤ b := fun b hm => by
    simp [pfoot, mutB, m0, blk, hb, nilH, hbs] at hm
    rw [hm]
    exact hg2
  have hloadH := hide hload
  clear hload hld A2 har hnewH
  go_wp2_with (go_at_call 16; refine hloadH.out.mono ?_; rintro e w3 ⟨rfl, m3, A3, MV3⟩; refine hold ?_)
  refine hide ?_
  have B3 : Below w1.heap.size w1 w3 := hb2.trans (MV3.blw hb2.size hn2)
  have N3 := MV3.new hb2.size hn2
  have HA3 := hide A3
  clear MV3 hn2 A3 hg2 hb2 hloadH
  obtain ⟨Q, hQ⟩ : ∃ Q, Hid (25 * K = Q) := ⟨_, hide rfl⟩
  have hQi : 25 * (K : Int) = (Q : Int) := by have := hQ.out; omega
  have hQ1 : Q ≤ 100 := by have := hQ.out; omega
  go_wp2_with fail
  go_loopg [9] Q (fun gh v w' => ∃ (i : Nat) (m : PM), i ≤ Q ∧ gh = Q - i ∧ v = .int .i64 (i : Int) ∧ PAt w' g m (clnS (sheetsL L) [] p0 (i / 25) (i % 25)) ∧ Below w1.heap.size w1 w' ∧ (∀ b ∈ pfoot g m, w1.heap.size ≤ b))
  case atStart => exact ⟨0, m3, by omega, by omega, rfl, HA3.out, B3, N3⟩
  case round =>
    clear HA3 B3 N3
    obtain ⟨i, m, hi, hg, rfl, hA, hbB, hnB⟩ := hrel
    have HG2 := hide hg
    have HA := hide hA
    clear hg hA
    have HI := hide (hinv.out i (by rw [hQ.out]; exact hi))
    by_cases hiQ : i < Q
    · have hst : Calls Try.prog 17 #[.pointer (some ⟨g, 0, none⟩), .int .i64 0] wr fun e w' => e = .returned (.int .i64 0) ∧ ∃ m', PAt w' g m' (clnS (sheetsL L) [] p0 ((i + 1) / 25) ((i + 1) % 25)) ∧ Mv wr w' (pfoot g m) (pfoot g m') := by
        have h1 := pr_Step g m _ 0 wr HA.out HI.out (by omega)
        rw [cln_rows (by rw [hK.out]; exact hpK) i (by rw [hK.out, hQ.out]; exact hiQ)] at h1
        exact h1
      have hstH := hide hst
      clear hst
      go_wp2_with (go_at_call 17; refine hstH.out.mono ?_; rintro e w4 ⟨rfl, m4, A4, MV4⟩)
      have B4 := MV4.blw hbB.size hnB
      have N4 := MV4.new hbB.size hnB
      have HA4 := hide A4
      clear MV4 A4 hstH
      go_roundg (Q - (i + 1))
      case measure => have := HG2.out; omega
      case rel => exact ⟨i + 1, m4, by omega, rfl, by go_num, HA4.out, hbB.trans B4, N4⟩
    · obtain rfl : i = Q := by omega
      have hce := cln_end (all := sheetsL L) (T0 := []) (p0 := p0) (k := K) (by rw [hK.out]; exact Nat.le_refl _)
      have hk1 : i / 25 = K := by have := hQ.out; omega
      have hk2 : i % 25 = 0 := by have := hQ.out; omega
      rw [hk1, hk2] at HA HI
      have htl : (clnS (sheetsL L) [] p0 K 0).tray.length = K := by rw [hce.2, List.nil_append, List.length_map, hK.out]
      have hout := hide (pr_Out g m _ wr HA.out HI.out.cts (by rw [htl]; omega))
      rw [htl, hce.2, List.nil_append] at hout
      obtain ⟨hg1, hg2⟩ := clean_good (L := L) fun p hp => (HLF.out p hp).1
      rw [hK.out] at hg1
      have hgl1 := hide hg1
      have hgl2 := hide hg2
      clear hg1 hg2 htl hk1 hk2
      go_wp2_with (go_at_call 18; refine hout.out.mono ?_; rintro e w6 ⟨a6, c6, ws6, rfl, S6, hb6⟩; refine hold ?_)
      refine hide ?_
      have hB6 : Below w1.heap.size w1 w6 := hbB.trans (hb6.mono hbB.size)
      have hgood := hide (pr_Good L _ ((sheetsL L).map (padS 25)) ws6 _ a6 _ _ _ c6 w6 (HP.out.below hB6) S6.shp (fun p hp => ⟨(HLF.out p hp).sm.cp, (HLF.out p hp).sm.1⟩)
        (fun s hs => by
          obtain ⟨s', -, rfl⟩ := List.mem_map.1 hs
          unfold padS
          simp only [pad_len]
          exact ⟨by omega, by omega⟩) (by rw [hN.out]; omega) (by rw [List.length_map, hK.out]; omega))
      rw [hgl1.out, hgl2.out, hN.out] at hgood
      have HA6 := hide (HA.out.below hb6)
      clear hout S6 HA
      go_wp2_with (go_at_call 11; refine hgood.out.mono ?_; rintro e w7 ⟨ag, cg, am, cm, rfl, hs7, ht7, hb7⟩; refine hold ?_)
      refine hide ?_
      have hB7 : Below w1.heap.size w1 w7 := hB6.trans (hb7.mono hB6.size)
      have hst : Hid (Calls Try.prog 17 #[.pointer (some ⟨g, 0, none⟩), .int .i64 0] w7 fun e w' => e = .returned (.int .i64 6) ∧ Below w1.heap.size w1 w') := hide (by
        have h1 := pr_Step g m _ 0 w7 (HA6.out.below hb7) HI.out (by omega)
        rw [hce.1] at h1
        refine h1.mono ?_
        rintro e w' ⟨rfl, m', A', MV'⟩
        exact ⟨rfl, hB7.trans (MV'.blw hB7.size hnB)⟩)
      have hlv := fun w' => law35_lives w'
      clear hgood hs7 ht7 HA6 hnB hb6 hb7 hce
      go_wp2_with (first
        | (go_at_call 17; refine hst.out.mono ?_; rintro e w8 ⟨rfl, hb8⟩)
        | (go_at_call 14; refine (hlv _).mono ?_; rintro e w9 ⟨rfl, hb9⟩))
      go_ret
      exact ⟨rfl, hb1.trans ((hb8.trans (hb9.mono hb8.size)).mono hb1.size)⟩
end Go.Proofs.Ytdeknimelkdaeaa
end

/- the text P27 -/
section
/- Chapter 35: a machine with faults, each of which is cleared at once (plain Lean). -/
set_option linter.unusedVariables false
namespace Go.Proofs.Ytdeknimelkdaeaa
open Go.RowKit Go.Dx Go.Al
def rest25 (S : Pr) : Nat := 25 * S.waiting.length + if S.busy then 25 - S.rows else 0
structure FInv (C : Nat) (S : Pr) : Prop where
  inv : PInv S
  mode : S.mode = 0
  idle : S.busy = false → S = ⟨[], [], [], [], 0, false, S.paper, S.waiting, S.tray, 0⟩
  pap : S.waiting.length + C = S.paper
  sw : Sm S.w0 ∧ Sm S.w1
  sd : Sm S.d0 ∧ Sm S.d1
  sws : ∀ s ∈ S.waiting, Sm s.1 ∧ Sm s.2
  sts : ∀ s ∈ S.tray, Sm s.1 ∧ Sm s.2
theorem Sm.rowD {r : Nat} {p d : Pgl} (h : Sm p) (k : Sm d) : Sm (rowD r p d) := by
  refine ⟨by rw [rowD_len]; exact k.1, fun x hx => ?_⟩
  unfold Go.Proofs.Ytdeknimelkdaeaa.rowD at hx
  split at hx
  · rename_i hr
    rcases List.mem_or_eq_of_mem_set hx with h1 | h1
    · exact k.2 x h1
    · rw [h1, List.getD_eq_getElem?_getD, List.getElem?_eq_getElem hr]
      exact h.2 _ (List.getElem_mem hr)
  · exact k.2 x hx
theorem Sm.blank : Sm blank := ⟨by show 25 ≤ _; omega, fun r hr => by
  unfold Go.Proofs.Ytdeknimelkdaeaa.blank at hr
  rw [List.mem_replicate] at hr
  rw [hr.2]; simp⟩
theorem ftake {C : Nat} {S : Pr} (h : FInv C S) (hr : 0 < rest25 S) : (takeP S).2 = 0 ∧ FInv C (takeP S).1 ∧ (takeP S).1.busy = true ∧ rest25 (takeP S).1 = rest25 S := by
  rcases take_cases S with ⟨hb, e⟩ | ⟨hb, hw, e⟩ | ⟨hb, hp, hw, e⟩ | ⟨x, l, P, hb, hw, hP, e⟩
  · rw [e]; exact ⟨rfl, h, hb, rfl⟩
  · unfold rest25 at hr
    rw [hb, hw] at hr
    simp at hr
  · have := h.pap
    rw [hp] at this
    exact absurd (List.length_eq_zero_iff.1 (by omega)) hw
  · have hI := inv_take h.inv
    rw [e] at hI ⊢
    have hx := h.sws x (by rw [hw]; simp)
    refine ⟨rfl, ⟨hI, h.mode, fun hh => (by cases hh), ?_, hx, ⟨Sm.blank, Sm.blank⟩, fun s hs => h.sws s (by rw [hw]; exact List.mem_cons_of_mem _ hs), h.sts⟩, rfl, ?_⟩
    · have := h.pap
      rw [hw, hP, List.length_cons] at this
      show l.length + C = P
      omega
    · unfold rest25
      rw [hb, hw]
      simp
      omega
theorem finv_lay {C : Nat} {S : Pr} (h : FInv C S) (hi : PInv (layP S)) : FInv C (layP S) := by
  refine ⟨hi, h.mode, fun _ => ?_, h.pap, ⟨Sm.nil, Sm.nil⟩, ⟨Sm.nil, Sm.nil⟩, h.sws, fun s hs => ?_⟩
  · unfold layP
    rw [h.mode]
  · rcases List.mem_append.1 hs with h1 | h1
    · exact h.sts s h1
    · simp at h1
      rw [h1]
      exact h.sd
theorem finv_emb {C : Nat} {S : Pr} (h : FInv C S) (hb : S.busy = true) : FInv C (embP S) := by
  refine ⟨inv_emb h.inv, h.mode, fun hh => ?_, h.pap, h.sw, ⟨h.sw.1.rowD h.sd.1, h.sw.2.rowD h.sd.2⟩, h.sws, h.sts⟩
  have : (embP S).busy = S.busy := rfl
  rw [this, hb] at hh
  cases hh
theorem fdone {C : Nat} {S : Pr} (h : FInv C S) (hb : S.busy = true) : FInv C (doneP S) ∧ rest25 (doneP S) + 1 ≤ rest25 S := by
  have hr := (h.inv.rows hb).1
  have hI := inv_done h.inv hb h.mode
  unfold doneP at hI ⊢
  by_cases h25 : S.rows + 1 = 25
  · rw [if_pos h25] at hI ⊢
    refine ⟨?_, ?_⟩
    · refine ⟨hI, h.mode, fun _ => ?_, h.pap, ⟨Sm.nil, Sm.nil⟩, ⟨Sm.nil, Sm.nil⟩, h.sws, fun s hs => ?_⟩
      · unfold layP
        simp only [h.mode]
      · rcases List.mem_append.1 hs with h1 | h1
        · exact h.sts s h1
        · simp at h1
          rw [h1]
          exact h.sd
    · unfold rest25 layP
      rw [hb]
      simp
      omega
  · rw [if_neg h25] at hI ⊢
    refine ⟨⟨hI, h.mode, fun hh => ?_, h.pap, h.sw, h.sd, h.sws, h.sts⟩, ?_⟩
    · have : S.busy = false := hh
      rw [hb] at this
      cases this
    · unfold rest25
      simp only [hb, if_true]
      omega
/-- what a step does, and the clearing behind it -/
def stepC (S : Pr) (f : Nat) : Pr := if (stepP S f).2 = 23 then (clearP (stepP S f).1).1 else if (stepP S f).2 = 25 then (onP (stepP S f).1).1 else (stepP S f).1
theorem fstep {C : Nat} {S : Pr} (h : FInv C S) (f : Nat) (hf : f ≤ 3) : (rest25 S = 0 ∧ stepP S f = (S, 6)) ∨ (0 < rest25 S ∧ FInv C (stepC S f) ∧ rest25 (stepC S f) + 1 ≤ rest25 S ∧
    (((stepP S f).2 = 23 ∧ (clearP (stepP S f).1).2 = 0) ∨ ((stepP S f).2 = 25 ∧ (onP (stepP S f).1).2 = 0) ∨ (stepP S f).2 = 0)) := by
  have m1 : ¬ S.mode = 1 := by rw [h.mode]; decide
  have m2 : ¬ S.mode = 2 := by rw [h.mode]; decide
  by_cases hr : rest25 S = 0
  · left
    refine ⟨hr, ?_⟩
    have hw : S.waiting = [] := by unfold rest25 at hr; exact List.length_eq_zero_iff.1 (by omega)
    have hb : S.busy = false := by
      cases hb : S.busy with
      | false => rfl
      | true =>
        have := (h.inv.rows hb).1
        unfold rest25 at hr
        rw [hb] at hr
        simp at hr
        omega
    have ht : takeP S = (S, 6) := by unfold takeP; rw [hb, hw]; rfl
    unfold stepP
    rw [if_neg m1, if_neg m2, if_pos (by rw [ht]; exact fun h => by cases h), ht]
  · right
    refine ⟨by omega, ?_⟩
    obtain ⟨t0, hT, hb, hR⟩ := ftake h (by omega)
    have e : stepP S f = if f = 2 then ({ (takeP S).1 with mode := 1 }, 23) else if f = 3 then ({ (takeP S).1 with mode := 2 }, 25) else (doneP (if f = 0 then embP (takeP S).1 else (takeP S).1), 0) := by
      unfold stepP; rw [if_neg m1, if_neg m2, if_neg (by rw [t0]; simp)]
    generalize (takeP S).1 = T at *
    have hlt : 1 ≤ 25 - T.rows := by have := (hT.inv.rows hb).1; omega
    have hRT : rest25 T = 25 * T.waiting.length + (25 - T.rows) := by unfold rest25; rw [hb]; rfl
    have : f = 0 ∨ f = 1 ∨ f = 2 ∨ f = 3 := by omega
    rcases this with rfl | rfl | rfl | rfl
    · have e2 : stepP S 0 = (doneP (embP T), 0) := e
      unfold stepC
      rw [e2]
      obtain ⟨k1, k2⟩ := fdone (finv_emb hT hb) hb
      have k3 : rest25 (embP T) = rest25 T := rfl
      exact ⟨k1, by show rest25 (doneP (embP T)) + 1 ≤ _; omega, .inr (.inr rfl)⟩
    · have e2 : stepP S 1 = (doneP T, 0) := e
      unfold stepC
      rw [e2]
      obtain ⟨k1, k2⟩ := fdone hT hb
      exact ⟨k1, by show rest25 (doneP T) + 1 ≤ _; omega, .inr (.inr rfl)⟩
    · have e2 : stepP S 2 = ({ T with mode := 1 }, 23) := e
      unfold stepC
      rw [e2]
      have hI : PInv { T with mode := 1 } := ⟨hT.inv.bud, by show 1 ≤ 2; omega, fun _ => hb, hT.inv.wait, hT.inv.rows, hT.inv.cw, hT.inv.cd, hT.inv.cws, hT.inv.cts⟩
      have hc := inv_clear hI
      have ec : clearP { T with mode := 1 } = (⟨[], [], [], [], 0, false, T.paper, T.waiting, T.tray, 0⟩, 0) := rfl
      rw [ec] at hc
      simp only [ec, if_true]
      refine ⟨⟨hc, rfl, fun _ => rfl, hT.pap, ⟨Sm.nil, Sm.nil⟩, ⟨Sm.nil, Sm.nil⟩, hT.sws, hT.sts⟩, ?_, .inl ⟨trivial, trivial⟩⟩
      show 25 * T.waiting.length + 0 + 1 ≤ _
      omega
    · have e2 : stepP S 3 = ({ T with mode := 2 }, 25) := e
      unfold stepC
      rw [e2]
      have hI : PInv { T with mode := 2 } := ⟨hT.inv.bud, by show 2 ≤ 2; omega, fun _ => hb, hT.inv.wait, hT.inv.rows, hT.inv.cw, hT.inv.cd, hT.inv.cws, hT.inv.cts⟩
      have hc := inv_on hI
      have ec : onP { T with mode := 2 } = (⟨[], [], [], [], 0, false, T.paper, T.waiting, T.tray ++ [(T.d0, T.d1)], 0⟩, 0) := rfl
      rw [ec] at hc
      simp only [ec, if_true]
      refine ⟨⟨hc, rfl, fun _ => rfl, hT.pap, ⟨Sm.nil, Sm.nil⟩, ⟨Sm.nil, Sm.nil⟩, hT.sws, fun s hs => ?_⟩, ?_, .inr (.inl ⟨trivial, trivial⟩)⟩
      · rcases List.mem_append.1 hs with h1 | h1
        · exact hT.sts s h1
        · simp at h1
          rw [h1]
          exact hT.sd
      · show 25 * T.waiting.length + 0 + 1 ≤ _
        omega
theorem fempty {C : Nat} {S : Pr} (h : FInv C S) (hr : rest25 S = 0) : S = ⟨[], [], [], [], 0, false, S.paper, [], S.tray, 0⟩ := by
  have hw : S.waiting = [] := by unfold rest25 at hr; exact List.length_eq_zero_iff.1 (by omega)
  have hb : S.busy = false := by
    cases hb : S.busy with
    | false => rfl
    | true =>
      have := (h.inv.rows hb).1
      unfold rest25 at hr
      rw [hb] at hr
      simp at hr
      omega
  have := h.idle hb
  rw [hw] at this
  exact this
/-- the pages of the sheets that were not taken -/
def againL : List Pgl → List Bool → List Pgl
  | a :: b :: l, t :: T => if t then againL l T else a :: b :: againL l T
  | [a], t :: _ => if t then [] else [a]
  | _, _ => []
theorem again_miss : ∀ (L : List Pgl) (T : List Bool), T.length = (sheetsL L).length → (missUp T L.length).map (fun n => L.getD n []) = againL L T
  | [], T, h => by simp [missUp, againL]
  | [a], T, h => by
    match T, h with
    | t :: T, h => cases t <;> simp [missUp, againL, List.range_succ]
  | a :: b :: l, T, h => by
    match T, h with
    | t :: T, h =>
      have hl : T.length = (sheetsL l).length := by simpa [sheetsL] using h
      have ih := again_miss l T hl
      have e : missUp (t :: T) (a :: b :: l).length = (if t then [] else [0, 1]) ++ (missUp T l.length).map (· + 2) := by
        unfold missUp
        rw [show (a :: b :: l).length = l.length + 2 from rfl, show l.length + 2 = 2 + l.length by omega, List.range_add, List.filter_append]
        congr 1
        · cases t <;> simp [List.range_succ]
        · rw [List.filter_map]
          have : ((fun i => !(t :: T).getD (i / 2) true) ∘ fun x => 2 + x) = fun i => !T.getD (i / 2) true := by
            funext i
            simp only [Function.comp]
            rw [show (2 + i) / 2 = i / 2 + 1 by omega, List.getD_cons_succ]
          rw [this]
          exact List.map_congr_left fun x _ => by omega
      rw [e, List.map_append, List.map_map]
      have e2 : ((fun n => (a :: b :: l).getD n []) ∘ fun x => x + 2) = fun n => l.getD n [] := by
        funext n
        simp [Function.comp]
      rw [e2, ih]
      cases t <;> simp [againL]
theorem again_cnt : ∀ (L : List Pgl) (T : List Bool) (κ : KeyS), T.length = (sheetsL L).length → cntS (sheetsL L) κ = cntS (sheetsL (againL L T)) κ + (List.range (sheetsL L).length).countP (tkn (sheetsL L) T κ)
  | [], T, κ, h => by simp [againL, sheetsL, cntS]
  | [a], T, κ, h => by
    match T, h with
    | t :: T, h => cases t <;> simp [againL, sheetsL, cntS, tkn, List.range_succ, List.countP_cons]
  | a :: b :: l, T, κ, h => by
    match T, h with
    | t :: T, h =>
      have hl : T.length = (sheetsL l).length := by simpa [sheetsL] using h
      have ih := again_cnt l T κ hl
      have e : (List.range (sheetsL (a :: b :: l)).length).countP (tkn (sheetsL (a :: b :: l)) (t :: T) κ) = (if t && decide (keyS (a, b) = κ) then 1 else 0) + (List.range (sheetsL l).length).countP (tkn (sheetsL l) T κ) := by
        rw [sheetsL, List.length_cons, show (sheetsL l).length + 1 = 1 + (sheetsL l).length by omega, List.range_add, List.countP_append, List.countP_map]
        congr 1
        · simp [List.range_succ, tkn, List.countP_cons]
        · refine List.countP_congr fun i _ => ?_
          simp only [Function.comp, tkn]
          have e1 : (t :: T).getD (1 + i) false = T.getD i false := by rw [show 1 + i = i + 1 by omega, List.getD_cons_succ]
          have e2 : ((a, b) :: sheetsL l).getD (1 + i) ([], []) = (sheetsL l).getD i ([], []) := by rw [show 1 + i = i + 1 by omega, List.getD_cons_succ]
          simp only [e1, e2]
      rw [e]
      have e3 : cntS (sheetsL (a :: b :: l)) κ = (if decide (keyS (a, b) = κ) then 1 else 0) + cntS (sheetsL l) κ := by
        unfold cntS
        rw [sheetsL, List.countP_cons]
        omega
      rw [e3, ih]
      cases t with
      | true => simp [againL]; omega
      | false =>
        have e4 : cntS (sheetsL (againL (a :: b :: l) (false :: T))) κ = (if decide (keyS (a, b) = κ) then 1 else 0) + cntS (sheetsL (againL l T)) κ := by
          unfold cntS
          rw [show againL (a :: b :: l) (false :: T) = a :: b :: againL l T from rfl, sheetsL, List.countP_cons]
          omega
        rw [e4]
        simp
        omega
/-- as many are taken as were met, at most -/
theorem cnt_le (all out : List Sht) (κ : KeyS) : ∀ m, m ≤ out.length → cntT all (goodUp all out m).2 κ ≤ cntS (out.take m) κ
  | 0, _ => by
    have : cntT all (goodUp all out 0).2 κ = 0 := by
      unfold cntT
      rw [List.countP_eq_zero]
      intro k hk
      rw [List.mem_range] at hk
      unfold tkn goodUp
      simp [List.getD_eq_getElem?_getD, hk]
    omega
  | m + 1, hm => by
    have ih := cnt_le all out κ m (by omega)
    obtain ⟨s, hs⟩ : ∃ s, out[m]? = some s := ⟨out[m], by simp [show m < out.length by omega]⟩
    have htake : out.take (m + 1) = out.take m ++ [s] := take_snoc hs
    have hg : out.getD m ([], []) = s := by rw [List.getD_eq_getElem?_getD, hs]; rfl
    have hlen := (goodUp_len all out m).1
    cases hp : pickG all (goodUp all out m).2 s with
    | none =>
      have e : goodUp all out (m + 1) = goodUp all out m := by rw [goodUp, hg, hp]
      rw [e, htake]
      refine Nat.le_trans ih ?_
      unfold cntS
      rw [List.countP_append]
      omega
    | some k =>
      obtain ⟨hk, hT, hks⟩ := pick_some hp
      have e : goodUp all out (m + 1) = ((goodUp all out m).1 ++ [m], (goodUp all out m).2.set k true) := by rw [goodUp, hg, hp]
      rw [e, htake]
      generalize (goodUp all out m).2 = T at *
      have hset : ∀ j, (T.set k true).getD j false = if j = k then true else T.getD j false := fun j => by
        rw [List.getD_eq_getElem?_getD, List.getElem?_set, List.getD_eq_getElem?_getD]
        by_cases hj : j = k
        · rw [if_pos hj.symm, if_pos hj, if_pos (by omega)]; rfl
        · rw [if_neg (Ne.symm hj), if_neg hj]
      have hTk : T.getD k false = false := by
        rw [List.getD_eq_getElem?_getD, List.getElem?_eq_getElem (by omega)] at hT ⊢
        simpa using hT
      by_cases hκ : keyS s = κ
      · have h1 : cntT all (T.set k true) κ = cntT all T κ + 1 := by
          unfold cntT
          refine countP_flip (k := k) _ hk ?_ ?_ ?_
          · unfold tkn; rw [hTk]; rfl
          · unfold tkn
            rw [hset, if_pos rfl, ← hks, hκ]
            simp
          · intro j hj
            unfold tkn
            rw [hset, if_neg hj]
        show cntT all (T.set k true) κ ≤ _
        rw [h1]
        unfold cntS at ih ⊢
        rw [List.countP_append]
        simp [List.countP_cons, hκ]
        exact ih
      · have h1 : cntT all (T.set k true) κ = cntT all T κ := by
          unfold cntT
          refine List.countP_congr fun j hj => ?_
          unfold tkn
          rw [hset]
          by_cases hjk : j = k
          · rw [if_pos hjk, hjk, ← hks]
            simp [hκ]
          · rw [if_neg hjk]
        show cntT all (T.set k true) κ ≤ _
        rw [h1]
        refine Nat.le_trans ih ?_
        unfold cntS
        rw [List.countP_append]
        omega
theorem cntS_append (a b : List Sht) (κ : KeyS) : cntS (a ++ b) κ = cntS a κ + cntS b κ := by unfold cntS; rw [List.countP_append]
/-- the pages that were missing, embossed again, are all that was missing -/
theorem found_nil {L : List Pgl} {out : List Sht} {X : List Sht} (hX : ∀ κ, cntS X κ = cntS (sheetsL (againL L (goodUp (sheetsL L) out out.length).2)) κ) : (goodF L (out ++ X)).2 = [] := by
  have hl := (goodUp_len (sheetsL L) (out ++ X) (out ++ X).length).1
  refine missUp_nil fun k hk => getD_tf (taken_of_cnt (by rw [sheetsL_len]; omega) ?_)
  rw [cntS_append, hX]
  have h1 := again_cnt L (goodUp (sheetsL L) out out.length).2 (keyS ((sheetsL L).getD k ([], []))) (goodUp_len _ _ _).1
  have h2 := cnt_le (sheetsL L) out (keyS ((sheetsL L).getD k ([], []))) out.length (Nat.le_refl _)
  rw [List.take_length] at h2
  unfold cntT at h2
  omega
theorem again_mem : ∀ (L : List Pgl) (T : List Bool), ∀ p ∈ againL L T, p ∈ L
  | [], T, p, h => by cases T <;> simp [againL] at h
  | [a], T, p, h => by
    cases T with
    | nil => simp [againL] at h
    | cons t T => cases t <;> simp [againL] at h; simp [h]
  | a :: b :: l, T, p, h => by
    cases T with
    | nil => simp [againL] at h
    | cons t T =>
      have ih := again_mem l T p
      cases t with
      | true =>
        have h2 : p ∈ againL l T := by simpa [againL] using h
        simp [ih h2]
      | false =>
        have h2 : p = a ∨ p = b ∨ p ∈ againL l T := by simpa [againL] using h
        rcases h2 with h2 | h2 | h2
        · simp [h2]
        · simp [h2]
        · simp [ih h2]
/-- the good ones are among the sheets -/
theorem good_known {all out : List Sht} : ∀ m, m ≤ out.length → ∀ i ∈ (goodUp all out m).1, i < m ∧ ∃ k, k < all.length ∧ samS (out.getD i ([], [])) (all.getD k ([], [])) = true
  | 0, _, i, h => by simp [goodUp] at h
  | m + 1, hm, i, h => by
    have ih := good_known (all := all) (out := out) m (by omega)
    rw [goodUp] at h
    cases hp : pickG all (goodUp all out m).2 (out.getD m ([], [])) with
    | none =>
      rw [hp] at h
      obtain ⟨h1, h2⟩ := ih i h
      exact ⟨by omega, h2⟩
    | some k =>
      rw [hp] at h
      rcases List.mem_append.1 h with h1 | h1
      · obtain ⟨h1, h2⟩ := ih i h1
        exact ⟨by omega, h2⟩
      · simp at h1
        subst h1
        obtain ⟨k1, -, k3⟩ := pick_some hp
        exact ⟨by omega, k, k1, (samS_iff _ _).2 k3⟩
theorem miss_lt {T : List Bool} {n : Nat} : ∀ i ∈ missUp T n, i < n := fun i h => by
  unfold missUp at h
  have := (List.mem_filter.1 h).1
  simpa using this
end Go.Proofs.Ytdeknimelkdaeaa
end

/- the text AppF -/
section
/- The laws on append once more: the block that is handed back is the old one or a new one. No program in sight. -/
set_option linter.unusedVariables false
namespace Go.Dx
open Go.RowKit
section laws
variable {P : Program} {w : World} {ops : Array Oper} {rest : List Oper} {o : Oper} {act : Act} {Q : Exit → Act → World → Prop}
theorem run_append_fresh (base : Nat) (t tx ty e : TypeId) (i : TypeInfo) (z : Value) (ht : P.underlying t = some (.slice e)) (hi : P.info? e = some i) (hz : i.zero = some z)
    (hzs : z.cells.size = i.size) (a : Option Addr) (n c : Nat) (xs : List Value) (hown : Own w base e i.size a n c xs)
    (x : Value) (m : Nat) (news : List Value) (hs : Src P i.size tx x m news w)
    (h63 : n + m ≤ maxLen) (hbytes : (n + m) * i.bytes ≤ 140737488355328) (hbase : base ≤ w.heap.size) :
    ∃ a' c' w', (Builtin.append_ #[t, tx] ty #[.slice a n c, x]).run P w = .ok (.slice a' (n + m) c') w' ∧ Own w' base e i.size a' (n + m) c' (xs ++ news) ∧ w.grownBy w' (a.map (·.block)) ∧ (∀ p, a' = some p → (∃ q, a = some q ∧ q.block = p.block) ∨ w.heap.size ≤ p.block) := by
  have hsmall : n + m ≤ 9223372036854775807 := by simp only [maxLen] at h63; omega
  have hlen : (xs ++ news).length = (n + m) * i.size := by rw [List.length_append, hown.1, hs.newsLen, Nat.add_mul]
  have hold : (Builtin.firstCells i.size n (.slice a n c)).run P w.drew = .ok xs.toArray w.drew := by
    have hsl := hown.sl
    cases a with
    | none =>
      have := hsl.nil rfl
      have := hsl.le
      obtain rfl : n = 0 := by omega
      have hnews : xs = [] := List.eq_nil_of_length_eq_zero (by simpa using hsl.len)
      subst hnews
      exact run_firstCells_none w.drew i.size 0 0 c
    | some p => exact run_firstCells_some w.drew i.size n p n c xs hsl.len (by simpa using hsl.cell p rfl)
  by_cases hroom : n + m ≤ c
  · rcases hown.2 with ⟨h1, h2⟩ | ⟨g, cap, cur, h1, hbg, hg, hnc, hcm, hcs, htake⟩
    · injection h1 with h1 h3 h4
      subst h1 h3 h4
      obtain rfl : m = 0 := by omega
      have hx : xs = [] := List.eq_nil_of_length_eq_zero (by simpa using hown.1)
      have hnews : news = [] := List.eq_nil_of_length_eq_zero (by simpa using hs.newsLen)
      subst hx hnews
      refine ⟨none, 0, w, ?_, Own.nil w base e i.size, World.grownBy.refl _ _, fun p hp => by cases hp⟩
      rcases hs.kind with ⟨e', hk⟩ | hk <;> simp [Builtin.append_, run_underlying ht, run_underlying hk, sizeOf, typeInfo, hi, hs.len, hs.cells]
    · injection h1 with h1 h3 h4
      subst h1 h4
      have hfit : n * i.size + news.length ≤ cur.size := by rw [hs.newsLen, hcs, ← Nat.add_mul]; exact Nat.mul_le_mul_right _ hroom
      have hst := run_storeCells_at P g (n * i.size) e news 0 cur w hg (by simpa using hfit) hs.one
      simp only [Nat.add_zero] at hst
      refine ⟨some ⟨g, 0, none⟩, c, w.setRow g (cur.toList.take (n * i.size) ++ news ++ cur.toList.drop (n * i.size + news.length)).toArray, ?_, ⟨hlen, .inr ⟨g, c, _, rfl, hbg, setRow_heap w g cur _ e _ hg, hroom, hcm, ?_, ?_⟩⟩, ⟨rfl, rfl, rfl, by simp, fun k _ hk => setRow_other w g k _ (fun e => hk (by simp [e]))⟩, fun p hp => by cases hp; exact .inl ⟨_, rfl, rfl⟩⟩
      · rcases hs.kind with ⟨e', hk⟩ | hk <;> simp [Builtin.append_, run_underlying ht, run_underlying hk, sizeOf, typeInfo, hi, hs.len, hroom, hs.cells, Addr.add_lit, hst]
      · simp only [List.size_toArray, List.length_append, List.length_take, List.length_drop, Array.length_toList]
        omega
      · rw [htake, ← hlen]
        exact List.take_left
  · have hr := run_append_grow_src (P := P) w t tx ty e i z ht hi hz a n c xs hold x m news hs (by omega) (by omega) (growslice_fits (by omega) hbytes)
    have hge := grownCap_ge w (n + m) c e
    have hcm : grownCap w (n + m) c e ≤ maxLen := grownCap_le_maxLen w (n + m) c e h63
    refine ⟨_, _, _, hr, ⟨hlen, .inr ⟨w.heap.size, _, _, rfl, hbase, heap_alloc_new w.drew _, hge, hcm, ?_, ?_⟩⟩, ⟨rfl, rfl, rfl, by simp, fun k hk _ => Below.heap_alloc w.drew _ k hk⟩, fun p hp => by cases hp; exact .inr (Nat.le_refl _)⟩
    · simp only [Array.size_append, List.size_toArray, size_zeroCells, hzs, hlen, ← Nat.add_mul]
      congr 1
      omega
    · simp only [Array.toList_append, List.append_assoc]
      rw [← List.append_assoc, ← hlen]
      exact List.take_left

/-- 'append(out, x...)', out owned, whatever x is: the general law. -/
theorem append_src_f (hg : o.guard = none) (s x : Operand) (t tx : TypeId) (hop : o.op = Op.call { callee := Callee.builtin Builtin.append, args := #[s, x], argTypes := #[t, tx] })
    (e : TypeId) (z : Value) (sz bytes : Nat) (ht : P.underlying t = some (.slice e)) (hi : (P.info? e).map (fun i => (i.zero, i.size, i.bytes)) = some (some z, sz, bytes)) (hz : z.cells.size = sz)
    (w0 : World) (B : Nat) (a : Option Addr) (n c : Nat) (xs : List Value) (hs : act.eval s = .slice a n c) (hown : Own w B e sz a n c xs)
    (v : Value) (m : Nat) (ys : List Value) (hx : act.eval x = v) (hy : Src P sz tx v m ys w)
    (hn : (n + m) * bytes ≤ 140737488355328) (hn2 : n + m ≤ maxLen) (hB : B ≤ w.heap.size) (hbel : Below B w0 w)
    (hK : ∀ a' c' w', Own w' B e sz a' (n + m) c' (xs ++ ys) → w.grownBy w' (a.map (·.block)) → (∀ p, a' = some p → (∃ q, a = some q ∧ q.block = p.block) ∨ w.heap.size ≤ p.block) → Below B w0 w' → wpList P ops Q rest (act.put o.dst (.slice a' (n + m) c')) w') :
    wpList P ops Q (o :: rest) act w := by
  obtain ⟨i, hi0, hz0, hz1, hz2⟩ := info_parts hi
  subst hz1 hz2
  clear hi
  obtain ⟨a', c', w', hrun, ho, hgr, hfr⟩ := run_append_fresh B t tx o.type e i z ht hi0 hz0 hz a n c xs hown v m ys hy hn2 hn hB
  refine wpList_plain hg fun K hK' => ?_
  unfold Oper.wp
  simp [execOp, hop, resolve, invoke, builtin, hs, hx, hrun, Result.andThen]
  refine hK' _ _ (hK a' c' w' ho hgr hfr (hbel.grown hgr hB ?_))
  intro k hk
  cases a with
  | none => cases hk
  | some p => injection hk with hk; subst hk; exact hown.base.1

/-- 'append(out, ys...)', out owned, ys a slice. -/
theorem append_own_f (hg : o.guard = none) (s x : Operand) (t : TypeId) (hop : o.op = Op.call { callee := Callee.builtin Builtin.append, args := #[s, x], argTypes := #[t, t] })
    (e : TypeId) (z : Value) (sz bytes : Nat) (ht : P.underlying t = some (.slice e)) (hi : (P.info? e).map (fun i => (i.zero, i.size, i.bytes)) = some (some z, sz, bytes)) (hz : z.cells.size = sz)
    (w0 : World) (B : Nat) (a : Option Addr) (n c : Nat) (xs : List Value) (hs : act.eval s = .slice a n c) (hown : Own w B e sz a n c xs)
    (a2 : Option Addr) (m c2 : Nat) (ys : List Value) (hx : act.eval x = .slice a2 m c2) (hy : Sl w sz a2 m c2 ys) (h1 : ∀ u ∈ ys, u.oneCell' = true)
    (hn : (n + m) * bytes ≤ 140737488355328) (hn2 : n + m ≤ maxLen) (hB : B ≤ w.heap.size) (hbel : Below B w0 w)
    (hK : ∀ a' c' w', Own w' B e sz a' (n + m) c' (xs ++ ys) → w.grownBy w' (a.map (·.block)) → (∀ p, a' = some p → (∃ q, a = some q ∧ q.block = p.block) ∨ w.heap.size ≤ p.block) → Below B w0 w' → wpList P ops Q rest (act.put o.dst (.slice a' (n + m) c')) w') :
    wpList P ops Q (o :: rest) act w :=
  append_src_f hg s x t t hop e z sz bytes ht hi hz w0 B a n c xs hs hown _ m ys hx (hy.src ht h1) hn hn2 hB hbel hK

theorem append_lit_f (hg : o.guard = none) (s x : Operand) (t : TypeId) (hop : o.op = Op.call { callee := Callee.builtin Builtin.append, args := #[s, x], argTypes := #[t, t] })
    (e : TypeId) (z : Value) (sz bytes : Nat) (ht : P.underlying t = some (.slice e)) (hi : (P.info? e).map (fun i => (i.zero, i.size, i.bytes)) = some (some z, sz, bytes)) (hz : z.cells.size = sz)
    (w0 : World) (B : Nat) (a : Option Addr) (n c : Nat) (xs : List Value) (hs : act.eval s = .slice a n c) (hown : Own w B e sz a n c xs)
    (m : Nat) (us : List Value) (hx : act.eval x = .slice (some ⟨w.heap.size, 0, none⟩) m m) (hu : us.length = m * sz) (h1 : ∀ u ∈ us, u.oneCell' = true)
    (hn : (n + m) * bytes ≤ 140737488355328) (hn2 : n + m ≤ maxLen) (hB : B ≤ w.heap.size) (hbel : Below B w0 w)
    (hK : ∀ a' c' w', Own w' B e sz a' (n + m) c' (xs ++ us) → w.grownBy w' (a.map (·.block)) → (∀ p, a' = some p → (∃ q, a = some q ∧ q.block = p.block) ∨ w.heap.size ≤ p.block) → Below B w0 w' → wpList P ops Q rest (act.put o.dst (.slice a' (n + m) c')) w') :
    wpList P ops Q (o :: rest) act (w.alloc (.cells us.toArray e)) := by
  refine append_own_f hg s x t hop e z sz bytes ht hi hz w0 B a n c xs hs (hown.alloc _) _ m m us hx ?_ h1 hn hn2 (by simp; omega) (hbel.alloc hB _) ?_
  · have := (Own.built w 0 e sz m us.toArray (Nat.zero_le _) (by simpa using hu) (by omega)).sl
    simpa using this
  · intro a' c' w' ho hgr hfr hb
    refine hK a' c' w' ho ⟨hgr.os, hgr.tape, hgr.output, ?_, ?_⟩ (fun p hp => (hfr p hp).imp id (fun h => by simp at h; omega)) hb
    · have := hgr.size; simp at this; omega
    · intro k hk hne
      rw [hgr.block k (by simp; omega) hne]
      rw [Below.heap_alloc _ _ _ hk]
end laws
end Go.Dx
end

/- the text AppN -/
section
/- The law on 'append([]T{}, xs...)': what is handed back is the empty slice or lies in a new block. No program in sight. -/
set_option linter.unusedVariables false
set_option linter.unusedSimpArgs false
namespace Go.Dx
open Go.RowKit
section ops
variable {P : Program} {w : World} {ops : Array Oper} {rest : List Oper} {o : Oper} {act : Act} {Q : Exit → Act → World → Prop}
theorem run_append_empty (B : Nat) (t tx ty e : TypeId) (i : TypeInfo) (z : Value) (ht : P.underlying t = some (.slice e)) (hi : P.info? e = some i) (hz : i.zero = some z)
    (hzs : z.cells.size = i.size) (a : Option Addr) (hown : Own w B e i.size a 0 0 [])
    (x : Value) (m : Nat) (news : List Value) (hs : Src P i.size tx x m news w)
    (h63 : m ≤ maxLen) (hbytes : m * i.bytes ≤ 140737488355328) (hB : B ≤ w.heap.size) :
    ∃ a' c' w', (Builtin.append_ #[t, tx] ty #[.slice a 0 0, x]).run P w = .ok (.slice a' m c') w' ∧ Own w' B e i.size a' m c' news ∧ Below w.heap.size w w' ∧ (m = 0 ∧ c' = 0 ∨ m ≠ 0 ∧ ∀ p, a' = some p → w.heap.size ≤ p.block) := by
  have hsmall : m ≤ 9223372036854775807 := by simp only [maxLen] at h63; omega
  have hlen : news.length = m * i.size := hs.newsLen
  have hold : (Builtin.firstCells i.size 0 (.slice a 0 0)).run P w.drew = .ok ([] : List Value).toArray w.drew := by
    cases a with
    | none => exact run_firstCells_none w.drew i.size 0 0 0
    | some p => exact run_firstCells_some w.drew i.size 0 p 0 0 [] (by simp) (fun j u hj => by simp at hj)
  by_cases hm : m = 0
  · subst hm
    have hnews : news = [] := List.eq_nil_of_length_eq_zero (by simpa using hs.newsLen)
    subst hnews
    refine ⟨a, 0, w, ?_, hown, Below.refl _ _, .inl ⟨rfl, rfl⟩⟩
    cases a with
    | none =>
      rcases hs.kind with ⟨e', hk⟩ | hk <;> simp [Builtin.append_, run_underlying ht, run_underlying hk, sizeOf, typeInfo, hi, hs.len, hs.cells]
    | some p =>
      have hst : ∀ q : Addr, (storeCells q ([] : List Value)).run P w = .ok () w := by intro q; simp [storeCells]
      rcases hs.kind with ⟨e', hk⟩ | hk <;> simp [Builtin.append_, run_underlying ht, run_underlying hk, sizeOf, typeInfo, hi, hs.len, hs.cells, hst]
  · have hr := run_append_grow_src (P := P) w t tx ty e i z ht hi hz a 0 0 [] hold x m news hs (by omega) (by omega) (growslice_fits (by omega) (by rw [Nat.zero_add]; exact hbytes))
    have hge := grownCap_ge w (0 + m) 0 e
    have hcm : grownCap w (0 + m) 0 e ≤ maxLen := grownCap_le_maxLen w (0 + m) 0 e (by rw [Nat.zero_add]; exact h63)
    rw [Nat.zero_add] at hr hge hcm
    refine ⟨_, _, _, hr, ⟨hlen, .inr ⟨w.heap.size, _, _, rfl, hB, heap_alloc_new w.drew _, hge, hcm, ?_, ?_⟩⟩, undrew (Below.alloc (Below.refl w.heap.size w.drew) (Nat.le_refl w.heap.size) _), .inr ⟨hm, fun p hp => by cases hp; exact Nat.le_refl _⟩⟩
    · simp only [Array.size_append, List.size_toArray, size_zeroCells, hzs, List.nil_append, hlen, ← Nat.add_mul]
      congr 1
      omega
    · simp only [Array.toList_append, List.nil_append]
      rw [← hlen]
      exact List.take_left
/-- 'append([]T{}, xs...)' -/
theorem append_empty (hg : o.guard = none) (s x : Operand) (t : TypeId) (hop : o.op = Op.call { callee := Callee.builtin Builtin.append, args := #[s, x], argTypes := #[t, t] })
    (e : TypeId) (z : Value) (sz bytes : Nat) (ht : P.underlying t = some (.slice e)) (hi : (P.info? e).map (fun i => (i.zero, i.size, i.bytes)) = some (some z, sz, bytes)) (hz : z.cells.size = sz)
    (B : Nat) (a : Option Addr) (hs : act.eval s = .slice a 0 0) (hown : Own w B e sz a 0 0 [])
    (a2 : Option Addr) (m c2 : Nat) (ys : List Value) (hx : act.eval x = .slice a2 m c2) (hy : Sl w sz a2 m c2 ys) (h1 : ∀ u ∈ ys, u.oneCell' = true)
    (hn : m * bytes ≤ 140737488355328) (hn2 : m ≤ maxLen) (hB : B ≤ w.heap.size)
    (hK : ∀ a' c' w', Own w' B e sz a' m c' ys → Below w.heap.size w w' → (m = 0 ∧ c' = 0 ∨ m ≠ 0 ∧ ∀ p, a' = some p → w.heap.size ≤ p.block) → wpList P ops Q rest (act.put o.dst (.slice a' m c')) w') :
    wpList P ops Q (o :: rest) act w := by
  obtain ⟨i, hi0, hz0, hz1, hz2⟩ := info_parts hi
  subst hz1 hz2
  clear hi
  obtain ⟨a', c', w', hrun, ho, hgr, hfr⟩ := run_append_empty B t t o.type e i z ht hi0 hz0 hz a hown _ m ys (hy.src ht h1) hn2 hn hB
  refine wpList_plain hg fun K hK' => ?_
  unfold Oper.wp
  simp [execOp, hop, resolve, invoke, builtin, hs, hx, hrun, Result.andThen]
  exact hK' _ _ (hK a' c' w' ho hgr hfr)
/-- 'append(out, ys...)', out owned: either all that lay there stays, or there is room and the block of out grows in place. -/
theorem run_append_where (base : Nat) (t tx ty e : TypeId) (i : TypeInfo) (z : Value) (ht : P.underlying t = some (.slice e)) (hi : P.info? e = some i) (hz : i.zero = some z)
    (hzs : z.cells.size = i.size) (a : Option Addr) (n c : Nat) (xs : List Value) (hown : Own w base e i.size a n c xs)
    (x : Value) (m : Nat) (news : List Value) (hs : Src P i.size tx x m news w)
    (h63 : n + m ≤ maxLen) (hbytes : (n + m) * i.bytes ≤ 140737488355328) (hbase : base ≤ w.heap.size) :
    ∃ a' c' w', (Builtin.append_ #[t, tx] ty #[.slice a n c, x]).run P w = .ok (.slice a' (n + m) c') w' ∧ Own w' base e i.size a' (n + m) c' (xs ++ news) ∧ w.grownBy w' (a.map (·.block)) ∧ (n + m ≤ c ∨ Below w.heap.size w w') := by
  obtain ⟨a', c', w', h1, h2, h3, _⟩ := run_append_fresh base t tx ty e i z ht hi hz hzs a n c xs hown x m news hs h63 hbytes hbase
  by_cases hroom : n + m ≤ c
  · exact ⟨a', c', w', h1, h2, h3, .inl hroom⟩
  · have hsmall : n + m ≤ 9223372036854775807 := by simp only [maxLen] at h63; omega
    have hold : (Builtin.firstCells i.size n (.slice a n c)).run P w.drew = .ok xs.toArray w.drew := by
      have hsl := hown.sl
      cases a with
      | none =>
        have := hsl.nil rfl
        have := hsl.le
        obtain rfl : n = 0 := by omega
        have hnews : xs = [] := List.eq_nil_of_length_eq_zero (by simpa using hsl.len)
        subst hnews
        exact run_firstCells_none w.drew i.size 0 0 c
      | some p => exact run_firstCells_some w.drew i.size n p n c xs hsl.len (by simpa using hsl.cell p rfl)
    have hr := run_append_grow_src (P := P) w t tx ty e i z ht hi hz a n c xs hold x m news hs (by omega) (by omega) (growslice_fits (by omega) hbytes)
    rw [hr] at h1
    cases h1
    exact ⟨_, _, _, hr, h2, h3, .inr (undrew (Below.alloc (Below.refl w.heap.size w.drew) (Nat.le_refl w.heap.size) _))⟩
theorem append_where (hg : o.guard = none) (s x : Operand) (t : TypeId) (hop : o.op = Op.call { callee := Callee.builtin Builtin.append, args := #[s, x], argTypes := #[t, t] })
    (e : TypeId) (z : Value) (sz bytes : Nat) (ht : P.underlying t = some (.slice e)) (hi : (P.info? e).map (fun i => (i.zero, i.size, i.bytes)) = some (some z, sz, bytes)) (hz : z.cells.size = sz)
    (B : Nat) (a : Option Addr) (n c : Nat) (xs : List Value) (hs : act.eval s = .slice a n c) (hown : Own w B e sz a n c xs)
    (a2 : Option Addr) (m c2 : Nat) (ys : List Value) (hx : act.eval x = .slice a2 m c2) (hy : Sl w sz a2 m c2 ys) (h1 : ∀ u ∈ ys, u.oneCell' = true)
    (hn : (n + m) * bytes ≤ 140737488355328) (hn2 : n + m ≤ maxLen) (hB : B ≤ w.heap.size)
    (hK : ∀ a' c' w', Own w' B e sz a' (n + m) c' (xs ++ ys) → w.grownBy w' (a.map (·.block)) → (n + m ≤ c ∨ Below w.heap.size w w') → wpList P ops Q rest (act.put o.dst (.slice a' (n + m) c')) w') :
    wpList P ops Q (o :: rest) act w := by
  obtain ⟨i, hi0, hz0, hz1, hz2⟩ := info_parts hi
  subst hz1 hz2
  clear hi
  obtain ⟨a', c', w', hrun, ho, hgr, hfr⟩ := run_append_where B t t o.type e i z ht hi0 hz0 hz a n c xs hown _ m ys (hy.src ht h1) hn2 hn hB
  refine wpList_plain hg fun K hK' => ?_
  unfold Oper.wp
  simp [execOp, hop, resolve, invoke, builtin, hs, hx, hrun, Result.andThen]
  exact hK' _ _ (hK a' c' w' ho hgr hfr)
end ops
end Go.Dx
end

/- the text P26 -/
section
/- Chapter 35: pages made of literals and of other pages. -/
set_option linter.unusedVariables false
namespace Go.Proofs.Ytdeknimelkdaeaa
open Go.RowKit Go.Dx Go.Al
section
variable {w : World} {ops : Array Oper} {rest : List Oper} {act : Act} {Q : Exit → Act → World → Prop} {ty : TypeId} {pos : String} {after : Array Edge}
theorem hv_one (ys : List Hd) : ∀ u ∈ ys.map hv, u.oneCell' = true := fun u hu => by
  obtain ⟨y, -, rfl⟩ := List.mem_map.1 hu
  rfl
theorem build_nil (d : Nat) (hK : ∀ w', Box w' w.heap.size 31 [] → Below w.heap.size w w' → wpList Try.prog ops Q rest (act.put (some d) (.slice (some ⟨w.heap.size, 0, none⟩) 0 0)) w') :
    wpList Try.prog ops Q ({ dst := some d, op := .buildSlice 28 0 #[], type := ty, pos := pos, after := after, guard := none } :: rest) act w := by
  refine wpList_plain rfl fun K hK' => ?_
  unfold Oper.wp
  have hrun : (Instr.buildSlice 28 0 #[]).run Try.prog w = .ok (.slice (some ⟨w.heap.size, 0, none⟩) 0 0) (w.alloc (.cells #[] 31)) := by kernel_rfl
  simp [execOp, hrun, Result.andThen]
  exact hK' _ _ (hK _ (Box.new w 31 #[]) (sblo w _))
theorem build_u8 (d : Nat) (x : Operand) (v : Int) (hx : act.eval x = .int .u8 v) (hK : ∀ w', Box w' w.heap.size 5 [.int .u8 v] → Below w.heap.size w w' → wpList Try.prog ops Q rest (act.put (some d) (.slice (some ⟨w.heap.size, 0, none⟩) 1 1)) w') :
    wpList Try.prog ops Q ({ dst := some d, op := .buildSlice 31 1 #[(0, x)], type := ty, pos := pos, after := after, guard := none } :: rest) act w :=
  build_one d 31 x 5 Try.underlying31 (.int .u8 0) 1 1 info_u8 rfl (by decide) (by decide) _ [.int .u8 v] hx rfl rfl (hK _ (Box.new w 5 #[.int .u8 v]) (sblo w _))
theorem build_row1 (d : Nat) (x : Operand) (a : Option Addr) (n c : Nat) (hx : act.eval x = .slice a n c) (hK : ∀ w', Box w' w.heap.size 31 [.slice a n c] → Below w.heap.size w w' → wpList Try.prog ops Q rest (act.put (some d) (.slice (some ⟨w.heap.size, 0, none⟩) 1 1)) w') :
    wpList Try.prog ops Q ({ dst := some d, op := .buildSlice 28 1 #[(0, x)], type := ty, pos := pos, after := after, guard := none } :: rest) act w :=
  build_one d 28 x 31 Try.underlying28 (.slice none 0 0) 1 24 info_row rfl (by decide) (by decide) _ [.slice a n c] hx rfl rfl (hK _ (Box.new w 31 #[.slice a n c]) (sblo w _))
theorem build_row2 (d : Nat) (x : Operand) (a : Option Addr) (n c : Nat) (hx : act.eval x = .slice a n c) (hK : ∀ w', Box w' w.heap.size 31 [.slice none 0 0, .slice a n c] → Below w.heap.size w w' → wpList Try.prog ops Q rest (act.put (some d) (.slice (some ⟨w.heap.size, 0, none⟩) 2 2)) w') :
    wpList Try.prog ops Q ({ dst := some d, op := .buildSlice 28 2 #[(0, .const (.slice none 0 0)), (1, x)], type := ty, pos := pos, after := after, guard := none } :: rest) act w := by
  refine wpList_plain rfl fun K hK' => ?_
  unfold Oper.wp
  have hrun : (Instr.buildSlice 28 2 #[(0, .slice none 0 0), (1, .slice a n c)]).run Try.prog w = .ok (.slice (some ⟨w.heap.size, 0, none⟩) 2 2) (w.alloc (.cells #[.slice none 0 0, .slice a n c] 31)) := by kernel_rfl
  have he : act.eval (.const (.slice none 0 0)) = .slice none 0 0 := rfl
  simp [execOp, he, hx, hrun, Result.andThen]
  exact hK' _ _ (hK _ (Box.new w 31 #[.slice none 0 0, .slice a n c]) (sblo w _))
end
section
variable {w : World} {ops : Array Oper} {rest : List Oper} {o : Oper} {act : Act} {Q : Exit → Act → World → Prop}
/-- 'append(api.Page{}, p...)' -/
theorem app_pg_e (hg : o.guard = none) (s x : Operand) (hop : o.op = Op.call { callee := Callee.builtin Builtin.append, args := #[s, x], argTypes := #[28, 28] })
    (B : Nat) (b : Nat) (hs : act.eval s = .slice (some ⟨b, 0, none⟩) 0 0) (hx0 : Box w b 31 []) (hB : B ≤ b)
    (a2 : Option Addr) (m c2 : Nat) (ys : List Hd) (hx : act.eval x = .slice a2 m c2) (hy : Sl w 1 a2 m c2 (ys.map hv)) (hn : m ≤ 5000000000000)
    (hK : ∀ a' c' w', Own w' B 31 1 a' m c' (ys.map hv) → Below w.heap.size w w' → (m = 0 ∧ c' = 0 ∨ m ≠ 0 ∧ ∀ p, a' = some p → w.heap.size ≤ p.block) → wpList Try.prog ops Q rest (act.put o.dst (.slice a' m c')) w') :
    wpList Try.prog ops Q (o :: rest) act w := by
  refine append_empty hg s x 28 hop 31 (.slice none 0 0) 1 24 Try.underlying28 info_row rfl B (some ⟨b, 0, none⟩) hs (own_of_box hx0 rfl (Nat.zero_le _) hB) a2 m c2 _ hx hy (hv_one ys) (by omega) (by unfold maxLen; omega) (Nat.le_trans hB (Nat.le_of_lt hx0.lt)) ?_
  intro a' c' w' h1 h2 h3
  exact hK a' c' w' h1 h2 h3
/-- 'append(p, q...)' on rows -/
theorem app_pgS (hg : o.guard = none) (s x : Operand) (hop : o.op = Op.call { callee := Callee.builtin Builtin.append, args := #[s, x], argTypes := #[28, 28] })
    (B : Nat) (a : Option Addr) (n c : Nat) (xs : List Hd) (hs : act.eval s = .slice a n c) (hown : Own w B 31 1 a n c (xs.map hv)) (hB : B ≤ w.heap.size)
    (a2 : Option Addr) (m c2 : Nat) (ys : List Hd) (hx : act.eval x = .slice a2 m c2) (hy : Sl w 1 a2 m c2 (ys.map hv)) (hn : n + m ≤ 5000000000000)
    (hK : ∀ a' c' w', Own w' B 31 1 a' (n + m) c' ((xs ++ ys).map hv) → w.grownBy w' (a.map (·.block)) → (n + m ≤ c ∨ Below w.heap.size w w') → wpList Try.prog ops Q rest (act.put o.dst (.slice a' (n + m) c')) w') :
    wpList Try.prog ops Q (o :: rest) act w := by
  refine append_where hg s x 28 hop 31 (.slice none 0 0) 1 24 Try.underlying28 info_row rfl B a n c _ hs hown a2 m c2 _ hx hy (hv_one ys) (by omega) (by unfold maxLen; omega) hB ?_
  intro a' c' w' h1 h2 h3
  exact hK a' c' w' (by rw [List.map_append]; exact h1) h2 h3
end
theorem tab_app {w w' : World} {B n c : Nat} {a : Option Addr} {hs zs : List Hd} {p q : Pgl} (hR : Rows w hs p) (b : Below w.heap.size w w') (ho : Own w' B 31 1 a n c ((hs ++ zs).map hv)) (hz : Rows w' zs q) : Tab w' (a, n, c) (p ++ q) :=
  ⟨hs ++ zs, ho.mono (Nat.zero_le _), (hR.below b).append hz⟩
theorem row_of_box {w : World} {g : Nat} {v : Nat} (h : Box w g 5 [.int .u8 (v : Int)]) (hv : v < 256) : Rows w [(some ⟨g, 0, none⟩, 1, 1)] [[UInt8.ofNat v]] := by
  refine Rows.one ?_ ?_
  · have := h.sl_al rfl (by simp [maxLen])
    show Sl w 1 _ 1 1 [B8 (UInt8.ofNat v)]
    rw [show B8 (UInt8.ofNat v) = .int .u8 (v : Int) by show Value.int .u8 ((UInt8.ofNat v).toNat : Int) = _; rw [UInt8.toNat_ofNat', Nat.mod_eq_of_lt hv]]
    exact this
  · intro q hq
    cases hq
    exact ⟨_, _, h⟩
theorem below_app {w w9 w10 : World} {a : Option Addr} {n m c : Nat} {B : Nat} {e : TypeId} {cs : List Value} (hb : Below w.heap.size w w9) (hg : w9.grownBy w10 (a.map (·.block))) (hz : n + m ≤ c ∨ Below w9.heap.size w9 w10) (hm : 0 < m) (hf : n = 0 ∧ c = 0 ∨ n ≠ 0 ∧ ∀ p, a = some p → w.heap.size ≤ p.block) : Below w.heap.size w w10 := by
  rcases hz with h | h
  · rcases hf with ⟨h0, h1⟩ | ⟨h0, h1⟩
    · omega
    · refine hb.grown hg hb.size (fun b hb' => ?_)
      cases a with
      | none => cases hb'
      | some q => simp at hb'; subst hb'; exact h1 q rfl
  · exact hb.trans (h.mono hb.size)
/-- a step that writes behind the rows of a page of its own alone -/
def RP1 (w5 : World) (K : Nat) (u u' : World) : Prop := ∃ X : Option Nat, u.grownBy u' X ∧ ∀ b, X = some b → w5.heap.size ≤ b ∧ ∃ cur, u.heap[b]? = some (.cells cur 31 (0, 0)) ∧ K ≤ cur.size
theorem RP1.of (w5 : World) (K : Nat) (u u' : World) (h : Below u.heap.size u u') : RP1 w5 K u u' := ⟨none, grown_of_below h none, fun b h => by cases h⟩
theorem RP1.box {w5 u u' : World} {K b : Nat} {t : TypeId} {cs : List Value} (h : RP1 w5 K u u') (hx : Box u b t cs) (ht : t ≠ 31 ∨ cs.length < K) : Box u' b t cs := by
  obtain ⟨X, hg, hX⟩ := h
  refine hx.grown hg (fun e => ?_)
  obtain ⟨-, cur, hc, hK⟩ := hX b e.symm
  have h2 : u.heap[b]? = _ := hx
  rw [h2] at hc
  injection hc with hc
  injection hc with h3 h4
  rcases ht with ht | ht
  · exact ht h4
  · rw [← h3] at hK
    simp at hK
    omega
def NilF (w5 : World) (vs : List Value) (w : World) : Prop := ∃ b, vs = [.slice (some ⟨b, 0, none⟩) 0 0] ∧ Box w b 31 [] ∧ w5.heap.size ≤ b
def RowF (v : Int) (vs : List Value) (w : World) : Prop := ∃ b, vs = [.slice (some ⟨b, 0, none⟩) 1 1] ∧ Box w b 5 [.int .u8 v]
def RowsF (v : Int) (vs : List Value) (w : World) : Prop := ∃ b gR, vs = [.slice (some ⟨b, 0, none⟩) 2 2] ∧ Box w b 31 [.slice none 0 0, .slice (some ⟨gR, 0, none⟩) 1 1] ∧ Box w gR 5 [.int .u8 v]
def GP1 (w5 : World) (B n : Nat) (xs : List Hd) (j : Nat) (vs : List Value) (w : World) : Prop :=
  Below w5.heap.size w5 w ∧ (j = 1 → ∃ a c, vs.getD 0 undef = .slice a n c ∧ Own w B 31 1 a n c (xs.map hv) ∧ (n = 0 ∧ c = 0 ∨ n ≠ 0 ∧ ∀ p, a = some p → w5.heap.size ≤ p.block)) ∧
  (2 ≤ j → ∃ a c gR, vs.getD 1 undef = .slice a (n + 2) c ∧ Own w B 31 1 a (n + 2) c ((xs ++ [nilH, (some ⟨gR, 0, none⟩, 1, 1)]).map hv) ∧ Box w gR 5 [.int .u8 0])
theorem GP1.mono {w5 : World} {B n : Nat} {xs : List Hd} (j : Nat) (vs : List Value) (w w' : World) (hb : Below w.heap.size w w') (h : GP1 w5 B n xs j vs w) : GP1 w5 B n xs j vs w' :=
  ⟨h.1.trans (hb.mono h.1.size), fun hj => by
    obtain ⟨a, c, h1, h2, h3⟩ := h.2.1 hj
    exact ⟨a, c, h1, h2.below hb, h3⟩, fun hj => by
    obtain ⟨a, c, gR, h1, h2, h3⟩ := h.2.2 hj
    exact ⟨a, c, gR, h1, h2.below hb, h3.under hb⟩⟩
theorem rp1_app {w5 w w8 : World} {B n c : Nat} {a : Option Addr} {cs : List Value} (hg : w.grownBy w8 (a.map (·.block))) (hz : n + 2 ≤ c ∨ Below w.heap.size w w8) (ho : Own w B 31 1 a n c cs) (hf : n = 0 ∧ c = 0 ∨ n ≠ 0 ∧ ∀ p, a = some p → w5.heap.size ≤ p.block) : RP1 w5 3 w w8 := by
  rcases hz with h | h
  · rcases hf with ⟨h0, h1⟩ | ⟨h0, h1⟩
    · omega
    · refine ⟨_, hg, fun b hb => ?_⟩
      cases ha : a with
      | none => rw [ha] at hb; cases hb
      | some q =>
        rw [ha] at hb
        simp at hb
        subst hb
        refine ⟨h1 q ha, ?_⟩
        rcases ho.2 with ⟨h2, _⟩ | ⟨g, cap, cur, h2, _, h3, h4, h5, h6, _⟩
        · injection h2 with h2; rw [ha] at h2; cases h2
        · injection h2 with h2 _ h7
          rw [ha] at h2
          injection h2 with h2
          subst h2
          refine ⟨cur, h3, ?_⟩
          omega
  · exact RP1.of _ _ _ _ h
section
variable {P : Program} {w : World} {ops : Array Oper} {rest : List Oper} {act : Act} {Q : Exit → Act → World → Prop} {ty : TypeId} {pos : String} {after : Array Edge}
theorem cut_hi35 (d : Nat) (t : TypeId) (x hi : Operand) (e : TypeId) (ht : P.underlying t = some (.slice e)) (sz : Nat) (hsz : (P.info? e).map (·.size) = some sz)
    (a : Option Addr) (n c : Nat) (hx : act.eval x = .slice a n c) (ku : IntKind) (u : Nat) (hu : act.eval hi = .int ku (u : Int)) (hun : u ≤ c)
    (hK : wpList P ops Q rest (act.put (some d) (.slice a u c)) w) :
    wpList P ops Q ({ dst := some d, op := .slice t x none (some hi) none, type := ty, pos := pos, after := after, guard := none } :: rest) act w := by
  refine wpList_plain rfl fun K hK' => ?_
  obtain ⟨i0, hi0, hs0⟩ := Option.map_eq_some_iff.1 hsz
  have hrun : (Instr.sliceAt t (.slice a n c) none (some (.int ku (u : Int))) none).run P w = .ok (.slice a u c) w := by
    have h3 : (0 : Int) ≤ u ∧ (u : Int) ≤ c := by omega
    simp [Instr.sliceAt, Instr.slice, Instr.sliceBounds, Instr.sliceBound, asIntOf, run_underlying ht, sizeOf, typeInfo, hi0, h3, hun]
    intro _
    cases a with
    | none => rfl
    | some p => simp [Addr.add]
  unfold Oper.wp
  simp [execOp, hx, hu, hrun, Result.andThen]
  exact hK' _ _ hK
end
theorem sl_take {w : World} {a : Option Addr} {n c u : Nat} {cs : List Value} (h : Sl w 1 a n c cs) (hu : u ≤ n) : Sl w 1 a u c (cs.take u) := by
  refine ⟨by rw [List.length_take]; have := h.len; omega, Nat.le_trans hu h.le, h.cap, h.nil, fun p hp j v hj => ?_⟩
  rw [List.getElem?_take] at hj
  split at hj
  · exact h.cell p hp j v hj
  · cases hj
theorem Pgs.takeP {w : World} {a : Option Addr} {n c u : Nat} {hs : List Hd} {L : List Pgl} (h : Pgs w a n c hs L) (hu : u ≤ n) : Pgs w a u c (hs.take u) (L.take u) := by
  refine ⟨by rw [List.map_take]; exact sl_take h.top hu, by rw [List.length_take, List.length_take, h.len], fun i x p h1 h2 => ?_⟩
  rw [List.getElem?_take] at h1 h2
  split at h1
  · rename_i hi
    rw [if_pos hi] at h2
    exact h.get i x p h1 h2
  · cases h1
/-- indices as integers -/
theorem n64_i64 (G : List Nat) : G.map N64 = (G.map fun (k : Nat) => (k : Int)).map I64 := by rw [List.map_map]; rfl
section
variable {w : World} {ops : Array Oper} {rest : List Oper} {o : Oper} {act : Act} {Q : Exit → Act → World → Prop}
theorem app_shS (hg : o.guard = none) (s x : Operand) (hop : o.op = Op.call { callee := Callee.builtin Builtin.append, args := #[s, x], argTypes := #[25, 25] })
    (w0 : World) (B : Nat) (a : Option Addr) (n c : Nat) (xs : List HS) (hs : act.eval s = .slice a n c) (hown : Own w B 29 2 a n c (xs.flatMap shc))
    (a2 : Option Addr) (m c2 : Nat) (ys : List HS) (hx : act.eval x = .slice a2 m c2) (hy : Sl w 2 a2 m c2 (ys.flatMap shc)) (hn : n + m ≤ 1000000) (hB : B ≤ w.heap.size) (hbel : Below B w0 w)
    (hK : ∀ a' c' w', Own w' B 29 2 a' (n + m) c' ((xs ++ ys).flatMap shc) → w.grownBy w' (a.map (·.block)) → Below B w0 w' → wpList Try.prog ops Q rest (act.put o.dst (.slice a' (n + m) c')) w') :
    wpList Try.prog ops Q (o :: rest) act w := by
  refine append_own hg s x 25 hop 29 (.agg #[.slice none 0 0, .slice none 0 0]) 2 48 Try.underlying25 info_sheet rfl w0 B a n c _ hs hown a2 m c2 _ hx hy (one_flat shc_one _) (by omega) (by unfold maxLen; omega) hB hbel ?_
  intro a' c' w' h1 h2 h3
  exact hK a' c' w' (by rw [List.flatMap_append]; exact h1) h2 h3
end
end Go.Proofs.Ytdeknimelkdaeaa
end

/- the text PL3 -/
section
/- Chapter 35: the walk of PressFound. -/
set_option linter.unusedVariables false
namespace Go.Proofs.Ytdeknimelkdaeaa
open Go.RowKit Go.Dx Go.Al
/-- one of the first k sheets is the same -/
def anyU (all : List Sht) (s : Sht) (k : Nat) : Bool := (List.range k).any fun j => samS s (all.getD j ([], []))
theorem anyU_succ (all : List Sht) (s : Sht) (k : Nat) : anyU all s (k + 1) = (anyU all s k || samS s (all.getD k ([], []))) := by unfold anyU; rw [List.range_succ, List.any_append]; simp
theorem anyu_true {all : List Sht} {s : Sht} {k : Nat} (h : true = anyU all s k) : true = anyU all s (k + 1) := by rw [anyU_succ, ← h]; rfl
theorem anyu_next {all : List Sht} {s : Sht} {k : Nat} {eq : Bool} (h : false = anyU all s k) (hs : samS s (all.getD k ([], [])) = eq) : eq = anyU all s (k + 1) := by rw [anyU_succ, ← h, hs]; rfl
theorem anyU_all {all : List Sht} {s : Sht} {k n : Nat} (hk : k < n) (h : samS s (all.getD k ([], [])) = true) : anyU all s n = true := by
  unfold anyU
  exact List.any_eq_true.2 ⟨k, by simp [hk], h⟩
theorem pge_push {w : World} {hs : List Hd} {P : List Pgl} {x : Hd} {p : Pgl} (hl : hs.length = P.length) (h : ∀ (q : Nat) (h : Hd) (p : Pgl), hs[q]? = some h → P[q]? = some p → PgE w h p) (hx : PgE w x p) : ∀ (q : Nat) (h : Hd) (r : Pgl), (hs ++ [x])[q]? = some h → (P ++ [p])[q]? = some r → PgE w h r := fun q y r h1 h2 => by
  rw [List.getElem?_append] at h1 h2
  by_cases hq : q < hs.length
  · rw [if_pos hq] at h1
    rw [if_pos (by rw [← hl]; exact hq)] at h2
    exact h q y r h1 h2
  · rw [if_neg hq] at h1
    rw [if_neg (by rw [← hl]; exact hq), ← hl] at h2
    have e : q - hs.length = 0 := by have := (List.getElem?_eq_some_iff.1 h1).1; simp at this; omega
    rw [e] at h1 h2
    cases h1
    cases h2
    exact hx
set_option maxRecDepth 100000 in
set_option maxHeartbeats 16000000 in
theorem walk_PressFound (l fl : List Int) (a0 a1 : Option Addr) (n0 c0 n1 c1 : Nat) (w : World) (hs : Sl w 1 a0 n0 c0 (l.map I64)) (hl : ∀ x ∈ l, -9223372036854775808 ≤ x ∧ x ≤ 9223372036854775807)
    (hf : Sl w 1 a1 n1 c1 (fl.map I64)) (hfl : ∀ x ∈ fl, -9223372036854775808 ≤ x ∧ x ≤ 9223372036854775807) :
    Calls Try.prog 6 #[.slice a0 n0 c0, .slice a1 n1 c1] w fun e w' => e = .returned (.bool true) ∧ Below w.heap.size w w' := by
  have hpages := ref35_Pages l 6 a0 n0 c0 w hs hl (by omega)
  have HQ : Hid (∀ (i v : Int) (m r : Nat), atF fl i m = r → (m : Int) = v → 1 ≤ m → m ≤ 1000000000 → ∀ w', Below w.heap.size w w' → Calls Try.prog 22 #[.slice a1 n1 c1, .int .i64 i, .int .i64 v] w' fun e w2 => e = .returned (.int .i64 (r : Int)) ∧ w' = w2) :=
    fun i v m r h hv h1 h2 w' hb => At_at h hv h1 h2 hfl (hf.below hb)
  clear hs hl hfl hf
  go_enter Try.func6, Try.ntmps6
  go_wp2_with (go_at_call 8; refine hpages.mono ?_; rintro e w1 ⟨aL, cL, hsL, L, rfl, hO, hT, hL7, hLF, hb1⟩; refine hold ?_)
  refine hide ?_
  clear hpages
  have HP := hide (hT.pgs hO)
  have HLF := hide hLF
  obtain ⟨N, hN⟩ : ∃ N, Hid (L.length = N) := ⟨_, hide rfl⟩
  obtain ⟨K, hK⟩ : ∃ K, Hid ((sheetsL L).length = K) := ⟨_, hide rfl⟩
  rw [hN.out] at hL7 ⊢
  have hKN0 := sheetsL_len L
  rw [hN.out, hK.out] at hKN0
  have hK3 : K ≤ 3 := by omega
  have hKN := hide hKN0
  clear hKN0
  have hshts := hide (ref35_SheetsR (PgE w1) L hsL _ _ _ w1 HP.out (by rw [hN.out]; omega) HP.out.get (PgE.nil w1))
  rw [hK.out, hN.out] at hshts
  clear hO hT hLF
  go_wp2_with (go_at_call 9; refine hshts.out.mono ?_; rintro e w2 ⟨aS, cS, wsS, rfl, hOS, hES, hb2⟩; refine hold ?_)
  refine hide ?_
  have HSL : Hid (Shp w2 aS K cS wsS (sheetsL L)) := hide ⟨hOS.sl, (show ShE w1 wsS (sheetsL L) from ⟨hES.len, hES.get⟩).below hb2⟩
  have hb12 : Below w.heap.size w w2 := hb1.trans (hb2.mono hb1.size)
  have HPL := hide (HP.out.below hb2)
  rw [hN.out] at HPL
  have hSmL : Hid (∀ s ∈ sheetsL L, Sm s.1 ∧ Sm s.2) := hide (fun s hs => by
    obtain ⟨h1, h2⟩ := sheetsL_mem L s hs
    refine ⟨(HLF.out _ h1).sm, ?_⟩
    rcases h2 with h2 | h2
    · exact (HLF.out _ h2).sm
    · rw [h2]; exact Sm.nil)
  clear hOS hES hshts HP hb1 hb2
  have hnew := hide (pr_New 40 40 w2 rfl (by omega))
  go_wp2_with (go_at_call 15; refine hnew.out.mono ?_; rintro e w3 ⟨g, rfl, A3, hg3, hb3⟩; refine hold ?_)
  refine hide ?_
  have hld := load_ok (S := newP 40) HLF.out (by rw [hN.out]; show 0 + _ ≤ 64; omega)
  have hload := hide (pr_Load g m0 (newP 40) w3 A3 (Nat.zero_le _) L _ _ _ _ (HPL.out.below hb3) (by rw [hN.out]; omega))
  rw [hld] at hload
  have hF0 : Hid (FInv (40 - K) { newP 40 with waiting := (newP 40).waiting ++ sheetsL L }) := hide (by
    have hI := inv_load (inv_new (n := 40) (by omega)) L
    rw [hld] at hI
    refine ⟨hI, rfl, fun _ => rfl, ?_, ⟨Sm.nil, Sm.nil⟩, ⟨Sm.nil, Sm.nil⟩, fun s hs => hSmL.out s (by simpa [newP] using hs), fun s hs => (by cases hs)⟩
    show ([] ++ sheetsL L).length + (40 - K) = 40
    rw [List.nil_append, hK.out]
    omega)
  have hR0 : Hid (rest25 { newP 40 with waiting := (newP 40).waiting ++ sheetsL L } = 25 * K) := hide (by
    unfold rest25
    show 25 * ([] ++ sheetsL L).length + 0 = _
    rw [List.nil_append, hK.out, Nat.add_zero])
  have hn3 : ∀ b ∈ pfoot g m0, w2.heap.size ≤ b := fun b hm => by
    simp [pfoot, mutB, m0, blk, hb, nilH, hbs] at hm
    rw [hm]
    exact hg3
  obtain ⟨S0, hS0⟩ : ∃ S0, Hid ({ newP 40 with waiting := (newP 40).waiting ++ sheetsL L } = S0) := ⟨_, hide rfl⟩
  rw [hS0.out] at hload hF0 hR0
  clear A3 hld hnew hS0
  go_wp2_with (go_at_call 16; refine hload.out.mono ?_; rintro e w4 ⟨rfl, m4, A4, MV4⟩; refine hold ?_)
  refine hide ?_
  have B4 : Below w2.heap.size w2 w4 := hb3.trans (MV4.blw hb3.size hn3)
  have N4 := MV4.new hb3.size hn3
  have HA4 := hide A4
  clear MV4 A4 hn3 hg3 hb3 hload
  obtain ⟨Q, hQ⟩ : ∃ Q, Hid (25 * K = Q) := ⟨_, hide rfl⟩
  have hQi : 25 * (K : Int) = (Q : Int) := by have := hQ.out; omega
  have hQ1 : Q ≤ 75 := by have := hQ.out; omega
  rw [hQ.out] at hR0
  go_wp2_with fail
  go_loopg [9] Q (fun gh v w' => ∃ (i : Nat) (m : PM) (S : Pr), i ≤ Q ∧ gh = Q - i ∧ v = .int .i64 (i : Int) ∧ PAt w' g m S ∧ FInv (40 - K) S ∧ rest25 S + i ≤ Q ∧ Below w2.heap.size w2 w' ∧ (∀ b ∈ pfoot g m, w2.heap.size ≤ b))
  case atStart => exact ⟨0, m4, S0, by omega, by omega, rfl, HA4.out, hF0.out, by have := hR0.out; omega, B4, N4⟩
  case round =>
    clear HA4 B4 N4 hF0 hR0
    obtain ⟨i, m, S, hi, hg, rfl, hA, hF, hR, hbB, hnB⟩ := hrel
    have HG2 := hide hg
    have HA := hide hA
    have HF := hide hF
    clear hg hA hF
    have hcase : (i < Q ∧ 0 < rest25 S) ∨ rest25 S = 0 := by omega
    rcases hcase with ⟨hC, hC0⟩ | hR0
    · obtain ⟨v, hv⟩ : ∃ v, atF fl (i : Int) 40 = v := ⟨_, rfl⟩
      have hv40 : v < 40 := by rw [← hv]; exact atF_lt (by omega)
      have hat := fun w' hb => HQ.out _ _ 40 v hv rfl (by omega) (by omega) w' hb
      clear hv
      by_cases hv3 : 3 < v
      · have hd3 : decide ((3 : Int) < (v : Int)) = true := decide_eq_true (by omega)
        have hst : Calls Try.prog 17 #[.pointer (some ⟨g, 0, none⟩), .int .i64 0] wr fun e w' => e = .returned (.int .i64 (stepP S 0).2) ∧ ∃ m', PAt w' g m' (stepP S 0).1 ∧ Mv wr w' (pfoot g m) (pfoot g m') := pr_Step g m S 0 wr HA.out HF.out.inv (by omega)
        have hiS := hide (inv_step HF.out.inv 0)
        obtain ⟨S', hS'⟩ : ∃ S', Hid ((stepP S 0).1 = S') := ⟨_, hide rfl⟩
        rcases fstep HF.out 0 (by omega) with ⟨h0, -⟩ | ⟨h0, hFC, hRC, hE⟩
        · omega
        have hFC := hide hFC
        have hRC := hide hRC
        unfold stepC at hFC hRC
        rw [hS'.out] at hst hE hFC hRC hiS
        rcases hE with ⟨e1, e2⟩ | ⟨e1, e2⟩ | e1
        · rw [e1] at hst hFC hRC
          simp only [if_true] at hFC hRC
          have hst := hide hst
          have e2 := hide e2
          go_wp2_with (first
            | (go_at_call 22; refine (hat wr (hb12.trans (hbB.mono hb12.size))).mono ?_; rintro e w9 ⟨rfl, rfl⟩)
            | (go_at_call 17; refine hst.out.mono ?_; rintro e w4 ⟨rfl, m4, A4, MV4⟩; refine hold ?_))
          refine hide ?_
          have hcl := hide (pr_Clear g m4 S' w4 A4 hiS.out.mode)
          rw [e2.out] at hcl
          have B4 := MV4.blw hbB.size hnB
          have N4 := MV4.new hbB.size hnB
          have hB4 := hbB.trans B4
          clear MV4 A4 hst
          go_wp2_with (go_at_call 23; refine hcl.out.mono ?_; rintro e w5 ⟨rfl, m5, A5, MV5⟩)
          have B5 := hB4.trans (MV5.blw hB4.size N4)
          have N5 := MV5.new hB4.size N4
          have HA5 := hide A5
          clear MV5 A5 hcl
          go_roundg (Q - (i + 1))
          case measure => have := HG2.out; omega
          case rel => exact ⟨i + 1, m5, _, by omega, rfl, by go_num, HA5.out, hFC.out, by have := hRC.out; omega, B5, N5⟩
        · rw [e1] at hst hFC hRC
          have c23 : ((25 : Int) = 23) = False := by simp
          simp only [c23, if_true, if_false] at hFC hRC
          have hst := hide hst
          have e2 := hide e2
          clear c23
          go_wp2_with (first
            | (go_at_call 22; refine (hat wr (hb12.trans (hbB.mono hb12.size))).mono ?_; rintro e w9 ⟨rfl, rfl⟩)
            | (go_at_call 17; refine hst.out.mono ?_; rintro e w4 ⟨rfl, m4, A4, MV4⟩; refine hold ?_))
          refine hide ?_
          have hcl := hide (pr_On g m4 S' w4 A4 hiS.out.mode (by have := hiS.out.bud; omega))
          rw [e2.out] at hcl
          have B4 := MV4.blw hbB.size hnB
          have N4 := MV4.new hbB.size hnB
          have hB4 := hbB.trans B4
          clear MV4 A4 hst
          go_wp2_with (go_at_call 24; refine hcl.out.mono ?_; rintro e w5 ⟨rfl, m5, A5, MV5⟩)
          have B5 := hB4.trans (MV5.blw hB4.size N4)
          have N5 := MV5.new hB4.size N4
          have HA5 := hide A5
          clear MV5 A5 hcl
          go_roundg (Q - (i + 1))
          case measure => have := HG2.out; omega
          case rel => exact ⟨i + 1, m5, _, by omega, rfl, by go_num, HA5.out, hFC.out, by have := hRC.out; omega, B5, N5⟩
        · rw [e1] at hst hFC hRC
          have c23 : ((0 : Int) = 23) = False := by simp
          have c25 : ((0 : Int) = 25) = False := by simp
          simp only [c23, c25, if_false] at hFC hRC
          have hst := hide hst
          clear c23 c25
          go_wp2_with (first
            | (go_at_call 22; refine (hat wr (hb12.trans (hbB.mono hb12.size))).mono ?_; rintro e w9 ⟨rfl, rfl⟩)
            | (go_at_call 17; refine hst.out.mono ?_; rintro e w4 ⟨rfl, m4, A4, MV4⟩))
          have B4 := hbB.trans (MV4.blw hbB.size hnB)
          have N4 := MV4.new hbB.size hnB
          have HA4 := hide A4
          clear MV4 A4 hst
          go_roundg (Q - (i + 1))
          case measure => have := HG2.out; omega
          case rel => exact ⟨i + 1, m4, S', by omega, rfl, by go_num, HA4.out, hFC.out, by have := hRC.out; omega, B4, N4⟩
      · have hd3 : decide ((3 : Int) < (v : Int)) = false := decide_eq_false (by omega)
        have hv3' : v ≤ 3 := by omega
        have hst : Calls Try.prog 17 #[.pointer (some ⟨g, 0, none⟩), .int .i64 (v : Int)] wr fun e w' => e = .returned (.int .i64 (stepP S v).2) ∧ ∃ m', PAt w' g m' (stepP S v).1 ∧ Mv wr w' (pfoot g m) (pfoot g m') := pr_Step g m S v wr HA.out HF.out.inv (by omega)
        have hiS := hide (inv_step HF.out.inv v)
        obtain ⟨S', hS'⟩ : ∃ S', Hid ((stepP S v).1 = S') := ⟨_, hide rfl⟩
        rcases fstep HF.out v (by omega) with ⟨h0, -⟩ | ⟨h0, hFC, hRC, hE⟩
        · omega
        have hFC := hide hFC
        have hRC := hide hRC
        unfold stepC at hFC hRC
        rw [hS'.out] at hst hE hFC hRC hiS
        rcases hE with ⟨e1, e2⟩ | ⟨e1, e2⟩ | e1
        · rw [e1] at hst hFC hRC
          simp only [if_true] at hFC hRC
          have hst := hide hst
          have e2 := hide e2
          go_wp2_with (first
            | (go_at_call 22; refine (hat wr (hb12.trans (hbB.mono hb12.size))).mono ?_; rintro e w9 ⟨rfl, rfl⟩)
            | (go_at_call 17; refine hst.out.mono ?_; rintro e w4 ⟨rfl, m4, A4, MV4⟩; refine hold ?_))
          refine hide ?_
          have hcl := hide (pr_Clear g m4 S' w4 A4 hiS.out.mode)
          rw [e2.out] at hcl
          have B4 := MV4.blw hbB.size hnB
          have N4 := MV4.new hbB.size hnB
          have hB4 := hbB.trans B4
          clear MV4 A4 hst
          go_wp2_with (go_at_call 23; refine hcl.out.mono ?_; rintro e w5 ⟨rfl, m5, A5, MV5⟩)
          have B5 := hB4.trans (MV5.blw hB4.size N4)
          have N5 := MV5.new hB4.size N4
          have HA5 := hide A5
          clear MV5 A5 hcl
          go_roundg (Q - (i + 1))
          case measure => have := HG2.out; omega
          case rel => exact ⟨i + 1, m5, _, by omega, rfl, by go_num, HA5.out, hFC.out, by have := hRC.out; omega, B5, N5⟩
        · rw [e1] at hst hFC hRC
          have c23 : ((25 : Int) = 23) = False := by simp
          simp only [c23, if_true, if_false] at hFC hRC
          have hst := hide hst
          have e2 := hide e2
          clear c23
          go_wp2_with (first
            | (go_at_call 22; refine (hat wr (hb12.trans (hbB.mono hb12.size))).mono ?_; rintro e w9 ⟨rfl, rfl⟩)
            | (go_at_call 17; refine hst.out.mono ?_; rintro e w4 ⟨rfl, m4, A4, MV4⟩; refine hold ?_))
          refine hide ?_
          have hcl := hide (pr_On g m4 S' w4 A4 hiS.out.mode (by have := hiS.out.bud; omega))
          rw [e2.out] at hcl
          have B4 := MV4.blw hbB.size hnB
          have N4 := MV4.new hbB.size hnB
          have hB4 := hbB.trans B4
          clear MV4 A4 hst
          go_wp2_with (go_at_call 24; refine hcl.out.mono ?_; rintro e w5 ⟨rfl, m5, A5, MV5⟩)
          have B5 := hB4.trans (MV5.blw hB4.size N4)
          have N5 := MV5.new hB4.size N4
          have HA5 := hide A5
          clear MV5 A5 hcl
          go_roundg (Q - (i + 1))
          case measure => have := HG2.out; omega
          case rel => exact ⟨i + 1, m5, _, by omega, rfl, by go_num, HA5.out, hFC.out, by have := hRC.out; omega, B5, N5⟩
        · rw [e1] at hst hFC hRC
          have c23 : ((0 : Int) = 23) = False := by simp
          have c25 : ((0 : Int) = 25) = False := by simp
          simp only [c23, c25, if_false] at hFC hRC
          have hst := hide hst
          clear c23 c25
          go_wp2_with (first
            | (go_at_call 22; refine (hat wr (hb12.trans (hbB.mono hb12.size))).mono ?_; rintro e w9 ⟨rfl, rfl⟩)
            | (go_at_call 17; refine hst.out.mono ?_; rintro e w4 ⟨rfl, m4, A4, MV4⟩))
          have B4 := hbB.trans (MV4.blw hbB.size hnB)
          have N4 := MV4.new hbB.size hnB
          have HA4 := hide A4
          clear MV4 A4 hst
          go_roundg (Q - (i + 1))
          case measure => have := HG2.out; omega
          case rel => exact ⟨i + 1, m4, S', by omega, rfl, by go_num, HA4.out, hFC.out, by have := hRC.out; omega, B4, N4⟩
    · have h6 : ∀ f, f ≤ 3 → stepP S f = (S, 6) := fun f hf => by
        rcases fstep HF.out f hf with ⟨-, h⟩ | ⟨h, -⟩
        · exact h
        · omega
      obtain ⟨v, hv⟩ : ∃ v, atF fl (i : Int) 40 = v := ⟨_, rfl⟩
      have hv40 : v < 40 := by rw [← hv]; exact atF_lt (by omega)
      have hat := fun w' hb => HQ.out _ _ 40 v hv rfl (by omega) (by omega) w' hb
      clear hv
      have hthree : (¬ i < Q) ∨ (i < Q ∧ 3 < v) ∨ (i < Q ∧ ¬ 3 < v) := by omega
      refine hthree.elim (fun hA' => ?gA) (fun hBB => hBB.elim (fun hBB' => ?gB) (fun hBB' => ?gC))
      case' gA =>
        rename World => wz
        rename PM => mz
        have HAZ := HA
        have hbZ := hbB
        have hnZ := hnB
        clear HA hbB hnB
      case' gB =>
        obtain ⟨hB', hv3⟩ := hBB'
        have hd3 : decide ((3 : Int) < (v : Int)) = true := decide_eq_true (by omega)
        have hst : Calls Try.prog 17 #[.pointer (some ⟨g, 0, none⟩), .int .i64 0] wr fun e w' => e = .returned (.int .i64 (stepP S 0).2) ∧ ∃ m', PAt w' g m' (stepP S 0).1 ∧ Mv wr w' (pfoot g m) (pfoot g m') := pr_Step g m S 0 wr HA.out HF.out.inv (by omega)
        rw [h6 0 (by omega)] at hst
        have hst := hide hst
        go_wp2_with (first
          | (go_at_call 22; refine (hat wr (hb12.trans (hbB.mono hb12.size))).mono ?_; rintro e w9 ⟨rfl, rfl⟩)
          | (go_at_call 17; refine hst.out.mono ?_; rintro e wz ⟨rfl, mz, A4, MV4⟩; refine hold ?_))
        refine hide ?_
        have hbZ : Below w2.heap.size w2 wz := hbB.trans (MV4.blw hbB.size hnB)
        have hnZ := MV4.new hbB.size hnB
        have HAZ : Hid (PAt wz g mz S) := hide A4
        clear MV4 A4 hst HA hbB hnB
      case' gC =>
        obtain ⟨hB', hv3⟩ := hBB'
        have hd3 : decide ((3 : Int) < (v : Int)) = false := decide_eq_false (by omega)
        have hv3' : v ≤ 3 := by omega
        have hst : Calls Try.prog 17 #[.pointer (some ⟨g, 0, none⟩), .int .i64 (v : Int)] wr fun e w' => e = .returned (.int .i64 (stepP S v).2) ∧ ∃ m', PAt w' g m' (stepP S v).1 ∧ Mv wr w' (pfoot g m) (pfoot g m') := pr_Step g m S v wr HA.out HF.out.inv (by omega)
        rw [h6 v (by omega)] at hst
        have hst := hide hst
        go_wp2_with (first
          | (go_at_call 22; refine (hat wr (hb12.trans (hbB.mono hb12.size))).mono ?_; rintro e w9 ⟨rfl, rfl⟩)
          | (go_at_call 17; refine hst.out.mono ?_; rintro e wz ⟨rfl, mz, A4, MV4⟩; refine hold ?_))
        refine hide ?_
        have hbZ : Below w2.heap.size w2 wz := hbB.trans (MV4.blw hbB.size hnB)
        have hnZ := MV4.new hbB.size hnB
        have HAZ : Hid (PAt wz g mz S) := hide A4
        clear MV4 A4 hst HA hbB hnB
      all_goals
        obtain ⟨T0, hT0⟩ : ∃ T0, Hid (S.tray = T0) := ⟨_, hide rfl⟩
        obtain ⟨NT, hNT⟩ : ∃ NT, Hid (T0.length = NT) := ⟨_, hide rfl⟩
        have hsmT : Hid (∀ s ∈ T0, Sm s.1 ∧ Sm s.2) := hide (by rw [← hT0.out]; exact HF.out.sts)
        have hNT1 : NT ≤ 1000 := by have := HF.out.inv.bud; rw [hT0.out, hNT.out] at this; omega
        go_wp2_with fail
        go_loopg [12] 25 (fun gh v w' => ∃ (j : Nat) (m : PM), j ≤ 25 ∧ gh = 25 - j ∧ v = .int .i64 (j : Int) ∧ PAt w' g m S ∧ Below w2.heap.size w2 w' ∧ (∀ b ∈ pfoot g m, w2.heap.size ≤ b))
        case atStart => exact ⟨0, mz, by omega, rfl, rfl, HAZ.out, hbZ, hnZ⟩
        case round =>
          clear HAZ hbZ hnZ
          obtain ⟨j, mq, hj, hg, rfl, hA, hbB, hnq⟩ := hrel
          have HG4 := hide hg
          have HAq := hide hA
          clear hg hA
          by_cases hj25 : j < 25
          · have hst : Calls Try.prog 17 #[.pointer (some ⟨g, 0, none⟩), .int .i64 0] wr fun e w' => e = .returned (.int .i64 6) ∧ ∃ m', PAt w' g m' S ∧ Mv wr w' (pfoot g mq) (pfoot g m') := by
              have h1 := pr_Step g mq S 0 wr HAq.out HF.out.inv (by omega)
              rw [h6 0 (by omega)] at h1
              exact h1
            have hst := hide hst
            go_wp2_with (go_at_call 17; refine hst.out.mono ?_; rintro e w4 ⟨rfl, m4, A4, MV4⟩)
            have B4 := hbB.trans (MV4.blw hbB.size hnq)
            have N4 := MV4.new hbB.size hnq
            have HA4 := hide A4
            clear MV4 A4 hst
            go_roundg (25 - (j + 1))
            case measure => have := HG4.out; omega
            case rel => exact ⟨j + 1, m4, by omega, rfl, by go_num, HA4.out, B4, N4⟩
          · obtain rfl : j = 25 := by omega
            have hout := hide (pr_Out g mq S wr HAq.out HF.out.inv.cts (by rw [hT0.out, hNT.out]; omega))
            rw [hT0.out, hNT.out] at hout
            go_wp2_with (go_at_call 18; refine hout.out.mono ?_; rintro e w6 ⟨aO, cO, wsO, rfl, S6, hb6⟩; refine hold ?_)
            refine hide ?_
            have hB6 : Below w2.heap.size w2 w6 := hbB.trans (hb6.mono hbB.size)
            have HS6 := hide S6.shp
            have hgood := hide (pr_Good L hsL T0 wsO aL aO N cL NT cO w6 (HPL.out.below hB6) HS6.out (fun p hp => ⟨(HLF.out p hp).sm.cp, (HLF.out p hp).sm.1⟩) (fun s hs => ⟨(hsmT.out s hs).1.1, (hsmT.out s hs).2.1⟩) (by rw [hN.out]; omega) (by rw [hNT.out]; omega))
            have hgk := good_known (all := sheetsL L) (out := T0) T0.length (Nat.le_refl _)
            have hgl := (goodUp_len (sheetsL L) T0 T0.length).2
            have hml := missUp_len (goodUp (sheetsL L) T0 T0.length).2 L.length
            have hmlt := miss_lt (T := (goodUp (sheetsL L) T0 T0.length).2) (n := L.length)
            obtain ⟨G, hG⟩ : ∃ G, Hid ((goodUp (sheetsL L) T0 T0.length).1 = G) := ⟨_, hide rfl⟩
            obtain ⟨Ms, hMs⟩ : ∃ Ms, Hid (missUp (goodUp (sheetsL L) T0 T0.length).2 L.length = Ms) := ⟨_, hide rfl⟩
            have hGM : Hid (goodF L T0 = (G, Ms)) := hide (by unfold goodF; rw [hG.out, hMs.out])
            rw [hGM.out] at hgood
            rw [hG.out] at hgk hgl
            rw [hMs.out] at hml hmlt
            rw [hNT.out] at hgk hgl
            rw [hN.out] at hml hmlt
            rw [hK.out] at hgk
            have hGk := hide hgk
            have hMlt := hide hmlt
            obtain ⟨NG, hNG⟩ : ∃ NG, Hid (G.length = NG) := ⟨_, hide rfl⟩
            obtain ⟨NM, hNM⟩ : ∃ NM, Hid (Ms.length = NM) := ⟨_, hide rfl⟩
            simp only at hgood
            rw [hNG.out, hNM.out] at hgood
            rw [hNG.out] at hgl
            rw [hNM.out] at hml
            have hHAq := hide (HAq.out.below hb6)
            clear hgk hmlt hout S6 HAq
            have HAq := hHAq
            clear hHAq
            go_wp2_with (go_at_call 11; refine hgood.out.mono ?_; rintro e w7 ⟨ag, cg, am, cm, rfl, hs7, ht7, hb67⟩; refine hold ?_)
            refine hide ?_
            have hB7 : Below w2.heap.size w2 w7 := hB6.trans (hb67.mono hB6.size)
            rw [n64_i64] at hs7 ht7
            have HGs := hide hs7
            have HMs := hide ht7
            have HS7 := hide (HS6.out.below hb67)
            have hnG : ¬ NT < NG := by omega
            have hnM : ¬ N < NM := by omega
            clear hgood hs7 ht7 HS6 hb6 hB6 hbB
            go_wp2_with fail
            go_loopg [16] NG (fun gh v w' => ∃ (i : Nat), i ≤ NG ∧ gh = NG - i ∧ v = .int .i64 (i : Int) ∧ Below w7.heap.size w7 w')
            case atStart => exact ⟨0, by omega, by omega, rfl, Below.refl _ _⟩
            case round =>
              obtain ⟨i, hi, hg, rfl, hb⟩ := hrel
              have HG2 := hide hg
              clear hg
              by_cases hiG : i < NG
              · obtain ⟨G0, hG0⟩ : ∃ G0, G[i]? = some G0 := ⟨G[i]'(by rw [hNG.out]; exact hiG), by simp⟩
                obtain ⟨hG0T, k0, hk0, hsk0⟩ := hGk.out G0 (List.mem_of_getElem? hG0)
                obtain ⟨s, hs⟩ : ∃ s, T0[G0]? = some s := ⟨T0[G0]'(by rw [hNT.out]; exact hG0T), by simp⟩
                have hsg : T0.getD G0 ([], []) = s := by rw [List.getD_eq_getElem?_getD, hs]; rfl
                rw [hsg] at hsk0
                obtain ⟨GI, hGI⟩ : ∃ GI, Hid (G.map (fun (k : Nat) => (k : Int)) = GI) := ⟨_, hide rfl⟩
                have HGi : Hid (GI[i]? = some (G0 : Int)) := hide (by rw [← hGI.out, List.getElem?_map, hG0]; rfl)
                have HGr := HGs.out.below hb
                rw [hGI.out] at HGr
                obtain ⟨⟨⟨s0, s1, s2⟩, ⟨s3, s4, s5⟩⟩, hx, hE0, hE1⟩ := HS7.out.at_ hs
                have HY := hide hx
                have hsh : shc ((s0, s1, s2), (s3, s4, s5)) = [.slice s0 s1 s2, .slice s3 s4 s5] := rfl
                have hsS := hsmT.out s (List.mem_of_getElem? hs)
                have hall := anyU_all hk0 hsk0
                have hallH := hide hall
                have hd1 : decide ((G0 : Int) < 0) = false := decide_eq_false (by omega)
                have hd2 : decide ((NT : Int) ≤ (G0 : Int)) = false := decide_eq_false (by omega)
                have hd3 : ¬ NT ≤ G0 := by omega
                clear hG0 hs hsg hx hk0 hsk0 hall
                go_wp2_with (first
                  | (with_reducible refine idx_i 111 _ _ _ _ _ GI rfl HGr _ _ i rfl rfl (G0 : Int) HGi.out ?_; intro b3 o3 hcell3 hbo3)
                  | (refine unguard_any (by simp [Region.wanted, yielded]; done) ?_; with_reducible refine idx_i 117 _ _ _ _ _ GI rfl HGr _ _ i rfl rfl (G0 : Int) HGi.out ?_; intro b4 o4 hcell4 hbo4))
                go_loopg [17, 18] K (fun gh kn v w' => ∃ (k : Nat) (b : Bool), k ≤ K ∧ gh = K - k ∧ v = .int .i64 (k : Int) ∧ kn = .bool b ∧ b = anyU (sheetsL L) s k ∧ Below w7.heap.size w7 w')
                case atStart => exact ⟨0, false, by omega, by omega, rfl, rfl, rfl, hb⟩
                case round =>
                  clear hb HGr
                  obtain ⟨k, b, hk, hg, rfl, rfl, hKn, hb⟩ := hrel
                  have HG3 := hide hg
                  have HKn := hide hKn
                  clear hg hKn
                  by_cases hkK : k < K
                  · obtain ⟨t, ht⟩ : ∃ t, (sheetsL L)[k]? = some t := ⟨(sheetsL L)[k]'(by rw [hK.out]; exact hkK), by simp⟩
                    obtain ⟨⟨⟨t0, t1, t2⟩, ⟨t3, t4, t5⟩⟩, hx2, hF0, hF1⟩ := HSL.out.at_ ht
                    have HY2 := hide hx2
                    have hsh2 : shc ((t0, t1, t2), (t3, t4, t5)) = [.slice t0 t1 t2, .slice t3 t4 t5] := rfl
                    have htS := hSmL.out t (List.mem_of_getElem? ht)
                    have hb2r : Below w2.heap.size w2 wr := hB7.trans (hb.mono hB7.size)
                    have hsm := hide (fun (w1 : World) (hb1 : Below wr.heap.size wr w1) => ref35_SameSheet s t s0 t0 s3 t3 s1 s2 s4 s5 t1 t2 t4 t5 w1 ((hE0.below hb).below hb1) ((hE1.below hb).below hb1) ((hF0.below hb2r).below hb1) ((hF1.below hb2r).below hb1) hsS htS)
                    have hsm2 : Hid (samS s ((sheetsL L).getD k ([], [])) = samS s t) := hide (by rw [List.getD_eq_getElem?_getD, ht]; rfl)
                    generalize samS s t = eq at hsm hsm2
                    have HGr := HGs.out.below hb
                    rw [hGI.out] at HGr
                    have HOr := (HS7.out.below hb).top
                    have HSr := (HSL.out.below hb2r).top
                    clear ht hx2 hF0 hF1 htS hb2r
                    cases b with
                    | true =>
                      go_wp2_with fail
                      refine wp_region_free 15 [⟨0, 129, [129], fun vs _ => vs = [.bool true]⟩, ⟨1, 130, [130], fun vs _ => vs = [.bool true]⟩, ⟨2, 131, [131], fun vs _ => vs = [undef]⟩, ⟨3, 132, [132], fun vs _ => vs = [undef]⟩, ⟨4, 133, [133], fun vs _ => vs = [undef]⟩, ⟨5, 134, [134], fun vs _ => vs = [undef]⟩, ⟨6, 135, [135], fun vs _ => vs = [undef]⟩, ⟨7, 136, [136], fun vs _ => vs = [undef]⟩, ⟨8, 137, [137], fun vs _ => vs = [undef]⟩, ⟨9, 138, [138], fun vs _ => vs = [undef]⟩, ⟨10, 139, [139], fun vs _ => vs = [undef]⟩, ⟨11, 140, [140], fun vs _ => vs = [undef]⟩, ⟨12, 141, [141], fun vs _ => vs = [undef]⟩, ⟨13, 142, [142], fun vs _ => vs = [undef]⟩, ⟨14, 143, [143], fun vs _ => vs = [.bool true]⟩] (by kernel_rfl) (by kernel_rfl) ?_ ?_ ?_
                      · simp only [All]
                        refine ⟨fun _ _ _ _ h => h, fun _ _ _ _ h => h, fun _ _ _ _ h => h, fun _ _ _ _ h => h, fun _ _ _ _ h => h, fun _ _ _ _ h => h, fun _ _ _ _ h => h, fun _ _ _ _ h => h, fun _ _ _ _ h => h, fun _ _ _ _ h => h, fun _ _ _ _ h => h, fun _ _ _ _ h => h, fun _ _ _ _ h => h, fun _ _ _ _ h => h, fun _ _ _ _ h => h, trivial⟩
                      · simp only [All]
                        refine ⟨?_, ?_, ?_, ?_, ?_, ?_, ?_, ?_, ?_, ?_, ?_, ?_, ?_, ?_, ?_, trivial⟩
                        · intro o ho a' w' hb hfr hdep
                          obtain rfl := Option.some.inj ho
                          have g17 : a'.tmps[17]?.getD undef = .bool true := by have h := hfr 17 (by kernel_rfl); simpa using h
                          clear ho hfr hdep
                          go_wp2_with fail
                          exact ⟨rfl, _, rfl, Below.refl _ _, rfl⟩
                        · intro o ho a' w' hb hfr hdep
                          obtain rfl := Option.some.inj ho
                          have g129 : a'.tmps[129]?.getD undef = .bool true := by have h := hdep 0 _ rfl (by kernel_rfl); simpa using h
                          clear ho hfr hdep
                          go_wp2_with fail
                          exact ⟨rfl, _, rfl, Below.refl _ _, rfl⟩
                        · intro o ho a' w' hb hfr hdep
                          obtain rfl := Option.some.inj ho
                          have g130 : a'.tmps[130]?.getD undef = .bool true := by have h := hdep 1 _ rfl (by kernel_rfl); simpa using h
                          have q130 := opt_bool g130
                          clear ho hfr hdep
                          go_wp2_with fail
                          exact ⟨rfl, _, rfl, Below.refl _ _, rfl⟩
                        · intro o ho a' w' hb hfr hdep
                          obtain rfl := Option.some.inj ho
                          have g130 : a'.tmps[130]?.getD undef = .bool true := by have h := hdep 1 _ rfl (by kernel_rfl); simpa using h
                          have q130 := opt_bool g130
                          clear ho hfr hdep
                          go_wp2_with fail
                          exact ⟨rfl, _, rfl, Below.refl _ _, rfl⟩
                        · intro o ho a' w' hb hfr hdep
                          obtain rfl := Option.some.inj ho
                          have g130 : a'.tmps[130]?.getD undef = .bool true := by have h := hdep 1 _ rfl (by kernel_rfl); simpa using h
                          have q130 := opt_bool g130
                          clear ho hfr hdep
                          go_wp2_with fail
                          exact ⟨rfl, _, rfl, Below.refl _ _, rfl⟩
                        · intro o ho a' w' hb hfr hdep
                          obtain rfl := Option.some.inj ho
                          have g130 : a'.tmps[130]?.getD undef = .bool true := by have h := hdep 1 _ rfl (by kernel_rfl); simpa using h
                          have q130 := opt_bool g130
                          clear ho hfr hdep
                          go_wp2_with fail
                          exact ⟨rfl, _, rfl, Below.refl _ _, rfl⟩
                        · intro o ho a' w' hb hfr hdep
                          obtain rfl := Option.some.inj ho
                          have g130 : a'.tmps[130]?.getD undef = .bool true := by have h := hdep 1 _ rfl (by kernel_rfl); simpa using h
                          have q130 := opt_bool g130
                          clear ho hfr hdep
                          go_wp2_with fail
                          exact ⟨rfl, _, rfl, Below.refl _ _, rfl⟩
                        · intro o ho a' w' hb hfr hdep
                          obtain rfl := Option.some.inj ho
                          have g130 : a'.tmps[130]?.getD undef = .bool true := by have h := hdep 1 _ rfl (by kernel_rfl); simpa using h
                          have q130 := opt_bool g130
                          clear ho hfr hdep
                          go_wp2_with fail
                          exact ⟨rfl, _, rfl, Below.refl _ _, rfl⟩
                        · intro o ho a' w' hb hfr hdep
                          obtain rfl := Option.some.inj ho
                          have g130 : a'.tmps[130]?.getD undef = .bool true := by have h := hdep 1 _ rfl (by kernel_rfl); simpa using h
                          have q130 := opt_bool g130
                          clear ho hfr hdep
                          go_wp2_with fail
                          exact ⟨rfl, _, rfl, Below.refl _ _, rfl⟩
                        · intro o ho a' w' hb hfr hdep
                          obtain rfl := Option.some.inj ho
                          have g130 : a'.tmps[130]?.getD undef = .bool true := by have h := hdep 1 _ rfl (by kernel_rfl); simpa using h
                          have q130 := opt_bool g130
                          clear ho hfr hdep
                          go_wp2_with fail
                          exact ⟨rfl, _, rfl, Below.refl _ _, rfl⟩
                        · intro o ho a' w' hb hfr hdep
                          obtain rfl := Option.some.inj ho
                          have g130 : a'.tmps[130]?.getD undef = .bool true := by have h := hdep 1 _ rfl (by kernel_rfl); simpa using h
                          have q130 := opt_bool g130
                          clear ho hfr hdep
                          go_wp2_with fail
                          exact ⟨rfl, _, rfl, Below.refl _ _, rfl⟩
                        · intro o ho a' w' hb hfr hdep
                          obtain rfl := Option.some.inj ho
                          have g130 : a'.tmps[130]?.getD undef = .bool true := by have h := hdep 1 _ rfl (by kernel_rfl); simpa using h
                          have q130 := opt_bool g130
                          clear ho hfr hdep
                          go_wp2_with fail
                          exact ⟨rfl, _, rfl, Below.refl _ _, rfl⟩
                        · intro o ho a' w' hb hfr hdep
                          obtain rfl := Option.some.inj ho
                          have g130 : a'.tmps[130]?.getD undef = .bool true := by have h := hdep 1 _ rfl (by kernel_rfl); simpa using h
                          have q130 := opt_bool g130
                          clear ho hfr hdep
                          go_wp2_with fail
                          exact ⟨rfl, _, rfl, Below.refl _ _, rfl⟩
                        · intro o ho a' w' hb hfr hdep
                          obtain rfl := Option.some.inj ho
                          have g130 : a'.tmps[130]?.getD undef = .bool true := by have h := hdep 1 _ rfl (by kernel_rfl); simpa using h
                          have q130 := opt_bool g130
                          clear ho hfr hdep
                          go_wp2_with fail
                          exact ⟨rfl, _, rfl, Below.refl _ _, rfl⟩
                        · intro o ho a' w' hb hfr hdep
                          obtain rfl := Option.some.inj ho
                          have g130 : a'.tmps[130]?.getD undef = .bool true := by have h := hdep 1 _ rfl (by kernel_rfl); simpa using h
                          have g142 : a'.tmps[142]?.getD undef = undef := by have h := hdep 13 _ rfl (by kernel_rfl); simpa using h
                          clear ho hfr hdep
                          go_wp2_with fail
                          exact ⟨rfl, _, rfl, Below.refl _ _, rfl⟩
                      · intro gg w5 hbl hp'
                        have p143 := hp' 14 _ rfl
                        clear hp'
                        simp at p143
                        simp only [List.drop_succ_cons, List.drop_zero, List.map_cons, List.map_nil, putAll, Act.put, List.setIfInBounds_toArray, List.set_cons_succ, List.set_cons_zero, List.cons_append, List.nil_append, p143]
                        clear p143
                        have hb5 : Below w7.heap.size w7 w5 := hb.trans (hbl.mono hb.size)
                        go_wp2_with fail
                        go_roundg (K - (k + 1))
                        case measure => have := HG3.out; omega
                        case rel => exact ⟨k + 1, true, by omega, rfl, by go_num, rfl, anyu_true HKn.out, hb5⟩

                    | false =>
                      go_wp2_with fail
                      refine wp_region_free 15 [⟨0, 129, [129], fun vs _ => vs = [.bool false]⟩, ⟨1, 130, [130], fun vs _ => vs = [.bool false]⟩, ⟨2, 131, [131], fun vs _ => vs = [.slice aO NT cO]⟩, ⟨3, 132, [132], fun vs _ => vs = [.slice ag NG cg]⟩, ⟨4, 133, [133], fun vs _ => vs = [.int .i64 (i : Int)]⟩, ⟨5, 134, [134], PtF (.int .i64 (G0 : Int))⟩, ⟨6, 135, [135], fun vs _ => vs = [.int .i64 (G0 : Int)]⟩, ⟨7, 136, [136], PtS (.slice s0 s1 s2) (.slice s3 s4 s5)⟩, ⟨8, 137, [137], fun vs _ => vs = [.agg #[.slice s0 s1 s2, .slice s3 s4 s5]]⟩, ⟨9, 138, [138], fun vs _ => vs = [.slice aS K cS]⟩, ⟨10, 139, [139], fun vs _ => vs = [.int .i64 (k : Int)]⟩, ⟨11, 140, [140], PtS (.slice t0 t1 t2) (.slice t3 t4 t5)⟩, ⟨12, 141, [141], fun vs _ => vs = [.agg #[.slice t0 t1 t2, .slice t3 t4 t5]]⟩, ⟨13, 142, [142], fun vs _ => vs = [.bool eq]⟩, ⟨14, 143, [143], fun vs _ => vs = [.bool eq]⟩] (by kernel_rfl) (by kernel_rfl) ?_ ?_ ?_
                      · simp only [All]
                        refine ⟨fun _ _ _ _ h => h, fun _ _ _ _ h => h, fun _ _ _ _ h => h, fun _ _ _ _ h => h, fun _ _ _ _ h => h, ?_, fun _ _ _ _ h => h, ?_, fun _ _ _ _ h => h, fun _ _ _ _ h => h, fun _ _ _ _ h => h, ?_, fun _ _ _ _ h => h, fun _ _ _ _ h => h, fun _ _ _ _ h => h, trivial⟩
                        · rintro vs w1 w2 hb ⟨b, o, h1, h2⟩
                          exact ⟨b, o, h1, cell_blw h2 hb⟩
                        · rintro vs w1 w2 hb ⟨b, o, h1, h2, h3⟩
                          exact ⟨b, o, h1, cell_blw h2 hb, cell_blw h3 hb⟩
                        · rintro vs w1 w2 hb ⟨b, o, h1, h2, h3⟩
                          exact ⟨b, o, h1, cell_blw h2 hb, cell_blw h3 hb⟩
                      · simp only [All]
                        refine ⟨?_, ?_, ?_, ?_, ?_, ?_, ?_, ?_, ?_, ?_, ?_, ?_, ?_, ?_, ?_, trivial⟩
                        · intro o ho a' w' hb hfr hdep
                          obtain rfl := Option.some.inj ho
                          have g17 : a'.tmps[17]?.getD undef = .bool false := by have h := hfr 17 (by kernel_rfl); simpa using h
                          clear ho hfr hdep
                          go_wp2_with fail
                          exact ⟨rfl, _, rfl, Below.refl _ _, rfl⟩
                        · intro o ho a' w' hb hfr hdep
                          obtain rfl := Option.some.inj ho
                          have g129 : a'.tmps[129]?.getD undef = .bool false := by have h := hdep 0 _ rfl (by kernel_rfl); simpa using h
                          clear ho hfr hdep
                          go_wp2_with fail
                          exact ⟨rfl, _, rfl, Below.refl _ _, rfl⟩
                        · intro o ho a' w' hb hfr hdep
                          obtain rfl := Option.some.inj ho
                          have g13 : a'.tmps[13]?.getD undef = .slice aO NT cO := by have h := hfr 13 (by kernel_rfl); simpa using h
                          have g130 : a'.tmps[130]?.getD undef = .bool false := by have h := hdep 1 _ rfl (by kernel_rfl); simpa using h
                          have q130 := opt_bool g130
                          clear ho hfr hdep
                          refine unguard_any (by simp [Region.wanted, yielded, q130]) ?_
                          go_wp2_with fail
                          exact ⟨rfl, _, rfl, Below.refl _ _, rfl⟩
                        · intro o ho a' w' hb hfr hdep
                          obtain rfl := Option.some.inj ho
                          have g14 : a'.tmps[14]?.getD undef = .slice ag NG cg := by have h := hfr 14 (by kernel_rfl); simpa using h
                          have g130 : a'.tmps[130]?.getD undef = .bool false := by have h := hdep 1 _ rfl (by kernel_rfl); simpa using h
                          have q130 := opt_bool g130
                          clear ho hfr hdep
                          refine unguard_any (by simp [Region.wanted, yielded, q130]) ?_
                          go_wp2_with fail
                          exact ⟨rfl, _, rfl, Below.refl _ _, rfl⟩
                        · intro o ho a' w' hb hfr hdep
                          obtain rfl := Option.some.inj ho
                          have g16 : a'.tmps[16]?.getD undef = .int .i64 (i : Int) := by have h := hfr 16 (by kernel_rfl); simpa using h
                          have g130 : a'.tmps[130]?.getD undef = .bool false := by have h := hdep 1 _ rfl (by kernel_rfl); simpa using h
                          have q130 := opt_bool g130
                          clear ho hfr hdep
                          refine unguard_any (by simp [Region.wanted, yielded, q130]) ?_
                          go_wp2_with fail
                          exact ⟨rfl, _, rfl, Below.refl _ _, rfl⟩
                        · intro o ho a' w' hb hfr hdep
                          obtain rfl := Option.some.inj ho
                          have g132 : a'.tmps[132]?.getD undef = .slice ag NG cg := by have h := hdep 3 _ rfl (by kernel_rfl); simpa using h
                          have g133 : a'.tmps[133]?.getD undef = .int .i64 (i : Int) := by have h := hdep 4 _ rfl (by kernel_rfl); simpa using h
                          have g130 : a'.tmps[130]?.getD undef = .bool false := by have h := hdep 1 _ rfl (by kernel_rfl); simpa using h
                          have q130 := opt_bool g130
                          clear ho hfr hdep
                          refine unguard_any (by simp [Region.wanted, yielded, q130]) ?_
                          refine idx_i 134 _ _ _ _ _ GI (by show a'.tmps.getD 132 undef = _; simpa using g132) (HGr.below hb) _ _ i (by show a'.tmps.getD 133 undef = _; simpa using g133) rfl _ HGi.out ?_
                          intro b o hcell hbo
                          exact ⟨rfl, _, rfl, Below.refl _ _, b, o, rfl, hcell⟩
                        · intro o ho a' w' hb hfr hdep
                          obtain rfl := Option.some.inj ho
                          obtain ⟨b134, o134, g134, c134⟩ := hdep 5 _ rfl (by kernel_rfl)
                          simp at g134
                          have g130 : a'.tmps[130]?.getD undef = .bool false := by have h := hdep 1 _ rfl (by kernel_rfl); simpa using h
                          have q130 := opt_bool g130
                          clear ho hfr hdep
                          refine unguard_any (by simp [Region.wanted, yielded, q130]) ?_
                          have hcl := c134
                          go_wp2_with fail
                          exact ⟨rfl, _, rfl, Below.refl _ _, rfl⟩
                        · intro o ho a' w' hb hfr hdep
                          obtain rfl := Option.some.inj ho
                          have g131 : a'.tmps[131]?.getD undef = .slice aO NT cO := by have h := hdep 2 _ rfl (by kernel_rfl); simpa using h
                          have g135 : a'.tmps[135]?.getD undef = .int .i64 (G0 : Int) := by have h := hdep 6 _ rfl (by kernel_rfl); simpa using h
                          have g130 : a'.tmps[130]?.getD undef = .bool false := by have h := hdep 1 _ rfl (by kernel_rfl); simpa using h
                          have q130 := opt_bool g130
                          clear ho hfr hdep
                          refine unguard_any (by simp [Region.wanted, yielded, q130]) ?_
                          refine idx_sh 136 _ _ _ _ _ wsO (by show a'.tmps.getD 131 undef = _; simpa using g131) (HOr.below hb) _ _ G0 (by show a'.tmps.getD 135 undef = _; simpa using g135) rfl _ HY.out _ _ hsh ?_
                          intro b o hc0 hc1 hbo
                          exact ⟨rfl, _, rfl, Below.refl _ _, b, o, rfl, hc0, hc1⟩
                        · intro o ho a' w' hb hfr hdep
                          obtain rfl := Option.some.inj ho
                          obtain ⟨b136, o136, g136, c136, k136⟩ := hdep 7 _ rfl (by kernel_rfl)
                          simp at g136
                          have g130 : a'.tmps[130]?.getD undef = .bool false := by have h := hdep 1 _ rfl (by kernel_rfl); simpa using h
                          have q130 := opt_bool g130
                          clear ho hfr hdep
                          refine unguard_any (by simp [Region.wanted, yielded, q130]) ?_
                          refine load_sheet2 137 _ b136 o136 (o136 + 1) (by show a'.tmps.getD 136 undef = _; simpa using g136) _ _ c136 k136 rfl ?_
                          exact ⟨rfl, _, rfl, Below.refl _ _, rfl⟩
                        · intro o ho a' w' hb hfr hdep
                          obtain rfl := Option.some.inj ho
                          have g6 : a'.tmps[6]?.getD undef = .slice aS K cS := by have h := hfr 6 (by kernel_rfl); simpa using h
                          have g130 : a'.tmps[130]?.getD undef = .bool false := by have h := hdep 1 _ rfl (by kernel_rfl); simpa using h
                          have q130 := opt_bool g130
                          clear ho hfr hdep
                          refine unguard_any (by simp [Region.wanted, yielded, q130]) ?_
                          go_wp2_with fail
                          exact ⟨rfl, _, rfl, Below.refl _ _, rfl⟩
                        · intro o ho a' w' hb hfr hdep
                          obtain rfl := Option.some.inj ho
                          have g18 : a'.tmps[18]?.getD undef = .int .i64 (k : Int) := by have h := hfr 18 (by kernel_rfl); simpa using h
                          have g130 : a'.tmps[130]?.getD undef = .bool false := by have h := hdep 1 _ rfl (by kernel_rfl); simpa using h
                          have q130 := opt_bool g130
                          clear ho hfr hdep
                          refine unguard_any (by simp [Region.wanted, yielded, q130]) ?_
                          go_wp2_with fail
                          exact ⟨rfl, _, rfl, Below.refl _ _, rfl⟩
                        · intro o ho a' w' hb hfr hdep
                          obtain rfl := Option.some.inj ho
                          have g138 : a'.tmps[138]?.getD undef = .slice aS K cS := by have h := hdep 9 _ rfl (by kernel_rfl); simpa using h
                          have g139 : a'.tmps[139]?.getD undef = .int .i64 (k : Int) := by have h := hdep 10 _ rfl (by kernel_rfl); simpa using h
                          have g130 : a'.tmps[130]?.getD undef = .bool false := by have h := hdep 1 _ rfl (by kernel_rfl); simpa using h
                          have q130 := opt_bool g130
                          clear ho hfr hdep
                          refine unguard_any (by simp [Region.wanted, yielded, q130]) ?_
                          refine idx_sh 140 _ _ _ _ _ wsS (by show a'.tmps.getD 138 undef = _; simpa using g138) (HSr.below hb) _ _ k (by show a'.tmps.getD 139 undef = _; simpa using g139) rfl _ HY2.out _ _ hsh2 ?_
                          intro b o hc0 hc1 hbo
                          exact ⟨rfl, _, rfl, Below.refl _ _, b, o, rfl, hc0, hc1⟩
                        · intro o ho a' w' hb hfr hdep
                          obtain rfl := Option.some.inj ho
                          obtain ⟨b140, o140, g140, c140, k140⟩ := hdep 11 _ rfl (by kernel_rfl)
                          simp at g140
                          have g130 : a'.tmps[130]?.getD undef = .bool false := by have h := hdep 1 _ rfl (by kernel_rfl); simpa using h
                          have q130 := opt_bool g130
                          clear ho hfr hdep
                          refine unguard_any (by simp [Region.wanted, yielded, q130]) ?_
                          refine load_sheet2 141 _ b140 o140 (o140 + 1) (by show a'.tmps.getD 140 undef = _; simpa using g140) _ _ c140 k140 rfl ?_
                          exact ⟨rfl, _, rfl, Below.refl _ _, rfl⟩
                        · intro o ho a' w' hb hfr hdep
                          obtain rfl := Option.some.inj ho
                          have g137 : a'.tmps[137]?.getD undef = .agg #[.slice s0 s1 s2, .slice s3 s4 s5] := by have h := hdep 8 _ rfl (by kernel_rfl); simpa using h
                          have g141 : a'.tmps[141]?.getD undef = .agg #[.slice t0 t1 t2, .slice t3 t4 t5] := by have h := hdep 12 _ rfl (by kernel_rfl); simpa using h
                          have g130 : a'.tmps[130]?.getD undef = .bool false := by have h := hdep 1 _ rfl (by kernel_rfl); simpa using h
                          have q130 := opt_bool g130
                          clear ho hfr hdep
                          refine unguard_any (by simp [Region.wanted, yielded, q130]) ?_
                          go_wp2_with (go_at_call 25; refine (hsm.out _ hb).mono ?_; rintro e w2 ⟨rfl, h2⟩)
                          exact ⟨rfl, _, rfl, h2, rfl⟩
                        · intro o ho a' w' hb hfr hdep
                          obtain rfl := Option.some.inj ho
                          have g130 : a'.tmps[130]?.getD undef = .bool false := by have h := hdep 1 _ rfl (by kernel_rfl); simpa using h
                          have g142 : a'.tmps[142]?.getD undef = .bool eq := by have h := hdep 13 _ rfl (by kernel_rfl); simpa using h
                          clear ho hfr hdep
                          go_wp2_with fail
                          exact ⟨rfl, _, rfl, Below.refl _ _, rfl⟩
                      · intro gg w5 hbl hp'
                        have p143 := hp' 14 _ rfl
                        clear hp'
                        simp at p143
                        simp only [List.drop_succ_cons, List.drop_zero, List.map_cons, List.map_nil, putAll, Act.put, List.setIfInBounds_toArray, List.set_cons_succ, List.set_cons_zero, List.cons_append, List.nil_append, p143]
                        clear p143
                        have hb5 : Below w7.heap.size w7 w5 := hb.trans (hbl.mono hb.size)
                        go_wp2_with fail
                        go_roundg (K - (k + 1))
                        case measure => have := HG3.out; omega
                        case rel => exact ⟨k + 1, eq, by omega, rfl, by go_num, rfl, anyu_next HKn.out hsm2.out, hb5⟩

                  · obtain rfl : k = K := by omega
                    obtain rfl : b = true := by rw [HKn.out]; exact hallH.out
                    go_wp2_with fail
                    go_roundg (NG - (i + 1))
                    case measure => have := HG2.out; omega
                    case rel => exact ⟨i + 1, by omega, rfl, by go_num, hb⟩
              · obtain rfl : i = NG := by omega
                clear HG2 HGs HS7
                go_wp2_with fail
                go_loopg [19, 20] NM (fun gh o v w' => ∃ (j : Nat) (ao : Option Addr) (co : Nat) (hsA : List Hd), j ≤ NM ∧ gh = NM - j ∧ hsA.length = j ∧ v = .int .i64 (j : Int) ∧ o = .slice ao j co ∧ Own w' w7.heap.size 28 1 ao j co (hsA.map hv) ∧ (∀ (q : Nat) (h : Hd) (p : Pgl), hsA[q]? = some h → ((Ms.take j).map fun n => L.getD n [])[q]? = some p → PgE w2 h p) ∧ Below w7.heap.size w7 w')
                case atStart => exact ⟨0, none, 0, [], by omega, by omega, rfl, rfl, rfl, Own.nil _ _ _ _, (fun q h p h1 => by cases h1), hb⟩
                case round =>
                  clear hb
                  obtain ⟨j, ao, co, hsA, hj, hg, hhl, rfl, rfl, hO, hPA, hb⟩ := hrel
                  have HG4 := hide hg
                  have hhl := hide hhl
                  have HO := hide hO
                  have hPA := hide hPA
                  clear hg hO
                  by_cases hjm : j < NM
                  · obtain ⟨M0, hM0⟩ : ∃ M0, Ms[j]? = some M0 := ⟨Ms[j]'(by rw [hNM.out]; exact hjm), by simp⟩
                    have hM0N : M0 < N := hMlt.out M0 (List.mem_of_getElem? hM0)
                    have HMi : Hid ((Ms.map fun (k : Nat) => (k : Int))[j]? = some (M0 : Int)) := hide (by rw [List.getElem?_map, hM0]; rfl)
                    obtain ⟨pp, hpp⟩ : ∃ pp, L[M0]? = some pp := ⟨L[M0]'(by rw [hN.out]; exact hM0N), by simp⟩
                    obtain ⟨⟨p0, p1, p2⟩, hpu, hpE⟩ := HPL.out.hdR HPL.out.get hpp
                    have HPU : Hid ((hsL.map hv)[M0]? = some (.slice p0 p1 p2)) := hide hpu
                    have hPA2 : Hid (∀ (q : Nat) (h : Hd) (p : Pgl), (hsA ++ [(p0, p1, p2)])[q]? = some h → ((Ms.take (j + 1)).map fun n => L.getD n [])[q]? = some p → PgE w2 h p) := hide (by
                      have e : ((Ms.take (j + 1)).map fun n => L.getD n []) = ((Ms.take j).map fun n => L.getD n []) ++ [pp] := by
                        rw [take_snoc hM0, List.map_append]
                        simp [List.getD_eq_getElem?_getD, hpp]
                      rw [e]
                      exact pge_push (by rw [List.length_map, List.length_take, hhl.out]; have := hNM.out; omega) hPA.out hpE)
                    have HMr := HMs.out.below hb
                    have hb2r : Below w2.heap.size w2 wr := hB7.trans (hb.mono hB7.size)
                    have HPr := (HPL.out.below hb2r).top
                    have hOr := HO.out
                    have hBr := hb.size
                    have hd1 : decide ((M0 : Int) < 0) = false := decide_eq_false (by omega)
                    have hd2 : decide ((N : Int) ≤ (M0 : Int)) = false := decide_eq_false (by omega)
                    have hd3 : ¬ N ≤ M0 := by omega
                    clear hM0 hpp hpu hpE hPA
                    go_wp2_with (first
                      | (with_reducible refine idx_i 154 _ _ _ _ _ _ rfl HMr _ _ j rfl rfl (M0 : Int) HMi.out ?_; intro b3 o3 hcell3 hbo3)
                      | (refine unguard_any (by simp [Region.wanted, yielded]; done) ?_; with_reducible refine idx_i 160 _ _ _ _ _ _ rfl HMr _ _ j rfl rfl (M0 : Int) HMi.out ?_; intro b4 o4 hcell4 hbo4)
                      | (with_reducible refine idx_i 170 _ _ _ _ _ _ rfl HMr _ _ j rfl rfl (M0 : Int) HMi.out ?_; intro b5 o5 hcell5 hbo5)
                      | (with_reducible refine idx_pgs 172 _ _ _ _ _ hsL rfl HPr _ _ M0 rfl rfl _ HPU.out ?_; intro b6 o6 hcell6 hbo6)
                      | (at_builtin; refine append_lit rfl _ _ 23 rfl 28 (.slice none 0 0) 1 24 Try.underlying23 info_pg rfl w7 w7.heap.size ao j co _ rfl hOr 1 [hv (p0, p1, p2)] rfl rfl (by simp [hv, Value.oneCell']) (by omega) (by unfold maxLen; omega) hBr hb ?_; intro a' c' w' ho' hgr' hb'))
                    have HO' := hide ho'
                    clear ho' hgr' hOr HMr HPr
                    go_roundg (NM - (j + 1))
                    case measure => have := HG4.out; omega
                    case rel => exact ⟨j + 1, a', c', hsA ++ [(p0, p1, p2)], by omega, rfl, by rw [List.length_append, hhl.out]; rfl, by go_num, rfl, by rw [List.map_append]; exact HO'.out, hPA2.out, hb'⟩
                  · obtain rfl : j = NM := by omega
                    obtain ⟨A, hAA⟩ : ∃ A, Hid (Ms.map (fun n => L.getD n []) = A) := ⟨_, hide rfl⟩
                    have hlA : Hid (A.length = j) := hide (by rw [← hAA.out, List.length_map, hNM.out])
                    have hagain : Hid (A = againL L (goodUp (sheetsL L) T0 T0.length).2) := hide (by
                      rw [← hAA.out, ← again_miss L _ (goodUp_len _ _ _).1]
                      congr 1
                      exact (congrArg Prod.snd hGM.out).symm)
                    have hPgA : Hid (Pgs wr ao j co hsA A) := hide (by
                      refine ⟨HO.out.sl, by rw [hhl.out, hlA.out], fun q h p h1 h2 => ?_⟩
                      refine (hPA.out q h p h1 ?_).below (hB7.trans (hb.mono hB7.size))
                      rw [List.take_of_length_le (by rw [hNM.out]; exact Nat.le_refl _), hAA.out]
                      exact h2)
                    have hAF : Hid (∀ p ∈ A, PF p) := hide (fun p hp => HLF.out p (again_mem L _ p (by rw [← hagain.out]; exact hp)))
                    obtain ⟨A', hA'⟩ : ∃ A', Hid (sheetsL A = A') := ⟨_, hide rfl⟩
                    obtain ⟨KA, hKA⟩ : ∃ KA, Hid (A'.length = KA) := ⟨_, hide rfl⟩
                    have hKAK : KA ≤ K := by
                      have h1 := sheetsL_len A
                      rw [hA'.out, hKA.out, hlA.out] at h1
                      have h2 := hKN.out
                      omega
                    have hemp := fempty HF.out hR0
                    obtain ⟨P0, hP0⟩ : ∃ P0, Hid (S.paper = P0) := ⟨_, hide rfl⟩
                    have hKP : Hid (KA ≤ P0) := hide (by
                      have h1 := HF.out.pap
                      rw [hemp] at h1
                      simp only [List.length_nil] at h1
                      have := hP0.out
                      omega)
                    have hlo : Hid (loadP S A = (clnS A' T0 P0 0 0, 0)) := hide (by
                      rw [load_ok hAF.out (by rw [hemp, hlA.out]; show 0 + _ ≤ 64; omega), hA'.out]
                      congr 1
                      rw [hemp]
                      unfold clnS
                      simp [hP0.out, hT0.out])
                    have hload2 := hide (pr_Load g mq S wr (HAq.out.below (hb67.trans (hb.mono hb67.size))) (by rw [hemp]; exact Nat.zero_le _) A hsA ao j co hPgA.out (by rw [hlA.out]; omega))
                    rw [hlo.out] at hload2
                    have HI9 : Hid (PInv (clnS A' T0 P0 0 0)) := hide (by
                      have := inv_load HF.out.inv A
                      rw [hlo.out] at this
                      exact this)
                    have hA25 : Hid (∀ s ∈ A', s.1.length ≤ 25 ∧ s.2.length ≤ 25) := hide (fun s hs => by
                      rw [← hA'.out] at hs
                      obtain ⟨h1, h2⟩ := sheetsL_mem A s hs
                      refine ⟨(hAF.out _ h1).1, ?_⟩
                      rcases h2 with h2 | h2
                      · exact (hAF.out _ h2).1
                      · rw [h2]; simp)
                    have hb2r : Below w2.heap.size w2 wr := hB7.trans (hb.mono hB7.size)
                    clear hemp hPA hPgA HO HAq
                    go_wp2_with (go_at_call 16; refine hload2.out.mono ?_; rintro e w9 ⟨rfl, m9, A9, MV9⟩; refine hold ?_)
                    refine hide ?_
                    have hB9 : Below w2.heap.size w2 w9 := hb2r.trans (MV9.blw hb2r.size hnq)
                    have hN9 := MV9.new hb2r.size hnq
                    have HA9 := hide A9
                    obtain ⟨QA, hQA⟩ : ∃ QA, Hid (25 * KA = QA) := ⟨_, hide rfl⟩
                    have hQAQ : QA ≤ Q := by have := hQA.out; have := hQ.out; omega
                    clear MV9 A9 hload2 hnq hb hb67
                    go_wp2_with fail
                    go_loopg [21] Q (fun gh v w' => ∃ (i : Nat) (m : PM), i ≤ QA ∧ gh = Q - i ∧ v = .int .i64 (i : Int) ∧ PAt w' g m (clnS A' T0 P0 (i / 25) (i % 25)) ∧ PInv (clnS A' T0 P0 (i / 25) (i % 25)) ∧ Below w2.heap.size w2 w' ∧ (∀ b ∈ pfoot g m, w2.heap.size ≤ b))
                    case atStart => exact ⟨0, m9, by omega, by omega, rfl, HA9.out, HI9.out, hB9, hN9⟩
                    case round =>
                      clear HA9 HI9 hB9 hN9
                      obtain ⟨i5, m5, hi5, hg, rfl, hA, hI, hbB, hnB⟩ := hrel
                      have HG5 := hide hg
                      have HA := hide hA
                      have HI5 := hide hI
                      clear hg hA hI
                      have hc5 : i5 < QA ∨ (i5 = QA ∧ ¬ i5 < Q) ∨ (i5 = QA ∧ i5 < Q) := by omega
                      rcases hc5 with hc5 | hc7
                      · have hi5Q : i5 < Q := by omega
                        have hst : Calls Try.prog 17 #[.pointer (some ⟨g, 0, none⟩), .int .i64 0] wr fun e w' => e = .returned (.int .i64 0) ∧ ∃ m', PAt w' g m' (clnS A' T0 P0 ((i5 + 1) / 25) ((i5 + 1) % 25)) ∧ Mv wr w' (pfoot g m5) (pfoot g m') := by
                          have h1 := pr_Step g m5 _ 0 wr HA.out HI5.out (by omega)
                          rw [cln_rows (by rw [hKA.out]; exact hKP.out) i5 (by rw [hKA.out, hQA.out]; exact hc5)] at h1
                          exact h1
                        have hst := hide hst
                        have HI6 := hide (inv_step HI5.out 0)
                        rw [cln_rows (by rw [hKA.out]; exact hKP.out) i5 (by rw [hKA.out, hQA.out]; exact hc5)] at HI6
                        go_wp2_with (go_at_call 17; refine hst.out.mono ?_; rintro e w6 ⟨rfl, m6, A6, MV6⟩)
                        have B6 := hbB.trans (MV6.blw hbB.size hnB)
                        have N6 := MV6.new hbB.size hnB
                        have HA6 := hide A6
                        clear MV6 A6 hst
                        go_roundg (Q - (i5 + 1))
                        case measure => have := HG5.out; omega
                        case rel => exact ⟨i5 + 1, m6, by omega, rfl, by go_num, HA6.out, HI6.out, B6, N6⟩
                      rcases hc7 with hc8 | hc8
                      · obtain ⟨hc5, hc6⟩ := hc8
                        rename World => wz
                        rename PM => mz
                        have HAZ := HA
                        have hbZ := hbB
                        clear HA hbB hnB
                        have hd6 : decide ((i5 : Int) < (Q : Int)) = false := decide_eq_false (by omega)
                        have hce := cln_end (all := A') (T0 := T0) (p0 := P0) (k := KA) (by rw [hKA.out]; exact Nat.le_refl _)
                        have hk1 : i5 / 25 = KA := by have := hQA.out; omega
                        have hk2 : i5 % 25 = 0 := by have := hQA.out; omega
                        have HI2 := HI5.out
                        rw [hk1, hk2] at HAZ HI2
                        clear hk1 hk2
                        obtain ⟨X, hX⟩ : ∃ X, Hid (A'.map (padS 25) = X) := ⟨_, hide rfl⟩
                        obtain ⟨NX, hNX⟩ : ∃ NX, Hid ((T0 ++ X).length = NX) := ⟨_, hide rfl⟩
                        rw [hX.out] at hce
                        have hnx1 : NX ≤ 1000 := by have := HI2.bud; rw [hce.2, hNX.out] at this; omega
                        have hout := hide (pr_Out g mz _ wz HAZ.out HI2.cts (by rw [hce.2, hNX.out]; omega))
                        rw [hce.2, hNX.out] at hout
                        have hrest : Hid ((goodF L (T0 ++ X)).2 = []) := hide (found_nil fun κ => by rw [← hX.out, cntS_keys (keys_pad hA25.out), ← hA'.out, hagain.out])
                        have hlenX : Hid (∀ s ∈ T0 ++ X, s.1.length ≤ 5864062014634 ∧ s.2.length ≤ 5864062014634) := hide (fun s hs => by
                          rcases List.mem_append.1 hs with h | h
                          · exact ⟨(hsmT.out s h).1.1, (hsmT.out s h).2.1⟩
                          · rw [← hX.out] at h
                            obtain ⟨s', -, rfl⟩ := List.mem_map.1 h
                            unfold padS
                            simp only [pad_len]
                            exact ⟨by omega, by omega⟩)
                        clear hce HI2 HAZ HI5
                        generalize T0 ++ X = TX at hout hrest hlenX hNX
                        go_wp2_with (go_at_call 18; refine hout.out.mono ?_; rintro e w8 ⟨a8, c8, ws8, rfl, S8, hb8⟩; refine hold ?_)
                        refine hide ?_
                        have hB8 : Below w2.heap.size w2 w8 := hbZ.trans (hb8.mono hbZ.size)
                        have hg2 := hide (pr_Good L hsL TX ws8 aL a8 N cL NX c8 w8 (HPL.out.below hB8) S8.shp (fun p hp => ⟨(HLF.out p hp).sm.cp, (HLF.out p hp).sm.1⟩) hlenX.out (by rw [hN.out]; omega) (by rw [hNX.out]; omega))
                        rw [hrest.out] at hg2
                        clear hout S8 hb8 hbZ
                        go_wp2_with (go_at_call 11; refine hg2.out.mono ?_; rintro e w9 ⟨ag2, cg2, am2, cm2, rfl, -, -, hb9⟩; refine hold ?_)
                        refine hide ?_
                        have hB9 : Below w2.heap.size w2 w9 := hB8.trans (hb9.mono hB8.size)
                        have hlv := fun w' => law35_lives w'
                        clear hg2 hb9 hB8
                        go_wp2_with (go_at_call 14; refine (hlv _).mono ?_; rintro e w10 ⟨rfl, hb10⟩)
                        go_ret
                        exact ⟨rfl, hb12.trans ((hB9.trans (hb10.mono hB9.size)).mono hb12.size)⟩
                      · obtain ⟨hc5, hc6⟩ := hc8
                        have hst : Calls Try.prog 17 #[.pointer (some ⟨g, 0, none⟩), .int .i64 0] wr fun e w' => e = .returned (.int .i64 6) ∧ ∃ m', PAt w' g m' (clnS A' T0 P0 (i5 / 25) (i5 % 25)) ∧ Mv wr w' (pfoot g m5) (pfoot g m') := by
                          have h1 := pr_Step g m5 _ 0 wr HA.out HI5.out (by omega)
                          have hk1 : i5 / 25 = KA := by have := hQA.out; omega
                          have hk2 : i5 % 25 = 0 := by have := hQA.out; omega
                          rw [hk1, hk2] at h1 ⊢
                          rw [(cln_end (all := A') (T0 := T0) (p0 := P0) (k := KA) (by rw [hKA.out]; exact Nat.le_refl _)).1] at h1
                          exact h1
                        have hst := hide hst
                        go_wp2_with (go_at_call 17; refine hst.out.mono ?_; rintro e wz ⟨rfl, mz, A4, MV4⟩; refine hold ?_)
                        refine hide ?_
                        have hbZ : Below w2.heap.size w2 wz := hbB.trans (MV4.blw hbB.size hnB)
                        have HAZ := hide A4
                        clear MV4 A4 hst HA hbB hnB
                        have hce := cln_end (all := A') (T0 := T0) (p0 := P0) (k := KA) (by rw [hKA.out]; exact Nat.le_refl _)
                        have hk1 : i5 / 25 = KA := by have := hQA.out; omega
                        have hk2 : i5 % 25 = 0 := by have := hQA.out; omega
                        have HI2 := HI5.out
                        rw [hk1, hk2] at HAZ HI2
                        clear hk1 hk2
                        obtain ⟨X, hX⟩ : ∃ X, Hid (A'.map (padS 25) = X) := ⟨_, hide rfl⟩
                        obtain ⟨NX, hNX⟩ : ∃ NX, Hid ((T0 ++ X).length = NX) := ⟨_, hide rfl⟩
                        rw [hX.out] at hce
                        have hnx1 : NX ≤ 1000 := by have := HI2.bud; rw [hce.2, hNX.out] at this; omega
                        have hout := hide (pr_Out g mz _ wz HAZ.out HI2.cts (by rw [hce.2, hNX.out]; omega))
                        rw [hce.2, hNX.out] at hout
                        have hrest : Hid ((goodF L (T0 ++ X)).2 = []) := hide (found_nil fun κ => by rw [← hX.out, cntS_keys (keys_pad hA25.out), ← hA'.out, hagain.out])
                        have hlenX : Hid (∀ s ∈ T0 ++ X, s.1.length ≤ 5864062014634 ∧ s.2.length ≤ 5864062014634) := hide (fun s hs => by
                          rcases List.mem_append.1 hs with h | h
                          · exact ⟨(hsmT.out s h).1.1, (hsmT.out s h).2.1⟩
                          · rw [← hX.out] at h
                            obtain ⟨s', -, rfl⟩ := List.mem_map.1 h
                            unfold padS
                            simp only [pad_len]
                            exact ⟨by omega, by omega⟩)
                        clear hce HI2 HAZ HI5
                        generalize T0 ++ X = TX at hout hrest hlenX hNX
                        go_wp2_with (go_at_call 18; refine hout.out.mono ?_; rintro e w8 ⟨a8, c8, ws8, rfl, S8, hb8⟩; refine hold ?_)
                        refine hide ?_
                        have hB8 : Below w2.heap.size w2 w8 := hbZ.trans (hb8.mono hbZ.size)
                        have hg2 := hide (pr_Good L hsL TX ws8 aL a8 N cL NX c8 w8 (HPL.out.below hB8) S8.shp (fun p hp => ⟨(HLF.out p hp).sm.cp, (HLF.out p hp).sm.1⟩) hlenX.out (by rw [hN.out]; omega) (by rw [hNX.out]; omega))
                        rw [hrest.out] at hg2
                        clear hout S8 hb8 hbZ
                        go_wp2_with (go_at_call 11; refine hg2.out.mono ?_; rintro e w9 ⟨ag2, cg2, am2, cm2, rfl, -, -, hb9⟩; refine hold ?_)
                        refine hide ?_
                        have hB9 : Below w2.heap.size w2 w9 := hB8.trans (hb9.mono hB8.size)
                        have hlv := fun w' => law35_lives w'
                        clear hg2 hb9 hB8
                        go_wp2_with (go_at_call 14; refine (hlv _).mono ?_; rintro e w10 ⟨rfl, hb10⟩)
                        go_ret
                        exact ⟨rfl, hb12.trans ((hB9.trans (hb10.mono hB9.size)).mono hb12.size)⟩
end Go.Proofs.Ytdeknimelkdaeaa
end
