/- The contracts of the functions that the law reaches, joined into one text. -/
import Derived.Test.YtdeknimelkdaeaaBaseP23E
import Derived.OpenShut
import Derived.Deep.Slices
import Derived.Deep.Strs
import Derived.SizedLaws
set_option linter.unusedVariables false
set_option linter.unusedSimpArgs false

/- the text Row2 -/
section
/- How the arguments of a law read: slices of integers, of strings, of arrays of integers, with the form's own reach. No program. -/
namespace Go.Dx
open Go.RowKit Go.WideShapes Go.ChangeShapes Go.Deep

/-- no part is longer than the form lets it be -/
def Sized {H : Type} (P : Program) (t : TypeId) (d : DataW H) : Prop := ∀ n ∈ d.weights P t, n ≤ reachBytes
section
variable {H : Type} {enc : TypeId × Value → H} {P : Program} {w : World}
theorem sized_at {ts : List TypeId} {ds : List (DataW H)} (hwt : (DataW.weightsEach P ts ds).all (· ≤ reachBytes) = true) (j : Nat) {t : TypeId} {d : DataW H} (ht : ts[j]? = some t) (hd : ds[j]? = some d) : Sized P t d :=
  fun n hn => by simpa using List.all_eq_true.1 hwt _ (DataW.weights_mem_each ht hd n hn)
theorem sized_all {e : TypeId} : ∀ {l : List (DataW H)} {d : DataW H}, d ∈ l → ∀ n ∈ d.weights P e, n ∈ DataW.weightsAll P e l
  | x :: l, d, hd, n, hn => by
    simp only [DataW.weightsAll, List.mem_append]
    rcases List.mem_cons.1 hd with rfl | h
    · exact .inl hn
    · exact .inr (sized_all h n hn)
theorem Sized.slice {t e : TypeId} {elems spare : List (DataW H)} (h : Sized P t (.slice elems spare)) (hu : P.underlying t = some (.slice e)) :
    (elems.length + spare.length) * P.bytesOf e ≤ reachBytes ∧ (∀ d ∈ elems, Sized P e d) :=
  ⟨h _ (by simp [DataW.weights, hu]), fun d hd n hn => h n (by simp only [DataW.weights, hu, List.mem_cons, List.mem_append]; exact .inr (.inl (sized_all hd n hn)))⟩
theorem Sized.string {t : TypeId} {b : List UInt8} (h : Sized P t (DataW.lit (H := H) (.string b))) : b.length ≤ reachBytes := h _ (by simp [DataW.weights])

theorem add_cells {a : Addr} {n : Nat} : a.add n = a.add n := rfl

theorem trod_ints {t e : TypeId} {k : IntKind} (ht : P.underlying t = some (.slice e)) (he : P.underlying e = some (.int k)) (hc : P.cellsOf e = 1) (hb : 0 < P.bytesOf e) {a : Option Addr} {len cap : Nat} {d : DataW H} {p : List MemPlace}
    (hs : Sized P t d) (h : DataW.Trod enc P w 0 (fun _ => true) true t (.slice a len cap) d p) :
    ∃ zs : List Int, Sl w 1 a len cap (zs.map (Value.int k)) ∧ (∀ n ∈ zs, (Lit.int k n).wf = true) ∧ len ≤ reachBytes := by
  obtain ⟨fuel, hf⟩ := h
  rcases open_ints ht he hc hf with ⟨hcs, _⟩ | ⟨x, l, c, zs, hcs, _, hl, hm, hz, hx, hcell, hwz⟩
  · simp [Value.cells] at hcs
    obtain ⟨rfl, rfl, rfl⟩ := hcs
    exact ⟨[], Sl.empty w 1, by simp, Nat.zero_le _⟩
  · simp [Value.cells] at hcs
    obtain ⟨rfl, rfl, rfl⟩ := hcs
    have hz2 : zs.length = cap := by simpa using hz
    have hd := congrArg Prod.fst hx
    simp only at hd
    subst hd
    refine ⟨zs.take len, ⟨by simp; omega, hl, hm, (fun h => by cases h), ?_⟩, fun n hn => hwz n (List.mem_of_mem_take hn), ?_⟩
    · intro q hq j u hj
      cases hq
      rw [List.getElem?_map, List.getElem?_take] at hj
      by_cases hlt : j < len
      · rw [if_pos hlt] at hj
        have hjz : j < zs.length := by omega
        rw [List.getElem?_eq_getElem hjz] at hj
        simp at hj
        rw [hcell j hjz, ← hj, List.getD_eq_getElem?_getD, List.getElem?_eq_getElem hjz]
        rfl
      · rw [if_neg hlt] at hj; cases hj
    · have hsz := (hs.slice ht).1
      rw [show ∀ (k : IntKind) (l : List Int), (lits (H := H) k l).length = l.length from fun k l => by simp [lits], List.length_take, show min len zs.length = len by omega] at hsz
      exact Nat.le_trans (Nat.le_trans (Nat.le_add_right _ _) (Nat.le_mul_of_pos_right _ hb)) hsz

theorem trod_bytes {t e : TypeId} (ht : P.underlying t = some (.slice e)) (he : P.underlying e = some (.int .u8)) (hc : P.cellsOf e = 1) (hb : 0 < P.bytesOf e) {a : Option Addr} {len cap : Nat} {d : DataW H} {p : List MemPlace}
    (hs : Sized P t d) (h : DataW.Trod enc P w 0 (fun _ => true) true t (.slice a len cap) d p) :
    ∃ l : List UInt8, Sl w 1 a len cap (l.map B8) ∧ len ≤ reachBytes := by
  obtain ⟨zs, h1, h2, h3⟩ := trod_ints ht he hc hb hs h
  refine ⟨zs.map fun n => UInt8.ofNat n.toNat, ?_, h3⟩
  have e : (zs.map fun n => UInt8.ofNat n.toNat).map B8 = zs.map (Value.int .u8) := by
    rw [List.map_map]
    apply List.map_congr_left
    intro n hn
    have hb : 0 ≤ n ∧ n ≤ 255 := bounds_u8 (h2 n hn)
    show Value.int .u8 ((UInt8.ofNat n.toNat).toNat : Int) = _
    rw [UInt8.toNat_ofNat']
    congr 1
    omega
  rw [e]
  exact h1
theorem trod_i64s {t e : TypeId} (ht : P.underlying t = some (.slice e)) (he : P.underlying e = some (.int .i64)) (hc : P.cellsOf e = 1) (hb : 0 < P.bytesOf e) {a : Option Addr} {len cap : Nat} {d : DataW H} {p : List MemPlace}
    (hs : Sized P t d) (h : DataW.Trod enc P w 0 (fun _ => true) true t (.slice a len cap) d p) :
    ∃ l : List Int, Sl w 1 a len cap (l.map I64) ∧ (∀ n ∈ l, -9223372036854775808 ≤ n ∧ n ≤ 9223372036854775807) ∧ len ≤ reachBytes := by
  obtain ⟨zs, h1, h2, h3⟩ := trod_ints ht he hc hb hs h
  exact ⟨zs, h1, fun n hn => bounds_i64 (h2 n hn), h3⟩

theorem trod_strs {t e : TypeId} (ht : P.underlying t = some (.slice e)) (he : P.underlying e = some .string) (hc : P.cellsOf e = 1) (hb : 0 < P.bytesOf e) {a : Option Addr} {len cap : Nat} {d : DataW H} {p : List MemPlace}
    (hs : Sized P t d) (h : DataW.Trod enc P w 0 (fun _ => true) true t (.slice a len cap) d p) :
    ∃ l : List ByteArray, Sl w 1 a len cap (l.map Value.string) ∧ (∀ s ∈ l, s.size ≤ reachBytes) ∧ len ≤ reachBytes ∧ (l = [] ∨ ∃ sp, d = .slice (l.map fun s => .lit (.string s.data.toList)) sp) := by
  obtain ⟨fuel, hf⟩ := h
  rcases open_strs ht he hc hf with ⟨hcs, _⟩ | ⟨x, l, c, m, Sx, hcs, _, hl, hm, hmm, hx, hcell⟩
  · simp [Value.cells] at hcs
    obtain ⟨rfl, rfl, rfl⟩ := hcs
    exact ⟨[], Sl.empty w 1, by simp, Nat.zero_le _, .inl rfl⟩
  · simp [Value.cells] at hcs
    obtain ⟨rfl, rfl, rfl⟩ := hcs
    simp only [if_true] at hmm
    subst hmm
    have hd := congrArg Prod.fst hx
    simp only at hd
    subst hd
    obtain ⟨z1, z2⟩ := hs.slice ht
    refine ⟨(List.range len).map Sx, ⟨by simp, hl, hm, (fun h => by cases h), ?_⟩, ?_, ?_, .inr ⟨_, by rw [List.map_map]; rfl⟩⟩
    · intro q hq j u hj
      cases hq
      have hlt : j < len := by have := (List.getElem?_eq_some_iff.1 hj).1; simpa using this
      rw [(hcell j (by omega)).1]
      simp [hlt] at hj
      rw [hj]
    · intro s hs
      obtain ⟨i, hi, rfl⟩ := List.mem_map.1 hs
      have := Sized.string (z2 _ (List.mem_map.2 ⟨i, hi, rfl⟩))
      rwa [show (Sx i).data.toList.length = (Sx i).size from Array.length_toList] at this
    · simp only [List.length_map, List.length_range] at z1
      exact Nat.le_trans (Nat.le_trans (Nat.le_add_right _ _) (Nat.le_mul_of_pos_right _ hb)) z1

theorem trod_arr {t e n : Nat} {k : IntKind} {base : Nat} {spare : Nat → Bool} {held : Bool} {fuel : Nat} {cs : List Value} {x : DataW H × List MemPlace} (ht : P.underlying t = some (.array n e)) (he : P.underlying e = some (.int k)) (hc : P.cellsOf e = 1) (hct : P.cellsOf t = n)
    (h : DataW.trod enc P w base spare held fuel t cs = some x) : cs.length = n ∧ ∀ i, i < n → ∃ z, cs[i]? = some (.int k z) ∧ (Lit.int k z).wf = true := by
  obtain ⟨xs, m, _, _, hl, hxl, hi⟩ := DataW.trod_array ht h
  rw [hct] at hl
  refine ⟨hl, fun i hin => ?_⟩
  have h1 := hi i hin
  rw [hc, Nat.mul_one, List.getElem?_eq_getElem (by omega)] at h1
  obtain ⟨z, hz, _, hw⟩ := DataW.trod_int he h1
  refine ⟨z, ?_, hw⟩
  have := congrArg (·[0]?) hz
  simpa [List.getElem?_take, List.getElem?_drop] using this

theorem trod_arrs {t e q n : Nat} {k : IntKind} (ht : P.underlying t = some (.slice e)) (he : P.underlying e = some (.array n q)) (hq : P.underlying q = some (.int k)) (hc : P.cellsOf q = 1) (hce : P.cellsOf e = n) (hb : 0 < P.bytesOf e) (hn0 : 0 < n)
    {a : Option Addr} {len cap : Nat} {d : DataW H} {p : List MemPlace} (hs : Sized P t d) (h : DataW.Trod enc P w 0 (fun _ => true) true t (.slice a len cap) d p) :
    ∃ zs : List Int, Sl w n a len cap (zs.map (Value.int k)) ∧ (∀ n ∈ zs, (Lit.int k n).wf = true) ∧ len ≤ reachBytes := by
  obtain ⟨fuel, hf⟩ := h
  rcases open_slice ht hf with ⟨hcs, _⟩ | ⟨x, l, c, m, g, D, Pl, hcs, _, hl, hm, hmm, hx, hel⟩
  · simp [Value.cells] at hcs
    obtain ⟨rfl, rfl, rfl⟩ := hcs
    exact ⟨[], Sl.empty w n, by simp, Nat.zero_le _⟩
  · simp [Value.cells] at hcs
    obtain ⟨rfl, rfl, rfl⟩ := hcs
    simp only [if_true] at hmm
    subst hmm
    have hd := congrArg Prod.fst hx
    simp only at hd
    subst hd
    obtain ⟨z1, z2⟩ := hs.slice ht
    have each : ∀ j, j < len * n → ∃ z, w.cell? (x.add j) = some (.int k z) ∧ (Lit.int k z).wf = true := by
      intro j hj
      have hi : j / n < len := (Nat.div_lt_iff_lt_mul hn0).2 hj
      obtain ⟨cs', h1, h2⟩ := hel (j / n) (by omega)
      rw [hce] at h1
      obtain ⟨_, hcl, hat⟩ := World.cells?_some h1
      have hr : j % n < n := Nat.mod_lt _ hn0
      obtain ⟨z, hz, hwz⟩ := (trod_arr he hq hc hce h2).2 (j % n) hr
      refine ⟨z, ?_, hwz⟩
      have := hat (j % n) hr
      rw [sl_add, Nat.div_add_mod'] at this
      rw [this, hz]
    obtain ⟨Z, hZ⟩ := choose_lt each
    refine ⟨(List.range (len * n)).map Z, ⟨by simp, hl, hm, (fun h => by cases h), ?_⟩, ?_, ?_⟩
    · intro q hq j u hj
      cases hq
      have hlt : j < len * n := by have := (List.getElem?_eq_some_iff.1 hj).1; simpa using this
      rw [(hZ j hlt).1]
      simp [hlt] at hj
      rw [hj]
    · intro z hz
      obtain ⟨i, hi, rfl⟩ := List.mem_map.1 hz
      exact (hZ i (List.mem_range.1 hi)).2
    · simp only [List.length_map, List.length_range] at z1
      exact Nat.le_trans (Nat.le_trans (Nat.le_add_right _ _) (Nat.le_mul_of_pos_right _ hb)) z1
theorem bytes_of_wf {zs : List Int} (h : ∀ n ∈ zs, (Lit.int .u8 n).wf = true) : ∃ l : List UInt8, l.map B8 = zs.map (Value.int .u8) := by
  refine ⟨zs.map fun n => UInt8.ofNat n.toNat, ?_⟩
  rw [List.map_map]
  apply List.map_congr_left
  intro n hn
  have hb : 0 ≤ n ∧ n ≤ 255 := bounds_u8 (h n hn)
  show Value.int .u8 ((UInt8.ofNat n.toNat).toNat : Int) = _
  rw [UInt8.toNat_ofNat']
  congr 1
  omega
end
end Go.Dx
end

/- the text P24 -/
section
/- Chapter 35: Good finds as many sheets of a kind as there are (plain Lean). -/
set_option linter.unusedVariables false
namespace Go.Proofs.Ytdeknimelkdaeaa
open Go.RowKit Go.Dx Go.Al
abbrev KeyS := Pgl × Pgl
def keyS (s : Sht) : KeyS := (plainL s.1, plainL s.2)
theorem samS_iff (s t : Sht) : samS s t = true ↔ keyS s = keyS t := by
  unfold samS keyS
  simp only [Bool.and_eq_true, decide_eq_true_eq, Prod.mk.injEq]
/-- sheet k is taken and of this kind -/
def tkn (all : List Sht) (T : List Bool) (κ : KeyS) (k : Nat) : Bool := T.getD k false && decide (keyS (all.getD k ([], [])) = κ)
def ofK (all : List Sht) (κ : KeyS) (k : Nat) : Bool := decide (keyS (all.getD k ([], [])) = κ)
def cntT (all : List Sht) (T : List Bool) (κ : KeyS) : Nat := (List.range all.length).countP (tkn all T κ)
def cntS (l : List Sht) (κ : KeyS) : Nat := l.countP fun s => decide (keyS s = κ)
theorem countP_flip {p q : Nat → Bool} {k : Nat} : ∀ n, k < n → p k = false → q k = true → (∀ j, j ≠ k → q j = p j) → (List.range n).countP q = (List.range n).countP p + 1
  | 0, h, _, _, _ => by omega
  | n + 1, h, h1, h2, h3 => by
    rw [List.range_succ, List.countP_append, List.countP_append]
    by_cases hk : k = n
    · subst hk
      have e : (List.range k).countP q = (List.range k).countP p := List.countP_congr fun j hj => by
        rw [List.mem_range] at hj
        rw [h3 j (by omega)]
      rw [e]
      simp [List.countP_cons, h1, h2]
    · have ih := countP_flip n (by omega) h1 h2 h3
      rw [ih]
      have e : q n = p n := h3 n (Ne.symm hk)
      simp [List.countP_cons, e]
      omega
theorem cntS_all (all : List Sht) (κ : KeyS) : cntS all κ = (List.range all.length).countP (ofK all κ) := by
  unfold cntS
  have e : all = (List.range all.length).map fun k => all.getD k ([], []) := by
    apply List.ext_getElem
    · simp
    · intro i h1 h2
      simp [List.getD_eq_getElem?_getD, h1]
  conv => lhs; rw [e]
  rw [List.countP_map]
  rfl
/-- what stands after m sheets: of each kind, all are taken, or as many as were met -/
def GInv (all out : List Sht) (m : Nat) : Prop :=
  ∀ κ, (∀ k, k < all.length → keyS (all.getD k ([], [])) = κ → (goodUp all out m).2.getD k false = true) ∨ cntT all (goodUp all out m).2 κ = cntS (out.take m) κ
theorem pick_some {all : List Sht} {T : List Bool} {s : Sht} {k : Nat} (h : pickG all T s = some k) : k < all.length ∧ T.getD k true = false ∧ keyS s = keyS (all.getD k ([], [])) := by
  have h1 := List.find?_some h
  have h2 := List.mem_of_find?_eq_some h
  rw [List.mem_range] at h2
  unfold cand at h1
  simp only [Bool.and_eq_true, Bool.not_eq_true'] at h1
  exact ⟨h2, h1.1, (samS_iff _ _).1 h1.2⟩
theorem pick_none {all : List Sht} {T : List Bool} {s : Sht} (hl : T.length = all.length) (h : pickG all T s = none) (k : Nat) (hk : k < all.length) (hs : keyS (all.getD k ([], [])) = keyS s) : T.getD k false = true := by
  have h1 := List.find?_eq_none.1 h k (by simp [hk])
  unfold cand at h1
  have h2 : samS s (all.getD k ([], [])) = true := (samS_iff _ _).2 hs.symm
  rw [h2] at h1
  simp only [Bool.and_true, Bool.not_eq_true', Bool.not_eq_false] at h1
  rw [List.getD_eq_getElem?_getD, List.getElem?_eq_getElem (by omega)] at h1 ⊢
  simpa using h1
theorem ginv (all out : List Sht) : ∀ m, m ≤ out.length → GInv all out m
  | 0, _ => fun κ => .inr (by
    unfold cntT cntS
    simp only [List.take_zero, List.countP_nil]
    rw [List.countP_eq_zero]
    intro k hk
    rw [List.mem_range] at hk
    unfold tkn goodUp
    simp [List.getD_eq_getElem?_getD, hk])
  | m + 1, hm => by
    have ih := ginv all out m (by omega)
    have hlen := (goodUp_len all out m).1
    obtain ⟨s, hs⟩ : ∃ s, out[m]? = some s := ⟨out[m], by simp [show m < out.length by omega]⟩
    have htake : out.take (m + 1) = out.take m ++ [s] := take_snoc hs
    intro κ
    have hg : out.getD m ([], []) = s := by rw [List.getD_eq_getElem?_getD, hs]; rfl
    cases hp : pickG all (goodUp all out m).2 s with
    | none =>
      have e : goodUp all out (m + 1) = goodUp all out m := by rw [goodUp, hg, hp]
      rw [e]
      by_cases hκ : keyS s = κ
      · exact .inl fun k hk hks => pick_none hlen hp k hk (by rw [hks, hκ])
      · rcases ih κ with h | h
        · exact .inl h
        · refine .inr ?_
          rw [h, htake]
          unfold cntS
          simp [List.countP_append, List.countP_cons, hκ]
    | some k =>
      obtain ⟨hk, hT, hks⟩ := pick_some hp
      have e : goodUp all out (m + 1) = ((goodUp all out m).1 ++ [m], (goodUp all out m).2.set k true) := by rw [goodUp, hg, hp]
      rw [e]
      have ihk := ih κ
      clear ih
      generalize (goodUp all out m).2 = T at *
      have hTk : T.getD k false = false := by
        rw [List.getD_eq_getElem?_getD, List.getElem?_eq_getElem (by omega)] at hT ⊢
        simpa using hT
      have hset : ∀ j, (T.set k true).getD j false = if j = k then true else T.getD j false := fun j => by
        rw [List.getD_eq_getElem?_getD, List.getElem?_set, List.getD_eq_getElem?_getD]
        by_cases hj : j = k
        · rw [if_pos hj.symm, if_pos hj, if_pos (by omega)]; rfl
        · rw [if_neg (Ne.symm hj), if_neg hj]
      rcases ihk with h | h
      · refine .inl fun j hj hjs => ?_
        rw [hset]
        split
        · rfl
        · exact h j hj hjs
      · refine .inr ?_
        rw [htake]
        by_cases hκ : keyS s = κ
        · have h1 : cntT all (T.set k true) κ = cntT all T κ + 1 := by
            unfold cntT
            refine countP_flip (k := k) _ hk ?_ ?_ ?_
            · unfold tkn; rw [hTk]; rfl
            · unfold tkn
              rw [hset, if_pos rfl, ← hks, hκ]
              simp
            · intro j hj
              unfold tkn
              rw [hset, if_neg hj]
          rw [h1, h]
          unfold cntS
          simp [List.countP_append, List.countP_cons, hκ]
        · have h1 : cntT all (T.set k true) κ = cntT all T κ := by
            unfold cntT
            refine List.countP_congr fun j hj => ?_
            unfold tkn
            rw [hset]
            by_cases hjk : j = k
            · rw [if_pos hjk, hjk, ← hks]
              simp [hκ]
            · rw [if_neg hjk]
          rw [h1, h]
          unfold cntS
          simp [List.countP_append, List.countP_cons, hκ]
/-- where as many sheets of its kind are met as there are, a sheet is taken -/
theorem taken_of_cnt {all out : List Sht} {k : Nat} (hk : k < all.length) (h : cntS all (keyS (all.getD k ([], []))) ≤ cntS out (keyS (all.getD k ([], [])))) : (goodUp all out out.length).2.getD k false = true := by
  rcases ginv all out out.length (Nat.le_refl _) (keyS (all.getD k ([], []))) with h1 | h1
  · exact h1 k hk rfl
  · rw [List.take_length] at h1
    rw [← h1, cntS_all] at h
    unfold cntT at h
    generalize (goodUp all out out.length).2 = T at *
    cases hT : T.getD k false with
    | true => rfl
    | false =>
      have hle : (List.range all.length).countP (tkn all T (keyS (all.getD k ([], [])))) + 1 ≤ (List.range all.length).countP (ofK all (keyS (all.getD k ([], [])))) := by
        have hq : (List.range all.length).countP (fun j => tkn all T (keyS (all.getD k ([], []))) j || decide (j = k)) = (List.range all.length).countP (tkn all T (keyS (all.getD k ([], [])))) + 1 := by
          refine countP_flip (k := k) _ hk ?_ ?_ ?_
          · unfold tkn; rw [hT]; rfl
          · simp
          · intro j hj; simp [hj]
        rw [← hq]
        refine List.countP_mono_left fun j hj hp => ?_
        unfold ofK
        simp only [Bool.or_eq_true, decide_eq_true_eq] at hp ⊢
        rcases hp with hp | hp
        · unfold tkn at hp
          simp only [Bool.and_eq_true, decide_eq_true_eq] at hp
          exact hp.2
        · rw [hp]
      omega
theorem missUp_nil {T : List Bool} {n : Nat} (h : ∀ k, 2 * k < n → T.getD k true = true) : missUp T n = [] := by
  unfold missUp
  rw [List.filter_eq_nil_iff]
  intro i hi
  rw [List.mem_range] at hi
  have := h (i / 2) (by omega)
  rw [this]
  simp
theorem getD_tf {T : List Bool} {k : Nat} (h : T.getD k false = true) : T.getD k true = true := by
  rw [List.getD_eq_getElem?_getD] at h ⊢
  cases hk : T[k]? with
  | none => rfl
  | some b => rw [hk] at h; simpa using h
end Go.Proofs.Ytdeknimelkdaeaa
end

/- the text P25 -/
section
/- Chapter 35: a machine that runs without faults (plain Lean). -/
set_option linter.unusedVariables false
namespace Go.Proofs.Ytdeknimelkdaeaa
open Go.RowKit Go.Dx Go.Al
/-- the first r rows of a page, on a sheet of 25 rows -/
def pad (r : Nat) (p : Pgl) : Pgl := (List.range 25).map fun i => if i < r then p.getD i [] else []
theorem pad_len (r : Nat) (p : Pgl) : (pad r p).length = 25 := by simp [pad]
theorem pad_get (r : Nat) (p : Pgl) (i : Nat) : (pad r p)[i]? = if i < 25 then some (if i < r then p.getD i [] else []) else none := by
  unfold pad
  rw [List.getElem?_map]
  by_cases h : i < 25
  · rw [if_pos h, List.getElem?_range h]; rfl
  · rw [if_neg h, List.getElem?_eq_none (by simp; omega)]; rfl
theorem pad_zero (p : Pgl) : pad 0 p = blank := by
  apply List.ext_getElem?
  intro i
  rw [pad_get]
  unfold blank
  rw [List.getElem?_replicate]
  by_cases h : i < 25
  · rw [if_pos h, if_pos h]; rfl
  · rw [if_neg h, if_neg h]
theorem rowD_pad {r : Nat} (p : Pgl) (hr : r < 25) : rowD r p (pad r p) = pad (r + 1) p := by
  unfold rowD
  apply List.ext_getElem?
  intro i
  split
  · rename_i hp
    rw [List.getElem?_set, pad_get, pad_get, pad_len]
    by_cases hri : r = i
    · subst hri
      rw [if_pos rfl, if_pos hr, if_pos hr, if_pos (by omega)]
    · rw [if_neg hri]
      by_cases h25 : i < 25
      · rw [if_pos h25, if_pos h25]
        by_cases h : i < r
        · rw [if_pos h, if_pos (by omega)]
        · rw [if_neg h, if_neg (by omega)]
      · rw [if_neg h25, if_neg h25]
  · rename_i hp
    rw [pad_get, pad_get]
    by_cases h25 : i < 25
    · rw [if_pos h25, if_pos h25]
      by_cases h : i < r
      · rw [if_pos h, if_pos (by omega)]
      · rw [if_neg h]
        by_cases h2 : i < r + 1
        · rw [if_pos h2, List.getD_eq_getElem?_getD, List.getElem?_eq_none (by omega)]; rfl
        · rw [if_neg h2]
    · rw [if_neg h25, if_neg h25]
def padS (r : Nat) (s : Sht) : Sht := (pad r s.1, pad r s.2)
theorem pad_plain {p : Pgl} (h : p.length ≤ 25) : plainL (pad 25 p) = plainL p := by
  rw [plain_eq_iff]
  intro Y X
  unfold pcell pad
  by_cases hY : Y < 25
  · rw [List.getD_eq_getElem?_getD (i := Y), List.getElem?_map, List.getElem?_range hY]
    simp [hY]
  · have e1 : ((List.range 25).map fun i => if i < 25 then p.getD i [] else []).getD Y [] = [] := by
      rw [List.getD_eq_getElem?_getD, List.getElem?_eq_none (by simp; omega)]; rfl
    have e2 : p.getD Y [] = [] := by rw [List.getD_eq_getElem?_getD, List.getElem?_eq_none (by omega)]; rfl
    rw [e1, e2]
theorem padS_key {s : Sht} (h1 : s.1.length ≤ 25) (h2 : s.2.length ≤ 25) : keyS (padS 25 s) = keyS s := by
  unfold keyS padS
  rw [pad_plain h1, pad_plain h2]
/-- the machine, j rows after its start with sheets all, T0 in its tray -/
def clnS (all T0 : List Sht) (p0 k r : Nat) : Pr :=
  if r = 0 then ⟨[], [], [], [], 0, false, p0 - k, all.drop k, T0 ++ (all.take k).map (padS 25), 0⟩
  else ⟨(all.getD k ([], [])).1, (all.getD k ([], [])).2, pad r (all.getD k ([], [])).1, pad r (all.getD k ([], [])).2, r, true, p0 - (k + 1), all.drop (k + 1), T0 ++ (all.take k).map (padS 25), 0⟩
theorem cln_step {all T0 : List Sht} {p0 k r : Nat} (hk : k < all.length) (hp : all.length ≤ p0) (hr : r < 25) :
    stepP (clnS all T0 p0 k r) 0 = (if r + 1 = 25 then clnS all T0 p0 (k + 1) 0 else clnS all T0 p0 k (r + 1), 0) := by
  obtain ⟨s, hs⟩ : ∃ s, all[k]? = some s := ⟨all[k], by simp [hk]⟩
  have hg : all.getD k ([], []) = s := by rw [List.getD_eq_getElem?_getD, hs]; rfl
  have hd : all.drop k = s :: all.drop (k + 1) := by rw [List.drop_eq_getElem_cons hk]; congr 1; rw [List.getElem?_eq_getElem hk] at hs; exact Option.some.inj hs
  have htk : all.take (k + 1) = all.take k ++ [s] := take_snoc hs
  have hT : takeP (clnS all T0 p0 k r) = (⟨s.1, s.2, pad r s.1, pad r s.2, r, true, p0 - (k + 1), all.drop (k + 1), T0 ++ (all.take k).map (padS 25), 0⟩, 0) := by
    unfold clnS
    by_cases h0 : r = 0
    · subst h0
      rw [if_pos rfl, hd]
      unfold takeP
      simp only [Bool.false_eq_true, if_false]
      rw [if_neg (by omega), pad_zero, pad_zero]
      congr 2
    · rw [if_neg h0, hg]
      rfl
  have hmd : (clnS all T0 p0 k r).mode = 0 := by unfold clnS; split <;> rfl
  unfold stepP
  rw [hmd, if_neg (by decide), if_neg (by decide), hT]
  simp only [ne_eq, not_true_eq_false, if_false, if_true, reduceCtorEq]
  congr 1
  unfold doneP embP emS
  simp only [Nat.lt_irrefl, Nat.zero_lt_two, Nat.one_lt_two, if_true]
  rw [rowD_pad _ hr, rowD_pad _ hr]
  by_cases h25 : r + 1 = 25
  · rw [if_pos h25, if_pos h25]
    unfold layP clnS
    rw [if_pos rfl, htk, List.map_append, h25, ← List.append_assoc]
    rfl
  · rw [if_neg h25, if_neg h25]
    unfold clnS
    rw [if_neg (by omega), hg]
/-- after j rows -/
theorem cln_rows {all T0 : List Sht} {p0 : Nat} (hp : all.length ≤ p0) (j : Nat) (hj : j < 25 * all.length) :
    stepP (clnS all T0 p0 (j / 25) (j % 25)) 0 = (clnS all T0 p0 ((j + 1) / 25) ((j + 1) % 25), 0) := by
  rw [cln_step (by omega) hp (by omega)]
  by_cases h : j % 25 + 1 = 25
  · rw [if_pos h, show (j + 1) / 25 = j / 25 + 1 by omega, show (j + 1) % 25 = 0 by omega]
  · rw [if_neg h, show (j + 1) / 25 = j / 25 by omega, show (j + 1) % 25 = j % 25 + 1 by omega]
theorem cln_end {all T0 : List Sht} {p0 k : Nat} (hk : all.length ≤ k) : stepP (clnS all T0 p0 k 0) 0 = (clnS all T0 p0 k 0, 6) ∧ (clnS all T0 p0 k 0).tray = T0 ++ all.map (padS 25) := by
  unfold clnS
  rw [if_pos rfl, List.drop_of_length_le hk, List.take_of_length_le hk]
  exact ⟨rfl, rfl⟩
theorem cntS_keys {l l' : List Sht} (h : l.map keyS = l'.map keyS) (κ : KeyS) : cntS l κ = cntS l' κ := by
  have e : ∀ l : List Sht, cntS l κ = (l.map keyS).countP (fun x => decide (x = κ)) := fun l => by
    unfold cntS; rw [List.countP_map]; rfl
  rw [e, e, h]
theorem keys_pad {all : List Sht} (h : ∀ s ∈ all, s.1.length ≤ 25 ∧ s.2.length ≤ 25) : (all.map (padS 25)).map keyS = all.map keyS := by
  rw [List.map_map]
  exact List.map_congr_left fun s hs => padS_key (h s hs).1 (h s hs).2
/-- the number of good sheets is the number of sheets taken -/
theorem goodUp_true (all out : List Sht) : ∀ m, (goodUp all out m).1.length = (goodUp all out m).2.countP id
  | 0 => by unfold goodUp; simp [List.countP_replicate]
  | m + 1 => by
    have ih := goodUp_true all out m
    have hlen := (goodUp_len all out m).1
    rw [goodUp]
    cases hp : pickG all (goodUp all out m).2 (out.getD m ([], [])) with
    | none => exact ih
    | some k =>
      obtain ⟨hk, hT, -⟩ := pick_some hp
      simp only
      rw [List.length_append, ih]
      generalize (goodUp all out m).2 = T at *
      have hkl : k < T.length := by omega
      have hf : T[k] = false := by rw [List.getD_eq_getElem?_getD, List.getElem?_eq_getElem hkl] at hT; simpa using hT
      rw [List.countP_set hkl]
      simp [hf]
theorem clean_good {L : List Pgl} (h : ∀ p ∈ L, p.length ≤ 25) : (goodF L ((sheetsL L).map (padS 25))).1.length = (sheetsL L).length ∧ (goodF L ((sheetsL L).map (padS 25))).2 = [] := by
  have hs : ∀ s ∈ sheetsL L, s.1.length ≤ 25 ∧ s.2.length ≤ 25 := fun s hs => by
    obtain ⟨h1, h2⟩ := sheetsL_mem L s hs
    refine ⟨h _ h1, ?_⟩
    rcases h2 with h2 | h2
    · exact h _ h2
    · rw [h2]; simp
  have hall : ∀ k, k < (sheetsL L).length → (goodUp (sheetsL L) ((sheetsL L).map (padS 25)) ((sheetsL L).map (padS 25)).length).2.getD k false = true := fun k hk => by
    refine taken_of_cnt hk ?_
    rw [cntS_keys (keys_pad hs)]
    exact Nat.le_refl _
  have hl := (goodUp_len (sheetsL L) ((sheetsL L).map (padS 25)) ((sheetsL L).map (padS 25)).length).1
  refine ⟨?_, missUp_nil fun k hk => getD_tf (hall k (by rw [sheetsL_len]; omega))⟩
  unfold goodF
  simp only
  rw [goodUp_true]
  generalize (goodUp (sheetsL L) ((sheetsL L).map (padS 25)) ((sheetsL L).map (padS 25)).length).2 = T at *
  rw [List.countP_eq_length.2 fun b hb => by
    obtain ⟨i, hi, rfl⟩ := List.mem_iff_getElem.1 hb
    have := hall i (by omega)
    rw [List.getD_eq_getElem?_getD, List.getElem?_eq_getElem hi] at this
    simpa using this]
  exact hl
end Go.Proofs.Ytdeknimelkdaeaa
end

/- the text PL2 -/
section
/- Chapter 35: the walk of PressClean. -/
set_option linter.unusedVariables false
namespace Go.Proofs.Ytdeknimelkdaeaa
open Go.RowKit Go.Dx Go.Al
theorem Tbs.pgs {w : World} {a : Option Addr} {B n c : Nat} {hs : List Hd} {L : List Pgl} (h : Tbs w hs L) (ho : Own w B 28 1 a n c (hs.map hv)) : Pgs w a n c hs L :=
  ⟨ho.sl, h.len, fun i x p h1 h2 => (h.get i x p h1 h2).pg⟩
theorem load_ok {S : Pr} {L : List Pgl} (hL : ∀ p ∈ L, PF p) (h : S.waiting.length + (L.length + 1) / 2 ≤ 64) : loadP S L = ({ S with waiting := S.waiting ++ sheetsL L }, 0) := by
  unfold loadP
  have h1 : L.any badPg = false := List.any_eq_false.2 fun p hp => by unfold badPg; rw [(hL p hp).fits]; simp
  rw [h1, if_neg (by decide), if_neg (by omega)]
theorem inv_cln {L : List Pgl} {p0 : Nat} (hL : ∀ p ∈ L, PF p) (h64 : (L.length + 1) / 2 ≤ 64) (hp : (sheetsL L).length ≤ p0) (hp2 : p0 ≤ 1000) : ∀ i, i ≤ 25 * (sheetsL L).length → PInv (clnS (sheetsL L) [] p0 (i / 25) (i % 25))
  | 0, _ => by
    have h := inv_load (inv_new hp2) L
    rw [load_ok hL (by show 0 + _ ≤ 64; omega)] at h
    exact h
  | i + 1, hi => by
    have ih := inv_cln hL h64 hp hp2 i (by omega)
    have h := inv_step ih 0
    rw [cln_rows hp i (by omega)] at h
    exact h
theorem PF.p25 {p : Pgl} (h : PF p) : p.length ≤ 25 := h.1
set_option maxRecDepth 100000 in
set_option maxHeartbeats 8000000 in
theorem walk_PressClean (l : List Int) (a : Option Addr) (n c : Nat) (more : Int) (w : World) (hs : Sl w 1 a n c (l.map I64)) (hl : ∀ x ∈ l, -9223372036854775808 ≤ x ∧ x ≤ 9223372036854775807) (hm : -9223372036854775808 ≤ more ∧ more ≤ 9223372036854775807) :
    Calls Try.prog 4 #[.slice a n c, .int .i64 more] w fun e w' => e = .returned (.bool true) ∧ Below w.heap.size w w' := by
  have hpages := ref35_Pages l 7 a n c w hs hl (by omega)
  obtain ⟨v, hv⟩ : ∃ v, aroundF more 3 = v := ⟨_, rfl⟩
  have hv3 : v < 3 := by rw [← hv]; exact aroundF_lt (by omega)
  have har : ∀ w', Calls Try.prog 10 #[.int .i64 more, .int .i64 3] w' fun e w2 => e = .returned (.int .i64 (v : Int)) ∧ w' = w2 := fun w' => Around_at hv rfl (by omega) (by omega) hm.1 hm.2
  clear hs hl hm hv
  go_enter Try.func4, Try.ntmps4
  go_wp2_with (go_at_call 8; refine hpages.mono ?_; rintro e w1 ⟨aL, cL, hsL, L, rfl, hO, hT, hL7, hLF, hb1⟩; refine hold ?_)
  refine hide ?_
  clear hpages
  have HP := hide (hT.pgs hO)
  have HLF := hide hLF
  have hlen := sheetsL_len L
  obtain ⟨N, hN⟩ : ∃ N, Hid (L.length = N) := ⟨_, hide rfl⟩
  obtain ⟨K, hK⟩ : ∃ K, Hid ((sheetsL L).length = K) := ⟨_, hide rfl⟩
  rw [hN.out] at hL7 hlen ⊢
  rw [hK.out] at hlen
  have hd1 : ((N : Int) + 1) / 2 = (K : Int) := by omega
  have hd2 : Int.tdiv ((N : Int) + 1) 2 = (K : Int) := by rw [Int.tdiv_eq_ediv_of_nonneg (by omega)]; exact hd1
  have hK4 : K ≤ 4 := by omega
  have hlenH := hide hlen
  clear hO hT hLF hlen
  obtain ⟨p0, hp0⟩ : ∃ p0, Hid (K + v = p0) := ⟨_, hide rfl⟩
  have hpi : (K : Int) + (v : Int) = (p0 : Int) := by have := hp0.out; omega
  have hp6 : p0 ≤ 6 := by have := hp0.out; omega
  have hpK : K ≤ p0 := by have := hp0.out; omega
  have hnew := pr_New (p0 : Int) p0 w1 rfl (by omega)
  have hnewH := hide hnew
  clear hnew
  go_wp2_with (first
    | (go_at_call 10; refine (har _).mono ?_; rintro e w4 ⟨rfl, rfl⟩)
    | (go_at_call 15; refine hnewH.out.mono ?_; rintro e w2 ⟨g, rfl, A2, hg2, hb2⟩; refine hold ?_))
  refine hide ?_
  have hinv : Hid (∀ i, i ≤ 25 * K → PInv (clnS (sheetsL L) [] p0 (i / 25) (i % 25))) := hide (by
    have := inv_cln (p0 := p0) HLF.out (by rw [hN.out]; have := hlenH.out; omega) (by rw [hK.out]; exact hpK) (by omega)
    rw [hK.out] at this
    exact this)
  have hld : loadP (newP p0) L = (clnS (sheetsL L) [] p0 0 0, 0) := load_ok HLF.out (by rw [hN.out]; show 0 + _ ≤ 64; omega)
  have hload := pr_Load g m0 (newP p0) w2 A2 (Nat.zero_le _) L _ _ _ _ (HP.out.below hb2) (by rw [hN.out]; omega)
  rw [hld, hN.out] at hload
  have hn2 : ∀ b ∈ pfoot g m0, w1.heap.size ≤ b := fun b hm => by
    simp [pfoot, mutB, m0, blk, hb, nilH, hbs] at hm
    rw [hm]
    exact hg2
  have hloadH := hide hload
  clear hload hld A2 har hnewH
  go_wp2_with (go_at_call 16; refine hloadH.out.mono ?_; rintro e w3 ⟨rfl, m3, A3, MV3⟩; refine hold ?_)
  refine hide ?_
  have B3 : Below w1.heap.size w1 w3 := hb2.trans (MV3.blw hb2.size hn2)
  have N3 := MV3.new hb2.size hn2
  have HA3 := hide A3
  clear MV3 hn2 A3 hg2 hb2 hloadH
  obtain ⟨Q, hQ⟩ : ∃ Q, Hid (25 * K = Q) := ⟨_, hide rfl⟩
  have hQi : 25 * (K : Int) = (Q : Int) := by have := hQ.out; omega
  have hQ1 : Q ≤ 100 := by have := hQ.out; omega
  go_wp2_with fail
  go_loopg [9] Q (fun gh v w' => ∃ (i : Nat) (m : PM), i ≤ Q ∧ gh = Q - i ∧ v = .int .i64 (i : Int) ∧ PAt w' g m (clnS (sheetsL L) [] p0 (i / 25) (i % 25)) ∧ Below w1.heap.size w1 w' ∧ (∀ b ∈ pfoot g m, w1.heap.size ≤ b))
  case atStart => exact ⟨0, m3, by omega, by omega, rfl, HA3.out, B3, N3⟩
  case round =>
    clear HA3 B3 N3
    obtain ⟨i, m, hi, hg, rfl, hA, hbB, hnB⟩ := hrel
    have HG2 := hide hg
    have HA := hide hA
    clear hg hA
    have HI := hide (hinv.out i (by rw [hQ.out]; exact hi))
    by_cases hiQ : i < Q
    · have hst : Calls Try.prog 17 #[.pointer (some ⟨g, 0, none⟩), .int .i64 0] wr fun e w' => e = .returned (.int .i64 0) ∧ ∃ m', PAt w' g m' (clnS (sheetsL L) [] p0 ((i + 1) / 25) ((i + 1) % 25)) ∧ Mv wr w' (pfoot g m) (pfoot g m') := by
        have h1 := pr_Step g m _ 0 wr HA.out HI.out (by omega)
        rw [cln_rows (by rw [hK.out]; exact hpK) i (by rw [hK.out, hQ.out]; exact hiQ)] at h1
        exact h1
      have hstH := hide hst
      clear hst
      go_wp2_with (go_at_call 17; refine hstH.out.mono ?_; rintro e w4 ⟨rfl, m4, A4, MV4⟩)
      have B4 := MV4.blw hbB.size hnB
      have N4 := MV4.new hbB.size hnB
      have HA4 := hide A4
      clear MV4 A4 hstH
      go_roundg (Q - (i + 1))
      case measure => have := HG2.out; omega
      case rel => exact ⟨i + 1, m4, by omega, rfl, by go_num, HA4.out, hbB.trans B4, N4⟩
    · obtain rfl : i = Q := by omega
      have hce := cln_end (all := sheetsL L) (T0 := []) (p0 := p0) (k := K) (by rw [hK.out]; exact Nat.le_refl _)
      have hk1 : i / 25 = K := by have := hQ.out; omega
      have hk2 : i % 25 = 0 := by have := hQ.out; omega
      rw [hk1, hk2] at HA HI
      have htl : (clnS (sheetsL L) [] p0 K 0).tray.length = K := by rw [hce.2, List.nil_append, List.length_map, hK.out]
      have hout := hide (pr_Out g m _ wr HA.out HI.out.cts (by rw [htl]; omega))
      rw [htl, hce.2, List.nil_append] at hout
      obtain ⟨hg1, hg2⟩ := clean_good (L := L) fun p hp => (HLF.out p hp).1
      rw [hK.out] at hg1
      have hgl1 := hide hg1
      have hgl2 := hide hg2
      clear hg1 hg2 htl hk1 hk2
      go_wp2_with (go_at_call 18; refine hout.out.mono ?_; rintro e w6 ⟨a6, c6, ws6, rfl, S6, hb6⟩; refine hold ?_)
      refine hide ?_
      have hB6 : Below w1.heap.size w1 w6 := hbB.trans (hb6.mono hbB.size)
      have hgood := hide (pr_Good L _ ((sheetsL L).map (padS 25)) ws6 _ a6 _ _ _ c6 w6 (HP.out.below hB6) S6.shp (fun p hp => ⟨(HLF.out p hp).sm.cp, (HLF.out p hp).sm.1⟩)
        (fun s hs => by
          obtain ⟨s', -, rfl⟩ := List.mem_map.1 hs
          unfold padS
          simp only [pad_len]
          exact ⟨by omega, by omega⟩) (by rw [hN.out]; omega) (by rw [List.length_map, hK.out]; omega))
      rw [hgl1.out, hgl2.out, hN.out] at hgood
      have HA6 := hide (HA.out.below hb6)
      clear hout S6 HA
      go_wp2_with (go_at_call 11; refine hgood.out.mono ?_; rintro e w7 ⟨ag, cg, am, cm, rfl, hs7, ht7, hb7⟩; refine hold ?_)
      refine hide ?_
      have hB7 : Below w1.heap.size w1 w7 := hB6.trans (hb7.mono hB6.size)
      have hst : Hid (Calls Try.prog 17 #[.pointer (some ⟨g, 0, none⟩), .int .i64 0] w7 fun e w' => e = .returned (.int .i64 6) ∧ Below w1.heap.size w1 w') := hide (by
        have h1 := pr_Step g m _ 0 w7 (HA6.out.below hb7) HI.out (by omega)
        rw [hce.1] at h1
        refine h1.mono ?_
        rintro e w' ⟨rfl, m', A', MV'⟩
        exact ⟨rfl, hB7.trans (MV'.blw hB7.size hnB)⟩)
      have hlv := fun w' => law35_lives w'
      clear hgood hs7 ht7 HA6 hnB hb6 hb7 hce
      go_wp2_with (first
        | (go_at_call 17; refine hst.out.mono ?_; rintro e w8 ⟨rfl, hb8⟩)
        | (go_at_call 14; refine (hlv _).mono ?_; rintro e w9 ⟨rfl, hb9⟩))
      go_ret
      exact ⟨rfl, hb1.trans ((hb8.trans (hb9.mono hb8.size)).mono hb1.size)⟩
end Go.Proofs.Ytdeknimelkdaeaa
end

/- the text AppF -/
section
/- The laws on append once more: the block that is handed back is the old one or a new one. No program in sight. -/
set_option linter.unusedVariables false
namespace Go.Dx
open Go.RowKit
section laws
variable {P : Program} {w : World} {ops : Array Oper} {rest : List Oper} {o : Oper} {act : Act} {Q : Exit → Act → World → Prop}
theorem run_append_fresh (base : Nat) (t tx ty e : TypeId) (i : TypeInfo) (z : Value) (ht : P.underlying t = some (.slice e)) (hi : P.info? e = some i) (hz : i.zero = some z)
    (hzs : z.cells.size = i.size) (a : Option Addr) (n c : Nat) (xs : List Value) (hown : Own w base e i.size a n c xs)
    (x : Value) (m : Nat) (news : List Value) (hs : Src P i.size tx x m news w)
    (h63 : n + m ≤ maxLen) (hbytes : (n + m) * i.bytes ≤ 140737488355328) (hbase : base ≤ w.heap.size) :
    ∃ a' c' w', (Builtin.append_ #[t, tx] ty #[.slice a n c, x]).run P w = .ok (.slice a' (n + m) c') w' ∧ Own w' base e i.size a' (n + m) c' (xs ++ news) ∧ w.grownBy w' (a.map (·.block)) ∧ (∀ p, a' = some p → (∃ q, a = some q ∧ q.block = p.block) ∨ w.heap.size ≤ p.block) := by
  have hsmall : n + m ≤ 9223372036854775807 := by simp only [maxLen] at h63; omega
  have hlen : (xs ++ news).length = (n + m) * i.size := by rw [List.length_append, hown.1, hs.newsLen, Nat.add_mul]
  have hold : (Builtin.firstCells i.size n (.slice a n c)).run P w.drew = .ok xs.toArray w.drew := by
    have hsl := hown.sl
    cases a with
    | none =>
      have := hsl.nil rfl
      have := hsl.le
      obtain rfl : n = 0 := by omega
      have hnews : xs = [] := List.eq_nil_of_length_eq_zero (by simpa using hsl.len)
      subst hnews
      exact run_firstCells_none w.drew i.size 0 0 c
    | some p => exact run_firstCells_some w.drew i.size n p n c xs hsl.len (by simpa using hsl.cell p rfl)
  by_cases hroom : n + m ≤ c
  · rcases hown.2 with ⟨h1, h2⟩ | ⟨g, cap, cur, h1, hbg, hg, hnc, hcm, hcs, htake⟩
    · injection h1 with h1 h3 h4
      subst h1 h3 h4
      obtain rfl : m = 0 := by omega
      have hx : xs = [] := List.eq_nil_of_length_eq_zero (by simpa using hown.1)
      have hnews : news = [] := List.eq_nil_of_length_eq_zero (by simpa using hs.newsLen)
      subst hx hnews
      refine ⟨none, 0, w, ?_, Own.nil w base e i.size, World.grownBy.refl _ _, fun p hp => by cases hp⟩
      rcases hs.kind with ⟨e', hk⟩ | hk <;> simp [Builtin.append_, run_underlying ht, run_underlying hk, sizeOf, typeInfo, hi, hs.len, hs.cells]
    · injection h1 with h1 h3 h4
      subst h1 h4
      have hfit : n * i.size + news.length ≤ cur.size := by rw [hs.newsLen, hcs, ← Nat.add_mul]; exact Nat.mul_le_mul_right _ hroom
      have hst := run_storeCells_at P g (n * i.size) e news 0 cur w hg (by simpa using hfit) hs.one
      simp only [Nat.add_zero] at hst
      refine ⟨some ⟨g, 0, none⟩, c, w.setRow g (cur.toList.take (n * i.size) ++ news ++ cur.toList.drop (n * i.size + news.length)).toArray, ?_, ⟨hlen, .inr ⟨g, c, _, rfl, hbg, setRow_heap w g cur _ e _ hg, hroom, hcm, ?_, ?_⟩⟩, ⟨rfl, rfl, rfl, by simp, fun k _ hk => setRow_other w g k _ (fun e => hk (by simp [e]))⟩, fun p hp => by cases hp; exact .inl ⟨_, rfl, rfl⟩⟩
      · rcases hs.kind with ⟨e', hk⟩ | hk <;> simp [Builtin.append_, run_underlying ht, run_underlying hk, sizeOf, typeInfo, hi, hs.len, hroom, hs.cells, Addr.add_lit, hst]
      · simp only [List.size_toArray, List.length_append, List.length_take, List.length_drop, Array.length_toList]
        omega
      · rw [htake, ← hlen]
        exact List.take_left
  · have hr := run_append_grow_src (P := P) w t tx ty e i z ht hi hz a n c xs hold x m news hs (by omega) (by omega) (growslice_fits (by omega) hbytes)
    have hge := grownCap_ge w (n + m) c e
    have hcm : grownCap w (n + m) c e ≤ maxLen := grownCap_le_maxLen w (n + m) c e h63
    refine ⟨_, _, _, hr, ⟨hlen, .inr ⟨w.heap.size, _, _, rfl, hbase, heap_alloc_new w.drew _, hge, hcm, ?_, ?_⟩⟩, ⟨rfl, rfl, rfl, by simp, fun k hk _ => Below.heap_alloc w.drew _ k hk⟩, fun p hp => by cases hp; exact .inr (Nat.le_refl _)⟩
    · simp only [Array.size_append, List.size_toArray, size_zeroCells, hzs, hlen, ← Nat.add_mul]
      congr 1
      omega
    · simp only [Array.toList_append, List.append_assoc]
      rw [← List.append_assoc, ← hlen]
      exact List.take_left

/-- 'append(out, x...)', out owned, whatever x is: the general law. -/
theorem append_src_f (hg : o.guard = none) (s x : Operand) (t tx : TypeId) (hop : o.op = Op.call { callee := Callee.builtin Builtin.append, args := #[s, x], argTypes := #[t, tx] })
    (e : TypeId) (z : Value) (sz bytes : Nat) (ht : P.underlying t = some (.slice e)) (hi : (P.info? e).map (fun i => (i.zero, i.size, i.bytes)) = some (some z, sz, bytes)) (hz : z.cells.size = sz)
    (w0 : World) (B : Nat) (a : Option Addr) (n c : Nat) (xs : List Value) (hs : act.eval s = .slice a n c) (hown : Own w B e sz a n c xs)
    (v : Value) (m : Nat) (ys : List Value) (hx : act.eval x = v) (hy : Src P sz tx v m ys w)
    (hn : (n + m) * bytes ≤ 140737488355328) (hn2 : n + m ≤ maxLen) (hB : B ≤ w.heap.size) (hbel : Below B w0 w)
    (hK : ∀ a' c' w', Own w' B e sz a' (n + m) c' (xs ++ ys) → w.grownBy w' (a.map (·.block)) → (∀ p, a' = some p → (∃ q, a = some q ∧ q.block = p.block) ∨ w.heap.size ≤ p.block) → Below B w0 w' → wpList P ops Q rest (act.put o.dst (.slice a' (n + m) c')) w') :
    wpList P ops Q (o :: rest) act w := by
  obtain ⟨i, hi0, hz0, hz1, hz2⟩ := info_parts hi
  subst hz1 hz2
  clear hi
  obtain ⟨a', c', w', hrun, ho, hgr, hfr⟩ := run_append_fresh B t tx o.type e i z ht hi0 hz0 hz a n c xs hown v m ys hy hn2 hn hB
  refine wpList_plain hg fun K hK' => ?_
  unfold Oper.wp
  simp [execOp, hop, resolve, invoke, builtin, hs, hx, hrun, Result.andThen]
  refine hK' _ _ (hK a' c' w' ho hgr hfr (hbel.grown hgr hB ?_))
  intro k hk
  cases a with
  | none => cases hk
  | some p => injection hk with hk; subst hk; exact hown.base.1

/-- 'append(out, ys...)', out owned, ys a slice. -/
theorem append_own_f (hg : o.guard = none) (s x : Operand) (t : TypeId) (hop : o.op = Op.call { callee := Callee.builtin Builtin.append, args := #[s, x], argTypes := #[t, t] })
    (e : TypeId) (z : Value) (sz bytes : Nat) (ht : P.underlying t = some (.slice e)) (hi : (P.info? e).map (fun i => (i.zero, i.size, i.bytes)) = some (some z, sz, bytes)) (hz : z.cells.size = sz)
    (w0 : World) (B : Nat) (a : Option Addr) (n c : Nat) (xs : List Value) (hs : act.eval s = .slice a n c) (hown : Own w B e sz a n c xs)
    (a2 : Option Addr) (m c2 : Nat) (ys : List Value) (hx : act.eval x = .slice a2 m c2) (hy : Sl w sz a2 m c2 ys) (h1 : ∀ u ∈ ys, u.oneCell' = true)
    (hn : (n + m) * bytes ≤ 140737488355328) (hn2 : n + m ≤ maxLen) (hB : B ≤ w.heap.size) (hbel : Below B w0 w)
    (hK : ∀ a' c' w', Own w' B e sz a' (n + m) c' (xs ++ ys) → w.grownBy w' (a.map (·.block)) → (∀ p, a' = some p → (∃ q, a = some q ∧ q.block = p.block) ∨ w.heap.size ≤ p.block) → Below B w0 w' → wpList P ops Q rest (act.put o.dst (.slice a' (n + m) c')) w') :
    wpList P ops Q (o :: rest) act w :=
  append_src_f hg s x t t hop e z sz bytes ht hi hz w0 B a n c xs hs hown _ m ys hx (hy.src ht h1) hn hn2 hB hbel hK

theorem append_lit_f (hg : o.guard = none) (s x : Operand) (t : TypeId) (hop : o.op = Op.call { callee := Callee.builtin Builtin.append, args := #[s, x], argTypes := #[t, t] })
    (e : TypeId) (z : Value) (sz bytes : Nat) (ht : P.underlying t = some (.slice e)) (hi : (P.info? e).map (fun i => (i.zero, i.size, i.bytes)) = some (some z, sz, bytes)) (hz : z.cells.size = sz)
    (w0 : World) (B : Nat) (a : Option Addr) (n c : Nat) (xs : List Value) (hs : act.eval s = .slice a n c) (hown : Own w B e sz a n c xs)
    (m : Nat) (us : List Value) (hx : act.eval x = .slice (some ⟨w.heap.size, 0, none⟩) m m) (hu : us.length = m * sz) (h1 : ∀ u ∈ us, u.oneCell' = true)
    (hn : (n + m) * bytes ≤ 140737488355328) (hn2 : n + m ≤ maxLen) (hB : B ≤ w.heap.size) (hbel : Below B w0 w)
    (hK : ∀ a' c' w', Own w' B e sz a' (n + m) c' (xs ++ us) → w.grownBy w' (a.map (·.block)) → (∀ p, a' = some p → (∃ q, a = some q ∧ q.block = p.block) ∨ w.heap.size ≤ p.block) → Below B w0 w' → wpList P ops Q rest (act.put o.dst (.slice a' (n + m) c')) w') :
    wpList P ops Q (o :: rest) act (w.alloc (.cells us.toArray e)) := by
  refine append_own_f hg s x t hop e z sz bytes ht hi hz w0 B a n c xs hs (hown.alloc _) _ m m us hx ?_ h1 hn hn2 (by simp; omega) (hbel.alloc hB _) ?_
  · have := (Own.built w 0 e sz m us.toArray (Nat.zero_le _) (by simpa using hu) (by omega)).sl
    simpa using this
  · intro a' c' w' ho hgr hfr hb
    refine hK a' c' w' ho ⟨hgr.os, hgr.tape, hgr.output, ?_, ?_⟩ (fun p hp => (hfr p hp).imp id (fun h => by simp at h; omega)) hb
    · have := hgr.size; simp at this; omega
    · intro k hk hne
      rw [hgr.block k (by simp; omega) hne]
      rw [Below.heap_alloc _ _ _ hk]
end laws
end Go.Dx
end

/- the text AppN -/
section
/- The law on 'append([]T{}, xs...)': what is handed back is the empty slice or lies in a new block. No program in sight. -/
set_option linter.unusedVariables false
set_option linter.unusedSimpArgs false
namespace Go.Dx
open Go.RowKit
section ops
variable {P : Program} {w : World} {ops : Array Oper} {rest : List Oper} {o : Oper} {act : Act} {Q : Exit → Act → World → Prop}
theorem run_append_empty (B : Nat) (t tx ty e : TypeId) (i : TypeInfo) (z : Value) (ht : P.underlying t = some (.slice e)) (hi : P.info? e = some i) (hz : i.zero = some z)
    (hzs : z.cells.size = i.size) (a : Option Addr) (hown : Own w B e i.size a 0 0 [])
    (x : Value) (m : Nat) (news : List Value) (hs : Src P i.size tx x m news w)
    (h63 : m ≤ maxLen) (hbytes : m * i.bytes ≤ 140737488355328) (hB : B ≤ w.heap.size) :
    ∃ a' c' w', (Builtin.append_ #[t, tx] ty #[.slice a 0 0, x]).run P w = .ok (.slice a' m c') w' ∧ Own w' B e i.size a' m c' news ∧ Below w.heap.size w w' ∧ (m = 0 ∧ c' = 0 ∨ m ≠ 0 ∧ ∀ p, a' = some p → w.heap.size ≤ p.block) := by
  have hsmall : m ≤ 9223372036854775807 := by simp only [maxLen] at h63; omega
  have hlen : news.length = m * i.size := hs.newsLen
  have hold : (Builtin.firstCells i.size 0 (.slice a 0 0)).run P w.drew = .ok ([] : List Value).toArray w.drew := by
    cases a with
    | none => exact run_firstCells_none w.drew i.size 0 0 0
    | some p => exact run_firstCells_some w.drew i.size 0 p 0 0 [] (by simp) (fun j u hj => by simp at hj)
  by_cases hm : m = 0
  · subst hm
    have hnews : news = [] := List.eq_nil_of_length_eq_zero (by simpa using hs.newsLen)
    subst hnews
    refine ⟨a, 0, w, ?_, hown, Below.refl _ _, .inl ⟨rfl, rfl⟩⟩
    cases a with
    | none =>
      rcases hs.kind with ⟨e', hk⟩ | hk <;> simp [Builtin.append_, run_underlying ht, run_underlying hk, sizeOf, typeInfo, hi, hs.len, hs.cells]
    | some p =>
      have hst : ∀ q : Addr, (storeCells q ([] : List Value)).run P w = .ok () w := by intro q; simp [storeCells]
      rcases hs.kind with ⟨e', hk⟩ | hk <;> simp [Builtin.append_, run_underlying ht, run_underlying hk, sizeOf, typeInfo, hi, hs.len, hs.cells, hst]
  · have hr := run_append_grow_src (P := P) w t tx ty e i z ht hi hz a 0 0 [] hold x m news hs (by omega) (by omega) (growslice_fits (by omega) (by rw [Nat.zero_add]; exact hbytes))
    have hge := grownCap_ge w (0 + m) 0 e
    have hcm : grownCap w (0 + m) 0 e ≤ maxLen := grownCap_le_maxLen w (0 + m) 0 e (by rw [Nat.zero_add]; exact h63)
    rw [Nat.zero_add] at hr hge hcm
    refine ⟨_, _, _, hr, ⟨hlen, .inr ⟨w.heap.size, _, _, rfl, hB, heap_alloc_new w.drew _, hge, hcm, ?_, ?_⟩⟩, undrew (Below.alloc (Below.refl w.heap.size w.drew) (Nat.le_refl w.heap.size) _), .inr ⟨hm, fun p hp => by cases hp; exact Nat.le_refl _⟩⟩
    · simp only [Array.size_append, List.size_toArray, size_zeroCells, hzs, List.nil_append, hlen, ← Nat.add_mul]
      congr 1
      omega
    · simp only [Array.toList_append, List.nil_append]
      rw [← hlen]
      exact List.take_left
/-- 'append([]T{}, xs...)' -/
theorem append_empty (hg : o.guard = none) (s x : Operand) (t : TypeId) (hop : o.op = Op.call { callee := Callee.builtin Builtin.append, args := #[s, x], argTypes := #[t, t] })
    (e : TypeId) (z : Value) (sz bytes : Nat) (ht : P.underlying t = some (.slice e)) (hi : (P.info? e).map (fun i => (i.zero, i.size, i.bytes)) = some (some z, sz, bytes)) (hz : z.cells.size = sz)
    (B : Nat) (a : Option Addr) (hs : act.eval s = .slice a 0 0) (hown : Own w B e sz a 0 0 [])
    (a2 : Option Addr) (m c2 : Nat) (ys : List Value) (hx : act.eval x = .slice a2 m c2) (hy : Sl w sz a2 m c2 ys) (h1 : ∀ u ∈ ys, u.oneCell' = true)
    (hn : m * bytes ≤ 140737488355328) (hn2 : m ≤ maxLen) (hB : B ≤ w.heap.size)
    (hK : ∀ a' c' w', Own w' B e sz a' m c' ys → Below w.heap.size w w' → (m = 0 ∧ c' = 0 ∨ m ≠ 0 ∧ ∀ p, a' = some p → w.heap.size ≤ p.block) → wpList P ops Q rest (act.put o.dst (.slice a' m c')) w') :
    wpList P ops Q (o :: rest) act w := by
  obtain ⟨i, hi0, hz0, hz1, hz2⟩ := info_parts hi
  subst hz1 hz2
  clear hi
  obtain ⟨a', c', w', hrun, ho, hgr, hfr⟩ := run_append_empty B t t o.type e i z ht hi0 hz0 hz a hown _ m ys (hy.src ht h1) hn2 hn hB
  refine wpList_plain hg fun K hK' => ?_
  unfold Oper.wp
  simp [execOp, hop, resolve, invoke, builtin, hs, hx, hrun, Result.andThen]
  exact hK' _ _ (hK a' c' w' ho hgr hfr)
/-- 'append(out, ys...)', out owned: either all that lay there stays, or there is room and the block of out grows in place. -/
theorem run_append_where (base : Nat) (t tx ty e : TypeId) (i : TypeInfo) (z : Value) (ht : P.underlying t = some (.slice e)) (hi : P.info? e = some i) (hz : i.zero = some z)
    (hzs : z.cells.size = i.size) (a : Option Addr) (n c : Nat) (xs : List Value) (hown : Own w base e i.size a n c xs)
    (x : Value) (m : Nat) (news : List Value) (hs : Src P i.size tx x m news w)
    (h63 : n + m ≤ maxLen) (hbytes : (n + m) * i.bytes ≤ 140737488355328) (hbase : base ≤ w.heap.size) :
    ∃ a' c' w', (Builtin.append_ #[t, tx] ty #[.slice a n c, x]).run P w = .ok (.slice a' (n + m) c') w' ∧ Own w' base e i.size a' (n + m) c' (xs ++ news) ∧ w.grownBy w' (a.map (·.block)) ∧ (n + m ≤ c ∨ Below w.heap.size w w') := by
  obtain ⟨a', c', w', h1, h2, h3, _⟩ := run_append_fresh base t tx ty e i z ht hi hz hzs a n c xs hown x m news hs h63 hbytes hbase
  by_cases hroom : n + m ≤ c
  · exact ⟨a', c', w', h1, h2, h3, .inl hroom⟩
  · have hsmall : n + m ≤ 9223372036854775807 := by simp only [maxLen] at h63; omega
    have hold : (Builtin.firstCells i.size n (.slice a n c)).run P w.drew = .ok xs.toArray w.drew := by
      have hsl := hown.sl
      cases a with
      | none =>
        have := hsl.nil rfl
        have := hsl.le
        obtain rfl : n = 0 := by omega
        have hnews : xs = [] := List.eq_nil_of_length_eq_zero (by simpa using hsl.len)
        subst hnews
        exact run_firstCells_none w.drew i.size 0 0 c
      | some p => exact run_firstCells_some w.drew i.size n p n c xs hsl.len (by simpa using hsl.cell p rfl)
    have hr := run_append_grow_src (P := P) w t tx ty e i z ht hi hz a n c xs hold x m news hs (by omega) (by omega) (growslice_fits (by omega) hbytes)
    rw [hr] at h1
    cases h1
    exact ⟨_, _, _, hr, h2, h3, .inr (undrew (Below.alloc (Below.refl w.heap.size w.drew) (Nat.le_refl w.heap.size) _))⟩
theorem append_where (hg : o.guard = none) (s x : Operand) (t : TypeId) (hop : o.op = Op.call { callee := Callee.builtin Builtin.append, args := #[s, x], argTypes := #[t, t] })
    (e : TypeId) (z : Value) (sz bytes : Nat) (ht : P.underlying t = some (.slice e)) (hi : (P.info? e).map (fun i => (i.zero, i.size, i.bytes)) = some (some z, sz, bytes)) (hz : z.cells.size = sz)
    (B : Nat) (a : Option Addr) (n c : Nat) (xs : List Value) (hs : act.eval s = .slice a n c) (hown : Own w B e sz a n c xs)
    (a2 : Option Addr) (m c2 : Nat) (ys : List Value) (hx : act.eval x = .slice a2 m c2) (hy : Sl w sz a2 m c2 ys) (h1 : ∀ u ∈ ys, u.oneCell' = true)
    (hn : (n + m) * bytes ≤ 140737488355328) (hn2 : n + m ≤ maxLen) (hB : B ≤ w.heap.size)
    (hK : ∀ a' c' w', Own w' B e sz a' (n + m) c' (xs ++ ys) → w.grownBy w' (a.map (·.block)) → (n + m ≤ c ∨ Below w.heap.size w w') → wpList P ops Q rest (act.put o.dst (.slice a' (n + m) c')) w') :
    wpList P ops Q (o :: rest) act w := by
  obtain ⟨i, hi0, hz0, hz1, hz2⟩ := info_parts hi
  subst hz1 hz2
  clear hi
  obtain ⟨a', c', w', hrun, ho, hgr, hfr⟩ := run_append_where B t t o.type e i z ht hi0 hz0 hz a n c xs hown _ m ys (hy.src ht h1) hn2 hn hB
  refine wpList_plain hg fun K hK' => ?_
  unfold Oper.wp
  simp [execOp, hop, resolve, invoke, builtin, hs, hx, hrun, Result.andThen]
  exact hK' _ _ (hK a' c' w' ho hgr hfr)
end ops
end Go.Dx
end

/- the text P26 -/
section
/- Chapter 35: pages made of literals and of other pages. -/
set_option linter.unusedVariables false
namespace Go.Proofs.Ytdeknimelkdaeaa
open Go.RowKit Go.Dx Go.Al
section
variable {w : World} {ops : Array Oper} {rest : List Oper} {act : Act} {Q : Exit → Act → World → Prop} {ty : TypeId} {pos : String} {after : Array Edge}
theorem hv_one (ys : List Hd) : ∀ u ∈ ys.map hv, u.oneCell' = true := fun u hu => by
  obtain ⟨y, -, rfl⟩ := List.mem_map.1 hu
  rfl
theorem build_nil (d : Nat) (hK : ∀ w', Box w' w.heap.size 31 [] → Below w.heap.size w w' → wpList Try.prog ops Q rest (act.put (some d) (.slice (some ⟨w.heap.size, 0, none⟩) 0 0)) w') :
    wpList Try.prog ops Q ({ dst := some d, op := .buildSlice 28 0 #[], type := ty, pos := pos, after := after, guard := none } :: rest) act w := by
  refine wpList_plain rfl fun K hK' => ?_
  unfold Oper.wp
  have hrun : (Instr.buildSlice 28 0 #[]).run Try.prog w = .ok (.slice (some ⟨w.heap.size, 0, none⟩) 0 0) (w.alloc (.cells #[] 31)) := by kernel_rfl
  simp [execOp, hrun, Result.andThen]
  exact hK' _ _ (hK _ (Box.new w 31 #[]) (sblo w _))
theorem build_u8 (d : Nat) (x : Operand) (v : Int) (hx : act.eval x = .int .u8 v) (hK : ∀ w', Box w' w.heap.size 5 [.int .u8 v] → Below w.heap.size w w' → wpList Try.prog ops Q rest (act.put (some d) (.slice (some ⟨w.heap.size, 0, none⟩) 1 1)) w') :
    wpList Try.prog ops Q ({ dst := some d, op := .buildSlice 31 1 #[(0, x)], type := ty, pos := pos, after := after, guard := none } :: rest) act w :=
  build_one d 31 x 5 Try.underlying31 (.int .u8 0) 1 1 info_u8 rfl (by decide) (by decide) _ [.int .u8 v] hx rfl rfl (hK _ (Box.new w 5 #[.int .u8 v]) (sblo w _))
theorem build_row1 (d : Nat) (x : Operand) (a : Option Addr) (n c : Nat) (hx : act.eval x = .slice a n c) (hK : ∀ w', Box w' w.heap.size 31 [.slice a n c] → Below w.heap.size w w' → wpList Try.prog ops Q rest (act.put (some d) (.slice (some ⟨w.heap.size, 0, none⟩) 1 1)) w') :
    wpList Try.prog ops Q ({ dst := some d, op := .buildSlice 28 1 #[(0, x)], type := ty, pos := pos, after := after, guard := none } :: rest) act w :=
  build_one d 28 x 31 Try.underlying28 (.slice none 0 0) 1 24 info_row rfl (by decide) (by decide) _ [.slice a n c] hx rfl rfl (hK _ (Box.new w 31 #[.slice a n c]) (sblo w _))
theorem build_row2 (d : Nat) (x : Operand) (a : Option Addr) (n c : Nat) (hx : act.eval x = .slice a n c) (hK : ∀ w', Box w' w.heap.size 31 [.slice none 0 0, .slice a n c] → Below w.heap.size w w' → wpList Try.prog ops Q rest (act.put (some d) (.slice (some ⟨w.heap.size, 0, none⟩) 2 2)) w') :
    wpList Try.prog ops Q ({ dst := some d, op := .buildSlice 28 2 #[(0, .const (.slice none 0 0)), (1, x)], type := ty, pos := pos, after := after, guard := none } :: rest) act w := by
  refine wpList_plain rfl fun K hK' => ?_
  unfold Oper.wp
  have hrun : (Instr.buildSlice 28 2 #[(0, .slice none 0 0), (1, .slice a n c)]).run Try.prog w = .ok (.slice (some ⟨w.heap.size, 0, none⟩) 2 2) (w.alloc (.cells #[.slice none 0 0, .slice a n c] 31)) := by kernel_rfl
  have he : act.eval (.const (.slice none 0 0)) = .slice none 0 0 := rfl
  simp [execOp, he, hx, hrun, Result.andThen]
  exact hK' _ _ (hK _ (Box.new w 31 #[.slice none 0 0, .slice a n c]) (sblo w _))
end
section
variable {w : World} {ops : Array Oper} {rest : List Oper} {o : Oper} {act : Act} {Q : Exit → Act → World → Prop}
/-- 'append(api.Page{}, p...)' -/
theorem app_pg_e (hg : o.guard = none) (s x : Operand) (hop : o.op = Op.call { callee := Callee.builtin Builtin.append, args := #[s, x], argTypes := #[28, 28] })
    (B : Nat) (b : Nat) (hs : act.eval s = .slice (some ⟨b, 0, none⟩) 0 0) (hx0 : Box w b 31 []) (hB : B ≤ b)
    (a2 : Option Addr) (m c2 : Nat) (ys : List Hd) (hx : act.eval x = .slice a2 m c2) (hy : Sl w 1 a2 m c2 (ys.map hv)) (hn : m ≤ 5000000000000)
    (hK : ∀ a' c' w', Own w' B 31 1 a' m c' (ys.map hv) → Below w.heap.size w w' → (m = 0 ∧ c' = 0 ∨ m ≠ 0 ∧ ∀ p, a' = some p → w.heap.size ≤ p.block) → wpList Try.prog ops Q rest (act.put o.dst (.slice a' m c')) w') :
    wpList Try.prog ops Q (o :: rest) act w := by
  refine append_empty hg s x 28 hop 31 (.slice none 0 0) 1 24 Try.underlying28 info_row rfl B (some ⟨b, 0, none⟩) hs (own_of_box hx0 rfl (Nat.zero_le _) hB) a2 m c2 _ hx hy (hv_one ys) (by omega) (by unfold maxLen; omega) (Nat.le_trans hB (Nat.le_of_lt hx0.lt)) ?_
  intro a' c' w' h1 h2 h3
  exact hK a' c' w' h1 h2 h3
/-- 'append(p, q...)' on rows -/
theorem app_pgS (hg : o.guard = none) (s x : Operand) (hop : o.op = Op.call { callee := Callee.builtin Builtin.append, args := #[s, x], argTypes := #[28, 28] })
    (B : Nat) (a : Option Addr) (n c : Nat) (xs : List Hd) (hs : act.eval s = .slice a n c) (hown : Own w B 31 1 a n c (xs.map hv)) (hB : B ≤ w.heap.size)
    (a2 : Option Addr) (m c2 : Nat) (ys : List Hd) (hx : act.eval x = .slice a2 m c2) (hy : Sl w 1 a2 m c2 (ys.map hv)) (hn : n + m ≤ 5000000000000)
    (hK : ∀ a' c' w', Own w' B 31 1 a' (n + m) c' ((xs ++ ys).map hv) → w.grownBy w' (a.map (·.block)) → (n + m ≤ c ∨ Below w.heap.size w w') → wpList Try.prog ops Q rest (act.put o.dst (.slice a' (n + m) c')) w') :
    wpList Try.prog ops Q (o :: rest) act w := by
  refine append_where hg s x 28 hop 31 (.slice none 0 0) 1 24 Try.underlying28 info_row rfl B a n c _ hs hown a2 m c2 _ hx hy (hv_one ys) (by omega) (by unfold maxLen; omega) hB ?_
  intro a' c' w' h1 h2 h3
  exact hK a' c' w' (by rw [List.map_append]; exact h1) h2 h3
end
theorem tab_app {w w' : World} {B n c : Nat} {a : Option Addr} {hs zs : List Hd} {p q : Pgl} (hR : Rows w hs p) (b : Below w.heap.size w w') (ho : Own w' B 31 1 a n c ((hs ++ zs).map hv)) (hz : Rows w' zs q) : Tab w' (a, n, c) (p ++ q) :=
  ⟨hs ++ zs, ho.mono (Nat.zero_le _), (hR.below b).append hz⟩
theorem row_of_box {w : World} {g : Nat} {v : Nat} (h : Box w g 5 [.int .u8 (v : Int)]) (hv : v < 256) : Rows w [(some ⟨g, 0, none⟩, 1, 1)] [[UInt8.ofNat v]] := by
  refine Rows.one ?_ ?_
  · have := h.sl_al rfl (by simp [maxLen])
    show Sl w 1 _ 1 1 [B8 (UInt8.ofNat v)]
    rw [show B8 (UInt8.ofNat v) = .int .u8 (v : Int) by show Value.int .u8 ((UInt8.ofNat v).toNat : Int) = _; rw [UInt8.toNat_ofNat', Nat.mod_eq_of_lt hv]]
    exact this
  · intro q hq
    cases hq
    exact ⟨_, _, h⟩
theorem below_app {w w9 w10 : World} {a : Option Addr} {n m c : Nat} {B : Nat} {e : TypeId} {cs : List Value} (hb : Below w.heap.size w w9) (hg : w9.grownBy w10 (a.map (·.block))) (hz : n + m ≤ c ∨ Below w9.heap.size w9 w10) (hm : 0 < m) (hf : n = 0 ∧ c = 0 ∨ n ≠ 0 ∧ ∀ p, a = some p → w.heap.size ≤ p.block) : Below w.heap.size w w10 := by
  rcases hz with h | h
  · rcases hf with ⟨h0, h1⟩ | ⟨h0, h1⟩
    · omega
    · refine hb.grown hg hb.size (fun b hb' => ?_)
      cases a with
      | none => cases hb'
      | some q => simp at hb'; subst hb'; exact h1 q rfl
  · exact hb.trans (h.mono hb.size)
/-- a step that writes behind the rows of a page of its own alone -/
def RP1 (w5 : World) (K : Nat) (u u' : World) : Prop := ∃ X : Option Nat, u.grownBy u' X ∧ ∀ b, X = some b → w5.heap.size ≤ b ∧ ∃ cur, u.heap[b]? = some (.cells cur 31 (0, 0)) ∧ K ≤ cur.size
theorem RP1.of (w5 : World) (K : Nat) (u u' : World) (h : Below u.heap.size u u') : RP1 w5 K u u' := ⟨none, grown_of_below h none, fun b h => by cases h⟩
theorem RP1.box {w5 u u' : World} {K b : Nat} {t : TypeId} {cs : List Value} (h : RP1 w5 K u u') (hx : Box u b t cs) (ht : t ≠ 31 ∨ cs.length < K) : Box u' b t cs := by
  obtain ⟨X, hg, hX⟩ := h
  refine hx.grown hg (fun e => ?_)
  obtain ⟨-, cur, hc, hK⟩ := hX b e.symm
  have h2 : u.heap[b]? = _ := hx
  rw [h2] at hc
  injection hc with hc
  injection hc with h3 h4
  rcases ht with ht | ht
  · exact ht h4
  · rw [← h3] at hK
    simp at hK
    omega
def NilF (w5 : World) (vs : List Value) (w : World) : Prop := ∃ b, vs = [.slice (some ⟨b, 0, none⟩) 0 0] ∧ Box w b 31 [] ∧ w5.heap.size ≤ b
def RowF (v : Int) (vs : List Value) (w : World) : Prop := ∃ b, vs = [.slice (some ⟨b, 0, none⟩) 1 1] ∧ Box w b 5 [.int .u8 v]
def RowsF (v : Int) (vs : List Value) (w : World) : Prop := ∃ b gR, vs = [.slice (some ⟨b, 0, none⟩) 2 2] ∧ Box w b 31 [.slice none 0 0, .slice (some ⟨gR, 0, none⟩) 1 1] ∧ Box w gR 5 [.int .u8 v]
def GP1 (w5 : World) (B n : Nat) (xs : List Hd) (j : Nat) (vs : List Value) (w : World) : Prop :=
  Below w5.heap.size w5 w ∧ (j = 1 → ∃ a c, vs.getD 0 undef = .slice a n c ∧ Own w B 31 1 a n c (xs.map hv) ∧ (n = 0 ∧ c = 0 ∨ n ≠ 0 ∧ ∀ p, a = some p → w5.heap.size ≤ p.block)) ∧
  (2 ≤ j → ∃ a c gR, vs.getD 1 undef = .slice a (n + 2) c ∧ Own w B 31 1 a (n + 2) c ((xs ++ [nilH, (some ⟨gR, 0, none⟩, 1, 1)]).map hv) ∧ Box w gR 5 [.int .u8 0])
theorem GP1.mono {w5 : World} {B n : Nat} {xs : List Hd} (j : Nat) (vs : List Value) (w w' : World) (hb : Below w.heap.size w w') (h : GP1 w5 B n xs j vs w) : GP1 w5 B n xs j vs w' :=
  ⟨h.1.trans (hb.mono h.1.size), fun hj => by
    obtain ⟨a, c, h1, h2, h3⟩ := h.2.1 hj
    exact ⟨a, c, h1, h2.below hb, h3⟩, fun hj => by
    obtain ⟨a, c, gR, h1, h2, h3⟩ := h.2.2 hj
    exact ⟨a, c, gR, h1, h2.below hb, h3.under hb⟩⟩
theorem rp1_app {w5 w w8 : World} {B n c : Nat} {a : Option Addr} {cs : List Value} (hg : w.grownBy w8 (a.map (·.block))) (hz : n + 2 ≤ c ∨ Below w.heap.size w w8) (ho : Own w B 31 1 a n c cs) (hf : n = 0 ∧ c = 0 ∨ n ≠ 0 ∧ ∀ p, a = some p → w5.heap.size ≤ p.block) : RP1 w5 3 w w8 := by
  rcases hz with h | h
  · rcases hf with ⟨h0, h1⟩ | ⟨h0, h1⟩
    · omega
    · refine ⟨_, hg, fun b hb => ?_⟩
      cases ha : a with
      | none => rw [ha] at hb; cases hb
      | some q =>
        rw [ha] at hb
        simp at hb
        subst hb
        refine ⟨h1 q ha, ?_⟩
        rcases ho.2 with ⟨h2, _⟩ | ⟨g, cap, cur, h2, _, h3, h4, h5, h6, _⟩
        · injection h2 with h2; rw [ha] at h2; cases h2
        · injection h2 with h2 _ h7
          rw [ha] at h2
          injection h2 with h2
          subst h2
          refine ⟨cur, h3, ?_⟩
          omega
  · exact RP1.of _ _ _ _ h
section
variable {P : Program} {w : World} {ops : Array Oper} {rest : List Oper} {act : Act} {Q : Exit → Act → World → Prop} {ty : TypeId} {pos : String} {after : Array Edge}
theorem cut_hi35 (d : Nat) (t : TypeId) (x hi : Operand) (e : TypeId) (ht : P.underlying t = some (.slice e)) (sz : Nat) (hsz : (P.info? e).map (·.size) = some sz)
    (a : Option Addr) (n c : Nat) (hx : act.eval x = .slice a n c) (ku : IntKind) (u : Nat) (hu : act.eval hi = .int ku (u : Int)) (hun : u ≤ c)
    (hK : wpList P ops Q rest (act.put (some d) (.slice a u c)) w) :
    wpList P ops Q ({ dst := some d, op := .slice t x none (some hi) none, type := ty, pos := pos, after := after, guard := none } :: rest) act w := by
  refine wpList_plain rfl fun K hK' => ?_
  obtain ⟨i0, hi0, hs0⟩ := Option.map_eq_some_iff.1 hsz
  have hrun : (Instr.sliceAt t (.slice a n c) none (some (.int ku (u : Int))) none).run P w = .ok (.slice a u c) w := by
    have h3 : (0 : Int) ≤ u ∧ (u : Int) ≤ c := by omega
    simp [Instr.sliceAt, Instr.slice, Instr.sliceBounds, Instr.sliceBound, asIntOf, run_underlying ht, sizeOf, typeInfo, hi0, h3, hun]
    intro _
    cases a with
    | none => rfl
    | some p => simp [Addr.add]
  unfold Oper.wp
  simp [execOp, hx, hu, hrun, Result.andThen]
  exact hK' _ _ hK
end
theorem sl_take {w : World} {a : Option Addr} {n c u : Nat} {cs : List Value} (h : Sl w 1 a n c cs) (hu : u ≤ n) : Sl w 1 a u c (cs.take u) := by
  refine ⟨by rw [List.length_take]; have := h.len; omega, Nat.le_trans hu h.le, h.cap, h.nil, fun p hp j v hj => ?_⟩
  rw [List.getElem?_take] at hj
  split at hj
  · exact h.cell p hp j v hj
  · cases hj
theorem Pgs.takeP {w : World} {a : Option Addr} {n c u : Nat} {hs : List Hd} {L : List Pgl} (h : Pgs w a n c hs L) (hu : u ≤ n) : Pgs w a u c (hs.take u) (L.take u) := by
  refine ⟨by rw [List.map_take]; exact sl_take h.top hu, by rw [List.length_take, List.length_take, h.len], fun i x p h1 h2 => ?_⟩
  rw [List.getElem?_take] at h1 h2
  split at h1
  · rename_i hi
    rw [if_pos hi] at h2
    exact h.get i x p h1 h2
  · cases h1
/-- indices as integers -/
theorem n64_i64 (G : List Nat) : G.map N64 = (G.map fun (k : Nat) => (k : Int)).map I64 := by rw [List.map_map]; rfl
section
variable {w : World} {ops : Array Oper} {rest : List Oper} {o : Oper} {act : Act} {Q : Exit → Act → World → Prop}
theorem app_shS (hg : o.guard = none) (s x : Operand) (hop : o.op = Op.call { callee := Callee.builtin Builtin.append, args := #[s, x], argTypes := #[25, 25] })
    (w0 : World) (B : Nat) (a : Option Addr) (n c : Nat) (xs : List HS) (hs : act.eval s = .slice a n c) (hown : Own w B 29 2 a n c (xs.flatMap shc))
    (a2 : Option Addr) (m c2 : Nat) (ys : List HS) (hx : act.eval x = .slice a2 m c2) (hy : Sl w 2 a2 m c2 (ys.flatMap shc)) (hn : n + m ≤ 1000000) (hB : B ≤ w.heap.size) (hbel : Below B w0 w)
    (hK : ∀ a' c' w', Own w' B 29 2 a' (n + m) c' ((xs ++ ys).flatMap shc) → w.grownBy w' (a.map (·.block)) → Below B w0 w' → wpList Try.prog ops Q rest (act.put o.dst (.slice a' (n + m) c')) w') :
    wpList Try.prog ops Q (o :: rest) act w := by
  refine append_own hg s x 25 hop 29 (.agg #[.slice none 0 0, .slice none 0 0]) 2 48 Try.underlying25 info_sheet rfl w0 B a n c _ hs hown a2 m c2 _ hx hy (one_flat shc_one _) (by omega) (by unfold maxLen; omega) hB hbel ?_
  intro a' c' w' h1 h2 h3
  exact hK a' c' w' (by rw [List.flatMap_append]; exact h1) h2 h3
end
end Go.Proofs.Ytdeknimelkdaeaa
end

/- the text Row7 -/
section
/- How the arguments of a law read: slices of slices of bytes, slices of pages. -/
set_option linter.unusedVariables false
namespace Go.Proofs.Ytdeknimelkdaeaa
open Go.RowKit Go.WideShapes Go.ChangeShapes Go.Deep Go.Dx
section
variable {H : Type} {enc : TypeId × Value → H} {P : Program} {w : World}
theorem trod_slices {α : Type} [Inhabited α] {t e : TypeId} {f : α → Value} {Q : α → Prop} (ht : P.underlying t = some (.slice e)) (hce : P.cellsOf e = 1)
    (hy : ∀ (n : Nat) (cs : List Value) (x : DataW H × List MemPlace), Sized P e x.1 → DataW.trod enc P w 0 (fun _ => true) true n e cs = some x → ∃ y, cs = [f y] ∧ Q y)
    {a : Option Addr} {len cap : Nat} {d : DataW H} {p : List MemPlace} (hs : Sized P t d) (h : DataW.Trod enc P w 0 (fun _ => true) true t (.slice a len cap) d p) :
    ∃ l : List α, Sl w 1 a len cap (l.map f) ∧ (∀ y ∈ l, Q y) ∧ len * P.bytesOf e ≤ reachBytes := by
  obtain ⟨fuel, hfu⟩ := h
  rcases open_slice ht hfu with ⟨hcs, _⟩ | ⟨x, l, c, m, g, D, Pl, hcs, _, hl, hm, hmm, hx, hel⟩
  · simp [Value.cells] at hcs
    obtain ⟨rfl, rfl, rfl⟩ := hcs
    exact ⟨[], Sl.empty w 1, by simp, by simp⟩
  · simp [Value.cells] at hcs
    obtain ⟨rfl, rfl, rfl⟩ := hcs
    simp only [if_true] at hmm
    subst hmm
    have hd := congrArg Prod.fst hx
    simp only at hd
    subst hd
    obtain ⟨z1, z2⟩ := hs.slice ht
    have each : ∀ i, i < len → ∃ y, w.cell? (x.add i) = some (f y) ∧ Q y := by
      intro i hi
      obtain ⟨cs', h1, h2⟩ := hel i (by omega)
      obtain ⟨y, hcy, hq⟩ := hy _ _ _ (z2 (D i) (List.mem_map.2 ⟨i, List.mem_range.2 hi, rfl⟩)) h2
      subst hcy
      obtain ⟨_, hcl, hat⟩ := World.cells?_some h1
      have := hat 0 (by rw [hce]; omega)
      rw [hce, Nat.mul_one, sl_add, Nat.add_zero] at this
      exact ⟨y, this, hq⟩
    obtain ⟨Y, hY⟩ := choose_lt each
    refine ⟨(List.range len).map Y, ⟨by simp, hl, hm, (fun h => by cases h), ?_⟩, ?_, ?_⟩
    · intro q hq j u hj
      cases hq
      have hlt : j < len := by have := (List.getElem?_eq_some_iff.1 hj).1; simpa using this
      rw [(hY j hlt).1]
      simp [hlt] at hj
      rw [hj]
    · intro z hz
      obtain ⟨i, hi, rfl⟩ := List.mem_map.1 hz
      exact (hY i (List.mem_range.1 hi)).2
    · simp only [List.length_map, List.length_range] at z1
      exact Nat.le_trans (Nat.mul_le_mul_right _ (Nat.le_add_right _ _)) z1
/-- the cells of a slice's value -/
theorem trod_hd {t e : TypeId} {n : Nat} {cs : List Value} {x : DataW H × List MemPlace} (ht : P.underlying t = some (.slice e)) (h : DataW.trod enc P w 0 (fun _ => true) true n t cs = some x) :
    ∃ (a : Option Addr) (l c : Nat), cs = [.slice a l c] ∧ DataW.Trod enc P w 0 (fun _ => true) true t (.slice a l c) x.1 x.2 := by
  rcases open_slice ht h with ⟨hcs, _⟩ | ⟨y, l, c, m, g, D, Pl, hcs, _⟩
  · subst hcs
    exact ⟨none, 0, 0, rfl, n, by simpa [Value.cells] using h⟩
  · subst hcs
    exact ⟨some y, l, c, rfl, n, by simpa [Value.cells] using h⟩
/-- a row of bytes -/
theorem trod_row {t e : TypeId} (ht : P.underlying t = some (.slice e)) (he : P.underlying e = some (.int .u8)) (hc : P.cellsOf e = 1) (hb : P.bytesOf e = 1) (n : Nat) (cs : List Value) (x : DataW H × List MemPlace) (hs : Sized P t x.1) (h : DataW.trod enc P w 0 (fun _ => true) true n t cs = some x) :
    ∃ y : Hd × List UInt8, cs = [hv y.1] ∧ Sl w 1 y.1.1 y.1.2.1 y.1.2.2 (y.2.map B8) ∧ y.2.length ≤ 140737488351232 := by
  obtain ⟨a, l, c, rfl, h2⟩ := trod_hd ht h
  obtain ⟨r, h3, h4⟩ := trod_bytes ht he hc (by omega) hs h2
  refine ⟨((a, l, c), r), rfl, h3, ?_⟩
  have := h3.len
  rw [List.length_map] at this
  show r.length ≤ 140737488351232
  unfold reachBytes at h4
  omega
theorem pg_of {l : List (Hd × List UInt8)} {a : Option Addr} {len cap : Nat} (h1 : Sl w 1 a len cap (l.map fun y => hv y.1)) (h2 : ∀ y ∈ l, Sl w 1 y.1.1 y.1.2.1 y.1.2.2 (y.2.map B8) ∧ y.2.length ≤ 140737488351232) (h3 : len * 24 ≤ reachBytes) :
    Pg w a len cap (l.map (·.1)) (l.map (·.2)) ∧ Sm (l.map (·.2)) := by
  have hl : len = l.length := by have := h1.len; rw [List.length_map] at this; omega
  refine ⟨⟨by rw [List.map_map]; exact h1, by simp, fun i h r k1 k2 => ?_⟩, by rw [List.length_map]; unfold reachBytes at h3; omega, fun r hr => ?_⟩
  · rw [List.getElem?_map] at k1 k2
    obtain ⟨y, hy, rfl⟩ := Option.map_eq_some_iff.1 k1
    rw [hy] at k2
    cases k2
    exact (h2 y (List.mem_of_getElem? hy)).1
  · obtain ⟨y, hy, rfl⟩ := List.mem_map.1 hr
    exact (h2 y hy).2
theorem trod_pg {t e u : TypeId} (ht : P.underlying t = some (.slice e)) (he : P.underlying e = some (.slice u)) (hu : P.underlying u = some (.int .u8)) (hce : P.cellsOf e = 1) (hbe : P.bytesOf e = 24) (hcu : P.cellsOf u = 1) (hbu : P.bytesOf u = 1)
    {a : Option Addr} {len cap : Nat} {d : DataW H} {p : List MemPlace} (hs : Sized P t d) (h : DataW.Trod enc P w 0 (fun _ => true) true t (.slice a len cap) d p) :
    ∃ (hs : List Hd) (q : Pgl), Pg w a len cap hs q ∧ Sm q := by
  obtain ⟨l, h1, h2, h3⟩ := trod_slices (f := fun y : Hd × List UInt8 => hv y.1) ht hce (trod_row he hu hcu hbu) hs h
  rw [hbe] at h3
  obtain ⟨k1, k2⟩ := pg_of h1 h2 h3
  exact ⟨_, _, k1, k2⟩
theorem trod_pgs {t g e u : TypeId} (ht : P.underlying t = some (.slice g)) (hg : P.underlying g = some (.slice e)) (he : P.underlying e = some (.slice u)) (hu : P.underlying u = some (.int .u8)) (hcg : P.cellsOf g = 1) (hce : P.cellsOf e = 1) (hbe : P.bytesOf e = 24) (hcu : P.cellsOf u = 1) (hbu : P.bytesOf u = 1)
    {a : Option Addr} {len cap : Nat} {d : DataW H} {p : List MemPlace} (hs : Sized P t d) (h : DataW.Trod enc P w 0 (fun _ => true) true t (.slice a len cap) d p) :
    ∃ (hs : List Hd) (L : List Pgl), Pgs w a len cap hs L ∧ (∀ q ∈ L, Sm q) := by
  obtain ⟨l, h1, h2, h3⟩ := trod_slices (f := fun y : Hd × Pgl => hv y.1) (Q := fun y => PgE w y.1 y.2 ∧ Sm y.2) ht hcg (fun n cs x hsx hx => by
    obtain ⟨a', l', c', rfl, k⟩ := trod_hd hg hx
    obtain ⟨hs', q, k1, k2⟩ := trod_pg hg he hu hce hbe hcu hbu hsx k
    exact ⟨((a', l', c'), q), rfl, ⟨hs', k1⟩, k2⟩) hs h
  refine ⟨l.map (·.1), l.map (·.2), ⟨by rw [List.map_map]; exact h1, by simp, fun i x q k1 k2 => ?_⟩, fun q hq => ?_⟩
  · rw [List.getElem?_map] at k1 k2
    obtain ⟨y, hy, rfl⟩ := Option.map_eq_some_iff.1 k1
    rw [hy] at k2
    cases k2
    exact (h2 y (List.mem_of_getElem? hy)).1
  · obtain ⟨y, hy, rfl⟩ := List.mem_map.1 hq
    exact (h2 y hy).2
end
end Go.Proofs.Ytdeknimelkdaeaa
end

/- the text PL1 -/
section
/- Chapter 35: the walk of PressGood. -/
set_option linter.unusedVariables false
namespace Go.Proofs.Ytdeknimelkdaeaa
open Go.RowKit Go.Dx Go.Al
theorem tdiv8 {u : Int} (h : -9223372036854775808 ≤ u ∧ u ≤ 9223372036854775807) : -9223372036854775808 ≤ Int.tdiv u 8 ∧ Int.tdiv u 8 ≤ 9223372036854775807 := by
  by_cases h0 : 0 ≤ u
  · rw [Int.tdiv_eq_ediv_of_nonneg h0]; omega
  · obtain ⟨v, rfl⟩ : ∃ v, u = -v := ⟨-u, by omega⟩
    rw [Int.neg_tdiv, Int.tdiv_eq_ediv_of_nonneg (by omega)]; omega
theorem sm_app {p q : Pgl} (h : PF p) (hq : (q.length ≤ 1000 ∧ ∀ r ∈ q, r.length ≤ 1000)) : Sm (p ++ q) := by
  refine ⟨by rw [List.length_append]; have := h.1; have := hq.1; omega, fun r hr => ?_⟩
  rcases List.mem_append.1 hr with h1 | h1
  · have := (h.2 r h1).1; omega
  · have := hq.2 r h1; omega
theorem tab_off {w w' : World} {x : Hd} {p : Pgl} {g : Nat} {T : TypeId} {cs : List Value} (t : Tab w x p) (hx : Box w g T cs) (hT : T ≠ 31) (hT2 : T ≠ 5) (hg : w.grownBy w' (some g)) : Tab w' x p :=
  t.fr (Fr.ofGrown hg) (fun b hm => by simp at hm; subst hm; exact NoB.box hx hT2) (fun b hm hm2 => by simp at hm2; subst hm2; exact t.ne hx hT hm)
theorem shs_off {w w' : World} {ws : List HS} {L : List Sht} {g : Nat} {T : TypeId} {cs : List Value} (h : Shs w ws L) (hx : Box w g T cs) (hT : T ≠ 31) (hT2 : T ≠ 5) (hg : w.grownBy w' (some g)) : Shs w' ws L :=
  ⟨h.len, fun i x s h1 h2 => ⟨tab_off (h.get i x s h1 h2).1 hx hT hT2 hg, tab_off (h.get i x s h1 h2).2 hx hT hT2 hg⟩⟩
theorem hold_sheet {w : World} {ops : Array Oper} {rest : List Oper} {act : Act} {Q : Exit → Act → World → Prop} {dst : Option Tmp} {ty : TypeId} {x : Operand} {pos : String} {after : Array Edge} {g : Option (Nat × Bool)}
    (h : Hid (wpList Try.prog ops Q ({ dst := dst, op := .load 29 x, type := ty, pos := pos, after := after, guard := g } :: rest) act w)) : wpList Try.prog ops Q ({ dst := dst, op := .load 29 x, type := ty, pos := pos, after := after, guard := g } :: rest) act w := h.out
theorem sm_push {L : List Sht} {P0 P1 : Pgl} (h : ∀ s ∈ L, Sm s.1 ∧ Sm s.2) (h0 : Sm P0) (h1 : Sm P1) : ∀ s ∈ L ++ [(P0, P1)], Sm s.1 ∧ Sm s.2 := fun s hs => by
  rcases List.mem_append.1 hs with k | k
  · exact h s k
  · simp at k; rw [k]; exact ⟨h0, h1⟩
set_option maxRecDepth 100000 in
set_option maxHeartbeats 8000000 in
theorem walk_PressGood (l order : List Int) (a0 a1 a4 : Option Addr) (n0 c0 n1 c1 n4 c4 : Nat) (at_ by_ : Int) (hsr : List Hd) (raw : List Pgl) (w : World) (hs : Sl w 1 a0 n0 c0 (l.map I64)) (hl : ∀ x ∈ l, -9223372036854775808 ≤ x ∧ x ≤ 9223372036854775807)
    (ho : Sl w 1 a1 n1 c1 (order.map I64)) (hob : ∀ x ∈ order, -9223372036854775808 ≤ x ∧ x ≤ 9223372036854775807) (hby : -9223372036854775808 ≤ by_ ∧ by_ ≤ 9223372036854775807) (hr : Pgs w a4 n4 c4 hsr raw) (hrs : ∀ q ∈ raw, Sm q) :
    Calls Try.prog 3 #[.slice a0 n0 c0, .slice a1 n1 c1, .int .i64 at_, .int .i64 by_, .slice a4 n4 c4] w fun e w' => e = .returned (.bool true) ∧ Below w.heap.size w w' := by
  have hpages := ref35_Pages l 7 a0 n0 c0 w hs hl (by omega)
  clear hs hl
  obtain rfl := ho.n_eq
  obtain rfl := hr.n_eq
  have hoc := Nat.le_trans ho.le ho.cap
  unfold maxLen at hoc
  obtain ⟨NO, hNO⟩ : ∃ NO, Hid (order.length = NO) := ⟨_, hide rfl⟩
  obtain ⟨NR, hNR⟩ : ∃ NR, Hid (raw.length = NR) := ⟨_, hide rfl⟩
  have hrc := Nat.le_trans hr.top.le hr.top.cap
  unfold maxLen at hrc
  rw [hNO.out] at ho hoc ⊢
  rw [hNR.out] at hr hrc ⊢
  go_enter Try.func3, Try.ntmps3
  go_wp2_with (go_at_call 8; refine hpages.mono ?_; rintro e w1 ⟨aL, cL, hsL, L, rfl, hO, hT, hL7, hLF, hb1⟩; refine hold ?_)
  refine hide ?_
  clear hpages
  have HP := hide (hT.pgs hO)
  have HLF := hide hLF
  obtain ⟨N, hN⟩ : ∃ N, Hid (L.length = N) := ⟨_, hide rfl⟩
  obtain ⟨K, hK⟩ : ∃ K, Hid ((sheetsL L).length = K) := ⟨_, hide rfl⟩
  rw [hN.out] at hL7 ⊢
  have hK4 : K ≤ 4 := by have := sheetsL_len L; rw [hN.out, hK.out] at this; omega
  have hshts := hide (ref35_SheetsR (Tab w1) L hsL _ _ _ w1 HP.out (by rw [hN.out]; omega) hT.get (Tab.nil w1))
  rw [hK.out, hN.out] at hshts
  clear hO hT hLF
  go_wp2_with (go_at_call 9; refine hshts.out.mono ?_; rintro e w2 ⟨aS, cS, wsS, rfl, hOS, hES, hb2⟩; refine hold ?_)
  refine hide ?_
  have HSL := hide hOS.sl
  have HSS : Hid (Shs w2 wsS (sheetsL L)) := hide ⟨hES.len, fun i x s h1 h2 => ⟨(hES.get i x s h1 h2).1.below hb2, (hES.get i x s h1 h2).2.below hb2⟩⟩
  have hb12 : Below w.heap.size w w2 := hb1.trans (hb2.mono hb1.size)
  have HPL := hide (HP.out.below hb2)
  have HOrd2 := hide (ho.below hb12)
  have HR2 := hide (hr.below hb12)
  have hSmL : Hid (∀ s ∈ sheetsL L, Sm s.1 ∧ Sm s.2) := hide (fun s hs => by
    obtain ⟨h1, h2⟩ := sheetsL_mem L s hs
    refine ⟨(HLF.out _ h1).sm, ?_⟩
    rcases h2 with h2 | h2
    · exact (HLF.out _ h2).sm
    · rw [h2]; exact Sm.nil)
  have hP25 : Hid (∀ s ∈ sheetsL L, PF s.1 ∧ PF s.2) := hide (fun s hs => by
    obtain ⟨h1, h2⟩ := sheetsL_mem L s hs
    refine ⟨HLF.out _ h1, ?_⟩
    rcases h2 with h2 | h2
    · exact HLF.out _ h2
    · rw [h2]; exact PF.nil)
  clear hOS hES hshts HP hr ho hb1 hb2
  go_wp2_with fail
  go_loopg [13, 14] 8 (fun gh o v w' => ∃ (i : Nat) (ao : Option Addr) (co : Nat) (ws : List HS) (outL : List Sht), i ≤ 8 ∧ i ≤ NO ∧ gh = 8 - i ∧ outL.length = i ∧ v = .int .i64 (i : Int) ∧ o = .slice ao i co ∧ Own w' w2.heap.size 29 2 ao i co (ws.flatMap shc) ∧ Shs w' ws outL ∧ (∀ s ∈ outL, Sm s.1 ∧ Sm s.2) ∧ Below w2.heap.size w2 w')
  case atStart => exact ⟨0, none, 0, [], [], by omega, by omega, rfl, rfl, rfl, rfl, Own.nil _ _ _ _, Shs.nil _, (fun s hs => by cases hs), Below.refl _ _⟩
  case round =>
    obtain ⟨i, ao, co, ws, outL, hi8, hiN, hg, hol, rfl, rfl, hO, hS, hsm, hbw⟩ := hrel
    have HG := hide hg
    have hol := hide hol
    have HO := hide hO
    have HS := hide hS
    have hsm := hide hsm
    clear hg hO hS
    by_cases hin : i < NO ∧ i < 8 ∧ 0 < K
    · obtain ⟨h1, h2, h3⟩ := hin
      obtain ⟨u, hu⟩ : ∃ u, order[i]? = some u := ⟨order[i]'(by rw [hNO.out]; exact h1), by simp⟩
      have hub := hob u (List.mem_of_getElem? hu)
      have HU := hide hu
      obtain ⟨q, hq⟩ : ∃ q, aroundF u K = q := ⟨_, rfl⟩
      have hqK : q < K := by rw [← hq]; exact aroundF_lt (by omega)
      have harK : Calls Try.prog 10 #[.int .i64 u, .int .i64 (K : Int)] wr fun e w2 => e = .returned (.int .i64 (q : Int)) ∧ wr = w2 := Around_at hq rfl (by omega) (by omega) hub.1 hub.2
      obtain ⟨z, hz⟩ : ∃ z, Int.tdiv u 8 = z := ⟨_, rfl⟩
      have hzb : -9223372036854775808 ≤ z ∧ z ≤ 9223372036854775807 := by rw [← hz]; exact tdiv8 hub
      obtain ⟨c, hc⟩ : ∃ c, aroundF z 5 = c := ⟨_, rfl⟩
      have hc5 : c < 5 := by rw [← hc]; exact aroundF_lt (by omega)
      have har5 : ∀ w', Calls Try.prog 10 #[.int .i64 z, .int .i64 5] w' fun e w2 => e = .returned (.int .i64 (c : Int)) ∧ w' = w2 := fun w' => Around_at hc rfl (by omega) (by omega) hzb.1 hzb.2
      obtain ⟨s, hs⟩ : ∃ s, (sheetsL L)[q]? = some s := ⟨(sheetsL L)[q]'(by rw [hK.out]; exact hqK), by simp⟩
      obtain ⟨⟨⟨s0, s1, s2⟩, ⟨s3, s4, s5⟩⟩, hx⟩ : ∃ x, wsS[q]? = some x := ⟨wsS[q]'(by rw [HSS.out.len, hK.out]; exact hqK), by simp⟩
      have hTab := HSS.out.get q _ s hx hs
      have hPF := hP25.out s (List.mem_of_getElem? hs)
      have HY := hide hx
      have hsh : shc ((s0, s1, s2), (s3, s4, s5)) = [.slice s0 s1 s2, .slice s3 s4 s5] := rfl
      have HOrd := HOrd2.out.below hbw
      have HSr := HSL.out.below hbw
      have hzH := hz
      clear hu hq hx hs hc hub hz
      go_wp2_with (first
        | (with_reducible refine idx_i 42 _ _ _ _ _ order rfl HOrd _ _ i rfl rfl u HU.out ?_; intro bb oo hcell hbb)
        | (go_at_call 10; refine harK.mono ?_; rintro e w4 ⟨rfl, rfl⟩)
        | (with_reducible refine idx_sh 47 _ _ _ _ _ wsS rfl HSr _ _ q rfl rfl _ HY.out _ _ hsh ?_; intro b1 o1 hcc0 hcc1 hb1)
        | (with_reducible refine load_sheet2 48 _ b1 o1 (o1 + 1) rfl (.slice s0 s1 s2) (.slice s3 s4 s5) hcc0 hcc1 rfl ?_)
        | (with_reducible refine hold_store ?_))
      refine hide ?_
      refine store_fresh 29 29 _ _ 2 size_sheet _ rfl _ [.slice s0 s1 s2, .slice s3 s4 s5] rfl rfl rfl rfl (by simp [Value.oneCell']) ?_
      have x5 := Box.new wr 29 #[.slice s0 s1 s2, .slice s3 s4 s5]
      have b5 : Below wr.heap.size wr (wr.alloc (.cells [.slice s0 s1 s2, .slice s3 s4 s5].toArray 29)) := sblo wr _
      generalize wr.alloc (.cells [Value.slice s0 s1 s2, .slice s3 s4 s5].toArray 29) = w5 at x5 b5 ⊢
      obtain ⟨g15, hg15⟩ : ∃ g, Hid (wr.heap.size = g) := ⟨_, hide rfl⟩
      rw [hg15.out] at x5 ⊢
      have X5 : Hid (Box w5 g15 29 [.slice s0 s1 s2, .slice s3 s4 s5]) := hide x5
      have hbw5 : Below w2.heap.size w2 w5 := hbw.trans (b5.mono hbw.size)
      have HO5 := hide (HO.out.below b5)
      have HS5 := hide (HS.out.below b5)
      have HT0 := hide (hTab.1.below hbw5)
      have HT1 := hide (hTab.2.below hbw5)
      have hA : Hid (∀ b ∈ (ao.map (·.block)).toList, b < g15) := hide (fun b hb => by rw [← hg15.out]; exact (own_lt HO.out b hb).2)
      have hBg : w2.heap.size ≤ g15 := by rw [← hg15.out]; exact hbw.size
      clear HOrd HSr hcc0 hcc1 hb1 x5 b5 HO HS hTab harK
      have HOrd := HOrd2.out.below hbw5
      have q0 := X5.out.at_ (j := 0) rfl
      have q1 := X5.out.at_ (j := 1) rfl
      by_cases hc3 : 3 ≤ c
      · have e0 : ¬ c = 0 := by omega
        have e1 : ¬ c = 1 := by omega
        have e2 : ¬ c = 2 := by omega
        have e2b : ((c : Int) == 2) = false := by simp; omega
        go_wp2_with (first
          | (with_reducible refine idx_i 51 _ _ _ _ _ order rfl HOrd _ _ i rfl rfl u HU.out ?_; intro bb oo hcell hbb)
          | (with_reducible refine idx_i 63 _ _ _ _ _ order rfl HOrd _ _ i rfl rfl u HU.out ?_; intro bb oo hcell hbb)
          | (with_reducible refine idx_i 80 _ _ _ _ _ order rfl HOrd _ _ i rfl rfl u HU.out ?_; intro bb oo hcell hbb)
          | (go_at_call 10; refine (har5 _).mono ?_; rintro e w4 ⟨rfl, rfl⟩)
          | (with_reducible refine hold_sheet ?_))
        refine hide ?_
        obtain ⟨x0, x1, x2, x3, x4, x5, P0, P1, X6, T0, T1, hP0, hP1⟩ : ∃ x0 x1 x2 x3 x4 x5 P0 P1, Hid (Box w5 g15 29 [.slice x0 x1 x2, .slice x3 x4 x5]) ∧ Hid (Tab w5 (x0, x1, x2) P0) ∧ Hid (Tab w5 (x3, x4, x5) P1) ∧ Sm P0 ∧ Sm P1 := ⟨s0, s1, s2, s3, s4, s5, s.1, s.2, X5, HT0, HT1, hPF.1.sm, hPF.2.sm⟩
        have HO6 := HO5
        have HS6 := HS5
        have hb6 := hbw5
        have HOr := HO6.out
        have hBr := hb6.size
        have q0 := X6.out.at_ (j := 0) rfl
        have q1 := X6.out.at_ (j := 1) rfl
        go_wp2_with (first
          | (with_reducible refine load_sheet2 98 _ g15 0 1 rfl (.slice x0 x1 x2) (.slice x3 x4 x5) q0 q1 rfl ?_)
          | (with_reducible refine build_sheet 99 _ (.slice x0 x1 x2) (.slice x3 x4 x5) rfl ?_)
          | (at_builtin; refine app_sheet rfl _ _ rfl w2 w2.heap.size ao i co ws rfl HOr ((x0, x1, x2), (x3, x4, x5)) rfl (by omega) hBr hb6 ?_; intro a9 c9 w9 ho9 hg9 hb9))
        have HS9 := hide ((HS6.out.append (Shs.one (x := ((x0, x1, x2), (x3, x4, x5))) (s := (P0, P1)) T0.out T1.out)).kept HOr (by decide) (by decide) hg9)
        have HO9 := hide ho9
        clear ho9 hg9 HOr q0 q1
        go_roundg (8 - (i + 1))
        case measure => have := HG.out; omega
        case rel => exact ⟨i + 1, a9, c9, ws ++ [((x0, x1, x2), (x3, x4, x5))], outL ++ [(P0, P1)], by omega, by omega, rfl, by rw [List.length_append, hol.out]; rfl, by go_num, rfl, HO9.out, HS9.out, sm_push hsm.out hP0 hP1, hb9⟩
      · by_cases hc0 : c = 0
        · subst hc0
          go_wp2_with (first
            | (with_reducible refine idx_i 51 _ _ _ _ _ order rfl HOrd _ _ i rfl rfl u HU.out ?_; intro bb oo hcell hbb)
            | (go_at_call 10; refine (har5 _).mono ?_; rintro e w4 ⟨rfl, rfl⟩)
            | (with_reducible refine hold_store ?_))
          refine hide ?_
          refine store_box 29 _ _ 29 g15 0 _ [.slice s3 s4 s5, .slice s0 s1 s2] _ size_sheet X5.out rfl rfl rfl (by show 0 + 2 ≤ 2; omega) (by simp [Value.oneCell']) ?_; intro w6 x6 g6 z6
          have X6' : Hid (Box w6 g15 29 [.slice s3 s4 s5, .slice s0 s1 s2]) := hide x6
          have HO6 := hide (own_fr HO5.out (Fr.ofGrown g6) (fun b hb hm => by simp at hm; subst hm; exact absurd (hA.out b hb) (by omega)))
          have HS6 := hide (shs_off HS5.out X5.out (by decide) (by decide) g6)
          have T0' := hide (tab_off HT0.out X5.out (by decide) (by decide) g6)
          have T1' := hide (tab_off HT1.out X5.out (by decide) (by decide) g6)
          have hb6 : Below w2.heap.size w2 w6 := hbw5.grown g6 hbw5.size (fun b hb => by cases hb; exact hBg)
          have HOrd := HOrd2.out.below hb6
          clear x6 g6 z6 X5 HO5 HS5 HT0 HT1 q0 q1
          go_wp2_with (first
            | (with_reducible refine idx_i 63 _ _ _ _ _ order rfl HOrd _ _ i rfl rfl u HU.out ?_; intro bb oo hcell hbb)
            | (with_reducible refine idx_i 80 _ _ _ _ _ order rfl HOrd _ _ i rfl rfl u HU.out ?_; intro bb oo hcell hbb)
            | (go_at_call 10; refine (har5 _).mono ?_; rintro e w4 ⟨rfl, rfl⟩)
            | (with_reducible refine hold_sheet ?_))
          refine hide ?_
          obtain ⟨x0, x1, x2, x3, x4, x5, P0, P1, X6, T0, T1, hP0, hP1⟩ : ∃ x0 x1 x2 x3 x4 x5 P0 P1, Hid (Box w6 g15 29 [.slice x0 x1 x2, .slice x3 x4 x5]) ∧ Hid (Tab w6 (x0, x1, x2) P0) ∧ Hid (Tab w6 (x3, x4, x5) P1) ∧ Sm P0 ∧ Sm P1 := ⟨s3, s4, s5, s0, s1, s2, s.2, s.1, X6', T1', T0', hPF.2.sm, hPF.1.sm⟩
          have HOr := HO6.out
          have hBr := hb6.size
          have q0 := X6.out.at_ (j := 0) rfl
          have q1 := X6.out.at_ (j := 1) rfl
          go_wp2_with (first
            | (with_reducible refine load_sheet2 98 _ g15 0 1 rfl (.slice x0 x1 x2) (.slice x3 x4 x5) q0 q1 rfl ?_)
            | (with_reducible refine build_sheet 99 _ (.slice x0 x1 x2) (.slice x3 x4 x5) rfl ?_)
            | (at_builtin; refine app_sheet rfl _ _ rfl w2 w2.heap.size ao i co ws rfl HOr ((x0, x1, x2), (x3, x4, x5)) rfl (by omega) hBr hb6 ?_; intro a9 c9 w9 ho9 hg9 hb9))
          have HS9 := hide ((HS6.out.append (Shs.one (x := ((x0, x1, x2), (x3, x4, x5))) (s := (P0, P1)) T0.out T1.out)).kept HOr (by decide) (by decide) hg9)
          have HO9 := hide ho9
          clear ho9 hg9 HOr q0 q1
          go_roundg (8 - (i + 1))
          case measure => have := HG.out; omega
          case rel => exact ⟨i + 1, a9, c9, ws ++ [((x0, x1, x2), (x3, x4, x5))], outL ++ [(P0, P1)], by omega, by omega, rfl, by rw [List.length_append, hol.out]; rfl, by go_num, rfl, HO9.out, HS9.out, sm_push hsm.out hP0 hP1, hb9⟩
        · by_cases hc2 : c = 2
          · subst hc2
            obtain ⟨pb, hpb⟩ : ∃ v, aroundF by_ 63 = v := ⟨_, rfl⟩
            have hpb3 : pb < 63 := by rw [← hpb]; exact aroundF_lt (by omega)
            have har63 : ∀ w', Calls Try.prog 10 #[.int .i64 by_, .int .i64 63] w' fun e w2 => e = .returned (.int .i64 (pb : Int)) ∧ w' = w2 := fun w' => Around_at hpb rfl (by omega) (by omega) hby.1 hby.2
            clear hpb
            obtain ⟨hy1, o1, r1⟩ := HT1.out
            have hs4 : s4 = s.2.length := HT1.out.len
            have hs4b : s4 ≤ 25 := by rw [hs4]; exact hPF.2.1
            clear hs4
            simp only at o1
            have O1 := hide o1
            have R1 := hide r1
            clear o1 r1
            have hw5 : w2.heap.size ≤ w5.heap.size := hbw5.size
            go_wp2_with (first
              | (with_reducible refine idx_i 51 _ _ _ _ _ order rfl HOrd _ _ i rfl rfl u HU.out ?_; intro bb oo hcell hbb)
              | (with_reducible refine idx_i 63 _ _ _ _ _ order rfl HOrd _ _ i rfl rfl u HU.out ?_; intro bb oo hcell hbb)
              | (with_reducible refine idx_i 80 _ _ _ _ _ order rfl HOrd _ _ i rfl rfl u HU.out ?_; intro bb oo hcell hbb)
              | (go_at_call_of 10 (Value.int IntKind.i64 z); refine (har5 _).mono ?_; rintro e w4 ⟨rfl, rfl⟩)
              | (with_reducible refine build_nil 85 ?_; intro w6 x6 hb6; refine hold ?_))
            refine hide ?_
            have q1b := cell_blw q1 hb6
            have o6 := O1.out.sl.below hb6
            go_wp2_with (first
              | (at_builtin; refine app_pg_e rfl _ _ rfl w2.heap.size w5.heap.size rfl x6 hw5 s3 s4 s5 hy1 rfl o6 (by omega) ?_; intro a7 c7 w7 ho7 hb7 hz7; refine hold ?_))
            refine hide ?_
            have b67 : Below w5.heap.size w5 w7 := hb6.trans (hb7.mono hb6.size)
            have hb6s := hb6.size
            clear q1b o6 x6 hb6 hb7
            have hpi : 1 + (pb : Int) = ((1 + pb : Nat) : Int) := by omega
            have hpm : (((1 + pb : Nat) : Int) % 256) = ((1 + pb : Nat) : Int) := by omega
            obtain ⟨pc, hpc⟩ : ∃ pc, Hid (1 + pb = pc) := ⟨_, hide rfl⟩
            rw [hpc.out] at hpi hpm
            have hpc64 : pc < 64 := by have := hpc.out; omega
            go_wp2_with (first
              | (go_at_call_of 10 (Value.int IntKind.i64 by_); refine (har63 _).mono ?_; rintro e w4 ⟨rfl, rfl⟩)
              | (with_reducible refine build_u8 93 _ (pc : Int) rfl ?_; intro w8 x8 hb8)
              | (with_reducible refine build_row1 94 _ (some ⟨w7.heap.size, 0, none⟩) 1 1 rfl ?_; intro w9 x9 hb9; refine hold ?_))
            refine hide ?_
            have b79 : Below w7.heap.size w7 w9 := hb8.trans (hb9.mono hb8.size)
            have b59 : Below w5.heap.size w5 w9 := b67.trans (b79.mono b67.size)
            have ho9 := ho7.below b79
            have hsl9 : Sl w9 1 (some ⟨w8.heap.size, 0, none⟩) 1 1 ([((some ⟨w7.heap.size, 0, none⟩, 1, 1) : Hd)].map hv) := x9.sl_al rfl (by simp [maxLen])
            have x8b := x8.under hb9
            have hw9 : w2.heap.size ≤ w9.heap.size := Nat.le_trans hw5 b59.size
            have hz7b : s4 = 0 ∧ c7 = 0 ∨ s4 ≠ 0 ∧ ∀ p, a7 = some p → w5.heap.size ≤ p.block := hz7.imp id (fun h => ⟨h.1, fun p hp => Nat.le_trans hb6s (h.2 p hp)⟩)
            have hz7H := hide hz7b
            clear hz7 hz7b ho7 b67 b79 hb8 hb9 x8 x9
            generalize w8.heap.size = g8 at hsl9 ⊢
            generalize w7.heap.size = g7 at hsl9 x8b ⊢
            go_wp2_with (first
              | (at_builtin; refine app_pgS rfl _ _ rfl w2.heap.size a7 s4 c7 hy1 rfl ho9 hw9 (some ⟨g8, 0, none⟩) 1 1 [(some ⟨g7, 0, none⟩, 1, 1)] rfl hsl9 (by omega) ?_; intro a10 c10 w10 ho10 hg10 hz10; refine hold ?_))
            refine hide ?_
            have b10 : Below w5.heap.size w5 w10 := below_app (B := 0) (e := 0) (cs := []) b59 hg10 hz10 (by decide) hz7H.out
            have x10 := box_off x8b ho9 (by decide) hg10
            have T10 : Tab w10 (a10, s4 + 1, c10) (s.2 ++ [[UInt8.ofNat pc]]) := tab_app R1.out b10 ho10 (row_of_box x10 (by omega))
            have T10H := hide T10
            clear ho9 hsl9 x8b hz10 hg10 x10 T10 ho10 b59 hz7H
            have X10 := X5.out.under b10
            obtain ⟨s4b, hs4b⟩ : ∃ s4b, Hid (s4 + 1 = s4b) := ⟨_, hide rfl⟩
            rw [hs4b.out] at T10H ⊢
            go_wp2_with (with_reducible refine hold_store ?_)
            refine hide ?_
            refine store_cell 28 _ _ 29 g15 1 [.slice s0 s1 s2, .slice s3 s4 s5] (.slice a10 s4b c10) size_page X10 rfl rfl rfl rfl (by show 1 < 2; omega) ?_; intro w6 x6 g6 z6
            have X6' : Hid (Box w6 g15 29 [.slice s0 s1 s2, .slice a10 s4b c10]) := hide x6
            have hA10 : ∀ b ∈ (ao.map (·.block)).toList, b ≠ g15 := fun b hb e => by have := hA.out b hb; omega
            have HO6 := hide (own_fr (HO5.out.below b10) (Fr.ofGrown g6) (fun b hb hm => by simp at hm; exact hA10 b hb hm))
            have HS6 := hide (shs_off (HS5.out.below b10) X10 (by decide) (by decide) g6)
            have T0' := hide (tab_off (HT0.out.below b10) X10 (by decide) (by decide) g6)
            have T1' := hide (tab_off T10H.out X10 (by decide) (by decide) g6)
            have hb6 : Below w2.heap.size w2 w6 := (hbw5.trans (b10.mono hbw5.size)).grown g6 (Nat.le_trans hbw5.size b10.size) (fun b hb => by cases hb; exact hBg)
            clear x6 g6 z6 X5 HO5 HS5 HT0 HT1 q0 q1 X10 T10H b10 hA10
            go_wp2_with (with_reducible refine hold_sheet ?_)
            refine hide ?_
            obtain ⟨x0, x1, x2, x3, x4, x5, P0, P1, X6, T0, T1, hP0, hP1⟩ : ∃ x0 x1 x2 x3 x4 x5 P0 P1, Hid (Box w6 g15 29 [.slice x0 x1 x2, .slice x3 x4 x5]) ∧ Hid (Tab w6 (x0, x1, x2) P0) ∧ Hid (Tab w6 (x3, x4, x5) P1) ∧ Sm P0 ∧ Sm P1 := ⟨s0, s1, s2, a10, s4b, c10, s.1, s.2 ++ [[UInt8.ofNat pc]], X6', T0', T1', hPF.1.sm, sm_app hPF.2 ⟨by simp, fun r hr => by simp at hr; rw [hr]; simp⟩⟩
            have HOr := HO6.out
            have hBr := hb6.size
            have q0 := X6.out.at_ (j := 0) rfl
            have q1 := X6.out.at_ (j := 1) rfl
            go_wp2_with (first
              | (with_reducible refine load_sheet2 98 _ g15 0 1 rfl (.slice x0 x1 x2) (.slice x3 x4 x5) q0 q1 rfl ?_)
              | (with_reducible refine build_sheet 99 _ (.slice x0 x1 x2) (.slice x3 x4 x5) rfl ?_)
              | (at_builtin; refine app_sheet rfl _ _ rfl w2 w2.heap.size ao i co ws rfl HOr ((x0, x1, x2), (x3, x4, x5)) rfl (by omega) hBr hb6 ?_; intro a9 c9 w9 ho9 hg9 hb9))
            have HS9 := hide ((HS6.out.append (Shs.one (x := ((x0, x1, x2), (x3, x4, x5))) (s := (P0, P1)) T0.out T1.out)).kept HOr (by decide) (by decide) hg9)
            have HO9 := hide ho9
            clear ho9 hg9 HOr q0 q1
            go_roundg (8 - (i + 1))
            case measure => have := HG.out; omega
            case rel => exact ⟨i + 1, a9, c9, ws ++ [((x0, x1, x2), (x3, x4, x5))], outL ++ [(P0, P1)], by omega, by omega, rfl, by rw [List.length_append, hol.out]; rfl, by go_num, rfl, HO9.out, HS9.out, sm_push hsm.out hP0 hP1, hb9⟩
          · obtain rfl : c = 1 := by omega
            obtain ⟨hy1, o1, r1⟩ := HT0.out
            have hs4 : s1 = s.1.length := HT0.out.len
            have hs4b : s1 ≤ 25 := by rw [hs4]; exact hPF.1.1
            clear hs4
            simp only at o1
            have O1 := hide o1
            have R1 := hide r1
            clear o1 r1
            have hw5 : w2.heap.size ≤ w5.heap.size := hbw5.size
            go_wp2_with (first
              | (with_reducible refine idx_i 51 _ _ _ _ _ order rfl HOrd _ _ i rfl rfl u HU.out ?_; intro bb oo hcell hbb)
              | (with_reducible refine idx_i 63 _ _ _ _ _ order rfl HOrd _ _ i rfl rfl u HU.out ?_; intro bb oo hcell hbb)
              | (go_at_call 10; refine (har5 _).mono ?_; rintro e w4 ⟨rfl, rfl⟩))
            refine wp_region_chain4 10 (RP1 w5 3) (GP1 w5 w2.heap.size s1 hy1) [⟨3, 71, [], fun _ _ => True⟩, ⟨6, 74, [], fun _ _ => True⟩] [⟨0, 68, [68], NilF w5⟩, ⟨1, 69, [69], fun vs _ => vs = [.pointer (some ⟨g15, 0, none⟩)]⟩, ⟨2, 70, [70], fun vs _ => vs = [.slice s0 s1 s2]⟩, ⟨4, 72, [72], RowF 0⟩, ⟨5, 73, [73], RowsF 0⟩, ⟨7, 75, [75], fun vs _ => vs = [.pointer (some ⟨g15, 1, none⟩)]⟩, ⟨8, 76, [76], fun vs _ => vs = [.slice s3 s4 s5]⟩, ⟨9, 77, [77, 74], fun vs _ => ∃ x, vs = [.agg #[x, .slice s3 s4 s5], x]⟩] (by kernel_rfl) (by kernel_rfl) ?_ (RP1.of w5 3) GP1.mono ?_ ?_ ?_ ?_
            · exact ⟨Still.below 1, fun h => absurd h (by decide), fun h => absurd h (by decide)⟩
            · simp only [All]
              refine ⟨(fun vs u u' hr h => by obtain ⟨b, h1, h2, h3⟩ := h; exact ⟨b, h1, hr.box h2 (.inr (by decide)), h3⟩), (fun _ _ _ _ h => h), (fun _ _ _ _ h => h), (fun vs u u' hr h => by obtain ⟨b, h1, h2⟩ := h; exact ⟨b, h1, hr.box h2 (.inl (by decide))⟩), (fun vs u u' hr h => by obtain ⟨b, gR, h1, h2, h3⟩ := h; exact ⟨b, gR, h1, hr.box h2 (.inr (by simp)), hr.box h3 (.inl (by decide))⟩), (fun _ _ _ _ h => h), (fun _ _ _ _ h => h), (fun _ _ _ _ h => h), trivial⟩
            · intro m c hc o ho a w' hG hfr hdep
              rcases m with _ | _ | m
              · cases hc
                obtain rfl := Option.some.inj ho
                obtain ⟨b68, e68, x68, l68⟩ := hdep 0 _ rfl (by kernel_rfl)
                have g68 : a.tmps[68]?.getD undef = .slice (some ⟨b68, 0, none⟩) 0 0 := by simpa using e68
                have g70 : a.tmps[70]?.getD undef = .slice s0 s1 s2 := by have h := hdep 2 _ rfl (by kernel_rfl); simpa using h
                have hB := hG.1
                clear hfr hdep hG
                have o6 := O1.out.sl.below hB
                refine app_pg_e rfl _ _ rfl w2.heap.size b68 (by show a.tmps.getD 68 undef = _; simpa using g68) x68 (Nat.le_trans hw5 l68) s0 s1 s2 hy1 (by show a.tmps.getD 70 undef = _; simpa using g70) o6 (by omega) ?_
                intro a7 c7 w7 ho7 hb7 hz7
                go_wp2_with fail
                exact ⟨rfl, _, rfl, RP1.of _ _ _ _ hb7, hB.trans (hb7.mono hB.size), fun _ => ⟨a7, c7, by simp, ho7, hz7.imp id (fun h => ⟨h.1, fun p hp => Nat.le_trans hB.size (h.2 p hp)⟩)⟩, fun h => absurd h (by decide)⟩
              · cases hc
                obtain rfl := Option.some.inj ho
                obtain ⟨a7, c7, e71, ho7, hz7⟩ := hG.2.1 rfl
                have g71 : a.tmps[71]?.getD undef = .slice a7 s1 c7 := by simpa using e71
                obtain ⟨b73, gR, e73, x73, xR⟩ := hdep 4 _ rfl (by kernel_rfl)
                have g73 : a.tmps[73]?.getD undef = .slice (some ⟨b73, 0, none⟩) 2 2 := by simpa using e73
                have hB := hG.1
                clear hfr hdep hG
                have hsl : Sl w' 1 (some ⟨b73, 0, none⟩) 2 2 ([nilH, (some ⟨gR, 0, none⟩, 1, 1)].map hv) := x73.sl_al rfl (by simp [maxLen])
                refine app_pgS rfl _ _ rfl w2.heap.size a7 s1 c7 hy1 (by show a.tmps.getD 71 undef = _; simpa using g71) ho7 (Nat.le_trans hw5 hB.size) (some ⟨b73, 0, none⟩) 2 2 [nilH, (some ⟨gR, 0, none⟩, 1, 1)] (by show a.tmps.getD 73 undef = _; simpa using g73) hsl (by omega) ?_
                intro a8 c8 w8 ho8 hg8 hz8
                go_wp2_with fail
                exact ⟨rfl, _, rfl, rp1_app hg8 hz8 ho7 hz7, below_app (B := 0) (e := 0) (cs := []) hB hg8 hz8 (by decide) hz7, fun h => absurd h (by decide), fun _ => ⟨a8, c8, gR, by simp, ho8, box_off xR ho7 (by decide) hg8⟩⟩
              · cases hc
            · simp only [All]
              refine ⟨?_, ?_, ?_, ?_, ?_, ?_, ?_, ?_, trivial⟩
              · intro o ho a' w' hfr hdep hst
                obtain rfl := Option.some.inj ho
                obtain ⟨j, _, _, hG⟩ := hst
                clear ho hfr hdep
                refine build_nil 68 ?_
                intro w6 x6 hb6
                exact ⟨rfl, _, rfl, hb6, _, rfl, x6, hG.1.size⟩
              · intro o ho a' w' hfr hdep hst
                obtain rfl := Option.some.inj ho
                have g15 : a'.tmps[15]?.getD undef = .pointer (some ⟨g15, 0, none⟩) := by have h := hfr 15 (by kernel_rfl); simpa using h
                clear ho hfr hdep hst
                go_wp2_with fail
                exact ⟨rfl, _, rfl, Below.refl _ _, rfl⟩
              · intro o ho a' w' hfr hdep hst
                obtain rfl := Option.some.inj ho
                have g69 : a'.tmps[69]?.getD undef = .pointer (some ⟨g15, 0, none⟩) := by have h := hdep 1 _ rfl (by kernel_rfl); simpa using h
                obtain ⟨j, _, _, hG⟩ := hst
                clear ho hfr hdep
                have hcl := cell_blw q0 hG.1
                go_wp2_with fail
                exact ⟨rfl, _, rfl, Below.refl _ _, rfl⟩
              · intro o ho a' w' hfr hdep hst
                obtain rfl := Option.some.inj ho
                clear ho hfr hdep hst
                refine build_u8 72 _ 0 rfl ?_
                intro w6 x6 hb6
                exact ⟨rfl, _, rfl, hb6, _, rfl, x6⟩
              · intro o ho a' w' hfr hdep hst
                obtain rfl := Option.some.inj ho
                obtain ⟨b72, e72, x72⟩ := hdep 3 _ rfl (by kernel_rfl)
                have g72 : a'.tmps[72]?.getD undef = .slice (some ⟨b72, 0, none⟩) 1 1 := by simpa using e72
                clear ho hfr hdep hst
                refine build_row2 73 _ (some ⟨b72, 0, none⟩) 1 1 (by show a'.tmps.getD 72 undef = _; simpa using g72) ?_
                intro w6 x6 hb6
                exact ⟨rfl, _, rfl, hb6, _, b72, rfl, x6, x72.under hb6⟩
              · intro o ho a' w' hfr hdep hst
                obtain rfl := Option.some.inj ho
                have g15 : a'.tmps[15]?.getD undef = .pointer (some ⟨g15, 0, none⟩) := by have h := hfr 15 (by kernel_rfl); simpa using h
                clear ho hfr hdep hst
                go_wp2_with fail
                exact ⟨rfl, _, rfl, Below.refl _ _, rfl⟩
              · intro o ho a' w' hfr hdep hst
                obtain rfl := Option.some.inj ho
                have g75 : a'.tmps[75]?.getD undef = .pointer (some ⟨g15, 1, none⟩) := by have h := hdep 5 _ rfl (by kernel_rfl); simpa using h
                obtain ⟨j, _, _, hG⟩ := hst
                clear ho hfr hdep
                have hcl := cell_blw q1 hG.1
                go_wp2_with fail
                exact ⟨rfl, _, rfl, Below.refl _ _, rfl⟩
              · intro o ho a' w' hfr hdep hst
                obtain rfl := Option.some.inj ho
                have g76 : a'.tmps[76]?.getD undef = .slice s3 s4 s5 := by have h := hdep 6 _ rfl (by kernel_rfl); simpa using h
                obtain ⟨j, hj, _, hG⟩ := hst
                have hj2 : 2 ≤ j := hj 1 _ rfl (by kernel_rfl)
                clear ho hfr hdep hj
                obtain ⟨a8, c8, gR, e74, -, -⟩ := hG.2.2 hj2
                have g74 : a'.tmps[74]?.getD undef = .slice a8 (s1 + 2) c8 := by simpa using e74
                clear hG hj2 e74
                go_wp2_with fail
                exact ⟨rfl, _, rfl, Below.refl _ _, .slice a8 (s1 + 2) c8, by simp [g74]⟩
            · intro gg w10 hG hp
              obtain ⟨a10, c10, gR, e74, ho10, xR⟩ := hG.2.2 (Nat.le_refl _)
              replace e74 : gg 74 = .slice a10 (s1 + 2) c10 := by simpa using e74
              have b10 := hG.1
              obtain ⟨x, hv⟩ := hp 7 _ rfl
              have h2 : gg 77 = .agg #[x, .slice s3 s4 s5] ∧ gg 74 = x := by simpa using hv
              obtain ⟨p77, p74⟩ := h2
              rw [e74] at p74
              subst p74
              clear hv hp hG
              simp only [List.drop_succ_cons, List.drop_zero, List.map_cons, List.map_nil, putAll, Act.put, List.setIfInBounds_toArray, List.set_cons_succ, List.set_cons_zero, List.cons_append, List.nil_append, p77, e74]
              clear p77 e74
              have T10H : Hid (Tab w10 (a10, s1 + 2, c10) (s.1 ++ [[], [0]])) := hide (tab_app R1.out b10 ho10 ((Rows.one (Sl.empty _ 1) (fun q hq => by cases hq)).append (row_of_box (v := 0) xR (by decide))))
              clear xR ho10
              have X10 := X5.out.under b10
              obtain ⟨s1b, hs1b⟩ : ∃ s1b, Hid (s1 + 2 = s1b) := ⟨_, hide rfl⟩
              rw [hs1b.out] at T10H ⊢
              go_wp2_with (with_reducible refine hold_store ?_)
              refine hide ?_
              refine store_box 29 _ _ 29 g15 0 _ [.slice a10 s1b c10, .slice s3 s4 s5] _ size_sheet X10 rfl rfl rfl (by show 0 + 2 ≤ 2; omega) (by simp [Value.oneCell']) ?_; intro w6 x6 g6 z6
              have X6' : Hid (Box w6 g15 29 [.slice a10 s1b c10, .slice s3 s4 s5]) := hide x6
              have hA10 : ∀ b ∈ (ao.map (·.block)).toList, b ≠ g15 := fun b hb e => by have := hA.out b hb; omega
              have HO6 := hide (own_fr (HO5.out.below b10) (Fr.ofGrown g6) (fun b hb hm => by simp at hm; exact hA10 b hb hm))
              have HS6 := hide (shs_off (HS5.out.below b10) X10 (by decide) (by decide) g6)
              have T0' := hide (tab_off T10H.out X10 (by decide) (by decide) g6)
              have T1' := hide (tab_off (HT1.out.below b10) X10 (by decide) (by decide) g6)
              have hb6 : Below w2.heap.size w2 w6 := (hbw5.trans (b10.mono hbw5.size)).grown g6 (Nat.le_trans hbw5.size b10.size) (fun b hb => by cases hb; exact hBg)
              have HOrd := HOrd2.out.below hb6
              clear x6 g6 z6 X5 HO5 HS5 HT0 HT1 q0 q1 X10 T10H b10 hA10
              go_wp2_with (first
                | (with_reducible refine idx_i 80 _ _ _ _ _ order rfl HOrd _ _ i rfl rfl u HU.out ?_; intro bb oo hcell hbb)
                | (go_at_call 10; refine (har5 _).mono ?_; rintro e w4 ⟨rfl, rfl⟩)
                | (with_reducible refine hold_sheet ?_))
              refine hide ?_
              obtain ⟨x0, x1, x2, x3, x4, x5, P0, P1, X6, T0, T1, hP0, hP1⟩ : ∃ x0 x1 x2 x3 x4 x5 P0 P1, Hid (Box w6 g15 29 [.slice x0 x1 x2, .slice x3 x4 x5]) ∧ Hid (Tab w6 (x0, x1, x2) P0) ∧ Hid (Tab w6 (x3, x4, x5) P1) ∧ Sm P0 ∧ Sm P1 := ⟨a10, s1b, c10, s3, s4, s5, s.1 ++ [[], [0]], s.2, X6', T0', T1', sm_app hPF.1 ⟨by simp, fun r hr => by simp at hr; rcases hr with hr | hr <;> rw [hr] <;> simp⟩, hPF.2.sm⟩
              have HOr := HO6.out
              have hBr := hb6.size
              have q0 := X6.out.at_ (j := 0) rfl
              have q1 := X6.out.at_ (j := 1) rfl
              go_wp2_with (first
                | (with_reducible refine load_sheet2 98 _ g15 0 1 rfl (.slice x0 x1 x2) (.slice x3 x4 x5) q0 q1 rfl ?_)
                | (with_reducible refine build_sheet 99 _ (.slice x0 x1 x2) (.slice x3 x4 x5) rfl ?_)
                | (at_builtin; refine app_sheet rfl _ _ rfl w2 w2.heap.size ao i co ws rfl HOr ((x0, x1, x2), (x3, x4, x5)) rfl (by omega) hBr hb6 ?_; intro a9 c9 w9 ho9 hg9 hb9))
              have HS9 := hide ((HS6.out.append (Shs.one (x := ((x0, x1, x2), (x3, x4, x5))) (s := (P0, P1)) T0.out T1.out)).kept HOr (by decide) (by decide) hg9)
              have HO9 := hide ho9
              clear ho9 hg9 HOr q0 q1
              go_roundg (8 - (i + 1))
              case measure => have := HG.out; omega
              case rel => exact ⟨i + 1, a9, c9, ws ++ [((x0, x1, x2), (x3, x4, x5))], outL ++ [(P0, P1)], by omega, by omega, rfl, by rw [List.length_append, hol.out]; rfl, by go_num, rfl, HO9.out, HS9.out, sm_push hsm.out hP0 hP1, hb9⟩
    · have h3 : ¬ i < NO ∨ (i < NO ∧ ¬ i < 8) ∨ (i < NO ∧ i < 8 ∧ ¬ 0 < K) := by omega
      have hNRc := HR2.out.top.le
      obtain ⟨m8, hm8⟩ : ∃ m8 : Nat, Hid (m8 = if 8 < NR then 8 else NR) := ⟨_, hide rfl⟩
      have hm8N : m8 ≤ NR := by rw [hm8.out]; split <;> omega
      have hm88 : m8 ≤ 8 := by rw [hm8.out]; split <;> omega
      have hm8c : m8 ≤ c4 := by omega
      have hmin1 : (if (8 : Int) < (NR : Int) then (8 : Int) else (NR : Int)) = (m8 : Int) := by rw [hm8.out]; split <;> split <;> omega
      have hmin2 : min (NR : Int) 8 = (m8 : Int) := by rw [hm8.out]; split <;> omega
      rcases h3 with hA | ⟨hA, hB⟩ | ⟨hA, hB, hC⟩
      all_goals
        by_cases hR8 : NR < 8
        · have hNR7 : NR < 8 := hR8
          have hsc := hide (ref35_SheetsR (PgE w2) raw hsr a4 NR c4 wr (HR2.out.below hbw) (by rw [hNR.out]; omega) HR2.out.get (PgE.nil w2))
          obtain ⟨mR, hmR⟩ : ∃ x, Hid ((sheetsL raw).length = x) := ⟨_, hide rfl⟩
          have hmR4 : mR ≤ 4 := by have := sheetsL_len raw; rw [hmR.out, hNR.out] at this; omega
          rw [hmR.out] at hsc
          go_wp2_with (go_at_call 9; refine hsc.out.mono ?_; rintro e w3 ⟨aR, cR, wsR, rfl, hOR, hER, b3⟩; refine hold ?_)
          refine hide ?_
          have b23 : Below w2.heap.size w2 w3 := hbw.trans (b3.mono hbw.size)
          have hO3 := HO.out.below b3
          have hS3 := HS.out.below b3
          have hs3 := hOR.sl
          have hB3 := b23.size
          clear hsc hOR
          go_wp2_with (at_builtin; refine app_shS rfl _ _ rfl w2 w2.heap.size ao i co ws rfl hO3 aR mR cR wsR rfl hs3 (by omega) hB3 b23 ?_; intro aO cO wF hoF hgF hb2F; refine hold ?_)
          refine hide ?_
          obtain ⟨nO, hnO⟩ : ∃ nO, Hid (i + mR = nO) := ⟨_, hide rfl⟩
          rw [hnO.out] at hoF ⊢
          have hER2 : ShE w2 wsR (sheetsL raw) := ⟨hER.len, hER.get⟩
          have HF : Hid (Shp wF aO nO cO (ws ++ wsR) (outL ++ sheetsL raw)) := hide ⟨hoF.sl, (hS3.kept hO3 (by decide) (by decide) hgF).she.append (hER2.below hb2F)⟩
          have hsmF : Hid (∀ s ∈ outL ++ sheetsL raw, Sm s.1 ∧ Sm s.2) := hide (fun s hs => by
            rcases List.mem_append.1 hs with h | h
            · exact hsm.out s h
            · obtain ⟨k1, k2⟩ := sheetsL_mem raw s h
              refine ⟨hrs _ k1, ?_⟩
              rcases k2 with k2 | k2
              · exact hrs _ k2
              · rw [k2]; exact Sm.nil)
          have hlF : Hid ((outL ++ sheetsL raw).length ≤ 100) := hide (by rw [List.length_append, hol.out, hmR.out]; omega)
          generalize outL ++ sheetsL raw = outF at HF hsmF hlF
          generalize ws ++ wsR = wsF at HF
          clear hO3 hS3 hs3 hB3 hgF hoF hER hER2 b3 b23 HO HS hsm hbw
          have hgo : Hid (∀ (W' : List Pgl) (hsw : List Hd) (aw : Option Addr) (nw cw : Nat) (w' : World), Below w2.heap.size w2 w' → Below wF.heap.size wF w' → Pgs w2 aw nw cw hsw W' → (∀ q ∈ W', Sm q) → W'.length ≤ 1000 →
              (Calls Try.prog 11 #[.slice aw nw cw, .slice aO nO cO] w' fun e w3 => ∃ ag cg am cm, e = .returned (.tuple #[.slice ag (goodF W' outF).1.length cg, .slice am (goodF W' outF).2.length cm]) ∧ Sl w3 1 ag (goodF W' outF).1.length cg ((goodF W' outF).1.map N64) ∧ Sl w3 1 am (goodF W' outF).2.length cm ((goodF W' outF).2.map N64) ∧ Below w'.heap.size w' w3) ∧
              (Calls Try.prog 12 #[.slice aw nw cw, .slice aO nO cO] w' fun e w3 => ∃ ag cg am cm, e = .returned (.tuple #[.slice ag (goodF W' outF).1.length cg, .slice am (goodF W' outF).2.length cm]) ∧ Sl w3 1 ag (goodF W' outF).1.length cg ((goodF W' outF).1.map N64) ∧ Sl w3 1 am (goodF W' outF).2.length cm ((goodF W' outF).2.map N64) ∧ Below w'.heap.size w' w3)) := hide (fun W' hsw aw nw cw w' hb2' hbF' hpw hsmw hl =>
            ⟨pr_Good W' hsw outF wsF aw aO nw cw nO cO w' (hpw.below hb2') (HF.out.below hbF') (fun p hp => ⟨(hsmw p hp).cp, (hsmw p hp).1⟩) (fun s hs => ⟨(hsmF.out s hs).1.1, (hsmF.out s hs).2.1⟩) (by omega) (by have := hlF.out; omega),
             ref35_Good W' hsw outF wsF aw aO nw cw nO cO w' (hpw.below hb2') (HF.out.below hbF') hsmw hsmF.out (by omega) (by have := hlF.out; omega)⟩)
          have hsi : Hid (∀ (G : List Nat) (x1 x2 : Option Addr) (y1 y2 z1 z2 : Nat) (w' : World), Sl w' 1 x1 y1 z1 (G.map N64) → Sl w' 1 x2 y2 z2 (G.map N64) → Calls Try.prog 13 #[.slice x1 y1 z1, .slice x2 y2 z2] w' fun e w3 => e = .returned (.bool true) ∧ Below w'.heap.size w' w3) := hide (fun G x1 x2 y1 y2 z1 z2 w' k1 k2 => by
            rw [n64_i64] at k1 k2
            exact SameInts_at (decide_eq_true rfl) k1 k2)
          have hrawm : Hid (Pgs w2 a4 m8 c4 (hsr.take m8) (raw.take m8)) := hide (HR2.out.takeP hm8N)
          have hsmR : Hid (∀ q ∈ raw.take m8, Sm q) := hide (fun q hq => hrs q (List.mem_of_mem_take hq))
          have hlR : Hid ((raw.take m8).length ≤ 1000) := hide (by rw [List.length_take]; omega)
          have hsmW : Hid (∀ q ∈ L, Sm q) := hide (fun q hq => (HLF.out q hq).sm)
          have HPL' : Hid (Pgs w2 aL N cL hsL L) := hide (by have := HPL.out; rw [hN.out] at this; exact this)
          obtain ⟨g1, r1⟩ := hgo.out L hsL aL N cL wF hb2F (Below.refl _ _) HPL'.out hsmW.out (by rw [hN.out]; omega)
          have hg1 := hide g1
          clear g1 r1
          go_wp2_with (go_at_call 11; refine hg1.out.mono ?_; rintro e w3 ⟨ag, cg, am, cm, rfl, sg3, sm3, b3⟩; refine hold ?_)
          refine hide ?_
          have b23 : Below w2.heap.size w2 w3 := hb2F.trans (b3.mono hb2F.size)
          have hr1 := hide (hgo.out L hsL aL N cL w3 b23 b3 HPL'.out hsmW.out (by rw [hN.out]; omega)).2
          clear hg1
          generalize goodF L outF = F1 at sg3 sm3 hr1 ⊢
          obtain ⟨n1g, hn1g⟩ : ∃ x, Hid (F1.1.length = x) := ⟨_, hide rfl⟩
          obtain ⟨n1m, hn1m⟩ : ∃ x, Hid (F1.2.length = x) := ⟨_, hide rfl⟩
          rw [hn1g.out] at sg3 hr1 ⊢
          rw [hn1m.out] at sm3 hr1 ⊢
          go_wp2_with (go_at_call 12; refine hr1.out.mono ?_; rintro e w4 ⟨bg, dg, bm, dm, rfl, sg4, sm4, b4⟩; refine hold ?_)
          refine hide ?_
          have b24 : Below w2.heap.size w2 w4 := b23.trans (b4.mono b23.size)
          have bF4 : Below wF.heap.size wF w4 := b3.trans (b4.mono b3.size)
          have s1 := hide (hsi.out F1.1 _ _ _ _ _ _ w4 (sg3.below b4) sg4)
          have s2 := hide (fun w5 (hb : Below w4.heap.size w4 w5) => hsi.out F1.2 _ _ _ _ _ _ w5 ((sm3.below b4).below hb) (sm4.below hb))
          clear hr1 sg3 sm3 sg4 sm4 b3 b4 b23
          go_wp2_with (first
            | (go_at_call_of 13 (Value.slice ag n1g cg); refine s1.out.mono ?_; rintro e w5 ⟨rfl, b5⟩)
            | (go_at_call_of 13 (Value.slice am n1m cm); refine (s2.out _ b5).mono ?_; rintro e w6 ⟨rfl, b6⟩; refine hold ?_))
          refine hide ?_
          have b46 : Below w4.heap.size w4 w6 := b5.trans (b6.mono b5.size)
          have b26 : Below w2.heap.size w2 w6 := b24.trans (b46.mono b24.size)
          have bF6 : Below wF.heap.size wF w6 := bF4.trans (b46.mono bF4.size)
          clear s1 s2 b5 b6 b46 b24 bF4
          obtain ⟨g2, -⟩ := hgo.out _ _ a4 m8 c4 w6 b26 bF6 hrawm.out hsmR.out hlR.out
          have hg2 := hide g2
          clear g2

          go_wp2_with (first
            | (with_reducible refine cut_hi35 135 23 _ _ 28 Try.underlying23 1 size_page a4 NR c4 rfl _ m8 rfl hm8c ?_)
            | (go_at_call 11; refine hg2.out.mono ?_; rintro e w7 ⟨ag2, cg2, am2, cm2, rfl, sg7, sm7, b7⟩; refine hold ?_))
          refine hide ?_
          have b27 : Below w2.heap.size w2 w7 := b26.trans (b7.mono b26.size)
          have bF7 : Below wF.heap.size wF w7 := bF6.trans (b7.mono bF6.size)
          have hr2 := hide (hgo.out _ _ a4 m8 c4 w7 b27 bF7 hrawm.out hsmR.out hlR.out).2
          clear hg2 b26 bF6
          generalize goodF (raw.take m8) outF = F2 at sg7 sm7 hr2 ⊢
          obtain ⟨n2g, hn2g⟩ : ∃ x, Hid (F2.1.length = x) := ⟨_, hide rfl⟩
          obtain ⟨n2m, hn2m⟩ : ∃ x, Hid (F2.2.length = x) := ⟨_, hide rfl⟩
          rw [hn2g.out] at sg7 hr2 ⊢
          rw [hn2m.out] at sm7 hr2 ⊢
          go_wp2_with (first
            | (with_reducible refine cut_hi35 145 23 _ _ 28 Try.underlying23 1 size_page a4 NR c4 rfl _ m8 rfl hm8c ?_)
            | (go_at_call 12; refine hr2.out.mono ?_; rintro e w8 ⟨bg2, dg2, bm2, dm2, rfl, sg8, sm8, b8⟩; refine hold ?_))
          refine hide ?_
          have s1 := hide (hsi.out F2.1 _ _ _ _ _ _ w8 (sg7.below b8) sg8)
          have s2 := hide (fun w5 (hb : Below w8.heap.size w8 w5) => hsi.out F2.2 _ _ _ _ _ _ w5 ((sm7.below b8).below hb) (sm8.below hb))
          have b28 : Below w2.heap.size w2 w8 := b27.trans (b8.mono b27.size)
          clear hr2 sg7 sm7 sg8 sm8 b8 b27
          have hlv := fun w' => law35_lives w'
          go_wp2_with (first
            | (go_at_call_of 13 (Value.slice ag2 n2g cg2); refine s1.out.mono ?_; rintro e w9 ⟨rfl, b9⟩)
            | (go_at_call_of 13 (Value.slice am2 n2m cm2); refine (s2.out _ b9).mono ?_; rintro e w10 ⟨rfl, b10⟩)
            | (go_at_call 14; refine (hlv _).mono ?_; rintro e w11 ⟨rfl, b11⟩))
          go_ret
          exact ⟨rfl, hb12.trans (((b28.trans (b9.mono b28.size)).trans ((b10.trans (b11.mono b10.size)).mono (Nat.le_trans b28.size b9.size))).mono hb12.size)⟩
        · have HF : Hid (Shp wr ao i co ws outL) := hide ⟨HO.out.sl, HS.out.she⟩
          have hlF : Hid (outL.length ≤ 100) := hide (by rw [hol.out]; omega)
          have hsmF := hsm
          have hb2F := hbw
          clear HO HS hsm hbw
          rename World => wF
          have hNR8 : ¬ NR < 8 := hR8
          have hgo : Hid (∀ (W' : List Pgl) (hsw : List Hd) (aw : Option Addr) (nw cw : Nat) (w' : World), Below w2.heap.size w2 w' → Below wF.heap.size wF w' → Pgs w2 aw nw cw hsw W' → (∀ q ∈ W', Sm q) → W'.length ≤ 1000 →
              (Calls Try.prog 11 #[.slice aw nw cw, .slice ao i co] w' fun e w3 => ∃ ag cg am cm, e = .returned (.tuple #[.slice ag (goodF W' outL).1.length cg, .slice am (goodF W' outL).2.length cm]) ∧ Sl w3 1 ag (goodF W' outL).1.length cg ((goodF W' outL).1.map N64) ∧ Sl w3 1 am (goodF W' outL).2.length cm ((goodF W' outL).2.map N64) ∧ Below w'.heap.size w' w3) ∧
              (Calls Try.prog 12 #[.slice aw nw cw, .slice ao i co] w' fun e w3 => ∃ ag cg am cm, e = .returned (.tuple #[.slice ag (goodF W' outL).1.length cg, .slice am (goodF W' outL).2.length cm]) ∧ Sl w3 1 ag (goodF W' outL).1.length cg ((goodF W' outL).1.map N64) ∧ Sl w3 1 am (goodF W' outL).2.length cm ((goodF W' outL).2.map N64) ∧ Below w'.heap.size w' w3)) := hide (fun W' hsw aw nw cw w' hb2' hbF' hpw hsmw hl =>
            ⟨pr_Good W' hsw outL ws aw ao nw cw i co w' (hpw.below hb2') (HF.out.below hbF') (fun p hp => ⟨(hsmw p hp).cp, (hsmw p hp).1⟩) (fun s hs => ⟨(hsmF.out s hs).1.1, (hsmF.out s hs).2.1⟩) (by omega) (by have := hlF.out; omega),
             ref35_Good W' hsw outL ws aw ao nw cw i co w' (hpw.below hb2') (HF.out.below hbF') hsmw hsmF.out (by omega) (by have := hlF.out; omega)⟩)
          have hsi : Hid (∀ (G : List Nat) (x1 x2 : Option Addr) (y1 y2 z1 z2 : Nat) (w' : World), Sl w' 1 x1 y1 z1 (G.map N64) → Sl w' 1 x2 y2 z2 (G.map N64) → Calls Try.prog 13 #[.slice x1 y1 z1, .slice x2 y2 z2] w' fun e w3 => e = .returned (.bool true) ∧ Below w'.heap.size w' w3) := hide (fun G x1 x2 y1 y2 z1 z2 w' k1 k2 => by
            rw [n64_i64] at k1 k2
            exact SameInts_at (decide_eq_true rfl) k1 k2)
          have hrawm : Hid (Pgs w2 a4 m8 c4 (hsr.take m8) (raw.take m8)) := hide (HR2.out.takeP hm8N)
          have hsmR : Hid (∀ q ∈ raw.take m8, Sm q) := hide (fun q hq => hrs q (List.mem_of_mem_take hq))
          have hlR : Hid ((raw.take m8).length ≤ 1000) := hide (by rw [List.length_take]; omega)
          have hsmW : Hid (∀ q ∈ L, Sm q) := hide (fun q hq => (HLF.out q hq).sm)
          have HPL' : Hid (Pgs w2 aL N cL hsL L) := hide (by have := HPL.out; rw [hN.out] at this; exact this)
          obtain ⟨g1, r1⟩ := hgo.out L hsL aL N cL wF hb2F (Below.refl _ _) HPL'.out hsmW.out (by rw [hN.out]; omega)
          have hg1 := hide g1
          clear g1 r1
          go_wp2_with (go_at_call 11; refine hg1.out.mono ?_; rintro e w3 ⟨ag, cg, am, cm, rfl, sg3, sm3, b3⟩; refine hold ?_)
          refine hide ?_
          have b23 : Below w2.heap.size w2 w3 := hb2F.trans (b3.mono hb2F.size)
          have hr1 := hide (hgo.out L hsL aL N cL w3 b23 b3 HPL'.out hsmW.out (by rw [hN.out]; omega)).2
          clear hg1
          generalize goodF L outL = F1 at sg3 sm3 hr1 ⊢
          obtain ⟨n1g, hn1g⟩ : ∃ x, Hid (F1.1.length = x) := ⟨_, hide rfl⟩
          obtain ⟨n1m, hn1m⟩ : ∃ x, Hid (F1.2.length = x) := ⟨_, hide rfl⟩
          rw [hn1g.out] at sg3 hr1 ⊢
          rw [hn1m.out] at sm3 hr1 ⊢
          go_wp2_with (go_at_call 12; refine hr1.out.mono ?_; rintro e w4 ⟨bg, dg, bm, dm, rfl, sg4, sm4, b4⟩; refine hold ?_)
          refine hide ?_
          have b24 : Below w2.heap.size w2 w4 := b23.trans (b4.mono b23.size)
          have bF4 : Below wF.heap.size wF w4 := b3.trans (b4.mono b3.size)
          have s1 := hide (hsi.out F1.1 _ _ _ _ _ _ w4 (sg3.below b4) sg4)
          have s2 := hide (fun w5 (hb : Below w4.heap.size w4 w5) => hsi.out F1.2 _ _ _ _ _ _ w5 ((sm3.below b4).below hb) (sm4.below hb))
          clear hr1 sg3 sm3 sg4 sm4 b3 b4 b23
          go_wp2_with (first
            | (go_at_call_of 13 (Value.slice ag n1g cg); refine s1.out.mono ?_; rintro e w5 ⟨rfl, b5⟩)
            | (go_at_call_of 13 (Value.slice am n1m cm); refine (s2.out _ b5).mono ?_; rintro e w6 ⟨rfl, b6⟩; refine hold ?_))
          refine hide ?_
          have b46 : Below w4.heap.size w4 w6 := b5.trans (b6.mono b5.size)
          have b26 : Below w2.heap.size w2 w6 := b24.trans (b46.mono b24.size)
          have bF6 : Below wF.heap.size wF w6 := bF4.trans (b46.mono bF4.size)
          clear s1 s2 b5 b6 b46 b24 bF4
          obtain ⟨g2, -⟩ := hgo.out _ _ a4 m8 c4 w6 b26 bF6 hrawm.out hsmR.out hlR.out
          have hg2 := hide g2
          clear g2

          go_wp2_with (first
            | (with_reducible refine cut_hi35 135 23 _ _ 28 Try.underlying23 1 size_page a4 NR c4 rfl _ m8 rfl hm8c ?_)
            | (go_at_call 11; refine hg2.out.mono ?_; rintro e w7 ⟨ag2, cg2, am2, cm2, rfl, sg7, sm7, b7⟩; refine hold ?_))
          refine hide ?_
          have b27 : Below w2.heap.size w2 w7 := b26.trans (b7.mono b26.size)
          have bF7 : Below wF.heap.size wF w7 := bF6.trans (b7.mono bF6.size)
          have hr2 := hide (hgo.out _ _ a4 m8 c4 w7 b27 bF7 hrawm.out hsmR.out hlR.out).2
          clear hg2 b26 bF6
          generalize goodF (raw.take m8) outL = F2 at sg7 sm7 hr2 ⊢
          obtain ⟨n2g, hn2g⟩ : ∃ x, Hid (F2.1.length = x) := ⟨_, hide rfl⟩
          obtain ⟨n2m, hn2m⟩ : ∃ x, Hid (F2.2.length = x) := ⟨_, hide rfl⟩
          rw [hn2g.out] at sg7 hr2 ⊢
          rw [hn2m.out] at sm7 hr2 ⊢
          go_wp2_with (first
            | (with_reducible refine cut_hi35 145 23 _ _ 28 Try.underlying23 1 size_page a4 NR c4 rfl _ m8 rfl hm8c ?_)
            | (go_at_call 12; refine hr2.out.mono ?_; rintro e w8 ⟨bg2, dg2, bm2, dm2, rfl, sg8, sm8, b8⟩; refine hold ?_))
          refine hide ?_
          have s1 := hide (hsi.out F2.1 _ _ _ _ _ _ w8 (sg7.below b8) sg8)
          have s2 := hide (fun w5 (hb : Below w8.heap.size w8 w5) => hsi.out F2.2 _ _ _ _ _ _ w5 ((sm7.below b8).below hb) (sm8.below hb))
          have b28 : Below w2.heap.size w2 w8 := b27.trans (b8.mono b27.size)
          clear hr2 sg7 sm7 sg8 sm8 b8 b27
          have hlv := fun w' => law35_lives w'
          go_wp2_with (first
            | (go_at_call_of 13 (Value.slice ag2 n2g cg2); refine s1.out.mono ?_; rintro e w9 ⟨rfl, b9⟩)
            | (go_at_call_of 13 (Value.slice am2 n2m cm2); refine (s2.out _ b9).mono ?_; rintro e w10 ⟨rfl, b10⟩)
            | (go_at_call 14; refine (hlv _).mono ?_; rintro e w11 ⟨rfl, b11⟩))
          go_ret
          exact ⟨rfl, hb12.trans (((b28.trans (b9.mono b28.size)).trans ((b10.trans (b11.mono b10.size)).mono (Nat.le_trans b28.size b9.size))).mono hb12.size)⟩
end Go.Proofs.Ytdeknimelkdaeaa
end
