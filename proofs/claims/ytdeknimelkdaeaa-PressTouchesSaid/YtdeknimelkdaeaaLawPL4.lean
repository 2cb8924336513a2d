/- The contracts of the functions that the law reaches, joined into one text. -/
import Derived.Test.YtdeknimelkdaeaaBaseP23E
import Derived.OpenShut
import Derived.Deep.Slices
import Derived.Deep.Strs
import Derived.SizedLaws
set_option linter.unusedVariables false
set_option linter.unusedSimpArgs false

/- the text Row2 -/
section
/- How the arguments of a law read: slices of integers, of strings, of arrays of integers, with the form's own reach. No program. -/
namespace Go.Dx
open Go.RowKit Go.WideShapes Go.ChangeShapes Go.Deep

/-- no part is longer than the form lets it be -/
def Sized {H : Type} (P : Program) (t : TypeId) (d : DataW H) : Prop := ∀ n ∈ d.weights P t, n ≤ reachBytes
section
variable {H : Type} {enc : TypeId × Value → H} {P : Program} {w : World}
theorem sized_at {ts : List TypeId} {ds : List (DataW H)} (hwt : (DataW.weightsEach P ts ds).all (· ≤ reachBytes) = true) (j : Nat) {t : TypeId} {d : DataW H} (ht : ts[j]? = some t) (hd : ds[j]? = some d) : Sized P t d :=
  fun n hn => by simpa using List.all_eq_true.1 hwt _ (DataW.weights_mem_each ht hd n hn)
theorem sized_all {e : TypeId} : ∀ {l : List (DataW H)} {d : DataW H}, d ∈ l → ∀ n ∈ d.weights P e, n ∈ DataW.weightsAll P e l
  | x :: l, d, hd, n, hn => by
    simp only [DataW.weightsAll, List.mem_append]
    rcases List.mem_cons.1 hd with rfl | h
    · exact .inl hn
    · exact .inr (sized_all h n hn)
theorem Sized.slice {t e : TypeId} {elems spare : List (DataW H)} (h : Sized P t (.slice elems spare)) (hu : P.underlying t = some (.slice e)) :
    (elems.length + spare.length) * P.bytesOf e ≤ reachBytes ∧ (∀ d ∈ elems, Sized P e d) :=
  ⟨h _ (by simp [DataW.weights, hu]), fun d hd n hn => h n (by simp only [DataW.weights, hu, List.mem_cons, List.mem_append]; exact .inr (.inl (sized_all hd n hn)))⟩
theorem Sized.string {t : TypeId} {b : List UInt8} (h : Sized P t (DataW.lit (H := H) (.string b))) : b.length ≤ reachBytes := h _ (by simp [DataW.weights])

theorem add_cells {a : Addr} {n : Nat} : a.add n = a.add n := rfl

theorem trod_ints {t e : TypeId} {k : IntKind} (ht : P.underlying t = some (.slice e)) (he : P.underlying e = some (.int k)) (hc : P.cellsOf e = 1) (hb : 0 < P.bytesOf e) {a : Option Addr} {len cap : Nat} {d : DataW H} {p : List MemPlace}
    (hs : Sized P t d) (h : DataW.Trod enc P w 0 (fun _ => true) true t (.slice a len cap) d p) :
    ∃ zs : List Int, Sl w 1 a len cap (zs.map (Value.int k)) ∧ (∀ n ∈ zs, (Lit.int k n).wf = true) ∧ len ≤ reachBytes := by
  obtain ⟨fuel, hf⟩ := h
  rcases open_ints ht he hc hf with ⟨hcs, _⟩ | ⟨x, l, c, zs, hcs, _, hl, hm, hz, hx, hcell, hwz⟩
  · simp [Value.cells] at hcs
    obtain ⟨rfl, rfl, rfl⟩ := hcs
    exact ⟨[], Sl.empty w 1, by simp, Nat.zero_le _⟩
  · simp [Value.cells] at hcs
    obtain ⟨rfl, rfl, rfl⟩ := hcs
    have hz2 : zs.length = cap := by simpa using hz
    have hd := congrArg Prod.fst hx
    simp only at hd
    subst hd
    refine ⟨zs.take len, ⟨by simp; omega, hl, hm, (fun h => by cases h), ?_⟩, fun n hn => hwz n (List.mem_of_mem_take hn), ?_⟩
    · intro q hq j u hj
      cases hq
      rw [List.getElem?_map, List.getElem?_take] at hj
      by_cases hlt : j < len
      · rw [if_pos hlt] at hj
        have hjz : j < zs.length := by omega
        rw [List.getElem?_eq_getElem hjz] at hj
        simp at hj
        rw [hcell j hjz, ← hj, List.getD_eq_getElem?_getD, List.getElem?_eq_getElem hjz]
        rfl
      · rw [if_neg hlt] at hj; cases hj
    · have hsz := (hs.slice ht).1
      rw [show ∀ (k : IntKind) (l : List Int), (lits (H := H) k l).length = l.length from fun k l => by simp [lits], List.length_take, show min len zs.length = len by omega] at hsz
      exact Nat.le_trans (Nat.le_trans (Nat.le_add_right _ _) (Nat.le_mul_of_pos_right _ hb)) hsz

theorem trod_bytes {t e : TypeId} (ht : P.underlying t = some (.slice e)) (he : P.underlying e = some (.int .u8)) (hc : P.cellsOf e = 1) (hb : 0 < P.bytesOf e) {a : Option Addr} {len cap : Nat} {d : DataW H} {p : List MemPlace}
    (hs : Sized P t d) (h : DataW.Trod enc P w 0 (fun _ => true) true t (.slice a len cap) d p) :
    ∃ l : List UInt8, Sl w 1 a len cap (l.map B8) ∧ len ≤ reachBytes := by
  obtain ⟨zs, h1, h2, h3⟩ := trod_ints ht he hc hb hs h
  refine ⟨zs.map fun n => UInt8.ofNat n.toNat, ?_, h3⟩
  have e : (zs.map fun n => UInt8.ofNat n.toNat).map B8 = zs.map (Value.int .u8) := by
    rw [List.map_map]
    apply List.map_congr_left
    intro n hn
    have hb : 0 ≤ n ∧ n ≤ 255 := bounds_u8 (h2 n hn)
    show Value.int .u8 ((UInt8.ofNat n.toNat).toNat : Int) = _
    rw [UInt8.toNat_ofNat']
    congr 1
    omega
  rw [e]
  exact h1
theorem trod_i64s {t e : TypeId} (ht : P.underlying t = some (.slice e)) (he : P.underlying e = some (.int .i64)) (hc : P.cellsOf e = 1) (hb : 0 < P.bytesOf e) {a : Option Addr} {len cap : Nat} {d : DataW H} {p : List MemPlace}
    (hs : Sized P t d) (h : DataW.Trod enc P w 0 (fun _ => true) true t (.slice a len cap) d p) :
    ∃ l : List Int, Sl w 1 a len cap (l.map I64) ∧ (∀ n ∈ l, -9223372036854775808 ≤ n ∧ n ≤ 9223372036854775807) ∧ len ≤ reachBytes := by
  obtain ⟨zs, h1, h2, h3⟩ := trod_ints ht he hc hb hs h
  exact ⟨zs, h1, fun n hn => bounds_i64 (h2 n hn), h3⟩

theorem trod_strs {t e : TypeId} (ht : P.underlying t = some (.slice e)) (he : P.underlying e = some .string) (hc : P.cellsOf e = 1) (hb : 0 < P.bytesOf e) {a : Option Addr} {len cap : Nat} {d : DataW H} {p : List MemPlace}
    (hs : Sized P t d) (h : DataW.Trod enc P w 0 (fun _ => true) true t (.slice a len cap) d p) :
    ∃ l : List ByteArray, Sl w 1 a len cap (l.map Value.string) ∧ (∀ s ∈ l, s.size ≤ reachBytes) ∧ len ≤ reachBytes ∧ (l = [] ∨ ∃ sp, d = .slice (l.map fun s => .lit (.string s.data.toList)) sp) := by
  obtain ⟨fuel, hf⟩ := h
  rcases open_strs ht he hc hf with ⟨hcs, _⟩ | ⟨x, l, c, m, Sx, hcs, _, hl, hm, hmm, hx, hcell⟩
  · simp [Value.cells] at hcs
    obtain ⟨rfl, rfl, rfl⟩ := hcs
    exact ⟨[], Sl.empty w 1, by simp, Nat.zero_le _, .inl rfl⟩
  · simp [Value.cells] at hcs
    obtain ⟨rfl, rfl, rfl⟩ := hcs
    simp only [if_true] at hmm
    subst hmm
    have hd := congrArg Prod.fst hx
    simp only at hd
    subst hd
    obtain ⟨z1, z2⟩ := hs.slice ht
    refine ⟨(List.range len).map Sx, ⟨by simp, hl, hm, (fun h => by cases h), ?_⟩, ?_, ?_, .inr ⟨_, by rw [List.map_map]; rfl⟩⟩
    · intro q hq j u hj
      cases hq
      have hlt : j < len := by have := (List.getElem?_eq_some_iff.1 hj).1; simpa using this
      rw [(hcell j (by omega)).1]
      simp [hlt] at hj
      rw [hj]
    · intro s hs
      obtain ⟨i, hi, rfl⟩ := List.mem_map.1 hs
      have := Sized.string (z2 _ (List.mem_map.2 ⟨i, hi, rfl⟩))
      rwa [show (Sx i).data.toList.length = (Sx i).size from Array.length_toList] at this
    · simp only [List.length_map, List.length_range] at z1
      exact Nat.le_trans (Nat.le_trans (Nat.le_add_right _ _) (Nat.le_mul_of_pos_right _ hb)) z1

theorem trod_arr {t e n : Nat} {k : IntKind} {base : Nat} {spare : Nat → Bool} {held : Bool} {fuel : Nat} {cs : List Value} {x : DataW H × List MemPlace} (ht : P.underlying t = some (.array n e)) (he : P.underlying e = some (.int k)) (hc : P.cellsOf e = 1) (hct : P.cellsOf t = n)
    (h : DataW.trod enc P w base spare held fuel t cs = some x) : cs.length = n ∧ ∀ i, i < n → ∃ z, cs[i]? = some (.int k z) ∧ (Lit.int k z).wf = true := by
  obtain ⟨xs, m, _, _, hl, hxl, hi⟩ := DataW.trod_array ht h
  rw [hct] at hl
  refine ⟨hl, fun i hin => ?_⟩
  have h1 := hi i hin
  rw [hc, Nat.mul_one, List.getElem?_eq_getElem (by omega)] at h1
  obtain ⟨z, hz, _, hw⟩ := DataW.trod_int he h1
  refine ⟨z, ?_, hw⟩
  have := congrArg (·[0]?) hz
  simpa [List.getElem?_take, List.getElem?_drop] using this

theorem trod_arrs {t e q n : Nat} {k : IntKind} (ht : P.underlying t = some (.slice e)) (he : P.underlying e = some (.array n q)) (hq : P.underlying q = some (.int k)) (hc : P.cellsOf q = 1) (hce : P.cellsOf e = n) (hb : 0 < P.bytesOf e) (hn0 : 0 < n)
    {a : Option Addr} {len cap : Nat} {d : DataW H} {p : List MemPlace} (hs : Sized P t d) (h : DataW.Trod enc P w 0 (fun _ => true) true t (.slice a len cap) d p) :
    ∃ zs : List Int, Sl w n a len cap (zs.map (Value.int k)) ∧ (∀ n ∈ zs, (Lit.int k n).wf = true) ∧ len ≤ reachBytes := by
  obtain ⟨fuel, hf⟩ := h
  rcases open_slice ht hf with ⟨hcs, _⟩ | ⟨x, l, c, m, g, D, Pl, hcs, _, hl, hm, hmm, hx, hel⟩
  · simp [Value.cells] at hcs
    obtain ⟨rfl, rfl, rfl⟩ := hcs
    exact ⟨[], Sl.empty w n, by simp, Nat.zero_le _⟩
  · simp [Value.cells] at hcs
    obtain ⟨rfl, rfl, rfl⟩ := hcs
    simp only [if_true] at hmm
    subst hmm
    have hd := congrArg Prod.fst hx
    simp only at hd
    subst hd
    obtain ⟨z1, z2⟩ := hs.slice ht
    have each : ∀ j, j < len * n → ∃ z, w.cell? (x.add j) = some (.int k z) ∧ (Lit.int k z).wf = true := by
      intro j hj
      have hi : j / n < len := (Nat.div_lt_iff_lt_mul hn0).2 hj
      obtain ⟨cs', h1, h2⟩ := hel (j / n) (by omega)
      rw [hce] at h1
      obtain ⟨_, hcl, hat⟩ := World.cells?_some h1
      have hr : j % n < n := Nat.mod_lt _ hn0
      obtain ⟨z, hz, hwz⟩ := (trod_arr he hq hc hce h2).2 (j % n) hr
      refine ⟨z, ?_, hwz⟩
      have := hat (j % n) hr
      rw [sl_add, Nat.div_add_mod'] at this
      rw [this, hz]
    obtain ⟨Z, hZ⟩ := choose_lt each
    refine ⟨(List.range (len * n)).map Z, ⟨by simp, hl, hm, (fun h => by cases h), ?_⟩, ?_, ?_⟩
    · intro q hq j u hj
      cases hq
      have hlt : j < len * n := by have := (List.getElem?_eq_some_iff.1 hj).1; simpa using this
      rw [(hZ j hlt).1]
      simp [hlt] at hj
      rw [hj]
    · intro z hz
      obtain ⟨i, hi, rfl⟩ := List.mem_map.1 hz
      exact (hZ i (List.mem_range.1 hi)).2
    · simp only [List.length_map, List.length_range] at z1
      exact Nat.le_trans (Nat.le_trans (Nat.le_add_right _ _) (Nat.le_mul_of_pos_right _ hb)) z1
theorem bytes_of_wf {zs : List Int} (h : ∀ n ∈ zs, (Lit.int .u8 n).wf = true) : ∃ l : List UInt8, l.map B8 = zs.map (Value.int .u8) := by
  refine ⟨zs.map fun n => UInt8.ofNat n.toNat, ?_⟩
  rw [List.map_map]
  apply List.map_congr_left
  intro n hn
  have hb : 0 ≤ n ∧ n ≤ 255 := bounds_u8 (h n hn)
  show Value.int .u8 ((UInt8.ofNat n.toNat).toNat : Int) = _
  rw [UInt8.toNat_ofNat']
  congr 1
  omega
end
end Go.Dx
end

/- the text P30 -/
section
/- Chapter 35: the reference's SamePairs, on equal lists. -/
set_option linter.unusedVariables false
namespace Go.Dx
open Go.RowKit
section quiet
variable {P : Program} {w : World} {ops : Array Oper} {rest : List Oper} {act : Act} {Q : Act → Prop} {ty : TypeId} {pos : String} {after : Array Edge}
/-- '!=' of two arrays of ints -/
theorem quiet_neq_ints (d : Nat) (t : TypeId) (x y : Operand) (e n : Nat) (ht : P.underlying t = some (.array n e)) (he : P.underlying e = some (.int .i64)) (hsz : (P.info? e).map (·.size) = some 1) (hgt : P.eqGuardType P.depth t = false)
    (xs ys : List Int) (hx : act.eval x = .agg (xs.map (Value.int .i64)).toArray) (hy : act.eval y = .agg (ys.map (Value.int .i64)).toArray) (hxl : xs.length = n) (hyl : ys.length = n)
    (hK : wpQuiet P ops (fun w' => ∃ n, w' = w.drewN n) Q rest (act.put (some d) (.bool (!decide (xs = ys))))) :
    wpQuiet P ops (fun w' => ∃ n, w' = w.drewN n) Q ({ dst := some d, op := .binOp .neq t x y t, type := ty, pos := pos, after := after, guard := none } :: rest) act := by
  refine quiet_val rfl _ (fun m => ?_) hK
  have h1 := run_eqGuard_agg (P := P) (w := w.drewN m) .neq t x y (xs.map (Value.int .i64)).toArray (ys.map (Value.int .i64)).toArray hgt
  have h2 := run_neq_arr (P := P) (w.drewN m) t e n .i64 ht he hsz xs ys hxl hyl
  simp only [execOp, hx, hy, Sem.run_bind, h1, h2, Result.andThen_ok, Sem.run_pure]
end quiet
end Go.Dx
namespace Go.Proofs.Ytdeknimelkdaeaa
open Go.RowKit Go.Dx Go.Al
theorem guard_pair : Try.prog.eqGuardType Try.prog.depth 68 = false := by kernel_rfl
theorem size_pair : (Try.prog.info? 68).map (·.size) = some 2 := by kernel_rfl
theorem size_i64 : (Try.prog.info? 3).map (·.size) = some 1 := by kernel_rfl
theorem pair_cells {w : World} {a : Option Addr} {n c : Nat} {l : List (Nat × Nat)} (hs : Sl w 2 a n c (l.flatMap pc2)) {k : Nat} {x : Nat × Nat} (hx : l[k]? = some x) :
    ∃ b o, a = some ⟨b, o, none⟩ ∧ b < w.heap.size ∧ ∀ j u, (pc2 x)[j]? = some u → w.cell? ((⟨b, o + k * 2, none⟩ : Addr).add j) = some u := by
  have hk := (List.getElem?_eq_some_iff.1 hx).1
  obtain ⟨b, o, hab, hb, hc⟩ := hs.ex (by rw [flat_len pc2_len]; omega)
  refine ⟨b, o, hab, hb, fun j u hj => ?_⟩
  have hj2 : j < 2 := (List.getElem?_eq_some_iff.1 hj).1
  have h1 := flat_get pc2_len hx (j := j) hj2
  rw [hj] at h1
  have h2 := hc (k * 2 + j) u h1
  rw [Addr.add_lit]
  rw [← Nat.add_assoc] at h2
  exact h2
set_option maxRecDepth 100000 in
set_option maxHeartbeats 2000000 in
theorem ref35_SamePairs (L : List (Nat × Nat)) (a1 a2 : Option Addr) (n1 n2 c1 c2 : Nat) (w : World) (hs : Sl w 2 a1 n1 c1 (L.flatMap pc2)) (hs2 : Sl w 2 a2 n2 c2 (L.flatMap pc2)) :
    Calls Try.prog 27 #[.slice a1 n1 c1, .slice a2 n2 c2] w (Still (.bool true) w) := by
  have hnl := hs.nf pc2_len (by decide)
  have hnl2 := hs2.nf pc2_len (by decide)
  obtain rfl : n1 = n2 := by rw [hnl, hnl2]
  have hm1 := Nat.le_trans hs.le hs.cap
  unfold maxLen at hm1
  have HNL := hide hnl
  clear hnl hnl2
  have dn : ((n1 : Int) != (n1 : Int)) = false := by simp
  go_enter Try.func27, Try.ntmps27
  go_wp2_with fail
  go_loopg [5] n1 (fun gh v w' => ∃ k n : Nat, k ≤ n1 ∧ gh = n1 - k ∧ v = .int .i64 (k : Int) ∧ w' = w.drewN n)
  case atStart => exact ⟨0, 0, by omega, by omega, rfl, rfl⟩
  case round =>
    obtain ⟨k, nq, hk, hg, rfl, rfl⟩ := hrel
    have HG := hide hg
    clear hg
    by_cases hkl : k < n1
    · obtain ⟨x, hx⟩ : ∃ x, L[k]? = some x := ⟨_, List.getElem?_eq_getElem (by rw [← HNL.out]; exact hkl)⟩
      obtain ⟨b1, o1, rfl, _, e1⟩ := pair_cells hs hx
      obtain ⟨b2, o2, rfl, _, e2⟩ := pair_cells hs2 hx
      have HC1 := hide e1
      have HC2 := hide e2
      clear hx e1 e2
      go_wp2
      refine wp_region_quiet_lit (by kernel_rfl) (by kernel_rfl) ?_
      repeat (go_big_quiet_step (fail))
      refine quiet_load_agg 20 68 _ 2 size_pair _ _ Try.underlying68 _ rfl (pc2 x) rfl (fun j u hj => by first | exact HC1.out j u hj | exact World.cell_drewN.trans (HC1.out j u hj)) ?_
      simp only [Act.put, List.setIfInBounds_toArray, List.set_cons_succ, List.set_cons_zero]
      repeat (go_big_quiet_step (fail))
      refine quiet_load_agg 24 68 _ 2 size_pair _ _ Try.underlying68 _ rfl (pc2 x) rfl (fun j u hj => by first | exact HC2.out j u hj | exact World.cell_drewN.trans (HC2.out j u hj)) ?_
      refine quiet_neq_ints 25 68 _ _ _ 2 Try.underlying68 Try.underlying3 size_i64 guard_pair [(x.1 : Int), (x.2 : Int)] [(x.1 : Int), (x.2 : Int)] rfl rfl rfl rfl ?_
      rw [decide_eq_true rfl]
      simp only [Act.put, List.setIfInBounds_toArray, List.set_cons_succ, List.set_cons_zero]
      refine wpQuiet_nil ?_
      rintro _ ⟨nq2, rfl⟩
      go_wp2
      go_roundg (n1 - (k + 1))
      case measure => have := HG.out; omega
      case rel => exact ⟨k + 1, _, by omega, rfl, by go_num, by first | rfl | exact World.drewN_drewN _ _ _⟩
    · obtain rfl : k = n1 := by omega
      go_wp2
      go_ret
      exact ⟨rfl, _, rfl⟩
end Go.Proofs.Ytdeknimelkdaeaa
end

/- the text P28 -/
section
/- Chapter 35: plain laws of the cells where dots touch, and of a page that is moved. -/
set_option linter.unusedVariables false
namespace Go.Proofs.Ytdeknimelkdaeaa
open Go.RowKit Go.Dx Go.Al
/-- a dot of the front that lies on a dot of the back -/
def hitR (c x : UInt8) : Bool := (dotsL c).any fun i => (dotsL (backC x)).any fun j => i == j
theorem hit_fin : ∀ c : Fin 64, ∀ x : Fin 64, hitB (UInt8.ofNat c.val) (UInt8.ofNat x.val) = hitR (UInt8.ofNat c.val) (UInt8.ofNat x.val) := by decide +kernel
theorem hit_eq {c x : UInt8} (hc : c.toNat < 64) (hx : x.toNat < 64) : hitB c x = hitR c x := by
  have := hit_fin ⟨c.toNat, hc⟩ ⟨x.toNat, hx⟩
  simpa using this
theorem hit_zero : ∀ x : UInt8, hitR 0 x = false := fun x => by
  unfold hitR
  have : dotsL 0 = [] := by decide +kernel
  rw [this]
  rfl
def tRow (front back : Pgl) (i : Nat) (by_ m : Nat) : List (Nat × Nat) := ((List.range m).filter fun k => hitR (pcell front i k) (cAt back i (39 - (k : Int) - (by_ : Int)))).map fun k => (i, k)
def tR (front back : Pgl) (by_ n : Nat) : List (Nat × Nat) := (List.range n).flatMap fun i => tRow front back i by_ 40
theorem tRow_succ (front back : Pgl) (i by_ m : Nat) : tRow front back i by_ (m + 1) = tRow front back i by_ m ++ (if hitR (pcell front i m) (cAt back i (39 - (m : Int) - (by_ : Int))) = true then [(i, m)] else []) := by
  unfold tRow
  rw [List.range_succ, List.filter_append, List.map_append]
  congr 1
  cases h : hitR (pcell front i m) (cAt back i (39 - (m : Int) - (by_ : Int))) <;> simp only [List.filter_cons, List.filter_nil, h] <;> rfl
theorem tRow_len (front back : Pgl) (i by_ m : Nat) : (tRow front back i by_ m).length ≤ m := by
  unfold tRow
  rw [List.length_map]
  exact Nat.le_trans (List.length_filter_le _ _) (by simp)
theorem tR_succ (front back : Pgl) (by_ n : Nat) : tR front back by_ (n + 1) = tR front back by_ n ++ tRow front back n by_ 40 := by
  unfold tR
  rw [List.range_succ, List.flatMap_append]
  simp
theorem tR_len (front back : Pgl) (by_ : Nat) : ∀ n, (tR front back by_ n).length ≤ n * 40
  | 0 => by simp [tR]
  | n + 1 => by
    rw [tR_succ, List.length_append]
    have := tR_len front back by_ n
    have h2 := tRow_len front back n by_ 40
    omega
theorem cAt_64 {p : Pgl} (h : ∀ r ∈ p, r.length ≤ 40 ∧ ∀ c ∈ r, c.toNat < 64) (i : Nat) (k : Int) : (cAt p i k).toNat < 64 := by
  unfold cAt
  split
  · rw [List.getD_eq_getElem?_getD, List.getD_eq_getElem?_getD]
    cases h1 : p[i]? with
    | none => simp
    | some r =>
      cases h2 : r[k.toNat]? with
      | none => simp [h2]
      | some c => simpa [h2] using (h r (List.mem_of_getElem? h1)).2 c (List.mem_of_getElem? h2)
  · decide
theorem cAt_pcell (p : Pgl) (i k : Nat) : cAt p i (k : Int) = pcell p i k := by
  unfold cAt pcell
  rw [if_pos (by omega), Int.toNat_natCast]
theorem tRow_ge {front back : Pgl} {i by_ : Nat} {r : List UInt8} (hr : front.getD i [] = r) : ∀ m, r.length ≤ m → tRow front back i by_ m = tRow front back i by_ r.length
  | 0, h => by rw [show r.length = 0 by omega]
  | m + 1, h => by
    by_cases h1 : r.length = m + 1
    · rw [h1]
    · rw [tRow_succ, tRow_ge hr m (by omega), show pcell front i m = 0 by unfold pcell; rw [hr, List.getD_eq_getElem?_getD, List.getElem?_eq_none (by omega)]; rfl, hit_zero]
      simp
theorem tRow_up {front back : Pgl} (hf : ∀ r ∈ front, r.length ≤ 40 ∧ ∀ c ∈ r, c.toNat < 64) (hb : ∀ r ∈ back, r.length ≤ 40 ∧ ∀ c ∈ r, c.toNat < 64) (i by_ : Nat) : touchRow i (front.getD i []) back by_ (front.getD i []).length = tRow front back i by_ 40 := by
  have h40 : (front.getD i []).length ≤ 40 := by
    rw [List.getD_eq_getElem?_getD]
    cases h : front[i]? with
    | none => simp
    | some r => exact (hf r (List.mem_of_getElem? h)).1
  rw [tRow_ge rfl 40 h40]
  unfold touchRow tRow
  congr 1
  refine List.filter_congr fun k hk => ?_
  have e : (front.getD i []).getD k 0 = pcell front i k := rfl
  rw [e]
  refine hit_eq ?_ (cAt_64 hb _ _)
  rw [← cAt_pcell]
  exact cAt_64 hf _ _
theorem tR_up {front back : Pgl} (hl : front.length ≤ 25) (hf : ∀ r ∈ front, r.length ≤ 40 ∧ ∀ c ∈ r, c.toNat < 64) (hb : ∀ r ∈ back, r.length ≤ 40 ∧ ∀ c ∈ r, c.toNat < 64) (by_ : Nat) : touchUp front back by_ front.length = tR front back by_ 25 := by
  have h1 : ∀ n, touchUp front back by_ n = tR front back by_ n := fun n => by
    unfold touchUp tR
    congr 1
    funext i
    exact tRow_up hf hb i by_
  have h2 : ∀ n, front.length ≤ n → tR front back by_ n = tR front back by_ front.length := by
    intro n
    induction n with
    | zero => intro h; rw [show front.length = 0 by omega]
    | succ n ih =>
      intro h
      by_cases e : front.length = n + 1
      · rw [e]
      · rw [tR_succ, ih (by omega), tRow_ge (r := []) (by rw [List.getD_eq_getElem?_getD, List.getElem?_eq_none (by omega)]; rfl) 40 (by simp)]
        simp [tRow]
  rw [h1, h2 25 hl]
/-- what the reference's Touch returns -/
def touchR (front back : Pgl) : List (Nat × Nat) := if fits front && fits back then tR front back 0 25 else []
theorem touch_eq (front back : Pgl) : touchF front back = touchR front back := by
  unfold touchF touchR
  cases e1 : fits front with
  | false => rfl
  | true =>
    cases e2 : fits back with
    | false => rfl
    | true =>
      obtain ⟨f1, f2⟩ := fits_rows e1
      obtain ⟨g1, g2⟩ := fits_rows e2
      exact tR_up f1 f2 g2 0
/-- a page that is moved -/
def movR (r : List UInt8) (by_ : Nat) : List UInt8 := if r.length > 0 then List.replicate by_ 0 ++ r else []
def movP (p : Pgl) (by_ : Nat) : Pgl := p.map fun r => movR r by_
theorem movP_len (p : Pgl) (by_ : Nat) : (movP p by_).length = p.length := by simp [movP]
def longest (p : Pgl) : Nat := p.foldl (fun m r => max m r.length) 0
theorem foldl_max (p : Pgl) : ∀ m, p.foldl (fun m r => max m r.length) m = max m (longest p) := by
  induction p with
  | nil => intro m; simp [longest]
  | cons r p ih =>
    intro m
    unfold longest
    rw [List.foldl_cons, List.foldl_cons, ih, ih]
    omega
theorem longest_cons (r : List UInt8) (p : Pgl) : longest (r :: p) = max r.length (longest p) := by
  unfold longest
  rw [List.foldl_cons, foldl_max]
  simp [longest]
theorem le_longest {p : Pgl} {r : List UInt8} (h : r ∈ p) : r.length ≤ longest p := by
  induction p with
  | nil => cases h
  | cons x p ih =>
    rw [longest_cons]
    rcases List.mem_cons.1 h with rfl | h
    · omega
    · have := ih h; omega
theorem longest_le {p : Pgl} {n : Nat} (h : ∀ r ∈ p, r.length ≤ n) : longest p ≤ n := by
  induction p with
  | nil => simp [longest]
  | cons x p ih =>
    rw [longest_cons]
    have h1 := h x (by simp)
    have h2 := ih fun r hr => h r (by simp [hr])
    omega
theorem longest_get (p : Pgl) : longest p = 0 ∨ ∃ r ∈ p, r.length = longest p := by
  induction p with
  | nil => left; rfl
  | cons x p ih =>
    rw [longest_cons]
    by_cases hx : longest p ≤ x.length
    · right; exact ⟨x, by simp, by omega⟩
    · rcases ih with h | ⟨r, h1, h2⟩
      · omega
      · right; exact ⟨r, by simp [h1], by omega⟩
theorem longest_take (p : Pgl) (k : Nat) (r : List UInt8) (h : p[k]? = some r) : longest (p.take (k + 1)) = max (longest (p.take k)) r.length := by
  rw [List.take_add_one, h]
  show longest (p.take k ++ [r]) = _
  unfold longest
  rw [List.foldl_append]
  rfl
theorem fits_of {p : Pgl} (h1 : p.length ≤ 25) (h2 : ∀ r ∈ p, r.length ≤ 40 ∧ ∀ c ∈ r, c.toNat < 64) : fits p = true := PF.fits ⟨h1, h2⟩
theorem mov_fits {p : Pgl} (h : fits p = true) (by_ : Nat) (hby : by_ ≤ 40) : fits (movP p by_) = decide (by_ ≤ 40 - longest p) := by
  obtain ⟨h1, h2⟩ := fits_rows h
  have hlo : longest p ≤ 40 := longest_le fun r hr => (h2 r hr).1
  by_cases hb : by_ ≤ 40 - longest p
  · rw [decide_eq_true hb]
    refine fits_of (by rw [movP_len]; exact h1) fun r hr => ?_
    obtain ⟨x, hx, rfl⟩ := List.mem_map.1 hr
    unfold movR
    split
    · refine ⟨by rw [List.length_append, List.length_replicate]; have := le_longest hx; omega, fun c hc => ?_⟩
      rcases List.mem_append.1 hc with hc | hc
      · rw [(List.mem_replicate.1 hc).2]; decide
      · exact (h2 x hx).2 c hc
    · exact ⟨by simp, fun c hc => by cases hc⟩
  · rw [decide_eq_false hb]
    rcases longest_get p with h0 | ⟨r, hr, hrl⟩
    · omega
    · cases hf : fits (movP p by_) with
      | false => rfl
      | true =>
        have := ((fits_rows hf).2 (movR r by_) (List.mem_map.2 ⟨r, hr, rfl⟩)).1
        unfold movR at this
        split at this
        · rw [List.length_append, List.length_replicate] at this; omega
        · omega
theorem cAt_mov (p : Pgl) (i : Nat) (by_ : Nat) (k : Int) : cAt (movP p by_) i k = cAt p i (k - by_) := by
  unfold cAt
  have e : (movP p by_).getD i [] = movR (p.getD i []) by_ := by
    unfold movP
    rw [List.getD_eq_getElem?_getD, List.getD_eq_getElem?_getD, List.getElem?_map]
    cases p[i]? <;> simp [movR]
  rw [e]
  generalize p.getD i [] = r
  by_cases hr : r.length > 0
  · have e2 : movR r by_ = List.replicate by_ 0 ++ r := by unfold movR; rw [if_pos hr]
    rw [e2]
    by_cases h0 : 0 ≤ k
    · rw [if_pos h0]
      obtain ⟨m, rfl⟩ : ∃ m : Nat, k = (m : Int) := ⟨k.toNat, by omega⟩
      rw [Int.toNat_natCast]
      by_cases h1 : by_ ≤ m
      · rw [if_pos (by omega), show ((m : Int) - by_).toNat = m - by_ by omega, List.getD_eq_getElem?_getD, List.getElem?_append_right (by simpa using h1), List.length_replicate, ← List.getD_eq_getElem?_getD]
      · rw [if_neg (by omega), List.getD_eq_getElem?_getD, List.getElem?_append_left (by rw [List.length_replicate]; omega), List.getElem?_replicate, if_pos (by omega)]; rfl
    · rw [if_neg h0, if_neg (by omega)]
  · have e2 : movR r by_ = [] := by unfold movR; rw [if_neg hr]
    have e3 : r = [] := by cases r with | nil => rfl | cons a b => simp at hr
    rw [e2, e3]
    simp
theorem tR_mov (front back : Pgl) (by_ : Nat) (n : Nat) : tR front (movP back by_) 0 n = tR front back by_ n := by
  unfold tR
  congr 1
  funext i
  unfold tRow
  congr 1
  refine List.filter_congr fun k hk => ?_
  rw [cAt_mov]
  congr 2
  omega
/-- what Shift returns: the least move, from by_ on -/
def shU (front back : Pgl) : Nat → Nat → Option Nat
  | _, 0 => none
  | b, g + 1 => if (tR front back b 25).length > 0 then shU front back (b + 1) g else some b
def shW (back : Pgl) : Option Nat → Pgl × Nat
  | none => ([], 14)
  | some b => (movP back b, 0)
def shF (front back : Pgl) : Pgl × Nat := if fits front && fits back then shW back (shU front back 0 (40 - longest back + 1)) else ([], 1)
/-- what the reference's Shift looks at -/
def shUR (front back : Pgl) : Nat → Nat → Option Nat
  | _, 0 => none
  | b, g + 1 => if fits (movP back b) && (touchR front (movP back b)).length == 0 then some b else shUR front back (b + 1) g
theorem shUR_end {front back : Pgl} (hb : fits back = true) : ∀ g b, 40 - longest back < b → b + g ≤ 41 → shUR front back b g = none
  | 0, b, h1, h2 => rfl
  | g + 1, b, h1, h2 => by
    unfold shUR
    rw [mov_fits hb b (by omega), decide_eq_false (by omega)]
    simp only [Bool.false_and, Bool.false_eq_true, if_false]
    exact shUR_end hb g (b + 1) (by omega) (by omega)
theorem shUR_eq {front back : Pgl} (hf : fits front = true) (hb : fits back = true) : ∀ g b, b + g = 41 - longest back → ∀ t, t = g + longest back → longest back ≤ 40 → shUR front back b t = shU front back b g
  | 0, b, h1, t, ht, h40 => by
    rw [shU]
    exact shUR_end hb t b (by omega) (by omega)
  | g + 1, b, h1, t, ht, h40 => by
    obtain ⟨t, rfl⟩ : ∃ t', t = t' + 1 := ⟨t - 1, by omega⟩
    unfold shUR shU
    have e1 : fits (movP back b) = true := by rw [mov_fits hb b (by omega), decide_eq_true (by omega)]
    have e2 : touchR front (movP back b) = tR front back b 25 := by
      unfold touchR
      rw [hf, e1]
      exact tR_mov front back b 25
    rw [e1, e2, shUR_eq hf hb g (b + 1) (by omega) t (by omega) h40]
    by_cases hz : (tR front back b 25).length > 0
    · rw [if_pos hz, if_neg (by simp; intro h; rw [h] at hz; simp at hz)]
    · rw [if_neg hz, if_pos (by simp; exact List.eq_nil_of_length_eq_zero (by omega))]
theorem shUR_all {front back : Pgl} (hf : fits front = true) (hb : fits back = true) : shUR front back 0 41 = shU front back 0 (40 - longest back + 1) := by
  have hlo : longest back ≤ 40 := longest_le fun r hr => ((fits_rows hb).2 r hr).1
  exact shUR_eq hf hb _ 0 (by omega) _ (by omega) hlo
theorem shU_some {front back : Pgl} : ∀ g b x, shU front back b g = some x → b ≤ x ∧ x < b + g ∧ tR front back x 25 = []
  | 0, b, x, h => by cases h
  | g + 1, b, x, h => by
    unfold shU at h
    split at h
    · have := shU_some g (b + 1) x h
      exact ⟨by omega, by omega, this.2.2⟩
    · rename_i h1
      cases h
      exact ⟨Nat.le_refl _, by omega, List.eq_nil_of_length_eq_zero (by omega)⟩
theorem shF_ok {front back : Pgl} (h : (shF front back).2 = 0) : ∃ x, (shF front back).1 = movP back x ∧ fits (movP back x) = true ∧ touchF front (movP back x) = [] := by
  unfold shF at h ⊢
  cases e : fits front && fits back with
  | false => rw [e] at h; cases h
  | true =>
    rw [e] at h
    simp only [if_true] at h ⊢
    have hf : fits front = true := by cases h1 : fits front <;> simp [h1] at e ⊢
    have hb : fits back = true := by cases h1 : fits back <;> simp [h1] at e ⊢
    have hlo : longest back ≤ 40 := longest_le fun r hr => ((fits_rows hb).2 r hr).1
    cases hx : shU front back 0 (40 - longest back + 1) with
    | none => rw [hx] at h; cases h
    | some x =>
      obtain ⟨h1, h2, h3⟩ := shU_some _ _ _ hx
      have e1 : fits (movP back x) = true := by rw [mov_fits hb x (by omega), decide_eq_true (by omega)]
      refine ⟨x, rfl, e1, ?_⟩
      rw [touch_eq]
      unfold touchR
      rw [hf, e1]
      exact (tR_mov front back x 25).trans h3
theorem mov_cN (p : Pgl) (b : Nat) : cN (movP p b).flatten = cN p.flatten ∧ cM (movP p b).flatten = cM p.flatten := by
  induction p with
  | nil => exact ⟨rfl, rfl⟩
  | cons r p ih =>
    have e : (movP (r :: p) b).flatten = movR r b ++ (movP p b).flatten := rfl
    have hz : cN (List.replicate b (0 : UInt8)) = 0 ∧ cM (List.replicate b (0 : UInt8)) = 0 := by
      have hd : (dotsL 0).length = 0 := by decide +kernel
      constructor
      · unfold cN; simp
      · unfold cM; simp [hd]
    have hr : cN (movR r b) = cN r ∧ cM (movR r b) = cM r := by
      unfold movR
      split
      · unfold cN cM at hz ⊢
        rw [List.filter_append, List.length_append, List.map_append, List.sum_append, hz.1, hz.2]
        simp
      · rename_i h0
        have : r = [] := by cases r with | nil => rfl | cons a b => simp at h0
        rw [this]; exact ⟨rfl, rfl⟩
    rw [e, List.flatten_cons]
    unfold cN cM at ih hr ⊢
    rw [List.filter_append, List.filter_append, List.length_append, List.length_append, List.map_append, List.map_append, List.sum_append, List.sum_append, ih.1, ih.2, hr.1, hr.2]
    exact ⟨rfl, rfl⟩
end Go.Proofs.Ytdeknimelkdaeaa
end

/- the text P29 -/
section
/- Chapter 35: the reference's touches and Touch. -/
set_option linter.unusedVariables false
namespace Go.Proofs.Ytdeknimelkdaeaa
open Go.RowKit Go.Dx Go.Al
theorem any_take {α : Type} (f : α → Bool) (l : List α) (k : Nat) (x : α) (h : l[k]? = some x) : (l.take (k + 1)).any f = ((l.take k).any f || f x) := by
  rw [List.take_add_one, h]
  simp
theorem any_of {α : Type} (f : α → Bool) (l : List α) (k : Nat) (x : α) (h : l[k]? = some x) (hf : f x = true) : l.any f = true :=
  List.any_eq_true.2 ⟨x, List.mem_of_getElem? h, hf⟩
set_option maxHeartbeats 2000000 in
theorem ref35_touches (front back : Pgl) (h1 h2 : List Hd) (a1 a2 : Option Addr) (n1 n2 c1 c2 : Nat) (i k : Nat) (w : World) (hp : Pg w a1 n1 c1 h1 front) (hq : Pg w a2 n2 c2 h2 back) (hi : i < 25) (hk : k < 40) :
    Calls Try.prog 50 #[.slice a1 n1 c1, .slice a2 n2 c2, .int .i64 (i : Int), .int .i64 (k : Int)] w fun e w' => e = .returned (.bool (hitR (pcell front i k) (cAt back i (39 - (k : Int))))) ∧ Below w.heap.size w w' := by
  have hc1 := ref_Cell front h1 a1 n1 c1 i k w hp (by omega) (by omega)
  have hc2 := fun w' (hb : Below w.heap.size w w') => ref_Cell back h2 a2 n2 c2 i (39 - k) w' (hq.below hb) (by omega) (by omega)
  rw [show (39 : Int) - (k : Int) = ((39 - k : Nat) : Int) by omega, cAt_pcell]
  unfold hitR
  obtain ⟨k', hk', ek⟩ : ∃ k' : Nat, k' < 40 ∧ (39 : Int) - (k : Int) = (k' : Int) := ⟨39 - k, by omega, by omega⟩
  have ek2 : 39 - k = k' := by omega
  rw [ek2] at hc2 ⊢
  clear ek2
  generalize pcell front i k = c at hc1 ⊢
  generalize pcell back i k' = x at hc2 ⊢
  have hd1 := fun w' => ref_Dots c w'
  have hbk := fun w' => ref_Back x w'
  have hd2 := fun w' => ref_Dots (backC x) w'
  have la := dotsTo_len c 6
  have lb := dotsTo_len (backC x) 6
  change (dotsL c).length ≤ 6 at la
  change (dotsL (backC x)).length ≤ 6 at lb
  generalize dotsL c = A at hd1 la ⊢
  generalize dotsL (backC x) = B at hd2 lb ⊢
  go_enter Try.func50, Try.ntmps50
  go_wp2_with (first
    | (go_at_call_of 61 (Value.int IntKind.i64 (k : Int)); refine hc1.mono ?_; rintro e w2 ⟨rfl, rfl⟩)
    | (go_at_call 65; refine (hd1 _).mono ?_; rintro e w3 ⟨a3, c3, rfl, ho3, hb3⟩; refine hold ?_))
  refine hide ?_
  have S3 := hide ho3.sl
  clear ho3 hd1
  go_wp2_with (first
    | (go_at_call 61; refine (hc2 _ hb3).mono ?_; rintro e w4 ⟨rfl, rfl⟩)
    | (go_at_call 66; refine (hbk _).mono ?_; rintro e w5 ⟨rfl, hb5⟩)
    | (go_at_call 65; refine (hd2 _).mono ?_; rintro e w6 ⟨a6, c6, rfl, ho6, hb6⟩; refine hold ?_))
  refine hide ?_
  have hB6 := hb3.trans ((hb5.trans (hb6.mono hb5.size)).mono hb3.size)
  have S6 := hide ho6.sl
  have S36 := hide (S3.out.below (hb5.trans (hb6.mono hb5.size)))
  obtain ⟨NA, hNA⟩ : ∃ N, Hid (A.length = N) := ⟨_, hide rfl⟩
  obtain ⟨NB, hNB⟩ : ∃ N, Hid (B.length = N) := ⟨_, hide rfl⟩
  rw [hNA.out] at la S36 ⊢
  rw [hNB.out] at lb S6 ⊢
  clear ho6 hd2 hb5 hb6 hc1 hc2 hbk S3
  go_wp2_with fail
  go_loopg [11, 12] NA (fun g v _ w' => ∃ (j : Nat), j ≤ NA ∧ g = NA - j ∧ v = .int .i64 (j : Int) ∧ Hid ((A.take j).any (fun y => B.any fun z => y == z) = false) ∧ Below w6.heap.size w6 w')
  case atStart => exact ⟨0, by omega, by omega, rfl, hide rfl, Below.refl _ _⟩
  case round =>
    obtain ⟨j, hj, hg, rfl, hT, hbr⟩ := hrel
    have HG := hide hg
    clear hg
    by_cases hjl : j < NA
    · obtain ⟨y, hy⟩ : ∃ y, A[j]? = some y := ⟨A[j]'(by rw [hNA.out]; exact hjl), by simp⟩
      have hyA := hide (any_take (fun y => B.any fun z => y == z) A j y hy)
      have HY := hide hy
      clear hy
      go_wp2_with fail
      go_loopg [12] NB (fun g v w' => ∃ (m : Nat), m ≤ NB ∧ g = NB - m ∧ v = .int .i64 (m : Int) ∧ Hid ((B.take m).any (fun z => y == z) = false) ∧ Below w6.heap.size w6 w')
      case atStart => exact ⟨0, by omega, by omega, rfl, hide rfl, hbr⟩
      case round =>
        clear hbr
        obtain ⟨m, hm, hg, rfl, hT2, hbr⟩ := hrel
        have HG2 := hide hg
        clear hg
        by_cases hml : m < NB
        · obtain ⟨z, hz⟩ : ∃ z, B[m]? = some z := ⟨B[m]'(by rw [hNB.out]; exact hml), by simp⟩
          have hzB := hide (any_take (fun z => y == z) B m z hz)
          have HZ := hide hz
          clear hz
          obtain ⟨b1, o1, rfl, hb1, hc1⟩ := (S36.out.below hbr).ex (by rw [List.length_map, hNA.out]; omega)
          obtain ⟨b2, o2, rfl, hb2, hc2⟩ := (S6.out.below hbr).ex (by rw [List.length_map, hNB.out]; omega)
          have hx1 : wr.cell? ⟨b1, o1 + j, none⟩ = some (I64 y) := hc1 j _ (by rw [List.getElem?_map, HY.out]; rfl)
          have hy1 : wr.cell? ⟨b2, o2 + m, none⟩ = some (I64 z) := hc2 m _ (by rw [List.getElem?_map, HZ.out]; rfl)
          clear hc1 hc2
          cases hxy : (y == z) with
          | true =>
            have hE : Hid (A.any (fun y => B.any fun z => y == z) = true) := hide (any_of _ A j y HY.out (any_of _ B m z HZ.out hxy))
            have hE2 := hide (congrArg Value.bool hE.out)
            clear hzB hyA
            go_wp2
            go_quiet (fail)
            go_wp2
            go_ret
            exact ⟨by rw [hE2.out]; rfl, hB6.trans ((hbr.trans ((Still.below _).mono hbr.size)).mono hB6.size)⟩
          | false =>
            have hE : Hid ((B.take (m + 1)).any (fun z => y == z) = false) := hide (by rw [hzB.out, hT2.out, hxy]; rfl)
            clear hzB
            go_wp2
            go_quiet (fail)
            go_wp2
            go_roundg (NB - (m + 1))
            case measure => have := HG2.out; omega
            case rel => exact ⟨m + 1, by omega, rfl, by go_num, hE, hbr.trans ((Still.below _).mono hbr.size)⟩
        · obtain rfl : m = NB := by omega
          go_wp2
          go_roundg (NA - (j + 1))
          case measure => have := HG.out; omega
          case rel => exact ⟨j + 1, by omega, rfl, by go_num, hide (by have e := hT2.out; rw [← hNB.out, List.take_length] at e; rw [hyA.out, hT.out, e]; rfl), hbr⟩
    · obtain rfl : j = NA := by omega
      go_wp2
      go_ret
      have h1 := hT.out
      rw [← hNA.out, List.take_length] at h1
      exact ⟨by rw [h1]; rfl, hB6.trans (hbr.mono hB6.size)⟩
set_option maxRecDepth 100000 in
set_option maxHeartbeats 4000000 in
theorem ref35_Touch (front back : Pgl) (h1 h2 : List Hd) (a1 a2 : Option Addr) (n1 n2 c1 c2 : Nat) (w : World) (hp : Pg w a1 n1 c1 h1 front) (hq : Pg w a2 n2 c2 h2 back) :
    Calls Try.prog 29 #[.slice a1 n1 c1, .slice a2 n2 c2] w fun e w' => ∃ a c, e = .returned (.slice a (touchR front back).length c) ∧ Own w' w.heap.size 68 2 a (touchR front back).length c ((touchR front back).flatMap pc2) ∧ Below w.heap.size w w' := by
  have hc1 := ref4_Fits front h1 a1 n1 c1 w hp
  have hc2 := ref4_Fits back h2 a2 n2 c2 w hq
  unfold touchR
  cases e1 : fits front with
  | false =>
    rw [e1] at hc1
    clear e1
    go_enter Try.func29, Try.ntmps29
    go_wp2_with (go_at_call 49; refine hc1.mono ?_; rintro e w4 ⟨rfl, rfl⟩)
    go_ret
    exact ⟨none, 0, rfl, Own.nil _ _ _ _, Below.refl _ _⟩
  | true =>
    rw [e1] at hc1
    clear e1
    cases e2 : fits back with
    | false =>
      rw [e2] at hc2
      clear e2
      go_enter Try.func29, Try.ntmps29
      go_wp2_with (first
        | (go_at_call_of 49 (Value.slice a1 n1 c1); refine hc1.mono ?_; rintro e w4 ⟨rfl, rfl⟩)
        | (go_at_call_of 49 (Value.slice a2 n2 c2); refine hc2.mono ?_; rintro e w4 ⟨rfl, rfl⟩))
      go_ret
      exact ⟨none, 0, rfl, Own.nil _ _ _ _, Below.refl _ _⟩
    | true =>
      rw [e2] at hc2
      clear e2
      have eT : (if (true && true) = true then tR front back 0 25 else []) = tR front back 0 25 := rfl
      rw [eT]
      clear eT
      have HP := hide hp
      have HQ := hide hq
      clear hp hq
      go_enter Try.func29, Try.ntmps29
      go_wp2_with (first
        | (go_at_call_of 49 (Value.slice a1 n1 c1); refine hc1.mono ?_; rintro e w4 ⟨rfl, rfl⟩)
        | (go_at_call_of 49 (Value.slice a2 n2 c2); refine hc2.mono ?_; rintro e w4 ⟨rfl, rfl⟩))
      clear hc1 hc2
      go_loopg [5, 6, 7] 25 (fun g o i _ w' => ∃ (k : Nat) (ao : Option Addr) (co : Nat), k ≤ 25 ∧ g = 25 - k ∧ i = .int .i64 (k : Int) ∧ o = .slice ao (tR front back 0 k).length co ∧ Own w' w.heap.size 68 2 ao (tR front back 0 k).length co ((tR front back 0 k).flatMap pc2) ∧ Below w.heap.size w w')
      case atStart => exact ⟨0, none, 0, by omega, by omega, rfl, rfl, Own.nil _ _ _ _, Below.refl _ _⟩
      case round =>
        obtain ⟨k, ao, co, hk, hg, rfl, rfl, hO, hb⟩ := hrel
        have HG := hide hg
        have HO := hide hO
        clear hg hO
        have hlen := tR_len front back 0 k
        have hsucc := hide (tR_succ front back 0 k)
        obtain ⟨T, hT⟩ : ∃ T, Hid (tR front back 0 k = T) := ⟨_, hide rfl⟩
        rw [hT.out] at HO hlen hsucc ⊢
        obtain ⟨q, hq⟩ : ∃ q, Hid (T.length = q) := ⟨_, hide rfl⟩
        rw [hq.out] at HO hlen ⊢
        by_cases hkl : k < 25
        · have hd25 : decide ((k : Int) < 25) = true := decide_eq_true (by omega)
          go_wp2_with fail
          clear hd25
          go_loopg [5, 7] 40 (fun g o i w' => ∃ (m : Nat) (ao : Option Addr) (co : Nat), m ≤ 40 ∧ g = 40 - m ∧ i = .int .i64 (m : Int) ∧ o = .slice ao (q + (tRow front back k 0 m).length) co ∧ Own w' w.heap.size 68 2 ao (q + (tRow front back k 0 m).length) co ((T ++ tRow front back k 0 m).flatMap pc2) ∧ Below w.heap.size w w')
          case atStart => exact ⟨0, ao, co, by omega, by omega, rfl, rfl, by have := HO.out; simpa [tRow] using this, hb⟩
          case round =>
            clear hb HO
            obtain ⟨m, ao, co, hm, hg, rfl, rfl, hO, hb⟩ := hrel
            have HG2 := hide hg
            have HO := hide hO
            clear hg hO
            have hrow := tRow_len front back k 0 m
            by_cases hmR : m < 40
            · have hsc := hide (tRow_succ front back k 0 m)
              have hto := ref35_touches front back h1 h2 a1 a2 n1 n2 c1 c2 k m wr (HP.out.below hb) (HQ.out.below hb) hkl hmR
              rw [show (39 : Int) - (m : Int) = 39 - (m : Int) - ((0 : Nat) : Int) by omega] at hto
              obtain ⟨p, hp⟩ : ∃ p, Hid ((tRow front back k 0 m).length = p) := ⟨_, hide rfl⟩
              rw [hp.out] at HO hrow ⊢
              cases hh : hitR (pcell front k m) (cAt back k (39 - (m : Int) - ((0 : Nat) : Int))) with
              | true =>
                rw [hh] at hto
                have hsc2 : Hid (tRow front back k 0 (m + 1) = tRow front back k 0 m ++ [(k, m)]) := hide (by rw [hsc.out, hh]; rfl)
                clear hh hsc
                go_wp2_with (go_at_call 50; refine hto.mono ?_; rintro e w5 ⟨rfl, hb5⟩; refine hold ?_)
                refine hide ?_
                have hOr := HO.out.below hb5
                have hb' := hb.trans (hb5.mono hb.size)
                have hBr := hb'.size
                go_wp2_with (at_builtin; refine append_lit rfl _ _ 58 rfl 68 (.agg #[.int .i64 0, .int .i64 0]) 2 16 Try.underlying58 info_pair rfl w w.heap.size ao (q + p) co _ rfl hOr 1 [.int .i64 (k : Int), .int .i64 (m : Int)] rfl rfl (by simp [Value.oneCell']) (by omega) (by unfold maxLen; omega) hBr hb' ?_; intro a9 c9 w9 ho9 hg9 hb9)
                have HO9 := hide ho9
                clear ho9 hg9 hOr
                go_roundg (40 - (m + 1))
                case measure => have := HG2.out; omega
                case rel =>
                  have e1 : q + (tRow front back k 0 (m + 1)).length = q + p + 1 := by rw [hsc2.out, List.length_append, hp.out]; rfl
                  refine ⟨m + 1, a9, c9, by omega, rfl, by go_num, by rw [e1], ?_, hb9⟩
                  rw [e1, hsc2.out, ← List.append_assoc, List.flatMap_append (ys := [(k, m)])]
                  exact HO9.out
              | false =>
                rw [hh] at hto
                have hsc2 : Hid (tRow front back k 0 (m + 1) = tRow front back k 0 m) := hide (by rw [hsc.out, hh]; simp)
                clear hh hsc
                go_wp2_with (go_at_call 50; refine hto.mono ?_; rintro e w5 ⟨rfl, hb5⟩)
                go_roundg (40 - (m + 1))
                case measure => have := HG2.out; omega
                case rel => exact ⟨m + 1, ao, co, by omega, rfl, by go_num, by rw [hsc2.out, hp.out], by rw [hsc2.out, hp.out]; exact HO.out.below hb5, hb.trans (hb5.mono hb.size)⟩
            · obtain rfl : m = 40 := by omega
              go_wp2
              go_roundg (25 - (k + 1))
              case measure => have := HG.out; omega
              case rel =>
                have e1 : (tR front back 0 (k + 1)).length = q + (tRow front back k 0 40).length := by rw [hsucc.out, List.length_append, hq.out]
                exact ⟨k + 1, ao, co, by omega, rfl, by go_num, by rw [e1], by rw [e1, hsucc.out]; exact HO.out, hb⟩
        · obtain rfl : k = 25 := by omega
          go_wp2
          go_ret
          rw [hT.out, hq.out]
          exact ⟨ao, co, rfl, HO.out, hb⟩
end Go.Proofs.Ytdeknimelkdaeaa
end

/- the text P31 -/
section
/- Chapter 35: the generator's wide pages. -/
set_option linter.unusedVariables false
namespace Go.Proofs.Ytdeknimelkdaeaa
open Go.RowKit Go.Dx Go.Al
theorem rem_nat35 (n k : Nat) (hk : 0 < k) : ∃ m, m < k ∧ (n : Int).tmod (k : Int) = (m : Int) := ⟨n % k, Nat.mod_lt _ hk, by rw [Int.tmod_eq_emod_of_nonneg (by omega)]; exact (Int.natCast_emod n k).symm⟩
theorem sq_6 {j : Nat} (h : j < 6) : ∃ q : Nat, q ≤ 25 ∧ (j : Int) * (j : Int) = (q : Int) :=
  ⟨j * j, Nat.mul_le_mul (show j ≤ 5 by omega) (show j ≤ 5 by omega), by push_cast; rfl⟩
theorem wide_n {x y : Nat} (hx : x < 4) (hy : y < 10) : ∃ q N : Nat, 13 ≤ N ∧ N ≤ 40 ∧ q ≤ 27 ∧ (x : Int) * (y : Int) = (q : Int) ∧ 40 - (q : Int) = (N : Int) := by
  have h : x * y ≤ 3 * 9 := Nat.mul_le_mul (by omega) (by omega)
  exact ⟨x * y, 40 - x * y, by omega, by omega, by omega, by push_cast; rfl, by omega⟩
theorem box_row35 {w : World} {b n : Nat} (h : w.rowIs b 5 n (fun _ => .int .u8 0)) : Box w b 5 ((List.replicate n (0 : UInt8)).map B8) := by
  have := row_boxP h
  rw [List.map_replicate]
  exact this
theorem set_64 {xs : List UInt8} (h : ∀ c ∈ xs, c.toNat < 64) (i m : Nat) (hm : m < 64) : ∀ c ∈ xs.set i (UInt8.ofNat m), c.toNat < 64 := fun c hc => by
  rcases List.mem_or_eq_of_mem_set hc with h1 | h1
  · exact h c h1
  · rw [h1]; exact u8_64 hm
set_option maxRecDepth 100000 in
set_option maxHeartbeats 4000000 in
theorem ref35_Wide (l : List Int) (a : Option Addr) (n c : Nat) (w : World) (hs : Sl w 1 a n c (l.map I64)) (hl : ∀ x ∈ l, -9223372036854775808 ≤ x ∧ x ≤ 9223372036854775807) :
    Calls Try.prog 26 #[.slice a n c, .int .i64 0] w fun e w' => ∃ a' c' hp p, e = .returned (.slice a' p.length c') ∧ OPage w' w.heap.size a' c' hp p ∧ PF p ∧ Below w.heap.size w w' := by
  obtain ⟨K, HK⟩ : ∃ K, Hid (atF l 0 3 = K) := ⟨_, hide rfl⟩
  have hK : K < 3 := by rw [← HK.out]; exact atF_lt (by omega)
  have HQ : Hid (∀ (i v : Int) (m r : Nat), atF l i m = r → (m : Int) = v → 1 ≤ m → m ≤ 1000000000 → ∀ w', Below w.heap.size w w' → Calls Try.prog 22 #[.slice a n c, .int .i64 i, .int .i64 v] w' fun e w2 => e = .returned (.int .i64 (r : Int)) ∧ w' = w2) :=
    fun i v m r h hv h1 h2 w' hb => At_at h hv h1 h2 hl (hs.below hb)
  clear hl
  go_enter Try.func26, Try.ntmps26
  go_wp2_with fail
  go_loopg [5, 6, 7, 8, 9] (K + 1) (fun g x i _ _ _ w' => ∃ (j : Nat) (a2 : Option Addr) (c2 : Nat) (hp : List Hd) (p : Pgl), j ≤ K + 1 ∧ g = K + 1 - j ∧ p.length = j ∧ (∀ x ∈ p, x.length ≤ 40 ∧ ∀ c ∈ x, c.toNat < 64) ∧ i = .int .i64 (j : Int) ∧ x = .slice a2 j c2 ∧ OPage w' w.heap.size a2 c2 hp p ∧ Below w.heap.size w w')
  case atStart => exact ⟨0, none, 0, [], [], by omega, by omega, rfl, (fun x hx => by cases hx), rfl, rfl, OPage.nil _ _, Below.refl _ _⟩
  case round =>
    obtain ⟨j, a2, c2, hp, p, hj, hg1, hpj, hpF, rfl, rfl, hop, hbj⟩ := hrel
    have HG1 := hide hg1
    have HPJ := hide hpj
    have HPF := hide hpF
    clear hg1 hpj hpF
    go_wp2_with fail
    refine (HQ.out _ _ 3 K HK.out rfl (by omega) (by omega) _ hbj).mono ?_
    rintro e w1 ⟨rfl, rfl⟩
    by_cases hjd : j < K + 1
    · obtain ⟨u1, Hu1⟩ : ∃ u, Hid (atF l (1 + (j : Int)) 4 = u) := ⟨_, hide rfl⟩
      obtain ⟨u2, Hu2⟩ : ∃ u, Hid (atF l (2 + (j : Int)) 10 = u) := ⟨_, hide rfl⟩
      have hu1 : u1 < 4 := by rw [← Hu1.out]; exact atF_lt (by omega)
      have hu2 : u2 < 10 := by rw [← Hu2.out]; exact atF_lt (by omega)
      go_wp2_with fail
      refine (HQ.out _ _ 4 u1 Hu1.out rfl (by omega) (by omega) _ hbj).mono ?_
      rintro e w1 ⟨rfl, rfl⟩
      go_wp2_with fail
      refine (HQ.out _ _ 10 u2 Hu2.out rfl (by omega) (by omega) _ hbj).mono ?_
      rintro e w1 ⟨rfl, rfl⟩
      obtain ⟨uu, N, hN1, hN2, huu, e1, e2⟩ := wide_n hu1 hu2
      clear hu1 hu2
      go_wp2_with (with_reducible refine make_row 32 _ _ _ 5 (.int .u8 0) 1 Try.underlying31 info_u8 rfl .i64 .i64 _ _ N rfl rfl (by omega) (by omega) (by omega) (by omega) ?_; intro w2 hr2 hb2 hz2; have hx2 := hide (box_row35 hr2); clear hr2; refine hold ?_)
      refine hide ?_
      obtain ⟨wz, Hwz⟩ : ∃ wz : World, Hid (wz = wr) := ⟨_, hide rfl⟩
      obtain ⟨g0, Hg0⟩ : ∃ g0, Hid (wr.heap.size = g0) := ⟨_, hide rfl⟩
      have hbz : Below g0 wr w2 := by rw [← Hg0.out]; exact hb2
      rw [Hg0.out] at hx2 ⊢
      have hg0 : w.heap.size ≤ g0 := by rw [← Hg0.out]; exact hbj.size
      clear hb2 hz2 e1 e2 Hu1 Hu2 huu
      go_wp2_with fail
      go_loopg [8, 9] 6 (fun g i _ w' => ∃ (q : Nat) (xs : List UInt8), q ≤ 6 ∧ g = 6 - q ∧ i = .int .i64 (q : Int) ∧ xs.length = N ∧ (∀ c ∈ xs, c.toNat < 64) ∧ Box w' g0 5 (xs.map B8) ∧ Below g0 wz w')
      case atStart => exact ⟨0, List.replicate N 0, by omega, by omega, rfl, by simp, (fun c hc => by rw [(List.mem_replicate.1 hc).2]; decide), hx2.out, by rw [Hwz.out]; exact hbz⟩
      case round =>
        rw [← Hwz.out] at hbj hop hbz Hg0
        clear hbz hx2
        obtain ⟨q, xs, hq, hg2, rfl, hxl, hx64, hbx, hbq⟩ := hrel
        have HG2 := hide hg2
        have HXL := hide hxl
        have HX64 := hide hx64
        clear hg2 hxl hx64
        have hbw2 : Below w.heap.size w wr := hbj.trans (hbq.mono hg0)
        by_cases hqu : q < 6
        · obtain ⟨m, Hm⟩ : ∃ m, Hid (atF l (3 + 2 * (j : Int) + (q : Int)) 64 = m) := ⟨_, hide rfl⟩
          have hm : m < 64 := by rw [← Hm.out]; exact atF_lt (by omega)
          have hmb : (m : Int) % 256 = (m : Int) := by omega
          obtain ⟨i1, hi1, et1⟩ := rem_nat35 q N (by omega)
          obtain ⟨qq, hqq, eqq⟩ := sq_6 hqu
          obtain ⟨s2, es2⟩ : ∃ s2 : Nat, (N : Int) - 1 - (qq : Int) + 60 = (s2 : Int) := ⟨N + 59 - qq, by omega⟩
          obtain ⟨i2, hi2, et2⟩ := rem_nat35 s2 N (by omega)
          go_wp2_with fail
          refine (HQ.out _ _ 64 m Hm.out rfl (by omega) (by omega) _ hbw2).mono ?_
          rintro e w1 ⟨rfl, rfl⟩
          have hmv : Value.int .u8 (m : Int) = B8 (UInt8.ofNat m) := (u8_small (by omega)).symm
          go_wp2_with (with_reducible refine hold_store ?_)
          refine hide ?_
          refine store_cell 5 _ _ 5 g0 i1 (xs.map B8) (.int .u8 (m : Int)) size_u8 hbx rfl rfl rfl rfl (by rw [List.length_map, HXL.out]; exact hi1) ?_; intro w8 x8 g8 s8
          have X8 : Hid (Box w8 g0 5 ((xs.set i1 (UInt8.ofNat m)).map B8)) := hide (by rw [List.map_set, ← hmv]; exact x8)
          have hb8 : Below g0 wz w8 := hbq.grown g8 (Nat.le_of_lt hbx.lt) (fun b hb => by cases hb; exact Nat.le_refl _)
          clear x8 s8 g8 hbx hbw2 hbq
          go_wp2_with (with_reducible refine hold_store ?_)
          refine hide ?_
          refine store_cell 5 _ _ 5 g0 i2 ((xs.set i1 (UInt8.ofNat m)).map B8) (.int .u8 (m : Int)) size_u8 X8.out rfl rfl rfl rfl (by rw [List.length_map, List.length_set, HXL.out]; exact hi2) ?_; intro w9 x9 g9 s9
          have X9 : Hid (Box w9 g0 5 (((xs.set i1 (UInt8.ofNat m)).set i2 (UInt8.ofNat m)).map B8)) := hide (by rw [List.map_set, ← hmv]; exact x9)
          have hb9 : Below g0 wz w9 := hb8.grown g9 (Nat.le_of_lt X8.out.lt) (fun b hb => by cases hb; exact Nat.le_refl _)
          clear x9 s9 g9 X8 hb8 hmv
          go_wp2_with fail
          go_roundg (6 - (q + 1))
          case measure => have := HG2.out; omega
          case rel => exact ⟨q + 1, _, by omega, rfl, by go_num, by rw [List.length_set, List.length_set]; exact HXL.out, set_64 (set_64 HX64.out _ _ hm) _ _ hm, X9.out, hb9⟩
        · obtain rfl : q = 6 := by omega
          have hlt := hbx.lt
          have hgz : wz.heap.size ≤ g0 := Nat.le_of_eq Hg0.out
          have hrow : Own wr w.heap.size 5 1 (some ⟨g0, 0, none⟩) N N (xs.map B8) := own_of_box hbx (by rw [List.length_map]; exact HXL.out) (by unfold maxLen; omega) hg0
          have hopr := hop.below (hbq.mono (Nat.le_of_eq Hg0.out))
          clear hbx hgz
          go_wp2_with (at_builtin; refine app_p rfl _ _ rfl w w.heap.size _ _ _ hp p HPJ.out rfl hopr (some ⟨g0, 0, none⟩, N, N) xs hrow rfl (by omega) hbw2.size hbw2 ?_; intro a' c' w' ho' hb')
          go_roundg (K + 1 - (j + 1))
          case measure => have := HG1.out; omega
          case rel => exact ⟨j + 1, a', c', hp ++ [(some ⟨g0, 0, none⟩, N, N)], p ++ [xs], by omega, rfl, by rw [List.length_append, HPJ.out]; rfl, PF.push HPF.out ⟨by rw [HXL.out]; exact hN2, HX64.out⟩, by go_num, rfl, ho', hb'⟩
    · obtain rfl : j = K + 1 := by omega
      go_wp2
      go_ret
      have e1 := HPJ.out
      exact ⟨a2, c2, hp, p, by rw [e1]; rfl, hop, ⟨by omega, HPF.out⟩, hbj⟩
end Go.Proofs.Ytdeknimelkdaeaa
end

/- the text AppF -/
section
/- The laws on append once more: the block that is handed back is the old one or a new one. No program in sight. -/
set_option linter.unusedVariables false
namespace Go.Dx
open Go.RowKit
section laws
variable {P : Program} {w : World} {ops : Array Oper} {rest : List Oper} {o : Oper} {act : Act} {Q : Exit → Act → World → Prop}
theorem run_append_fresh (base : Nat) (t tx ty e : TypeId) (i : TypeInfo) (z : Value) (ht : P.underlying t = some (.slice e)) (hi : P.info? e = some i) (hz : i.zero = some z)
    (hzs : z.cells.size = i.size) (a : Option Addr) (n c : Nat) (xs : List Value) (hown : Own w base e i.size a n c xs)
    (x : Value) (m : Nat) (news : List Value) (hs : Src P i.size tx x m news w)
    (h63 : n + m ≤ maxLen) (hbytes : (n + m) * i.bytes ≤ 140737488355328) (hbase : base ≤ w.heap.size) :
    ∃ a' c' w', (Builtin.append_ #[t, tx] ty #[.slice a n c, x]).run P w = .ok (.slice a' (n + m) c') w' ∧ Own w' base e i.size a' (n + m) c' (xs ++ news) ∧ w.grownBy w' (a.map (·.block)) ∧ (∀ p, a' = some p → (∃ q, a = some q ∧ q.block = p.block) ∨ w.heap.size ≤ p.block) := by
  have hsmall : n + m ≤ 9223372036854775807 := by simp only [maxLen] at h63; omega
  have hlen : (xs ++ news).length = (n + m) * i.size := by rw [List.length_append, hown.1, hs.newsLen, Nat.add_mul]
  have hold : (Builtin.firstCells i.size n (.slice a n c)).run P w.drew = .ok xs.toArray w.drew := by
    have hsl := hown.sl
    cases a with
    | none =>
      have := hsl.nil rfl
      have := hsl.le
      obtain rfl : n = 0 := by omega
      have hnews : xs = [] := List.eq_nil_of_length_eq_zero (by simpa using hsl.len)
      subst hnews
      exact run_firstCells_none w.drew i.size 0 0 c
    | some p => exact run_firstCells_some w.drew i.size n p n c xs hsl.len (by simpa using hsl.cell p rfl)
  by_cases hroom : n + m ≤ c
  · rcases hown.2 with ⟨h1, h2⟩ | ⟨g, cap, cur, h1, hbg, hg, hnc, hcm, hcs, htake⟩
    · injection h1 with h1 h3 h4
      subst h1 h3 h4
      obtain rfl : m = 0 := by omega
      have hx : xs = [] := List.eq_nil_of_length_eq_zero (by simpa using hown.1)
      have hnews : news = [] := List.eq_nil_of_length_eq_zero (by simpa using hs.newsLen)
      subst hx hnews
      refine ⟨none, 0, w, ?_, Own.nil w base e i.size, World.grownBy.refl _ _, fun p hp => by cases hp⟩
      rcases hs.kind with ⟨e', hk⟩ | hk <;> simp [Builtin.append_, run_underlying ht, run_underlying hk, sizeOf, typeInfo, hi, hs.len, hs.cells]
    · injection h1 with h1 h3 h4
      subst h1 h4
      have hfit : n * i.size + news.length ≤ cur.size := by rw [hs.newsLen, hcs, ← Nat.add_mul]; exact Nat.mul_le_mul_right _ hroom
      have hst := run_storeCells_at P g (n * i.size) e news 0 cur w hg (by simpa using hfit) hs.one
      simp only [Nat.add_zero] at hst
      refine ⟨some ⟨g, 0, none⟩, c, w.setRow g (cur.toList.take (n * i.size) ++ news ++ cur.toList.drop (n * i.size + news.length)).toArray, ?_, ⟨hlen, .inr ⟨g, c, _, rfl, hbg, setRow_heap w g cur _ e _ hg, hroom, hcm, ?_, ?_⟩⟩, ⟨rfl, rfl, rfl, by simp, fun k _ hk => setRow_other w g k _ (fun e => hk (by simp [e]))⟩, fun p hp => by cases hp; exact .inl ⟨_, rfl, rfl⟩⟩
      · rcases hs.kind with ⟨e', hk⟩ | hk <;> simp [Builtin.append_, run_underlying ht, run_underlying hk, sizeOf, typeInfo, hi, hs.len, hroom, hs.cells, Addr.add_lit, hst]
      · simp only [List.size_toArray, List.length_append, List.length_take, List.length_drop, Array.length_toList]
        omega
      · rw [htake, ← hlen]
        exact List.take_left
  · have hr := run_append_grow_src (P := P) w t tx ty e i z ht hi hz a n c xs hold x m news hs (by omega) (by omega) (growslice_fits (by omega) hbytes)
    have hge := grownCap_ge w (n + m) c e
    have hcm : grownCap w (n + m) c e ≤ maxLen := grownCap_le_maxLen w (n + m) c e h63
    refine ⟨_, _, _, hr, ⟨hlen, .inr ⟨w.heap.size, _, _, rfl, hbase, heap_alloc_new w.drew _, hge, hcm, ?_, ?_⟩⟩, ⟨rfl, rfl, rfl, by simp, fun k hk _ => Below.heap_alloc w.drew _ k hk⟩, fun p hp => by cases hp; exact .inr (Nat.le_refl _)⟩
    · simp only [Array.size_append, List.size_toArray, size_zeroCells, hzs, hlen, ← Nat.add_mul]
      congr 1
      omega
    · simp only [Array.toList_append, List.append_assoc]
      rw [← List.append_assoc, ← hlen]
      exact List.take_left

/-- 'append(out, x...)', out owned, whatever x is: the general law. -/
theorem append_src_f (hg : o.guard = none) (s x : Operand) (t tx : TypeId) (hop : o.op = Op.call { callee := Callee.builtin Builtin.append, args := #[s, x], argTypes := #[t, tx] })
    (e : TypeId) (z : Value) (sz bytes : Nat) (ht : P.underlying t = some (.slice e)) (hi : (P.info? e).map (fun i => (i.zero, i.size, i.bytes)) = some (some z, sz, bytes)) (hz : z.cells.size = sz)
    (w0 : World) (B : Nat) (a : Option Addr) (n c : Nat) (xs : List Value) (hs : act.eval s = .slice a n c) (hown : Own w B e sz a n c xs)
    (v : Value) (m : Nat) (ys : List Value) (hx : act.eval x = v) (hy : Src P sz tx v m ys w)
    (hn : (n + m) * bytes ≤ 140737488355328) (hn2 : n + m ≤ maxLen) (hB : B ≤ w.heap.size) (hbel : Below B w0 w)
    (hK : ∀ a' c' w', Own w' B e sz a' (n + m) c' (xs ++ ys) → w.grownBy w' (a.map (·.block)) → (∀ p, a' = some p → (∃ q, a = some q ∧ q.block = p.block) ∨ w.heap.size ≤ p.block) → Below B w0 w' → wpList P ops Q rest (act.put o.dst (.slice a' (n + m) c')) w') :
    wpList P ops Q (o :: rest) act w := by
  obtain ⟨i, hi0, hz0, hz1, hz2⟩ := info_parts hi
  subst hz1 hz2
  clear hi
  obtain ⟨a', c', w', hrun, ho, hgr, hfr⟩ := run_append_fresh B t tx o.type e i z ht hi0 hz0 hz a n c xs hown v m ys hy hn2 hn hB
  refine wpList_plain hg fun K hK' => ?_
  unfold Oper.wp
  simp [execOp, hop, resolve, invoke, builtin, hs, hx, hrun, Result.andThen]
  refine hK' _ _ (hK a' c' w' ho hgr hfr (hbel.grown hgr hB ?_))
  intro k hk
  cases a with
  | none => cases hk
  | some p => injection hk with hk; subst hk; exact hown.base.1

/-- 'append(out, ys...)', out owned, ys a slice. -/
theorem append_own_f (hg : o.guard = none) (s x : Operand) (t : TypeId) (hop : o.op = Op.call { callee := Callee.builtin Builtin.append, args := #[s, x], argTypes := #[t, t] })
    (e : TypeId) (z : Value) (sz bytes : Nat) (ht : P.underlying t = some (.slice e)) (hi : (P.info? e).map (fun i => (i.zero, i.size, i.bytes)) = some (some z, sz, bytes)) (hz : z.cells.size = sz)
    (w0 : World) (B : Nat) (a : Option Addr) (n c : Nat) (xs : List Value) (hs : act.eval s = .slice a n c) (hown : Own w B e sz a n c xs)
    (a2 : Option Addr) (m c2 : Nat) (ys : List Value) (hx : act.eval x = .slice a2 m c2) (hy : Sl w sz a2 m c2 ys) (h1 : ∀ u ∈ ys, u.oneCell' = true)
    (hn : (n + m) * bytes ≤ 140737488355328) (hn2 : n + m ≤ maxLen) (hB : B ≤ w.heap.size) (hbel : Below B w0 w)
    (hK : ∀ a' c' w', Own w' B e sz a' (n + m) c' (xs ++ ys) → w.grownBy w' (a.map (·.block)) → (∀ p, a' = some p → (∃ q, a = some q ∧ q.block = p.block) ∨ w.heap.size ≤ p.block) → Below B w0 w' → wpList P ops Q rest (act.put o.dst (.slice a' (n + m) c')) w') :
    wpList P ops Q (o :: rest) act w :=
  append_src_f hg s x t t hop e z sz bytes ht hi hz w0 B a n c xs hs hown _ m ys hx (hy.src ht h1) hn hn2 hB hbel hK

theorem append_lit_f (hg : o.guard = none) (s x : Operand) (t : TypeId) (hop : o.op = Op.call { callee := Callee.builtin Builtin.append, args := #[s, x], argTypes := #[t, t] })
    (e : TypeId) (z : Value) (sz bytes : Nat) (ht : P.underlying t = some (.slice e)) (hi : (P.info? e).map (fun i => (i.zero, i.size, i.bytes)) = some (some z, sz, bytes)) (hz : z.cells.size = sz)
    (w0 : World) (B : Nat) (a : Option Addr) (n c : Nat) (xs : List Value) (hs : act.eval s = .slice a n c) (hown : Own w B e sz a n c xs)
    (m : Nat) (us : List Value) (hx : act.eval x = .slice (some ⟨w.heap.size, 0, none⟩) m m) (hu : us.length = m * sz) (h1 : ∀ u ∈ us, u.oneCell' = true)
    (hn : (n + m) * bytes ≤ 140737488355328) (hn2 : n + m ≤ maxLen) (hB : B ≤ w.heap.size) (hbel : Below B w0 w)
    (hK : ∀ a' c' w', Own w' B e sz a' (n + m) c' (xs ++ us) → w.grownBy w' (a.map (·.block)) → (∀ p, a' = some p → (∃ q, a = some q ∧ q.block = p.block) ∨ w.heap.size ≤ p.block) → Below B w0 w' → wpList P ops Q rest (act.put o.dst (.slice a' (n + m) c')) w') :
    wpList P ops Q (o :: rest) act (w.alloc (.cells us.toArray e)) := by
  refine append_own_f hg s x t hop e z sz bytes ht hi hz w0 B a n c xs hs (hown.alloc _) _ m m us hx ?_ h1 hn hn2 (by simp; omega) (hbel.alloc hB _) ?_
  · have := (Own.built w 0 e sz m us.toArray (Nat.zero_le _) (by simpa using hu) (by omega)).sl
    simpa using this
  · intro a' c' w' ho hgr hfr hb
    refine hK a' c' w' ho ⟨hgr.os, hgr.tape, hgr.output, ?_, ?_⟩ (fun p hp => (hfr p hp).imp id (fun h => by simp at h; omega)) hb
    · have := hgr.size; simp at this; omega
    · intro k hk hne
      rw [hgr.block k (by simp; omega) hne]
      rw [Below.heap_alloc _ _ _ hk]
end laws
end Go.Dx
end

/- the text AppN -/
section
/- The law on 'append([]T{}, xs...)': what is handed back is the empty slice or lies in a new block. No program in sight. -/
set_option linter.unusedVariables false
set_option linter.unusedSimpArgs false
namespace Go.Dx
open Go.RowKit
section ops
variable {P : Program} {w : World} {ops : Array Oper} {rest : List Oper} {o : Oper} {act : Act} {Q : Exit → Act → World → Prop}
theorem run_append_empty (B : Nat) (t tx ty e : TypeId) (i : TypeInfo) (z : Value) (ht : P.underlying t = some (.slice e)) (hi : P.info? e = some i) (hz : i.zero = some z)
    (hzs : z.cells.size = i.size) (a : Option Addr) (hown : Own w B e i.size a 0 0 [])
    (x : Value) (m : Nat) (news : List Value) (hs : Src P i.size tx x m news w)
    (h63 : m ≤ maxLen) (hbytes : m * i.bytes ≤ 140737488355328) (hB : B ≤ w.heap.size) :
    ∃ a' c' w', (Builtin.append_ #[t, tx] ty #[.slice a 0 0, x]).run P w = .ok (.slice a' m c') w' ∧ Own w' B e i.size a' m c' news ∧ Below w.heap.size w w' ∧ (m = 0 ∧ c' = 0 ∨ m ≠ 0 ∧ ∀ p, a' = some p → w.heap.size ≤ p.block) := by
  have hsmall : m ≤ 9223372036854775807 := by simp only [maxLen] at h63; omega
  have hlen : news.length = m * i.size := hs.newsLen
  have hold : (Builtin.firstCells i.size 0 (.slice a 0 0)).run P w.drew = .ok ([] : List Value).toArray w.drew := by
    cases a with
    | none => exact run_firstCells_none w.drew i.size 0 0 0
    | some p => exact run_firstCells_some w.drew i.size 0 p 0 0 [] (by simp) (fun j u hj => by simp at hj)
  by_cases hm : m = 0
  · subst hm
    have hnews : news = [] := List.eq_nil_of_length_eq_zero (by simpa using hs.newsLen)
    subst hnews
    refine ⟨a, 0, w, ?_, hown, Below.refl _ _, .inl ⟨rfl, rfl⟩⟩
    cases a with
    | none =>
      rcases hs.kind with ⟨e', hk⟩ | hk <;> simp [Builtin.append_, run_underlying ht, run_underlying hk, sizeOf, typeInfo, hi, hs.len, hs.cells]
    | some p =>
      have hst : ∀ q : Addr, (storeCells q ([] : List Value)).run P w = .ok () w := by intro q; simp [storeCells]
      rcases hs.kind with ⟨e', hk⟩ | hk <;> simp [Builtin.append_, run_underlying ht, run_underlying hk, sizeOf, typeInfo, hi, hs.len, hs.cells, hst]
  · have hr := run_append_grow_src (P := P) w t tx ty e i z ht hi hz a 0 0 [] hold x m news hs (by omega) (by omega) (growslice_fits (by omega) (by rw [Nat.zero_add]; exact hbytes))
    have hge := grownCap_ge w (0 + m) 0 e
    have hcm : grownCap w (0 + m) 0 e ≤ maxLen := grownCap_le_maxLen w (0 + m) 0 e (by rw [Nat.zero_add]; exact h63)
    rw [Nat.zero_add] at hr hge hcm
    refine ⟨_, _, _, hr, ⟨hlen, .inr ⟨w.heap.size, _, _, rfl, hB, heap_alloc_new w.drew _, hge, hcm, ?_, ?_⟩⟩, undrew (Below.alloc (Below.refl w.heap.size w.drew) (Nat.le_refl w.heap.size) _), .inr ⟨hm, fun p hp => by cases hp; exact Nat.le_refl _⟩⟩
    · simp only [Array.size_append, List.size_toArray, size_zeroCells, hzs, List.nil_append, hlen, ← Nat.add_mul]
      congr 1
      omega
    · simp only [Array.toList_append, List.nil_append]
      rw [← hlen]
      exact List.take_left
/-- 'append([]T{}, xs...)' -/
theorem append_empty (hg : o.guard = none) (s x : Operand) (t : TypeId) (hop : o.op = Op.call { callee := Callee.builtin Builtin.append, args := #[s, x], argTypes := #[t, t] })
    (e : TypeId) (z : Value) (sz bytes : Nat) (ht : P.underlying t = some (.slice e)) (hi : (P.info? e).map (fun i => (i.zero, i.size, i.bytes)) = some (some z, sz, bytes)) (hz : z.cells.size = sz)
    (B : Nat) (a : Option Addr) (hs : act.eval s = .slice a 0 0) (hown : Own w B e sz a 0 0 [])
    (a2 : Option Addr) (m c2 : Nat) (ys : List Value) (hx : act.eval x = .slice a2 m c2) (hy : Sl w sz a2 m c2 ys) (h1 : ∀ u ∈ ys, u.oneCell' = true)
    (hn : m * bytes ≤ 140737488355328) (hn2 : m ≤ maxLen) (hB : B ≤ w.heap.size)
    (hK : ∀ a' c' w', Own w' B e sz a' m c' ys → Below w.heap.size w w' → (m = 0 ∧ c' = 0 ∨ m ≠ 0 ∧ ∀ p, a' = some p → w.heap.size ≤ p.block) → wpList P ops Q rest (act.put o.dst (.slice a' m c')) w') :
    wpList P ops Q (o :: rest) act w := by
  obtain ⟨i, hi0, hz0, hz1, hz2⟩ := info_parts hi
  subst hz1 hz2
  clear hi
  obtain ⟨a', c', w', hrun, ho, hgr, hfr⟩ := run_append_empty B t t o.type e i z ht hi0 hz0 hz a hown _ m ys (hy.src ht h1) hn2 hn hB
  refine wpList_plain hg fun K hK' => ?_
  unfold Oper.wp
  simp [execOp, hop, resolve, invoke, builtin, hs, hx, hrun, Result.andThen]
  exact hK' _ _ (hK a' c' w' ho hgr hfr)
/-- 'append(out, ys...)', out owned: either all that lay there stays, or there is room and the block of out grows in place. -/
theorem run_append_where (base : Nat) (t tx ty e : TypeId) (i : TypeInfo) (z : Value) (ht : P.underlying t = some (.slice e)) (hi : P.info? e = some i) (hz : i.zero = some z)
    (hzs : z.cells.size = i.size) (a : Option Addr) (n c : Nat) (xs : List Value) (hown : Own w base e i.size a n c xs)
    (x : Value) (m : Nat) (news : List Value) (hs : Src P i.size tx x m news w)
    (h63 : n + m ≤ maxLen) (hbytes : (n + m) * i.bytes ≤ 140737488355328) (hbase : base ≤ w.heap.size) :
    ∃ a' c' w', (Builtin.append_ #[t, tx] ty #[.slice a n c, x]).run P w = .ok (.slice a' (n + m) c') w' ∧ Own w' base e i.size a' (n + m) c' (xs ++ news) ∧ w.grownBy w' (a.map (·.block)) ∧ (n + m ≤ c ∨ Below w.heap.size w w') := by
  obtain ⟨a', c', w', h1, h2, h3, _⟩ := run_append_fresh base t tx ty e i z ht hi hz hzs a n c xs hown x m news hs h63 hbytes hbase
  by_cases hroom : n + m ≤ c
  · exact ⟨a', c', w', h1, h2, h3, .inl hroom⟩
  · have hsmall : n + m ≤ 9223372036854775807 := by simp only [maxLen] at h63; omega
    have hold : (Builtin.firstCells i.size n (.slice a n c)).run P w.drew = .ok xs.toArray w.drew := by
      have hsl := hown.sl
      cases a with
      | none =>
        have := hsl.nil rfl
        have := hsl.le
        obtain rfl : n = 0 := by omega
        have hnews : xs = [] := List.eq_nil_of_length_eq_zero (by simpa using hsl.len)
        subst hnews
        exact run_firstCells_none w.drew i.size 0 0 c
      | some p => exact run_firstCells_some w.drew i.size n p n c xs hsl.len (by simpa using hsl.cell p rfl)
    have hr := run_append_grow_src (P := P) w t tx ty e i z ht hi hz a n c xs hold x m news hs (by omega) (by omega) (growslice_fits (by omega) hbytes)
    rw [hr] at h1
    cases h1
    exact ⟨_, _, _, hr, h2, h3, .inr (undrew (Below.alloc (Below.refl w.heap.size w.drew) (Nat.le_refl w.heap.size) _))⟩
theorem append_where (hg : o.guard = none) (s x : Operand) (t : TypeId) (hop : o.op = Op.call { callee := Callee.builtin Builtin.append, args := #[s, x], argTypes := #[t, t] })
    (e : TypeId) (z : Value) (sz bytes : Nat) (ht : P.underlying t = some (.slice e)) (hi : (P.info? e).map (fun i => (i.zero, i.size, i.bytes)) = some (some z, sz, bytes)) (hz : z.cells.size = sz)
    (B : Nat) (a : Option Addr) (n c : Nat) (xs : List Value) (hs : act.eval s = .slice a n c) (hown : Own w B e sz a n c xs)
    (a2 : Option Addr) (m c2 : Nat) (ys : List Value) (hx : act.eval x = .slice a2 m c2) (hy : Sl w sz a2 m c2 ys) (h1 : ∀ u ∈ ys, u.oneCell' = true)
    (hn : (n + m) * bytes ≤ 140737488355328) (hn2 : n + m ≤ maxLen) (hB : B ≤ w.heap.size)
    (hK : ∀ a' c' w', Own w' B e sz a' (n + m) c' (xs ++ ys) → w.grownBy w' (a.map (·.block)) → (n + m ≤ c ∨ Below w.heap.size w w') → wpList P ops Q rest (act.put o.dst (.slice a' (n + m) c')) w') :
    wpList P ops Q (o :: rest) act w := by
  obtain ⟨i, hi0, hz0, hz1, hz2⟩ := info_parts hi
  subst hz1 hz2
  clear hi
  obtain ⟨a', c', w', hrun, ho, hgr, hfr⟩ := run_append_where B t t o.type e i z ht hi0 hz0 hz a n c xs hown _ m ys (hy.src ht h1) hn2 hn hB
  refine wpList_plain hg fun K hK' => ?_
  unfold Oper.wp
  simp [execOp, hop, resolve, invoke, builtin, hs, hx, hrun, Result.andThen]
  exact hK' _ _ (hK a' c' w' ho hgr hfr)
end ops
end Go.Dx
end

/- the text P26 -/
section
/- Chapter 35: pages made of literals and of other pages. -/
set_option linter.unusedVariables false
namespace Go.Proofs.Ytdeknimelkdaeaa
open Go.RowKit Go.Dx Go.Al
section
variable {w : World} {ops : Array Oper} {rest : List Oper} {act : Act} {Q : Exit → Act → World → Prop} {ty : TypeId} {pos : String} {after : Array Edge}
theorem hv_one (ys : List Hd) : ∀ u ∈ ys.map hv, u.oneCell' = true := fun u hu => by
  obtain ⟨y, -, rfl⟩ := List.mem_map.1 hu
  rfl
theorem build_nil (d : Nat) (hK : ∀ w', Box w' w.heap.size 31 [] → Below w.heap.size w w' → wpList Try.prog ops Q rest (act.put (some d) (.slice (some ⟨w.heap.size, 0, none⟩) 0 0)) w') :
    wpList Try.prog ops Q ({ dst := some d, op := .buildSlice 28 0 #[], type := ty, pos := pos, after := after, guard := none } :: rest) act w := by
  refine wpList_plain rfl fun K hK' => ?_
  unfold Oper.wp
  have hrun : (Instr.buildSlice 28 0 #[]).run Try.prog w = .ok (.slice (some ⟨w.heap.size, 0, none⟩) 0 0) (w.alloc (.cells #[] 31)) := by kernel_rfl
  simp [execOp, hrun, Result.andThen]
  exact hK' _ _ (hK _ (Box.new w 31 #[]) (sblo w _))
theorem build_u8 (d : Nat) (x : Operand) (v : Int) (hx : act.eval x = .int .u8 v) (hK : ∀ w', Box w' w.heap.size 5 [.int .u8 v] → Below w.heap.size w w' → wpList Try.prog ops Q rest (act.put (some d) (.slice (some ⟨w.heap.size, 0, none⟩) 1 1)) w') :
    wpList Try.prog ops Q ({ dst := some d, op := .buildSlice 31 1 #[(0, x)], type := ty, pos := pos, after := after, guard := none } :: rest) act w :=
  build_one d 31 x 5 Try.underlying31 (.int .u8 0) 1 1 info_u8 rfl (by decide) (by decide) _ [.int .u8 v] hx rfl rfl (hK _ (Box.new w 5 #[.int .u8 v]) (sblo w _))
theorem build_row1 (d : Nat) (x : Operand) (a : Option Addr) (n c : Nat) (hx : act.eval x = .slice a n c) (hK : ∀ w', Box w' w.heap.size 31 [.slice a n c] → Below w.heap.size w w' → wpList Try.prog ops Q rest (act.put (some d) (.slice (some ⟨w.heap.size, 0, none⟩) 1 1)) w') :
    wpList Try.prog ops Q ({ dst := some d, op := .buildSlice 28 1 #[(0, x)], type := ty, pos := pos, after := after, guard := none } :: rest) act w :=
  build_one d 28 x 31 Try.underlying28 (.slice none 0 0) 1 24 info_row rfl (by decide) (by decide) _ [.slice a n c] hx rfl rfl (hK _ (Box.new w 31 #[.slice a n c]) (sblo w _))
theorem build_row2 (d : Nat) (x : Operand) (a : Option Addr) (n c : Nat) (hx : act.eval x = .slice a n c) (hK : ∀ w', Box w' w.heap.size 31 [.slice none 0 0, .slice a n c] → Below w.heap.size w w' → wpList Try.prog ops Q rest (act.put (some d) (.slice (some ⟨w.heap.size, 0, none⟩) 2 2)) w') :
    wpList Try.prog ops Q ({ dst := some d, op := .buildSlice 28 2 #[(0, .const (.slice none 0 0)), (1, x)], type := ty, pos := pos, after := after, guard := none } :: rest) act w := by
  refine wpList_plain rfl fun K hK' => ?_
  unfold Oper.wp
  have hrun : (Instr.buildSlice 28 2 #[(0, .slice none 0 0), (1, .slice a n c)]).run Try.prog w = .ok (.slice (some ⟨w.heap.size, 0, none⟩) 2 2) (w.alloc (.cells #[.slice none 0 0, .slice a n c] 31)) := by kernel_rfl
  have he : act.eval (.const (.slice none 0 0)) = .slice none 0 0 := rfl
  simp [execOp, he, hx, hrun, Result.andThen]
  exact hK' _ _ (hK _ (Box.new w 31 #[.slice none 0 0, .slice a n c]) (sblo w _))
end
section
variable {w : World} {ops : Array Oper} {rest : List Oper} {o : Oper} {act : Act} {Q : Exit → Act → World → Prop}
/-- 'append(api.Page{}, p...)' -/
theorem app_pg_e (hg : o.guard = none) (s x : Operand) (hop : o.op = Op.call { callee := Callee.builtin Builtin.append, args := #[s, x], argTypes := #[28, 28] })
    (B : Nat) (b : Nat) (hs : act.eval s = .slice (some ⟨b, 0, none⟩) 0 0) (hx0 : Box w b 31 []) (hB : B ≤ b)
    (a2 : Option Addr) (m c2 : Nat) (ys : List Hd) (hx : act.eval x = .slice a2 m c2) (hy : Sl w 1 a2 m c2 (ys.map hv)) (hn : m ≤ 5000000000000)
    (hK : ∀ a' c' w', Own w' B 31 1 a' m c' (ys.map hv) → Below w.heap.size w w' → (m = 0 ∧ c' = 0 ∨ m ≠ 0 ∧ ∀ p, a' = some p → w.heap.size ≤ p.block) → wpList Try.prog ops Q rest (act.put o.dst (.slice a' m c')) w') :
    wpList Try.prog ops Q (o :: rest) act w := by
  refine append_empty hg s x 28 hop 31 (.slice none 0 0) 1 24 Try.underlying28 info_row rfl B (some ⟨b, 0, none⟩) hs (own_of_box hx0 rfl (Nat.zero_le _) hB) a2 m c2 _ hx hy (hv_one ys) (by omega) (by unfold maxLen; omega) (Nat.le_trans hB (Nat.le_of_lt hx0.lt)) ?_
  intro a' c' w' h1 h2 h3
  exact hK a' c' w' h1 h2 h3
/-- 'append(p, q...)' on rows -/
theorem app_pgS (hg : o.guard = none) (s x : Operand) (hop : o.op = Op.call { callee := Callee.builtin Builtin.append, args := #[s, x], argTypes := #[28, 28] })
    (B : Nat) (a : Option Addr) (n c : Nat) (xs : List Hd) (hs : act.eval s = .slice a n c) (hown : Own w B 31 1 a n c (xs.map hv)) (hB : B ≤ w.heap.size)
    (a2 : Option Addr) (m c2 : Nat) (ys : List Hd) (hx : act.eval x = .slice a2 m c2) (hy : Sl w 1 a2 m c2 (ys.map hv)) (hn : n + m ≤ 5000000000000)
    (hK : ∀ a' c' w', Own w' B 31 1 a' (n + m) c' ((xs ++ ys).map hv) → w.grownBy w' (a.map (·.block)) → (n + m ≤ c ∨ Below w.heap.size w w') → wpList Try.prog ops Q rest (act.put o.dst (.slice a' (n + m) c')) w') :
    wpList Try.prog ops Q (o :: rest) act w := by
  refine append_where hg s x 28 hop 31 (.slice none 0 0) 1 24 Try.underlying28 info_row rfl B a n c _ hs hown a2 m c2 _ hx hy (hv_one ys) (by omega) (by unfold maxLen; omega) hB ?_
  intro a' c' w' h1 h2 h3
  exact hK a' c' w' (by rw [List.map_append]; exact h1) h2 h3
end
theorem tab_app {w w' : World} {B n c : Nat} {a : Option Addr} {hs zs : List Hd} {p q : Pgl} (hR : Rows w hs p) (b : Below w.heap.size w w') (ho : Own w' B 31 1 a n c ((hs ++ zs).map hv)) (hz : Rows w' zs q) : Tab w' (a, n, c) (p ++ q) :=
  ⟨hs ++ zs, ho.mono (Nat.zero_le _), (hR.below b).append hz⟩
theorem row_of_box {w : World} {g : Nat} {v : Nat} (h : Box w g 5 [.int .u8 (v : Int)]) (hv : v < 256) : Rows w [(some ⟨g, 0, none⟩, 1, 1)] [[UInt8.ofNat v]] := by
  refine Rows.one ?_ ?_
  · have := h.sl_al rfl (by simp [maxLen])
    show Sl w 1 _ 1 1 [B8 (UInt8.ofNat v)]
    rw [show B8 (UInt8.ofNat v) = .int .u8 (v : Int) by show Value.int .u8 ((UInt8.ofNat v).toNat : Int) = _; rw [UInt8.toNat_ofNat', Nat.mod_eq_of_lt hv]]
    exact this
  · intro q hq
    cases hq
    exact ⟨_, _, h⟩
theorem below_app {w w9 w10 : World} {a : Option Addr} {n m c : Nat} {B : Nat} {e : TypeId} {cs : List Value} (hb : Below w.heap.size w w9) (hg : w9.grownBy w10 (a.map (·.block))) (hz : n + m ≤ c ∨ Below w9.heap.size w9 w10) (hm : 0 < m) (hf : n = 0 ∧ c = 0 ∨ n ≠ 0 ∧ ∀ p, a = some p → w.heap.size ≤ p.block) : Below w.heap.size w w10 := by
  rcases hz with h | h
  · rcases hf with ⟨h0, h1⟩ | ⟨h0, h1⟩
    · omega
    · refine hb.grown hg hb.size (fun b hb' => ?_)
      cases a with
      | none => cases hb'
      | some q => simp at hb'; subst hb'; exact h1 q rfl
  · exact hb.trans (h.mono hb.size)
/-- a step that writes behind the rows of a page of its own alone -/
def RP1 (w5 : World) (K : Nat) (u u' : World) : Prop := ∃ X : Option Nat, u.grownBy u' X ∧ ∀ b, X = some b → w5.heap.size ≤ b ∧ ∃ cur, u.heap[b]? = some (.cells cur 31 (0, 0)) ∧ K ≤ cur.size
theorem RP1.of (w5 : World) (K : Nat) (u u' : World) (h : Below u.heap.size u u') : RP1 w5 K u u' := ⟨none, grown_of_below h none, fun b h => by cases h⟩
theorem RP1.box {w5 u u' : World} {K b : Nat} {t : TypeId} {cs : List Value} (h : RP1 w5 K u u') (hx : Box u b t cs) (ht : t ≠ 31 ∨ cs.length < K) : Box u' b t cs := by
  obtain ⟨X, hg, hX⟩ := h
  refine hx.grown hg (fun e => ?_)
  obtain ⟨-, cur, hc, hK⟩ := hX b e.symm
  have h2 : u.heap[b]? = _ := hx
  rw [h2] at hc
  injection hc with hc
  injection hc with h3 h4
  rcases ht with ht | ht
  · exact ht h4
  · rw [← h3] at hK
    simp at hK
    omega
def NilF (w5 : World) (vs : List Value) (w : World) : Prop := ∃ b, vs = [.slice (some ⟨b, 0, none⟩) 0 0] ∧ Box w b 31 [] ∧ w5.heap.size ≤ b
def RowF (v : Int) (vs : List Value) (w : World) : Prop := ∃ b, vs = [.slice (some ⟨b, 0, none⟩) 1 1] ∧ Box w b 5 [.int .u8 v]
def RowsF (v : Int) (vs : List Value) (w : World) : Prop := ∃ b gR, vs = [.slice (some ⟨b, 0, none⟩) 2 2] ∧ Box w b 31 [.slice none 0 0, .slice (some ⟨gR, 0, none⟩) 1 1] ∧ Box w gR 5 [.int .u8 v]
def GP1 (w5 : World) (B n : Nat) (xs : List Hd) (j : Nat) (vs : List Value) (w : World) : Prop :=
  Below w5.heap.size w5 w ∧ (j = 1 → ∃ a c, vs.getD 0 undef = .slice a n c ∧ Own w B 31 1 a n c (xs.map hv) ∧ (n = 0 ∧ c = 0 ∨ n ≠ 0 ∧ ∀ p, a = some p → w5.heap.size ≤ p.block)) ∧
  (2 ≤ j → ∃ a c gR, vs.getD 1 undef = .slice a (n + 2) c ∧ Own w B 31 1 a (n + 2) c ((xs ++ [nilH, (some ⟨gR, 0, none⟩, 1, 1)]).map hv) ∧ Box w gR 5 [.int .u8 0])
theorem GP1.mono {w5 : World} {B n : Nat} {xs : List Hd} (j : Nat) (vs : List Value) (w w' : World) (hb : Below w.heap.size w w') (h : GP1 w5 B n xs j vs w) : GP1 w5 B n xs j vs w' :=
  ⟨h.1.trans (hb.mono h.1.size), fun hj => by
    obtain ⟨a, c, h1, h2, h3⟩ := h.2.1 hj
    exact ⟨a, c, h1, h2.below hb, h3⟩, fun hj => by
    obtain ⟨a, c, gR, h1, h2, h3⟩ := h.2.2 hj
    exact ⟨a, c, gR, h1, h2.below hb, h3.under hb⟩⟩
theorem rp1_app {w5 w w8 : World} {B n c : Nat} {a : Option Addr} {cs : List Value} (hg : w.grownBy w8 (a.map (·.block))) (hz : n + 2 ≤ c ∨ Below w.heap.size w w8) (ho : Own w B 31 1 a n c cs) (hf : n = 0 ∧ c = 0 ∨ n ≠ 0 ∧ ∀ p, a = some p → w5.heap.size ≤ p.block) : RP1 w5 3 w w8 := by
  rcases hz with h | h
  · rcases hf with ⟨h0, h1⟩ | ⟨h0, h1⟩
    · omega
    · refine ⟨_, hg, fun b hb => ?_⟩
      cases ha : a with
      | none => rw [ha] at hb; cases hb
      | some q =>
        rw [ha] at hb
        simp at hb
        subst hb
        refine ⟨h1 q ha, ?_⟩
        rcases ho.2 with ⟨h2, _⟩ | ⟨g, cap, cur, h2, _, h3, h4, h5, h6, _⟩
        · injection h2 with h2; rw [ha] at h2; cases h2
        · injection h2 with h2 _ h7
          rw [ha] at h2
          injection h2 with h2
          subst h2
          refine ⟨cur, h3, ?_⟩
          omega
  · exact RP1.of _ _ _ _ h
section
variable {P : Program} {w : World} {ops : Array Oper} {rest : List Oper} {act : Act} {Q : Exit → Act → World → Prop} {ty : TypeId} {pos : String} {after : Array Edge}
theorem cut_hi35 (d : Nat) (t : TypeId) (x hi : Operand) (e : TypeId) (ht : P.underlying t = some (.slice e)) (sz : Nat) (hsz : (P.info? e).map (·.size) = some sz)
    (a : Option Addr) (n c : Nat) (hx : act.eval x = .slice a n c) (ku : IntKind) (u : Nat) (hu : act.eval hi = .int ku (u : Int)) (hun : u ≤ c)
    (hK : wpList P ops Q rest (act.put (some d) (.slice a u c)) w) :
    wpList P ops Q ({ dst := some d, op := .slice t x none (some hi) none, type := ty, pos := pos, after := after, guard := none } :: rest) act w := by
  refine wpList_plain rfl fun K hK' => ?_
  obtain ⟨i0, hi0, hs0⟩ := Option.map_eq_some_iff.1 hsz
  have hrun : (Instr.sliceAt t (.slice a n c) none (some (.int ku (u : Int))) none).run P w = .ok (.slice a u c) w := by
    have h3 : (0 : Int) ≤ u ∧ (u : Int) ≤ c := by omega
    simp [Instr.sliceAt, Instr.slice, Instr.sliceBounds, Instr.sliceBound, asIntOf, run_underlying ht, sizeOf, typeInfo, hi0, h3, hun]
    intro _
    cases a with
    | none => rfl
    | some p => simp [Addr.add]
  unfold Oper.wp
  simp [execOp, hx, hu, hrun, Result.andThen]
  exact hK' _ _ hK
end
theorem sl_take {w : World} {a : Option Addr} {n c u : Nat} {cs : List Value} (h : Sl w 1 a n c cs) (hu : u ≤ n) : Sl w 1 a u c (cs.take u) := by
  refine ⟨by rw [List.length_take]; have := h.len; omega, Nat.le_trans hu h.le, h.cap, h.nil, fun p hp j v hj => ?_⟩
  rw [List.getElem?_take] at hj
  split at hj
  · exact h.cell p hp j v hj
  · cases hj
theorem Pgs.takeP {w : World} {a : Option Addr} {n c u : Nat} {hs : List Hd} {L : List Pgl} (h : Pgs w a n c hs L) (hu : u ≤ n) : Pgs w a u c (hs.take u) (L.take u) := by
  refine ⟨by rw [List.map_take]; exact sl_take h.top hu, by rw [List.length_take, List.length_take, h.len], fun i x p h1 h2 => ?_⟩
  rw [List.getElem?_take] at h1 h2
  split at h1
  · rename_i hi
    rw [if_pos hi] at h2
    exact h.get i x p h1 h2
  · cases h1
/-- indices as integers -/
theorem n64_i64 (G : List Nat) : G.map N64 = (G.map fun (k : Nat) => (k : Int)).map I64 := by rw [List.map_map]; rfl
section
variable {w : World} {ops : Array Oper} {rest : List Oper} {o : Oper} {act : Act} {Q : Exit → Act → World → Prop}
theorem app_shS (hg : o.guard = none) (s x : Operand) (hop : o.op = Op.call { callee := Callee.builtin Builtin.append, args := #[s, x], argTypes := #[25, 25] })
    (w0 : World) (B : Nat) (a : Option Addr) (n c : Nat) (xs : List HS) (hs : act.eval s = .slice a n c) (hown : Own w B 29 2 a n c (xs.flatMap shc))
    (a2 : Option Addr) (m c2 : Nat) (ys : List HS) (hx : act.eval x = .slice a2 m c2) (hy : Sl w 2 a2 m c2 (ys.flatMap shc)) (hn : n + m ≤ 1000000) (hB : B ≤ w.heap.size) (hbel : Below B w0 w)
    (hK : ∀ a' c' w', Own w' B 29 2 a' (n + m) c' ((xs ++ ys).flatMap shc) → w.grownBy w' (a.map (·.block)) → Below B w0 w' → wpList Try.prog ops Q rest (act.put o.dst (.slice a' (n + m) c')) w') :
    wpList Try.prog ops Q (o :: rest) act w := by
  refine append_own hg s x 25 hop 29 (.agg #[.slice none 0 0, .slice none 0 0]) 2 48 Try.underlying25 info_sheet rfl w0 B a n c _ hs hown a2 m c2 _ hx hy (one_flat shc_one _) (by omega) (by unfold maxLen; omega) hB hbel ?_
  intro a' c' w' h1 h2 h3
  exact hK a' c' w' (by rw [List.flatMap_append]; exact h1) h2 h3
end
end Go.Proofs.Ytdeknimelkdaeaa
end

/- the text P32 -/
section
/- Chapter 35: the reference's Moved and Shift. -/
set_option linter.unusedVariables false
namespace Go.Proofs.Ytdeknimelkdaeaa
open Go.RowKit Go.Dx Go.Al
/-- bytes that were made in a step -/
def MkF (w0 : World) (N : Nat) (vs : List Value) (w : World) : Prop := ∃ b, vs = [.slice (some ⟨b, 0, none⟩) N N] ∧ Own w w0.heap.size 5 1 (some ⟨b, 0, none⟩) N N ((List.replicate N (0 : UInt8)).map B8) ∧ w0.heap.size ≤ b
set_option maxRecDepth 100000 in
set_option maxHeartbeats 4000000 in
theorem ref35_Moved (p : Pgl) (hs : List Hd) (a : Option Addr) (n c : Nat) (N : Nat) (w : World) (hp : Pg w a n c hs p) (hp1 : p.length ≤ 25) (hp2 : ∀ r ∈ p, r.length ≤ 40) (hN : N ≤ 40) :
    Calls Try.prog 51 #[.slice a n c, .int .i64 (N : Int)] w fun e w' => ∃ a' c' hq, e = .returned (.slice a' p.length c') ∧ OPage w' w.heap.size a' c' hq (movP p N) ∧ Below w.heap.size w w' := by
  obtain rfl := hp.n_eq
  have HP := hide hp
  clear hp
  go_enter Try.func51, Try.ntmps51
  go_wp2_with fail
  go_loopg [5, 6, 7] p.length (fun g x i _ w' => ∃ (k : Nat) (a2 : Option Addr) (c2 : Nat) (hq : List Hd) (q : Pgl), k ≤ p.length ∧ g = p.length - k ∧ q.length = k ∧ q = movP (p.take k) N ∧ i = .int .i64 (k : Int) ∧ x = .slice a2 k c2 ∧ OPage w' w.heap.size a2 c2 hq q ∧ Below w.heap.size w w')
  case atStart => exact ⟨0, none, 0, [], [], by omega, by omega, rfl, rfl, rfl, rfl, OPage.nil _ _, Below.refl _ _⟩
  case round =>
    obtain ⟨k, a2, c2, hq, q, hk, hg1, hpj, hpq, rfl, rfl, hop, hbj⟩ := hrel
    have HG1 := hide hg1
    have HPJ := hide hpj
    have HPQ := hide hpq
    clear hg1 hpj hpq
    by_cases hkl : k < p.length
    · obtain ⟨r, hr⟩ : ∃ r, p[k]? = some r := ⟨p[k], by simp [hkl]⟩
      obtain ⟨ar, cr, hu, hsr⟩ := HP.out.get hr
      obtain ⟨b1, o1, rfl, hb1, hc1⟩ := HP.out.top.ex (by rw [List.length_map, HP.out.len]; omega)
      have HC0 := hide (cell_below (show w.cell? ⟨b1, o1 + k, none⟩ = some (.slice ar r.length cr) from hc1 k _ hu) hbj)
      have hrl := hp2 r (List.mem_of_getElem? hr)
      have HRR := hide hr
      have HSR := hide (hsr.below hbj)
      obtain ⟨R, hR⟩ : ∃ R, Hid (r.length = R) := ⟨_, hide rfl⟩
      rw [hR.out] at HC0 HSR hrl
      have HC : wr.cell? ⟨b1, o1 + k, none⟩ = some (.slice ar R cr) := HC0.out
      clear hu hsr hr hc1 HC0
      by_cases hR0 : R > 0
      · go_wp2_with fail
        --@
        refine wp_region_free 6 [⟨0, 20, [20], fun vs _ => vs = [.int .i64 (N : Int)]⟩, ⟨1, 21, [21], MkF wr N⟩, ⟨2, 22, [22], fun vs _ => vs = [.slice (some ⟨b1, o1, none⟩) p.length c]⟩, ⟨3, 23, [23], fun vs _ => vs = [.int .i64 (k : Int)]⟩, ⟨4, 24, [24], fun vs _ => vs = [.pointer (some ⟨b1, o1 + k, none⟩)]⟩, ⟨5, 25, [25], fun vs _ => vs = [.slice ar R cr]⟩] (by kernel_rfl) (by kernel_rfl) ?_ ?_ ?_
        · simp only [All]
          refine ⟨fun _ _ _ _ h => h, ?_, fun _ _ _ _ h => h, fun _ _ _ _ h => h, fun _ _ _ _ h => h, fun _ _ _ _ h => h, trivial⟩
          · rintro vs w1 w2 hb ⟨b, h1, h2, h3⟩
            exact ⟨b, h1, h2.below hb, h3⟩
        · simp only [All]
          refine ⟨?_, ?_, ?_, ?_, ?_, ?_, trivial⟩
          · intro o ho a' w' hb hfr hdep
            obtain rfl := Option.some.inj ho
            have g1 : a'.tmps[1]?.getD undef = .int .i64 (N : Int) := by have h := hfr 1 (by kernel_rfl); simpa using h
            clear ho hfr hdep
            go_wp2_with fail
            exact ⟨rfl, _, rfl, Below.refl _ _, rfl⟩
          · intro o ho a' w' hb hfr hdep
            obtain rfl := Option.some.inj ho
            have g20 : a'.tmps[20]?.getD undef = .int .i64 (N : Int) := by have h := hdep 0 _ rfl (by kernel_rfl); simpa using h
            clear ho hfr hdep
            refine make_row 21 _ _ _ 5 (.int .u8 0) 1 Try.underlying31 info_u8 rfl .i64 .i64 _ _ N (by show a'.tmps.getD 20 undef = _; simpa using g20) (by show a'.tmps.getD 20 undef = _; simpa using g20) rfl rfl (by omega) (by omega) ?_
            intro w2 hr2 hb2 hz2
            have hx2 := box_row35 hr2
            exact ⟨rfl, _, rfl, hb2, w'.heap.size, rfl, own_of_box hx2 (by simp) (by unfold maxLen; omega) hb.size, hb.size⟩
          · intro o ho a' w' hb hfr hdep
            obtain rfl := Option.some.inj ho
            have g0 : a'.tmps[0]?.getD undef = .slice (some ⟨b1, o1, none⟩) p.length c := by have h := hfr 0 (by kernel_rfl); simpa using h
            clear ho hfr hdep
            go_wp2_with fail
            exact ⟨rfl, _, rfl, Below.refl _ _, rfl⟩
          · intro o ho a' w' hb hfr hdep
            obtain rfl := Option.some.inj ho
            have g6 : a'.tmps[6]?.getD undef = .int .i64 (k : Int) := by have h := hfr 6 (by kernel_rfl); simpa using h
            clear ho hfr hdep
            go_wp2_with fail
            exact ⟨rfl, _, rfl, Below.refl _ _, rfl⟩
          · intro o ho a' w' hb hfr hdep
            obtain rfl := Option.some.inj ho
            have g22 : a'.tmps[22]?.getD undef = .slice (some ⟨b1, o1, none⟩) p.length c := by have h := hdep 2 _ rfl (by kernel_rfl); simpa using h
            have g23 : a'.tmps[23]?.getD undef = .int .i64 (k : Int) := by have h := hdep 3 _ rfl (by kernel_rfl); simpa using h
            clear ho hfr hdep
            go_wp2_with fail
            exact ⟨rfl, _, rfl, Below.refl _ _, rfl⟩
          · intro o ho a' w' hb hfr hdep
            obtain rfl := Option.some.inj ho
            have g24 : a'.tmps[24]?.getD undef = .pointer (some ⟨b1, o1 + k, none⟩) := by have h := hdep 4 _ rfl (by kernel_rfl); simpa using h
            clear ho hfr hdep
            have hcl := cell_below HC hb
            go_wp2_with fail
            exact ⟨rfl, _, rfl, Below.refl _ _, rfl⟩
        · intro gg w5 hbl hp'
          obtain ⟨bq, p21, o21, _⟩ := hp' 1 _ rfl
          have p25 := hp' 5 _ rfl
          clear hp'
          simp at p21 p25
          simp only [List.drop_succ_cons, List.drop_zero, List.map_cons, List.map_nil, putAll, Act.put, List.setIfInBounds_toArray, List.set_cons_succ, List.set_cons_zero, List.cons_append, List.nil_append, p21, p25]
          clear p21 p25
          have S5 := HSR.out.below hbl
          have hbw5 := hbj.trans (hbl.mono hbj.size)
          go_wp2_with (at_builtin; refine app_bs rfl _ _ rfl wr wr.heap.size _ N N ((List.replicate N (0 : UInt8)).map B8) rfl o21 ar R cr r rfl S5 (by omega) hbl.size hbl ?_; intro a8 c8 w8 ho8 hgr8 hb8; refine hold ?_)
          refine hide ?_
          have HO8 : Hid (Own w8 wr.heap.size 5 1 a8 (N + R) c8 ((movR r N).map B8)) := hide (by rw [show movR r N = List.replicate N 0 ++ r by unfold movR; rw [if_pos (by rw [hR.out]; exact hR0)], List.map_append]; exact ho8)
          have hop8 := hop.below hb8
          have hbj8 := hbj.trans (hb8.mono hbj.size)
          clear ho8 hgr8 S5 o21
          go_wp2_with (at_builtin; refine app_p rfl _ _ rfl w w.heap.size _ _ _ hq q HPJ.out rfl hop8 (a8, N + R, c8) (movR r N) (HO8.out.mono hbj.size) rfl (by omega) hbj8.size hbj8 ?_; intro a' c' w' ho' hb')
          go_roundg (p.length - (k + 1))
          case measure => have := HG1.out; omega
          case rel => exact ⟨k + 1, a', c', hq ++ [(a8, N + R, c8)], q ++ [movR r N], by omega, rfl, by rw [List.length_append, HPJ.out]; rfl, by rw [HPQ.out, take_snoc HRR.out]; unfold movP; rw [List.map_append]; rfl, by go_num, rfl, ho', hb'⟩
      · obtain rfl : R = 0 := by omega
        have hmv : Hid (movR r N = []) := hide (by unfold movR; rw [if_neg (by rw [hR.out]; omega)])
        go_wp2_with (at_builtin; refine app_p rfl _ _ rfl w w.heap.size _ _ _ hq q HPJ.out rfl hop nilH [] (Own.nil _ _ _ _) rfl (by omega) hbj.size hbj ?_; intro a' c' w' ho' hb')
        go_roundg (p.length - (k + 1))
        case measure => have := HG1.out; omega
        case rel => exact ⟨k + 1, a', c', hq ++ [nilH], q ++ [[]], by omega, rfl, by rw [List.length_append, HPJ.out]; rfl, by rw [HPQ.out, take_snoc HRR.out]; unfold movP; rw [List.map_append, ← hmv.out]; rfl, by go_num, rfl, ho', hb'⟩
    · obtain rfl : k = p.length := by omega
      go_wp2
      go_ret
      have e := HPQ.out
      rw [List.take_length] at e
      exact ⟨a2, c2, hq, rfl, by rw [← e]; exact hop, hbj⟩
theorem pg_nil35 (w : World) : Pg w none 0 0 [] [] := ⟨(Own.nil w 0 31 1).sl, rfl, fun i h r h1 => by cases h1⟩
set_option maxRecDepth 100000 in
set_option maxHeartbeats 4000000 in
theorem ref35_Shift (front back : Pgl) (h1 h2 : List Hd) (a1 a2 : Option Addr) (n1 n2 c1 c2 : Nat) (w : World) (hp : Pg w a1 n1 c1 h1 front) (hq : Pg w a2 n2 c2 h2 back) :
    Calls Try.prog 31 #[.slice a1 n1 c1, .slice a2 n2 c2] w (GivesPg (shF front back).1 ((shF front back).2 : Int) w) := by
  have hc1 := ref4_Fits front h1 a1 n1 c1 w hp
  have hc2 := ref4_Fits back h2 a2 n2 c2 w hq
  unfold shF
  cases e1 : fits front with
  | false =>
    rw [e1] at hc1
    clear e1
    go_enter Try.func31, Try.ntmps31
    go_wp2_with (go_at_call 49; refine hc1.mono ?_; rintro e w4 ⟨rfl, rfl⟩)
    go_ret2
    exact ⟨none, 0, [], rfl, pg_nil35 _, Below.refl _ _⟩
  | true =>
    rw [e1] at hc1
    cases e2 : fits back with
    | false =>
      rw [e2] at hc2
      clear e1 e2
      go_enter Try.func31, Try.ntmps31
      go_wp2_with (first
        | (go_at_call_of 49 (Value.slice a1 n1 c1); refine hc1.mono ?_; rintro e w4 ⟨rfl, rfl⟩)
        | (go_at_call_of 49 (Value.slice a2 n2 c2); refine hc2.mono ?_; rintro e w4 ⟨rfl, rfl⟩))
      go_ret2
      exact ⟨none, 0, [], rfl, pg_nil35 _, Below.refl _ _⟩
    | true =>
      rw [e2] at hc2
      have eT : (if (true && true) = true then shW back (shU front back 0 (40 - longest back + 1)) else ([], 1)) = shW back (shUR front back 0 41) := by rw [shUR_all e1 e2]; rfl
      rw [eT]
      obtain ⟨b1, b2⟩ := fits_rows e2
      have b3 : ∀ r ∈ back, r.length ≤ 40 := fun r hr => (b2 r hr).1
      clear eT b2 e1 e2
      have HP := hide hp
      have HQ := hide hq
      obtain ⟨X, hX⟩ : ∃ X, Hid (shUR front back 0 41 = X) := ⟨_, hide rfl⟩
      rw [hX.out]
      clear hp hq
      go_enter Try.func31, Try.ntmps31
      go_wp2_with (first
        | (go_at_call_of 49 (Value.slice a1 n1 c1); refine hc1.mono ?_; rintro e w4 ⟨rfl, rfl⟩)
        | (go_at_call_of 49 (Value.slice a2 n2 c2); refine hc2.mono ?_; rintro e w4 ⟨rfl, rfl⟩))
      clear hc1 hc2
      go_loopg [6, 7] 41 (fun g i _ w' => ∃ (k : Nat), k ≤ 41 ∧ g = 41 - k ∧ i = .int .i64 (k : Int) ∧ Hid (shUR front back k (41 - k) = X) ∧ Below w.heap.size w w')
      case atStart => exact ⟨0, by omega, by omega, rfl, hX, Below.refl _ _⟩
      case round =>
        obtain ⟨k, hk, hg, rfl, hT, hb⟩ := hrel
        have HG := hide hg
        clear hg
        by_cases hkl : k < 41
        · have hstep : Hid (shUR front back k (41 - k) = if fits (movP back k) && (touchR front (movP back k)).length == 0 then some k else shUR front back (k + 1) (41 - (k + 1))) := hide (by rw [show 41 - k = (41 - (k + 1)) + 1 by omega]; rfl)
          have hmv := ref35_Moved back h2 a2 n2 c2 k wr (HQ.out.below hb) b1 b3 (by omega)
          have hml := movP_len back k
          obtain ⟨M, hME⟩ : ∃ M, Hid (movP back k = M) := ⟨_, hide rfl⟩
          rw [hME.out] at hmv hstep hml
          have HPb := hide (HP.out.below hb)
          go_wp2_with (go_at_call 51; refine hmv.mono ?_; rintro e w2 ⟨aM, cM, hM, rfl, hO, hb2⟩; refine hold ?_)
          refine hide ?_
          have hgM : Pg w2 aM M.length cM hM M := hO.pg
          rw [hml] at hgM
          have hft := ref4_Fits M _ _ _ _ w2 hgM
          have hto := ref35_Touch front M _ _ _ _ _ _ _ _ w2 (HPb.out.below hb2) hgM
          have hb2' := hb.trans (hb2.mono hb.size)
          have HMg := hide hgM
          clear hmv hO hgM
          cases e3 : fits M with
          | false =>
            rw [e3] at hft
            have HE : Hid (shUR front back (k + 1) (41 - (k + 1)) = X) := hide (by rw [← hT.out, hstep.out, e3]; rfl)
            clear hstep e3 hto
            go_wp2_with (go_at_call 49; refine hft.mono ?_; rintro e w4 ⟨rfl, rfl⟩)
            go_roundg (41 - (k + 1))
            case measure => have := HG.out; omega
            case rel => exact ⟨k + 1, by omega, rfl, by go_num, HE, hb2'⟩
          | true =>
            rw [e3] at hft
            obtain ⟨q, hq⟩ : ∃ q, Hid ((touchR front M).length = q) := ⟨_, hide rfl⟩
            rw [hq.out] at hto hstep
            by_cases hq0 : q = 0
            · subst hq0
              have HE : Hid (X = some k) := hide (by rw [← hT.out, hstep.out, e3]; rfl)
              clear hstep e3
              go_wp2_with (first
                | (go_at_call 49; refine hft.mono ?_; rintro e w4 ⟨rfl, rfl⟩)
                | (go_at_call 29; refine hto.mono ?_; rintro e w5 ⟨a5, c5, rfl, ho5, hb5⟩))
              go_ret2
              rw [HE.out]
              show GivesPg (movP back k) 0 w _ _
              rw [hME.out]
              exact ⟨aM, cM, hM, by rw [hml]; rfl, by rw [hml]; exact HMg.out.below hb5, hb2'.trans (hb5.mono hb2'.size)⟩
            · have HE : Hid (shUR front back (k + 1) (41 - (k + 1)) = X) := hide (by rw [← hT.out, hstep.out, e3, beq_eq_false_iff_ne.2 hq0]; rfl)
              clear hstep e3
              go_wp2_with (first
                | (go_at_call 49; refine hft.mono ?_; rintro e w4 ⟨rfl, rfl⟩)
                | (go_at_call 29; refine hto.mono ?_; rintro e w5 ⟨a5, c5, rfl, ho5, hb5⟩))
              go_roundg (41 - (k + 1))
              case measure => have := HG.out; omega
              case rel => exact ⟨k + 1, by omega, rfl, by go_num, HE, hb2'.trans (hb5.mono hb2'.size)⟩
        · obtain rfl : k = 41 := by omega
          have HE : Hid (X = none) := hide (by rw [← hT.out]; rfl)
          go_wp2
          go_ret2
          rw [HE.out]
          exact ⟨none, 0, [], rfl, pg_nil35 _, hb⟩
end Go.Proofs.Ytdeknimelkdaeaa
end

/- the text P33 -/
section
/- Chapter 35: press.Shift. -/
set_option linter.unusedVariables false
namespace Go.Proofs.Ytdeknimelkdaeaa
open Go.RowKit Go.Dx Go.Al
def mixP (p : Pgl) (N k : Nat) : Pgl := movP (p.take k) N ++ p.drop k
theorem mix_len (p : Pgl) (N k : Nat) : (mixP p N k).length = p.length := by
  unfold mixP
  rw [List.length_append, movP_len, List.length_take, List.length_drop]
  omega
theorem mix_zero (p : Pgl) (N : Nat) : mixP p N 0 = p := by simp [mixP, movP]
theorem mix_all (p : Pgl) (N : Nat) : mixP p N p.length = movP p N := by simp [mixP]
theorem mix_get {p : Pgl} {N k : Nat} {r : List UInt8} (h : p[k]? = some r) : (mixP p N k)[k]? = some r := by
  have hk := (List.getElem?_eq_some_iff.1 h).1
  unfold mixP
  rw [List.getElem?_append_right (by rw [movP_len, List.length_take]; omega), movP_len, List.length_take, List.getElem?_drop, show k + (k - min k p.length) = k by omega]
  exact h
theorem mix_step {p : Pgl} {N k : Nat} {r : List UInt8} (h : p[k]? = some r) : mixP p N (k + 1) = (mixP p N k).set k (movR r N) := by
  obtain ⟨hk, hr⟩ := List.getElem?_eq_some_iff.1 h
  unfold mixP
  have hl : (movP (p.take k) N).length = k := by rw [movP_len, List.length_take]; omega
  rw [List.set_append_right _ _ (by omega), hl, Nat.sub_self, take_snoc h, List.drop_eq_getElem_cons hk, List.set_cons_zero]
  unfold movP
  rw [List.map_append, List.append_assoc]
  rfl
theorem mix_same {p : Pgl} {N k : Nat} {r : List UInt8} (h : p[k]? = some r) (h0 : r.length = 0) : mixP p N (k + 1) = mixP p N k := by
  rw [mix_step h, show movR r N = r by unfold movR; rw [if_neg (by omega)]; exact (List.eq_nil_of_length_eq_zero h0).symm]
  obtain ⟨h1, h2⟩ := List.getElem?_eq_some_iff.1 (mix_get (N := N) h)
  rw [← h2]
  exact List.set_getElem_self h1
theorem Rows.set {w : World} {hs : List Hd} {p : Pgl} (h : Rows w hs p) (k : Nat) {x : Hd} {r : List UInt8} (h1 : Sl w 1 x.1 x.2.1 x.2.2 (r.map B8)) (k1 : Kind w x.1) : Rows w (hs.set k x) (p.set k r) := by
  refine ⟨by rw [List.length_set, List.length_set]; exact h.1, fun i y s hy hs' => ?_⟩
  rw [List.getElem?_set] at hy hs'
  by_cases hi : k = i
  · rw [if_pos hi] at hy hs'
    split at hy
    · split at hs'
      · cases hy; cases hs'; exact ⟨h1, k1⟩
      · cases hs'
    · cases hy
  · rw [if_neg hi] at hy hs'
    exact h.2 i y s hy hs'
theorem tab_put {w : World} {b n c k : Nat} {P : Pgl} {x : Hd} {r : List UInt8} (t : Tab w (some ⟨b, 0, none⟩, n, c) P) (h1 : Sl w 1 x.1 x.2.1 x.2.2 (r.map B8)) (k1 : Kind w x.1) : Tab (w.setCell ⟨b, k, none⟩ (hv x)) (some ⟨b, 0, none⟩, n, c) (P.set k r) := by
  obtain ⟨hs, ho, hr⟩ := t
  have hgw : w.grownBy (w.setCell ⟨b, k, none⟩ (hv x)) (some b) := ⟨rfl, rfl, rfl, by simp, fun j hj hne => Below.heap_setCell w _ _ j (fun e => hne (by rw [e]))⟩
  refine ⟨hs.set k x, ?_, ?_⟩
  · have := ho.put (i := k) (hv x)
    rw [List.map_set]
    exact this
  · exact (hr.set k h1 k1).kept hgw (fun b' hb' => by cases hb'; exact NoB.own ho (by decide))
theorem tab_addr {w : World} {h : Hd} {P : Pgl} {k : Nat} (t : Tab w h P) (hk : k < P.length) : ∃ b, h.1 = some ⟨b, 0, none⟩ := by
  obtain ⟨hs, ho, hr⟩ := t
  have hl := ho.len
  rw [List.length_map, hr.1] at hl
  rcases ho.2 with ⟨h1, _⟩ | ⟨g, cap, cur, h1, _⟩
  · injection h1 with e1 e2 e3
    omega
  · injection h1 with h1
    exact ⟨g, h1⟩
set_option maxRecDepth 100000 in
set_option maxHeartbeats 4000000 in
theorem pr_Shift (front back : Pgl) (h1 h2 : List Hd) (a1 a2 : Option Addr) (n1 n2 c1 c2 : Nat) (w : World) (hp : Pg w a1 n1 c1 h1 front) (hq : Pg w a2 n2 c2 h2 back) :
    Calls Try.prog 30 #[.slice a1 n1 c1, .slice a2 n2 c2] w (GivesPg (shF front back).1 ((shF front back).2 : Int) w) := by
  have hc1 := cell_Fits front h1 a1 n1 c1 w hp
  have hc2 := cell_Fits back h2 a2 n2 c2 w hq
  unfold shF
  cases e1 : fits front with
  | false =>
    rw [e1] at hc1
    clear e1
    go_enter Try.func30, Try.ntmps30
    go_wp2_with (go_at_call 34; refine hc1.mono ?_; rintro e w4 ⟨rfl, rfl⟩)
    go_ret2
    exact ⟨none, 0, [], rfl, ⟨(Own.nil _ 0 31 1).sl, rfl, fun i h r h1 => by cases h1⟩, Below.refl _ _⟩
  | true =>
    rw [e1] at hc1
    cases e2 : fits back with
    | false =>
      rw [e2] at hc2
      clear e1 e2
      go_enter Try.func30, Try.ntmps30
      go_wp2_with (first
        | (go_at_call_of 34 (Value.slice a1 n1 c1); refine hc1.mono ?_; rintro e w4 ⟨rfl, rfl⟩)
        | (go_at_call_of 34 (Value.slice a2 n2 c2); refine hc2.mono ?_; rintro e w4 ⟨rfl, rfl⟩))
      go_ret2
      exact ⟨none, 0, [], rfl, ⟨(Own.nil _ 0 31 1).sl, rfl, fun i h r h1 => by cases h1⟩, Below.refl _ _⟩
    | true =>
      rw [e2] at hc2
      have eT : (if (true && true) = true then shW back (shU front back 0 (40 - longest back + 1)) else ([], 1)) = shW back (shU front back 0 (40 - longest back + 1)) := rfl
      rw [eT]
      obtain ⟨f1, f2⟩ := fits_rows e1
      obtain ⟨b1, b2⟩ := fits_rows e2
      have b3 : ∀ r ∈ back, r.length ≤ 40 := fun r hr => (b2 r hr).1
      have hlo : longest back ≤ 40 := longest_le b3
      have hU := hide fun k => tR_up f1 f2 b2 k
      have f3 : ∀ r ∈ front, r.length ≤ 40 := fun r hr => (f2 r hr).1
      clear eT b2 f2 e1 e2
      obtain rfl := hq.n_eq
      have HP := hide hp
      have HQ := hide hq
      obtain ⟨L, hL⟩ : ∃ L, Hid (longest back = L) := ⟨_, hide rfl⟩
      rw [hL.out] at hlo ⊢
      obtain ⟨X, hX⟩ : ∃ X, Hid (shU front back 0 (40 - L + 1) = X) := ⟨_, hide rfl⟩
      rw [hX.out]
      clear hp hq
      go_enter Try.func30, Try.ntmps30
      go_wp2_with (first
        | (go_at_call_of 34 (Value.slice a1 n1 c1); refine hc1.mono ?_; rintro e w4 ⟨rfl, rfl⟩)
        | (go_at_call_of 34 (Value.slice a2 back.length c2); refine hc2.mono ?_; rintro e w4 ⟨rfl, rfl⟩))
      clear hc1 hc2
      go_loopg [6, 8, 23] back.length (fun g v _ i w' => ∃ (k m : Nat), k ≤ back.length ∧ g = back.length - k ∧ i = .int .i64 (k : Int) ∧ v = .int .i64 (m : Int) ∧ Hid (longest (back.take k) = m) ∧ m ≤ 40 ∧ w = w')
      case atStart => exact ⟨0, 0, by omega, by omega, rfl, rfl, hide rfl, by omega, rfl⟩
      case round =>
        obtain ⟨k, m, hk, hg, rfl, rfl, hm, hm40, rfl⟩ := hrel
        have HG := hide hg
        clear hg
        by_cases hkl : k < back.length
        · obtain ⟨r, hr⟩ : ∃ r, back[k]? = some r := ⟨back[k], by simp [hkl]⟩
          obtain ⟨ar, cr, hu, hsr⟩ := HQ.out.get hr
          have hrl := b3 r (List.mem_of_getElem? hr)
          have hst := hide (longest_take back k r hr)
          have HU := hide hu
          obtain ⟨R, hR⟩ : ∃ R, Hid (r.length = R) := ⟨_, hide rfl⟩
          rw [hR.out] at HU hrl hst
          rw [hm.out] at hst
          obtain ⟨m2, hm2⟩ : ∃ m2, max m R = m2 := ⟨_, rfl⟩
          have hmx : max (m : Int) (R : Int) = (m2 : Int) := by omega
          have hm240 : m2 ≤ 40 := by omega
          rw [hm2] at hst
          clear hu hr hsr hm2
          go_wp2_with (with_reducible refine idx_p 25 _ _ _ _ _ h2 rfl HQ.out.top _ _ k rfl rfl _ HU.out ?_; intro b o hcell hbo)
          go_roundg (back.length - (k + 1))
          case measure => have := HG.out; omega
          case rel => exact ⟨k + 1, m2, by omega, rfl, by go_num, by first | rfl | rw [hmx], hst, hm240, rfl⟩
        · obtain rfl : k = back.length := by omega
          have hmL : m = L := by rw [← hm.out, List.take_length, hL.out]
          subst hmL
          obtain ⟨G, hG⟩ : ∃ G, Hid (40 - m + 1 = G) := ⟨_, hide rfl⟩
          have hGi : (40 : Int) - (m : Int) + 1 = (G : Int) := by have := hG.out; omega
          have hG41 : G ≤ 41 := by have := hG.out; omega
          rw [hG.out] at hX
          clear hm hlo
          go_wp2_with fail
          go_loopg [35] G (fun g i w' => ∃ (k : Nat), k ≤ G ∧ g = G - k ∧ i = .int .i64 (k : Int) ∧ Hid (shU front back k (G - k) = X) ∧ Below w.heap.size w w')
          case atStart => exact ⟨0, by omega, by omega, rfl, hX, Below.refl _ _⟩
          case round =>
            obtain ⟨k, hk, hg, rfl, hT, hb⟩ := hrel
            have HG := hide hg
            clear hg
            by_cases hkl : k < G
            · have hstep : Hid (shU front back k (G - k) = if (tR front back k 25).length > 0 then shU front back (k + 1) (G - (k + 1)) else some k) := hide (by rw [show G - k = (G - (k + 1)) + 1 by omega]; rfl)
              have hto := pr_touches front back h1 h2 a1 a2 n1 back.length c1 c2 k wr (HP.out.below hb) (HQ.out.below hb) f1 f3 (by omega)
              rw [hU.out k] at hto
              obtain ⟨q, hq⟩ : ∃ q, Hid ((tR front back k 25).length = q) := ⟨_, hide rfl⟩
              rw [hq.out] at hto hstep
              have hq1 : q ≤ 1000 := by rw [← hq.out]; exact tR_len _ _ _ _
              by_cases hq0 : q > 0
              · have HE : Hid (shU front back (k + 1) (G - (k + 1)) = X) := hide (by rw [← hT.out, hstep.out, if_pos hq0])
                clear hstep
                go_wp2_with (go_at_call 48; refine hto.mono ?_; rintro e w5 ⟨a5, c5, rfl, ho5, hb5⟩)
                go_roundg (G - (k + 1))
                case measure => have := HG.out; omega
                case rel => exact ⟨k + 1, by omega, rfl, by go_num, HE, hb.trans (hb5.mono hb.size)⟩
              · have HE : Hid (X = some k) := hide (by rw [← hT.out, hstep.out, if_neg hq0])
                obtain rfl : q = 0 := by omega
                clear hstep hq0
                go_wp2_with (go_at_call 48; refine hto.mono ?_; rintro e w5 ⟨a5, c5, rfl, ho5, hb5⟩; refine hold ?_)
                refine hide ?_
                have hb5' := hb.trans (hb5.mono hb.size)
                have hcp := pr_copied back h2 a2 back.length c2 w5 (HQ.out.below hb5') (fun r hr => by have := b3 r hr; omega) (by omega)
                clear hb5 ho5 hto hb
                go_wp2_with (go_at_call 42; refine hcp.mono ?_; rintro e w6 ⟨ax, nx, cx, rfl, hT6, hhb6, hb6⟩; refine hold ?_)
                refine hide ?_
                have hb6' := hb5'.trans (hb6.mono hb5'.size)
                have hhb : ∀ b ∈ hb (ax, nx, cx), w.heap.size ≤ b := fun b hb => Nat.le_trans hb5'.size (hhb6 b hb)
                obtain rfl : nx = back.length := hT6.len
                have HT6 := hide hT6
                clear hcp hb6 hhb6 hT6 hb5'
                go_wp2_with fail
                go_loopg [48] back.length (fun g i w' => ∃ (j : Nat), j ≤ back.length ∧ g = back.length - j ∧ i = .int .i64 (j : Int) ∧ Tab w' (ax, back.length, cx) (mixP back k j) ∧ Below w.heap.size w w')
                case atStart => exact ⟨0, by omega, by omega, rfl, by rw [mix_zero]; exact HT6.out, hb6'⟩
                case round =>
                  clear hb6' HT6
                  obtain ⟨j, hj, hg, rfl, hT6, hb⟩ := hrel
                  have HG2 := hide hg
                  clear hg
                  by_cases hjl : j < back.length
                  · obtain ⟨r, hr⟩ : ∃ r, back[j]? = some r := ⟨back[j], by simp [hjl]⟩
                    have hrl := b3 r (List.mem_of_getElem? hr)
                    obtain ⟨b, hab⟩ := tab_addr (k := j) hT6 (by rw [mix_len]; exact hjl)
                    simp only at hab
                    subst hab
                    have hbb := hhb b (by simp [Go.Proofs.Ytdeknimelkdaeaa.hb])
                    have HT := hide hT6
                    obtain ⟨ho, hOw, hRw⟩ := hT6
                    simp only at hOw
                    have hol : ho.length = back.length := by rw [hRw.1, mix_len]
                    obtain ⟨x, hx⟩ : ∃ x, ho[j]? = some x := ⟨ho[j]'(by omega), by simp⟩
                    obtain ⟨hsx, -⟩ := hRw.2 j x r hx (mix_get hr)
                    have hst := hide (mix_step (N := k) hr)
                    have hst0 := hide (mix_same (N := k) hr)
                    have hmr := hide (show r.length > 0 → movR r k = List.replicate k 0 ++ r from fun h => by unfold movR; rw [if_pos h])
                    have hxn := hsx.n_eq
                    obtain ⟨xa, xn, xc⟩ := x
                    simp only at hsx hxn
                    subst hxn
                    have HU : Hid ((ho.map hv)[j]? = some (.slice xa r.length xc)) := hide (by rw [List.getElem?_map, hx]; rfl)
                    have HS := hide hsx
                    obtain ⟨R, hR⟩ : ∃ R, Hid (r.length = R) := ⟨_, hide rfl⟩
                    rw [hR.out] at HU HS hrl hst0 hmr
                    have hOs := hOw.sl
                    clear hr hx hsx hRw hol hOw
                    by_cases hR0 : R > 0
                    · go_wp2_with (first
                        | (with_reducible refine idx_p 51 _ _ _ _ _ ho rfl hOs _ _ j rfl rfl _ HU.out ?_; intro b9 o9 hcell hbo)
                        | (with_reducible refine make_row 59 _ _ _ 5 (.int .u8 0) 1 Try.underlying31 info_u8 rfl .i64 .i64 _ _ k rfl rfl rfl rfl (by omega) (by omega) ?_; intro w7 hr7 hb7 hz7; have hx7 := hide (box_row35 hr7); clear hr7; refine hold ?_))
                      refine hide ?_
                      have ho7 : Own w7 wr.heap.size 5 1 (some ⟨wr.heap.size, 0, none⟩) k k ((List.replicate k (0 : UInt8)).map B8) := own_of_box hx7.out (by simp) (by unfold maxLen; omega) (Nat.le_refl _)
                      have hS7 := HS.out.below hb7
                      have hz := hb7.size
                      clear hz7 hx7
                      go_wp2_with (at_builtin; refine app_bs rfl _ _ rfl wr wr.heap.size _ k k ((List.replicate k (0 : UInt8)).map B8) rfl ho7 xa R xc r rfl hS7 (by omega) hz hb7 ?_; intro a8 c8 w8 ho8 hgr8 hb8; refine hold ?_)
                      refine hide ?_
                      have HO8 : Hid (Own w8 wr.heap.size 5 1 a8 (k + R) c8 ((movR r k).map B8)) := hide (by rw [hmr.out hR0, List.map_append]; exact ho8)
                      have hT8 := hide (HT.out.below hb8)
                      have hb8' := hb.trans (hb8.mono hb.size)
                      clear ho8 hgr8 hS7 ho7 hz hb7 hOs
                      go_wp2_with (with_reducible refine hold_store ?_)
                      refine hide ?_
                      obtain ⟨ho2, hOw2, hRw2⟩ := hT8.out
                      simp only at hOw2
                      obtain ⟨y2, hy2⟩ : ∃ y, ho2[j]? = some y := ⟨ho2[j]'(by rw [hRw2.1, mix_len]; exact hjl), by simp⟩
                      refine store_slice _ _ _ size_row b j rfl a8 (k + R) c8 rfl (hv y2) (hOw2.at_ (by rw [List.getElem?_map, hy2]; rfl)) (hOw2.free j) ?_
                      have hT9 := tab_put (k := j) (x := (a8, k + R, c8)) hT8.out HO8.out.sl (Kind.own HO8.out)
                      have hfar : Below w.heap.size w (w8.setCell ⟨b, j, none⟩ (.slice a8 (k + R) c8)) := hb8'.setCell (p := ⟨b, j, none⟩) hbb _
                      have HT9 : Hid (Tab (w8.setCell ⟨b, j, none⟩ (.slice a8 (k + R) c8)) (some ⟨b, 0, none⟩, back.length, cx) (mixP back k (j + 1))) := hide (by rw [hst.out]; exact hT9)
                      generalize w8.setCell ⟨b, j, none⟩ (.slice a8 (k + R) c8) = w9 at hfar HT9 ⊢
                      clear hT9 hOw2 hRw2 hy2 hb8' HO8 hT8
                      go_wp2_with fail
                      go_roundg (back.length - (j + 1))
                      case measure => have := HG2.out; omega
                      case rel => exact ⟨j + 1, by omega, rfl, by go_num, HT9.out, hfar⟩
                    · obtain rfl : R = 0 := by omega
                      go_wp2_with (with_reducible refine idx_p 51 _ _ _ _ _ ho rfl hOs _ _ j rfl rfl _ HU.out ?_; intro b9 o9 hcell hbo)
                      go_roundg (back.length - (j + 1))
                      case measure => have := HG2.out; omega
                      case rel => exact ⟨j + 1, by omega, rfl, by go_num, by rw [hst0.out (by simp)]; exact HT.out, hb⟩
                  · obtain rfl : j = back.length := by omega
                    go_wp2
                    go_ret2
                    rw [mix_all] at hT6
                    obtain ⟨hs9, hg9⟩ := hT6.pg
                    rw [HE.out]
                    exact ⟨ax, cx, hs9, by rw [show (shW back (some k)).1 = movP back k from rfl, movP_len]; rfl, by rw [show (shW back (some k)).1 = movP back k from rfl, movP_len]; exact hg9, hb⟩
            · obtain rfl : k = G := by omega
              have HE : Hid (X = none) := hide (by rw [← hT.out, Nat.sub_self]; rfl)
              go_wp2
              go_ret2
              rw [HE.out]
              exact ⟨none, 0, [], rfl, ⟨(Own.nil _ 0 31 1).sl, rfl, fun i h r h1 => by cases h1⟩, hb⟩
end Go.Proofs.Ytdeknimelkdaeaa
end

/- the text P24 -/
section
/- Chapter 35: Good finds as many sheets of a kind as there are (plain Lean). -/
set_option linter.unusedVariables false
namespace Go.Proofs.Ytdeknimelkdaeaa
open Go.RowKit Go.Dx Go.Al
abbrev KeyS := Pgl × Pgl
def keyS (s : Sht) : KeyS := (plainL s.1, plainL s.2)
theorem samS_iff (s t : Sht) : samS s t = true ↔ keyS s = keyS t := by
  unfold samS keyS
  simp only [Bool.and_eq_true, decide_eq_true_eq, Prod.mk.injEq]
/-- sheet k is taken and of this kind -/
def tkn (all : List Sht) (T : List Bool) (κ : KeyS) (k : Nat) : Bool := T.getD k false && decide (keyS (all.getD k ([], [])) = κ)
def ofK (all : List Sht) (κ : KeyS) (k : Nat) : Bool := decide (keyS (all.getD k ([], [])) = κ)
def cntT (all : List Sht) (T : List Bool) (κ : KeyS) : Nat := (List.range all.length).countP (tkn all T κ)
def cntS (l : List Sht) (κ : KeyS) : Nat := l.countP fun s => decide (keyS s = κ)
theorem countP_flip {p q : Nat → Bool} {k : Nat} : ∀ n, k < n → p k = false → q k = true → (∀ j, j ≠ k → q j = p j) → (List.range n).countP q = (List.range n).countP p + 1
  | 0, h, _, _, _ => by omega
  | n + 1, h, h1, h2, h3 => by
    rw [List.range_succ, List.countP_append, List.countP_append]
    by_cases hk : k = n
    · subst hk
      have e : (List.range k).countP q = (List.range k).countP p := List.countP_congr fun j hj => by
        rw [List.mem_range] at hj
        rw [h3 j (by omega)]
      rw [e]
      simp [List.countP_cons, h1, h2]
    · have ih := countP_flip n (by omega) h1 h2 h3
      rw [ih]
      have e : q n = p n := h3 n (Ne.symm hk)
      simp [List.countP_cons, e]
      omega
theorem cntS_all (all : List Sht) (κ : KeyS) : cntS all κ = (List.range all.length).countP (ofK all κ) := by
  unfold cntS
  have e : all = (List.range all.length).map fun k => all.getD k ([], []) := by
    apply List.ext_getElem
    · simp
    · intro i h1 h2
      simp [List.getD_eq_getElem?_getD, h1]
  conv => lhs; rw [e]
  rw [List.countP_map]
  rfl
/-- what stands after m sheets: of each kind, all are taken, or as many as were met -/
def GInv (all out : List Sht) (m : Nat) : Prop :=
  ∀ κ, (∀ k, k < all.length → keyS (all.getD k ([], [])) = κ → (goodUp all out m).2.getD k false = true) ∨ cntT all (goodUp all out m).2 κ = cntS (out.take m) κ
theorem pick_some {all : List Sht} {T : List Bool} {s : Sht} {k : Nat} (h : pickG all T s = some k) : k < all.length ∧ T.getD k true = false ∧ keyS s = keyS (all.getD k ([], [])) := by
  have h1 := List.find?_some h
  have h2 := List.mem_of_find?_eq_some h
  rw [List.mem_range] at h2
  unfold cand at h1
  simp only [Bool.and_eq_true, Bool.not_eq_true'] at h1
  exact ⟨h2, h1.1, (samS_iff _ _).1 h1.2⟩
theorem pick_none {all : List Sht} {T : List Bool} {s : Sht} (hl : T.length = all.length) (h : pickG all T s = none) (k : Nat) (hk : k < all.length) (hs : keyS (all.getD k ([], [])) = keyS s) : T.getD k false = true := by
  have h1 := List.find?_eq_none.1 h k (by simp [hk])
  unfold cand at h1
  have h2 : samS s (all.getD k ([], [])) = true := (samS_iff _ _).2 hs.symm
  rw [h2] at h1
  simp only [Bool.and_true, Bool.not_eq_true', Bool.not_eq_false] at h1
  rw [List.getD_eq_getElem?_getD, List.getElem?_eq_getElem (by omega)] at h1 ⊢
  simpa using h1
theorem ginv (all out : List Sht) : ∀ m, m ≤ out.length → GInv all out m
  | 0, _ => fun κ => .inr (by
    unfold cntT cntS
    simp only [List.take_zero, List.countP_nil]
    rw [List.countP_eq_zero]
    intro k hk
    rw [List.mem_range] at hk
    unfold tkn goodUp
    simp [List.getD_eq_getElem?_getD, hk])
  | m + 1, hm => by
    have ih := ginv all out m (by omega)
    have hlen := (goodUp_len all out m).1
    obtain ⟨s, hs⟩ : ∃ s, out[m]? = some s := ⟨out[m], by simp [show m < out.length by omega]⟩
    have htake : out.take (m + 1) = out.take m ++ [s] := take_snoc hs
    intro κ
    have hg : out.getD m ([], []) = s := by rw [List.getD_eq_getElem?_getD, hs]; rfl
    cases hp : pickG all (goodUp all out m).2 s with
    | none =>
      have e : goodUp all out (m + 1) = goodUp all out m := by rw [goodUp, hg, hp]
      rw [e]
      by_cases hκ : keyS s = κ
      · exact .inl fun k hk hks => pick_none hlen hp k hk (by rw [hks, hκ])
      · rcases ih κ with h | h
        · exact .inl h
        · refine .inr ?_
          rw [h, htake]
          unfold cntS
          simp [List.countP_append, List.countP_cons, hκ]
    | some k =>
      obtain ⟨hk, hT, hks⟩ := pick_some hp
      have e : goodUp all out (m + 1) = ((goodUp all out m).1 ++ [m], (goodUp all out m).2.set k true) := by rw [goodUp, hg, hp]
      rw [e]
      have ihk := ih κ
      clear ih
      generalize (goodUp all out m).2 = T at *
      have hTk : T.getD k false = false := by
        rw [List.getD_eq_getElem?_getD, List.getElem?_eq_getElem (by omega)] at hT ⊢
        simpa using hT
      have hset : ∀ j, (T.set k true).getD j false = if j = k then true else T.getD j false := fun j => by
        rw [List.getD_eq_getElem?_getD, List.getElem?_set, List.getD_eq_getElem?_getD]
        by_cases hj : j = k
        · rw [if_pos hj.symm, if_pos hj, if_pos (by omega)]; rfl
        · rw [if_neg (Ne.symm hj), if_neg hj]
      rcases ihk with h | h
      · refine .inl fun j hj hjs => ?_
        rw [hset]
        split
        · rfl
        · exact h j hj hjs
      · refine .inr ?_
        rw [htake]
        by_cases hκ : keyS s = κ
        · have h1 : cntT all (T.set k true) κ = cntT all T κ + 1 := by
            unfold cntT
            refine countP_flip (k := k) _ hk ?_ ?_ ?_
            · unfold tkn; rw [hTk]; rfl
            · unfold tkn
              rw [hset, if_pos rfl, ← hks, hκ]
              simp
            · intro j hj
              unfold tkn
              rw [hset, if_neg hj]
          rw [h1, h]
          unfold cntS
          simp [List.countP_append, List.countP_cons, hκ]
        · have h1 : cntT all (T.set k true) κ = cntT all T κ := by
            unfold cntT
            refine List.countP_congr fun j hj => ?_
            unfold tkn
            rw [hset]
            by_cases hjk : j = k
            · rw [if_pos hjk, hjk, ← hks]
              simp [hκ]
            · rw [if_neg hjk]
          rw [h1, h]
          unfold cntS
          simp [List.countP_append, List.countP_cons, hκ]
/-- where as many sheets of its kind are met as there are, a sheet is taken -/
theorem taken_of_cnt {all out : List Sht} {k : Nat} (hk : k < all.length) (h : cntS all (keyS (all.getD k ([], []))) ≤ cntS out (keyS (all.getD k ([], [])))) : (goodUp all out out.length).2.getD k false = true := by
  rcases ginv all out out.length (Nat.le_refl _) (keyS (all.getD k ([], []))) with h1 | h1
  · exact h1 k hk rfl
  · rw [List.take_length] at h1
    rw [← h1, cntS_all] at h
    unfold cntT at h
    generalize (goodUp all out out.length).2 = T at *
    cases hT : T.getD k false with
    | true => rfl
    | false =>
      have hle : (List.range all.length).countP (tkn all T (keyS (all.getD k ([], [])))) + 1 ≤ (List.range all.length).countP (ofK all (keyS (all.getD k ([], [])))) := by
        have hq : (List.range all.length).countP (fun j => tkn all T (keyS (all.getD k ([], []))) j || decide (j = k)) = (List.range all.length).countP (tkn all T (keyS (all.getD k ([], [])))) + 1 := by
          refine countP_flip (k := k) _ hk ?_ ?_ ?_
          · unfold tkn; rw [hT]; rfl
          · simp
          · intro j hj; simp [hj]
        rw [← hq]
        refine List.countP_mono_left fun j hj hp => ?_
        unfold ofK
        simp only [Bool.or_eq_true, decide_eq_true_eq] at hp ⊢
        rcases hp with hp | hp
        · unfold tkn at hp
          simp only [Bool.and_eq_true, decide_eq_true_eq] at hp
          exact hp.2
        · rw [hp]
      omega
theorem missUp_nil {T : List Bool} {n : Nat} (h : ∀ k, 2 * k < n → T.getD k true = true) : missUp T n = [] := by
  unfold missUp
  rw [List.filter_eq_nil_iff]
  intro i hi
  rw [List.mem_range] at hi
  have := h (i / 2) (by omega)
  rw [this]
  simp
theorem getD_tf {T : List Bool} {k : Nat} (h : T.getD k false = true) : T.getD k true = true := by
  rw [List.getD_eq_getElem?_getD] at h ⊢
  cases hk : T[k]? with
  | none => rfl
  | some b => rw [hk] at h; simpa using h
end Go.Proofs.Ytdeknimelkdaeaa
end

/- the text P25 -/
section
/- Chapter 35: a machine that runs without faults (plain Lean). -/
set_option linter.unusedVariables false
namespace Go.Proofs.Ytdeknimelkdaeaa
open Go.RowKit Go.Dx Go.Al
/-- the first r rows of a page, on a sheet of 25 rows -/
def pad (r : Nat) (p : Pgl) : Pgl := (List.range 25).map fun i => if i < r then p.getD i [] else []
theorem pad_len (r : Nat) (p : Pgl) : (pad r p).length = 25 := by simp [pad]
theorem pad_get (r : Nat) (p : Pgl) (i : Nat) : (pad r p)[i]? = if i < 25 then some (if i < r then p.getD i [] else []) else none := by
  unfold pad
  rw [List.getElem?_map]
  by_cases h : i < 25
  · rw [if_pos h, List.getElem?_range h]; rfl
  · rw [if_neg h, List.getElem?_eq_none (by simp; omega)]; rfl
theorem pad_zero (p : Pgl) : pad 0 p = blank := by
  apply List.ext_getElem?
  intro i
  rw [pad_get]
  unfold blank
  rw [List.getElem?_replicate]
  by_cases h : i < 25
  · rw [if_pos h, if_pos h]; rfl
  · rw [if_neg h, if_neg h]
theorem rowD_pad {r : Nat} (p : Pgl) (hr : r < 25) : rowD r p (pad r p) = pad (r + 1) p := by
  unfold rowD
  apply List.ext_getElem?
  intro i
  split
  · rename_i hp
    rw [List.getElem?_set, pad_get, pad_get, pad_len]
    by_cases hri : r = i
    · subst hri
      rw [if_pos rfl, if_pos hr, if_pos hr, if_pos (by omega)]
    · rw [if_neg hri]
      by_cases h25 : i < 25
      · rw [if_pos h25, if_pos h25]
        by_cases h : i < r
        · rw [if_pos h, if_pos (by omega)]
        · rw [if_neg h, if_neg (by omega)]
      · rw [if_neg h25, if_neg h25]
  · rename_i hp
    rw [pad_get, pad_get]
    by_cases h25 : i < 25
    · rw [if_pos h25, if_pos h25]
      by_cases h : i < r
      · rw [if_pos h, if_pos (by omega)]
      · rw [if_neg h]
        by_cases h2 : i < r + 1
        · rw [if_pos h2, List.getD_eq_getElem?_getD, List.getElem?_eq_none (by omega)]; rfl
        · rw [if_neg h2]
    · rw [if_neg h25, if_neg h25]
def padS (r : Nat) (s : Sht) : Sht := (pad r s.1, pad r s.2)
theorem pad_plain {p : Pgl} (h : p.length ≤ 25) : plainL (pad 25 p) = plainL p := by
  rw [plain_eq_iff]
  intro Y X
  unfold pcell pad
  by_cases hY : Y < 25
  · rw [List.getD_eq_getElem?_getD (i := Y), List.getElem?_map, List.getElem?_range hY]
    simp [hY]
  · have e1 : ((List.range 25).map fun i => if i < 25 then p.getD i [] else []).getD Y [] = [] := by
      rw [List.getD_eq_getElem?_getD, List.getElem?_eq_none (by simp; omega)]; rfl
    have e2 : p.getD Y [] = [] := by rw [List.getD_eq_getElem?_getD, List.getElem?_eq_none (by omega)]; rfl
    rw [e1, e2]
theorem padS_key {s : Sht} (h1 : s.1.length ≤ 25) (h2 : s.2.length ≤ 25) : keyS (padS 25 s) = keyS s := by
  unfold keyS padS
  rw [pad_plain h1, pad_plain h2]
/-- the machine, j rows after its start with sheets all, T0 in its tray -/
def clnS (all T0 : List Sht) (p0 k r : Nat) : Pr :=
  if r = 0 then ⟨[], [], [], [], 0, false, p0 - k, all.drop k, T0 ++ (all.take k).map (padS 25), 0⟩
  else ⟨(all.getD k ([], [])).1, (all.getD k ([], [])).2, pad r (all.getD k ([], [])).1, pad r (all.getD k ([], [])).2, r, true, p0 - (k + 1), all.drop (k + 1), T0 ++ (all.take k).map (padS 25), 0⟩
theorem cln_step {all T0 : List Sht} {p0 k r : Nat} (hk : k < all.length) (hp : all.length ≤ p0) (hr : r < 25) :
    stepP (clnS all T0 p0 k r) 0 = (if r + 1 = 25 then clnS all T0 p0 (k + 1) 0 else clnS all T0 p0 k (r + 1), 0) := by
  obtain ⟨s, hs⟩ : ∃ s, all[k]? = some s := ⟨all[k], by simp [hk]⟩
  have hg : all.getD k ([], []) = s := by rw [List.getD_eq_getElem?_getD, hs]; rfl
  have hd : all.drop k = s :: all.drop (k + 1) := by rw [List.drop_eq_getElem_cons hk]; congr 1; rw [List.getElem?_eq_getElem hk] at hs; exact Option.some.inj hs
  have htk : all.take (k + 1) = all.take k ++ [s] := take_snoc hs
  have hT : takeP (clnS all T0 p0 k r) = (⟨s.1, s.2, pad r s.1, pad r s.2, r, true, p0 - (k + 1), all.drop (k + 1), T0 ++ (all.take k).map (padS 25), 0⟩, 0) := by
    unfold clnS
    by_cases h0 : r = 0
    · subst h0
      rw [if_pos rfl, hd]
      unfold takeP
      simp only [Bool.false_eq_true, if_false]
      rw [if_neg (by omega), pad_zero, pad_zero]
      congr 2
    · rw [if_neg h0, hg]
      rfl
  have hmd : (clnS all T0 p0 k r).mode = 0 := by unfold clnS; split <;> rfl
  unfold stepP
  rw [hmd, if_neg (by decide), if_neg (by decide), hT]
  simp only [ne_eq, not_true_eq_false, if_false, if_true, reduceCtorEq]
  congr 1
  unfold doneP embP emS
  simp only [Nat.lt_irrefl, Nat.zero_lt_two, Nat.one_lt_two, if_true]
  rw [rowD_pad _ hr, rowD_pad _ hr]
  by_cases h25 : r + 1 = 25
  · rw [if_pos h25, if_pos h25]
    unfold layP clnS
    rw [if_pos rfl, htk, List.map_append, h25, ← List.append_assoc]
    rfl
  · rw [if_neg h25, if_neg h25]
    unfold clnS
    rw [if_neg (by omega), hg]
/-- after j rows -/
theorem cln_rows {all T0 : List Sht} {p0 : Nat} (hp : all.length ≤ p0) (j : Nat) (hj : j < 25 * all.length) :
    stepP (clnS all T0 p0 (j / 25) (j % 25)) 0 = (clnS all T0 p0 ((j + 1) / 25) ((j + 1) % 25), 0) := by
  rw [cln_step (by omega) hp (by omega)]
  by_cases h : j % 25 + 1 = 25
  · rw [if_pos h, show (j + 1) / 25 = j / 25 + 1 by omega, show (j + 1) % 25 = 0 by omega]
  · rw [if_neg h, show (j + 1) / 25 = j / 25 by omega, show (j + 1) % 25 = j % 25 + 1 by omega]
theorem cln_end {all T0 : List Sht} {p0 k : Nat} (hk : all.length ≤ k) : stepP (clnS all T0 p0 k 0) 0 = (clnS all T0 p0 k 0, 6) ∧ (clnS all T0 p0 k 0).tray = T0 ++ all.map (padS 25) := by
  unfold clnS
  rw [if_pos rfl, List.drop_of_length_le hk, List.take_of_length_le hk]
  exact ⟨rfl, rfl⟩
theorem cntS_keys {l l' : List Sht} (h : l.map keyS = l'.map keyS) (κ : KeyS) : cntS l κ = cntS l' κ := by
  have e : ∀ l : List Sht, cntS l κ = (l.map keyS).countP (fun x => decide (x = κ)) := fun l => by
    unfold cntS; rw [List.countP_map]; rfl
  rw [e, e, h]
theorem keys_pad {all : List Sht} (h : ∀ s ∈ all, s.1.length ≤ 25 ∧ s.2.length ≤ 25) : (all.map (padS 25)).map keyS = all.map keyS := by
  rw [List.map_map]
  exact List.map_congr_left fun s hs => padS_key (h s hs).1 (h s hs).2
/-- the number of good sheets is the number of sheets taken -/
theorem goodUp_true (all out : List Sht) : ∀ m, (goodUp all out m).1.length = (goodUp all out m).2.countP id
  | 0 => by unfold goodUp; simp [List.countP_replicate]
  | m + 1 => by
    have ih := goodUp_true all out m
    have hlen := (goodUp_len all out m).1
    rw [goodUp]
    cases hp : pickG all (goodUp all out m).2 (out.getD m ([], [])) with
    | none => exact ih
    | some k =>
      obtain ⟨hk, hT, -⟩ := pick_some hp
      simp only
      rw [List.length_append, ih]
      generalize (goodUp all out m).2 = T at *
      have hkl : k < T.length := by omega
      have hf : T[k] = false := by rw [List.getD_eq_getElem?_getD, List.getElem?_eq_getElem hkl] at hT; simpa using hT
      rw [List.countP_set hkl]
      simp [hf]
theorem clean_good {L : List Pgl} (h : ∀ p ∈ L, p.length ≤ 25) : (goodF L ((sheetsL L).map (padS 25))).1.length = (sheetsL L).length ∧ (goodF L ((sheetsL L).map (padS 25))).2 = [] := by
  have hs : ∀ s ∈ sheetsL L, s.1.length ≤ 25 ∧ s.2.length ≤ 25 := fun s hs => by
    obtain ⟨h1, h2⟩ := sheetsL_mem L s hs
    refine ⟨h _ h1, ?_⟩
    rcases h2 with h2 | h2
    · exact h _ h2
    · rw [h2]; simp
  have hall : ∀ k, k < (sheetsL L).length → (goodUp (sheetsL L) ((sheetsL L).map (padS 25)) ((sheetsL L).map (padS 25)).length).2.getD k false = true := fun k hk => by
    refine taken_of_cnt hk ?_
    rw [cntS_keys (keys_pad hs)]
    exact Nat.le_refl _
  have hl := (goodUp_len (sheetsL L) ((sheetsL L).map (padS 25)) ((sheetsL L).map (padS 25)).length).1
  refine ⟨?_, missUp_nil fun k hk => getD_tf (hall k (by rw [sheetsL_len]; omega))⟩
  unfold goodF
  simp only
  rw [goodUp_true]
  generalize (goodUp (sheetsL L) ((sheetsL L).map (padS 25)) ((sheetsL L).map (padS 25)).length).2 = T at *
  rw [List.countP_eq_length.2 fun b hb => by
    obtain ⟨i, hi, rfl⟩ := List.mem_iff_getElem.1 hb
    have := hall i (by omega)
    rw [List.getD_eq_getElem?_getD, List.getElem?_eq_getElem hi] at this
    simpa using this]
  exact hl
end Go.Proofs.Ytdeknimelkdaeaa
end

/- the text PL2 -/
section
/- Chapter 35: the walk of PressClean. -/
set_option linter.unusedVariables false
namespace Go.Proofs.Ytdeknimelkdaeaa
open Go.RowKit Go.Dx Go.Al
theorem Tbs.pgs {w : World} {a : Option Addr} {B n c : Nat} {hs : List Hd} {L : List Pgl} (h : Tbs w hs L) (ho : Own w B 28 1 a n c (hs.map hv)) : Pgs w a n c hs L :=
  ⟨ho.sl, h.len, fun i x p h1 h2 => (h.get i x p h1 h2).pg⟩
theorem load_ok {S : Pr} {L : List Pgl} (hL : ∀ p ∈ L, PF p) (h : S.waiting.length + (L.length + 1) / 2 ≤ 64) : loadP S L = ({ S with waiting := S.waiting ++ sheetsL L }, 0) := by
  unfold loadP
  have h1 : L.any badPg = false := List.any_eq_false.2 fun p hp => by unfold badPg; rw [(hL p hp).fits]; simp
  rw [h1, if_neg (by decide), if_neg (by omega)]
theorem inv_cln {L : List Pgl} {p0 : Nat} (hL : ∀ p ∈ L, PF p) (h64 : (L.length + 1) / 2 ≤ 64) (hp : (sheetsL L).length ≤ p0) (hp2 : p0 ≤ 1000) : ∀ i, i ≤ 25 * (sheetsL L).length → PInv (clnS (sheetsL L) [] p0 (i / 25) (i % 25))
  | 0, _ => by
    have h := inv_load (inv_new hp2) L
    rw [load_ok hL (by show 0 + _ ≤ 64; omega)] at h
    exact h
  | i + 1, hi => by
    have ih := inv_cln hL h64 hp hp2 i (by omega)
    have h := inv_step ih 0
    rw [cln_rows hp i (by omega)] at h
    exact h
theorem PF.p25 {p : Pgl} (h : PF p) : p.length ≤ 25 := h.1
set_option maxRecDepth 100000 in
set_option maxHeartbeats 8000000 in
theorem walk_PressClean (l : List Int) (a : Option Addr) (n c : Nat) (more : Int) (w : World) (hs : Sl w 1 a n c (l.map I64)) (hl : ∀ x ∈ l, -9223372036854775808 ≤ x ∧ x ≤ 9223372036854775807) (hm : -9223372036854775808 ≤ more ∧ more ≤ 9223372036854775807) :
    Calls Try.prog 4 #[.slice a n c, .int .i64 more] w fun e w' => e = .returned (.bool true) ∧ Below w.heap.size w w' := by
  have hpages := ref35_Pages l 7 a n c w hs hl (by omega)
  obtain ⟨v, hv⟩ : ∃ v, aroundF more 3 = v := ⟨_, rfl⟩
  have hv3 : v < 3 := by rw [← hv]; exact aroundF_lt (by omega)
  have har : ∀ w', Calls Try.prog 10 #[.int .i64 more, .int .i64 3] w' fun e w2 => e = .returned (.int .i64 (v : Int)) ∧ w' = w2 := fun w' => Around_at hv rfl (by omega) (by omega) hm.1 hm.2
  clear hs hl hm hv
  go_enter Try.func4, Try.ntmps4
  go_wp2_with (go_at_call 8; refine hpages.mono ?_; rintro e w1 ⟨aL, cL, hsL, L, rfl, hO, hT, hL7, hLF, hb1⟩; refine hold ?_)
  refine hide ?_
  clear hpages
  have HP := hide (hT.pgs hO)
  have HLF := hide hLF
  have hlen := sheetsL_len L
  obtain ⟨N, hN⟩ : ∃ N, Hid (L.length = N) := ⟨_, hide rfl⟩
  obtain ⟨K, hK⟩ : ∃ K, Hid ((sheetsL L).length = K) := ⟨_, hide rfl⟩
  rw [hN.out] at hL7 hlen ⊢
  rw [hK.out] at hlen
  have hd1 : ((N : Int) + 1) / 2 = (K : Int) := by omega
  have hd2 : Int.tdiv ((N : Int) + 1) 2 = (K : Int) := by rw [Int.tdiv_eq_ediv_of_nonneg (by omega)]; exact hd1
  have hK4 : K ≤ 4 := by omega
  have hlenH := hide hlen
  clear hO hT hLF hlen
  obtain ⟨p0, hp0⟩ : ∃ p0, Hid (K + v = p0) := ⟨_, hide rfl⟩
  have hpi : (K : Int) + (v : Int) = (p0 : Int) := by have := hp0.out; omega
  have hp6 : p0 ≤ 6 := by have := hp0.out; omega
  have hpK : K ≤ p0 := by have := hp0.out; omega
  have hnew := pr_New (p0 : Int) p0 w1 rfl (by omega)
  have hnewH := hide hnew
  clear hnew
  go_wp2_with (first
    | (go_at_call 10; refine (har _).mono ?_; rintro e w4 ⟨rfl, rfl⟩)
    | (go_at_call 15; refine hnewH.out.mono ?_; rintro e w2 ⟨g, rfl, A2, hg2, hb2⟩; refine hold ?_))
  refine hide ?_
  have hinv : Hid (∀ i, i ≤ 25 * K → PInv (clnS (sheetsL L) [] p0 (i / 25) (i % 25))) := hide (by
    have := inv_cln (p0 := p0) HLF.out (by rw [hN.out]; have := hlenH.out; omega) (by rw [hK.out]; exact hpK) (by omega)
    rw [hK.out] at this
    exact this)
  have hld : loadP (newP p0) L = (clnS (sheetsL L) [] p0 0 0, 0) := load_ok HLF.out (by rw [hN.out]; show 0 + _ ≤ 64; omega)
  have hload := pr_Load g m0 (newP p0) w2 A2 (Nat.zero_le _) L _ _ _ _ (HP.out.below hb2) (by rw [hN.out]; omega)
  rw [hld, hN.out] at hload
  have hn2 : ∀ b ∈ pfoot g m0, w1.heap.size ≤ b := fun b hm => by
    simp [pfoot, mutB, m0, blk, hb, nilH, hbs] at hm
    rw [hm]
    exact hg2
  have hloadH := hide hload
  clear hload hld A2 har hnewH
  go_wp2_with (go_at_call 16; refine hloadH.out.mono ?_; rintro e w3 ⟨rfl, m3, A3, MV3⟩; refine hold ?_)
  refine hide ?_
  have B3 : Below w1.heap.size w1 w3 := hb2.trans (MV3.blw hb2.size hn2)
  have N3 := MV3.new hb2.size hn2
  have HA3 := hide A3
  clear MV3 hn2 A3 hg2 hb2 hloadH
  obtain ⟨Q, hQ⟩ : ∃ Q, Hid (25 * K = Q) := ⟨_, hide rfl⟩
  have hQi : 25 * (K : Int) = (Q : Int) := by have := hQ.out; omega
  have hQ1 : Q ≤ 100 := by have := hQ.out; omega
  go_wp2_with fail
  go_loopg [9] Q (fun gh v w' => ∃ (i : Nat) (m : PM), i ≤ Q ∧ gh = Q - i ∧ v = .int .i64 (i : Int) ∧ PAt w' g m (clnS (sheetsL L) [] p0 (i / 25) (i % 25)) ∧ Below w1.heap.size w1 w' ∧ (∀ b ∈ pfoot g m, w1.heap.size ≤ b))
  case atStart => exact ⟨0, m3, by omega, by omega, rfl, HA3.out, B3, N3⟩
  case round =>
    clear HA3 B3 N3
    obtain ⟨i, m, hi, hg, rfl, hA, hbB, hnB⟩ := hrel
    have HG2 := hide hg
    have HA := hide hA
    clear hg hA
    have HI := hide (hinv.out i (by rw [hQ.out]; exact hi))
    by_cases hiQ : i < Q
    · have hst : Calls Try.prog 17 #[.pointer (some ⟨g, 0, none⟩), .int .i64 0] wr fun e w' => e = .returned (.int .i64 0) ∧ ∃ m', PAt w' g m' (clnS (sheetsL L) [] p0 ((i + 1) / 25) ((i + 1) % 25)) ∧ Mv wr w' (pfoot g m) (pfoot g m') := by
        have h1 := pr_Step g m _ 0 wr HA.out HI.out (by omega)
        rw [cln_rows (by rw [hK.out]; exact hpK) i (by rw [hK.out, hQ.out]; exact hiQ)] at h1
        exact h1
      have hstH := hide hst
      clear hst
      go_wp2_with (go_at_call 17; refine hstH.out.mono ?_; rintro e w4 ⟨rfl, m4, A4, MV4⟩)
      have B4 := MV4.blw hbB.size hnB
      have N4 := MV4.new hbB.size hnB
      have HA4 := hide A4
      clear MV4 A4 hstH
      go_roundg (Q - (i + 1))
      case measure => have := HG2.out; omega
      case rel => exact ⟨i + 1, m4, by omega, rfl, by go_num, HA4.out, hbB.trans B4, N4⟩
    · obtain rfl : i = Q := by omega
      have hce := cln_end (all := sheetsL L) (T0 := []) (p0 := p0) (k := K) (by rw [hK.out]; exact Nat.le_refl _)
      have hk1 : i / 25 = K := by have := hQ.out; omega
      have hk2 : i % 25 = 0 := by have := hQ.out; omega
      rw [hk1, hk2] at HA HI
      have htl : (clnS (sheetsL L) [] p0 K 0).tray.length = K := by rw [hce.2, List.nil_append, List.length_map, hK.out]
      have hout := hide (pr_Out g m _ wr HA.out HI.out.cts (by rw [htl]; omega))
      rw [htl, hce.2, List.nil_append] at hout
      obtain ⟨hg1, hg2⟩ := clean_good (L := L) fun p hp => (HLF.out p hp).1
      rw [hK.out] at hg1
      have hgl1 := hide hg1
      have hgl2 := hide hg2
      clear hg1 hg2 htl hk1 hk2
      go_wp2_with (go_at_call 18; refine hout.out.mono ?_; rintro e w6 ⟨a6, c6, ws6, rfl, S6, hb6⟩; refine hold ?_)
      refine hide ?_
      have hB6 : Below w1.heap.size w1 w6 := hbB.trans (hb6.mono hbB.size)
      have hgood := hide (pr_Good L _ ((sheetsL L).map (padS 25)) ws6 _ a6 _ _ _ c6 w6 (HP.out.below hB6) S6.shp (fun p hp => ⟨(HLF.out p hp).sm.cp, (HLF.out p hp).sm.1⟩)
        (fun s hs => by
          obtain ⟨s', -, rfl⟩ := List.mem_map.1 hs
          unfold padS
          simp only [pad_len]
          exact ⟨by omega, by omega⟩) (by rw [hN.out]; omega) (by rw [List.length_map, hK.out]; omega))
      rw [hgl1.out, hgl2.out, hN.out] at hgood
      have HA6 := hide (HA.out.below hb6)
      clear hout S6 HA
      go_wp2_with (go_at_call 11; refine hgood.out.mono ?_; rintro e w7 ⟨ag, cg, am, cm, rfl, hs7, ht7, hb7⟩; refine hold ?_)
      refine hide ?_
      have hB7 : Below w1.heap.size w1 w7 := hB6.trans (hb7.mono hB6.size)
      have hst : Hid (Calls Try.prog 17 #[.pointer (some ⟨g, 0, none⟩), .int .i64 0] w7 fun e w' => e = .returned (.int .i64 6) ∧ Below w1.heap.size w1 w') := hide (by
        have h1 := pr_Step g m _ 0 w7 (HA6.out.below hb7) HI.out (by omega)
        rw [hce.1] at h1
        refine h1.mono ?_
        rintro e w' ⟨rfl, m', A', MV'⟩
        exact ⟨rfl, hB7.trans (MV'.blw hB7.size hnB)⟩)
      have hlv := fun w' => law35_lives w'
      clear hgood hs7 ht7 HA6 hnB hb6 hb7 hce
      go_wp2_with (first
        | (go_at_call 17; refine hst.out.mono ?_; rintro e w8 ⟨rfl, hb8⟩)
        | (go_at_call 14; refine (hlv _).mono ?_; rintro e w9 ⟨rfl, hb9⟩))
      go_ret
      exact ⟨rfl, hb1.trans ((hb8.trans (hb9.mono hb8.size)).mono hb1.size)⟩
end Go.Proofs.Ytdeknimelkdaeaa
end

/- the text Row7 -/
section
/- How the arguments of a law read: slices of slices of bytes, slices of pages. -/
set_option linter.unusedVariables false
namespace Go.Proofs.Ytdeknimelkdaeaa
open Go.RowKit Go.WideShapes Go.ChangeShapes Go.Deep Go.Dx
section
variable {H : Type} {enc : TypeId × Value → H} {P : Program} {w : World}
theorem trod_slices {α : Type} [Inhabited α] {t e : TypeId} {f : α → Value} {Q : α → Prop} (ht : P.underlying t = some (.slice e)) (hce : P.cellsOf e = 1)
    (hy : ∀ (n : Nat) (cs : List Value) (x : DataW H × List MemPlace), Sized P e x.1 → DataW.trod enc P w 0 (fun _ => true) true n e cs = some x → ∃ y, cs = [f y] ∧ Q y)
    {a : Option Addr} {len cap : Nat} {d : DataW H} {p : List MemPlace} (hs : Sized P t d) (h : DataW.Trod enc P w 0 (fun _ => true) true t (.slice a len cap) d p) :
    ∃ l : List α, Sl w 1 a len cap (l.map f) ∧ (∀ y ∈ l, Q y) ∧ len * P.bytesOf e ≤ reachBytes := by
  obtain ⟨fuel, hfu⟩ := h
  rcases open_slice ht hfu with ⟨hcs, _⟩ | ⟨x, l, c, m, g, D, Pl, hcs, _, hl, hm, hmm, hx, hel⟩
  · simp [Value.cells] at hcs
    obtain ⟨rfl, rfl, rfl⟩ := hcs
    exact ⟨[], Sl.empty w 1, by simp, by simp⟩
  · simp [Value.cells] at hcs
    obtain ⟨rfl, rfl, rfl⟩ := hcs
    simp only [if_true] at hmm
    subst hmm
    have hd := congrArg Prod.fst hx
    simp only at hd
    subst hd
    obtain ⟨z1, z2⟩ := hs.slice ht
    have each : ∀ i, i < len → ∃ y, w.cell? (x.add i) = some (f y) ∧ Q y := by
      intro i hi
      obtain ⟨cs', h1, h2⟩ := hel i (by omega)
      obtain ⟨y, hcy, hq⟩ := hy _ _ _ (z2 (D i) (List.mem_map.2 ⟨i, List.mem_range.2 hi, rfl⟩)) h2
      subst hcy
      obtain ⟨_, hcl, hat⟩ := World.cells?_some h1
      have := hat 0 (by rw [hce]; omega)
      rw [hce, Nat.mul_one, sl_add, Nat.add_zero] at this
      exact ⟨y, this, hq⟩
    obtain ⟨Y, hY⟩ := choose_lt each
    refine ⟨(List.range len).map Y, ⟨by simp, hl, hm, (fun h => by cases h), ?_⟩, ?_, ?_⟩
    · intro q hq j u hj
      cases hq
      have hlt : j < len := by have := (List.getElem?_eq_some_iff.1 hj).1; simpa using this
      rw [(hY j hlt).1]
      simp [hlt] at hj
      rw [hj]
    · intro z hz
      obtain ⟨i, hi, rfl⟩ := List.mem_map.1 hz
      exact (hY i (List.mem_range.1 hi)).2
    · simp only [List.length_map, List.length_range] at z1
      exact Nat.le_trans (Nat.mul_le_mul_right _ (Nat.le_add_right _ _)) z1
/-- the cells of a slice's value -/
theorem trod_hd {t e : TypeId} {n : Nat} {cs : List Value} {x : DataW H × List MemPlace} (ht : P.underlying t = some (.slice e)) (h : DataW.trod enc P w 0 (fun _ => true) true n t cs = some x) :
    ∃ (a : Option Addr) (l c : Nat), cs = [.slice a l c] ∧ DataW.Trod enc P w 0 (fun _ => true) true t (.slice a l c) x.1 x.2 := by
  rcases open_slice ht h with ⟨hcs, _⟩ | ⟨y, l, c, m, g, D, Pl, hcs, _⟩
  · subst hcs
    exact ⟨none, 0, 0, rfl, n, by simpa [Value.cells] using h⟩
  · subst hcs
    exact ⟨some y, l, c, rfl, n, by simpa [Value.cells] using h⟩
/-- a row of bytes -/
theorem trod_row {t e : TypeId} (ht : P.underlying t = some (.slice e)) (he : P.underlying e = some (.int .u8)) (hc : P.cellsOf e = 1) (hb : P.bytesOf e = 1) (n : Nat) (cs : List Value) (x : DataW H × List MemPlace) (hs : Sized P t x.1) (h : DataW.trod enc P w 0 (fun _ => true) true n t cs = some x) :
    ∃ y : Hd × List UInt8, cs = [hv y.1] ∧ Sl w 1 y.1.1 y.1.2.1 y.1.2.2 (y.2.map B8) ∧ y.2.length ≤ 140737488351232 := by
  obtain ⟨a, l, c, rfl, h2⟩ := trod_hd ht h
  obtain ⟨r, h3, h4⟩ := trod_bytes ht he hc (by omega) hs h2
  refine ⟨((a, l, c), r), rfl, h3, ?_⟩
  have := h3.len
  rw [List.length_map] at this
  show r.length ≤ 140737488351232
  unfold reachBytes at h4
  omega
theorem pg_of {l : List (Hd × List UInt8)} {a : Option Addr} {len cap : Nat} (h1 : Sl w 1 a len cap (l.map fun y => hv y.1)) (h2 : ∀ y ∈ l, Sl w 1 y.1.1 y.1.2.1 y.1.2.2 (y.2.map B8) ∧ y.2.length ≤ 140737488351232) (h3 : len * 24 ≤ reachBytes) :
    Pg w a len cap (l.map (·.1)) (l.map (·.2)) ∧ Sm (l.map (·.2)) := by
  have hl : len = l.length := by have := h1.len; rw [List.length_map] at this; omega
  refine ⟨⟨by rw [List.map_map]; exact h1, by simp, fun i h r k1 k2 => ?_⟩, by rw [List.length_map]; unfold reachBytes at h3; omega, fun r hr => ?_⟩
  · rw [List.getElem?_map] at k1 k2
    obtain ⟨y, hy, rfl⟩ := Option.map_eq_some_iff.1 k1
    rw [hy] at k2
    cases k2
    exact (h2 y (List.mem_of_getElem? hy)).1
  · obtain ⟨y, hy, rfl⟩ := List.mem_map.1 hr
    exact (h2 y hy).2
theorem trod_pg {t e u : TypeId} (ht : P.underlying t = some (.slice e)) (he : P.underlying e = some (.slice u)) (hu : P.underlying u = some (.int .u8)) (hce : P.cellsOf e = 1) (hbe : P.bytesOf e = 24) (hcu : P.cellsOf u = 1) (hbu : P.bytesOf u = 1)
    {a : Option Addr} {len cap : Nat} {d : DataW H} {p : List MemPlace} (hs : Sized P t d) (h : DataW.Trod enc P w 0 (fun _ => true) true t (.slice a len cap) d p) :
    ∃ (hs : List Hd) (q : Pgl), Pg w a len cap hs q ∧ Sm q := by
  obtain ⟨l, h1, h2, h3⟩ := trod_slices (f := fun y : Hd × List UInt8 => hv y.1) ht hce (trod_row he hu hcu hbu) hs h
  rw [hbe] at h3
  obtain ⟨k1, k2⟩ := pg_of h1 h2 h3
  exact ⟨_, _, k1, k2⟩
theorem trod_pgs {t g e u : TypeId} (ht : P.underlying t = some (.slice g)) (hg : P.underlying g = some (.slice e)) (he : P.underlying e = some (.slice u)) (hu : P.underlying u = some (.int .u8)) (hcg : P.cellsOf g = 1) (hce : P.cellsOf e = 1) (hbe : P.bytesOf e = 24) (hcu : P.cellsOf u = 1) (hbu : P.bytesOf u = 1)
    {a : Option Addr} {len cap : Nat} {d : DataW H} {p : List MemPlace} (hs : Sized P t d) (h : DataW.Trod enc P w 0 (fun _ => true) true t (.slice a len cap) d p) :
    ∃ (hs : List Hd) (L : List Pgl), Pgs w a len cap hs L ∧ (∀ q ∈ L, Sm q) := by
  obtain ⟨l, h1, h2, h3⟩ := trod_slices (f := fun y : Hd × Pgl => hv y.1) (Q := fun y => PgE w y.1 y.2 ∧ Sm y.2) ht hcg (fun n cs x hsx hx => by
    obtain ⟨a', l', c', rfl, k⟩ := trod_hd hg hx
    obtain ⟨hs', q, k1, k2⟩ := trod_pg hg he hu hce hbe hcu hbu hsx k
    exact ⟨((a', l', c'), q), rfl, ⟨hs', k1⟩, k2⟩) hs h
  refine ⟨l.map (·.1), l.map (·.2), ⟨by rw [List.map_map]; exact h1, by simp, fun i x q k1 k2 => ?_⟩, fun q hq => ?_⟩
  · rw [List.getElem?_map] at k1 k2
    obtain ⟨y, hy, rfl⟩ := Option.map_eq_some_iff.1 k1
    rw [hy] at k2
    cases k2
    exact (h2 y (List.mem_of_getElem? hy)).1
  · obtain ⟨y, hy, rfl⟩ := List.mem_map.1 hq
    exact (h2 y hy).2
end
end Go.Proofs.Ytdeknimelkdaeaa
end

/- the text PL4 -/
section
/- Chapter 35: the walk of PressTouches. -/
set_option linter.unusedVariables false
namespace Go.Proofs.Ytdeknimelkdaeaa
open Go.RowKit Go.Dx Go.Al
theorem Tbs.append {w : World} {hs hs' : List Hd} {L L' : List Pgl} (h : Tbs w hs L) (h' : Tbs w hs' L') : Tbs w (hs ++ hs') (L ++ L') := by
  refine ⟨by rw [List.length_append, List.length_append, h.len, h'.len], fun i y q h1 h2 => ?_⟩
  rw [List.getElem?_append] at h1 h2
  by_cases hi : i < hs.length
  · rw [if_pos hi] at h1
    rw [if_pos (by rw [← h.len]; exact hi)] at h2
    exact h.get i y q h1 h2
  · rw [if_neg hi] at h1
    rw [if_neg (by rw [← h.len]; exact hi), ← h.len] at h2
    exact h'.get _ y q h1 h2
theorem Pgs.push {w w' : World} {a a' : Option Addr} {n n' c c' : Nat} {hs : List Hd} {L : List Pgl} {x : Hd} {p : Pgl} (h : ∀ (i : Nat) (y : Hd) (q : Pgl), hs[i]? = some y → L[i]? = some q → PgE w' y q) (hl : hs.length = L.length) (hx : PgE w' x p) (ht : Sl w' 1 a' n' c' (hs.map hv ++ [hv x])) : Pgs w' a' n' c' (hs ++ [x]) (L ++ [p]) := by
  refine ⟨by rw [List.map_append]; exact ht, by simp [hl], fun i y q h1 h2 => ?_⟩
  rw [List.getElem?_append] at h1 h2
  by_cases hi : i < hs.length
  · rw [if_pos hi] at h1
    rw [if_pos (by omega)] at h2
    exact h i y q h1 h2
  · rw [if_neg hi] at h1
    rw [if_neg (by omega)] at h2
    have e : i - hs.length = 0 := by have := (List.getElem?_eq_some_iff.1 h1).1; simp at this; omega
    rw [e] at h1
    rw [← hl, e] at h2
    cases h1
    cases h2
    exact hx
/-- the pairs that Touch has handed back -/
def TchF (Q : Nat) (T : List (Nat × Nat)) (vs : List Value) (w : World) : Prop := ∃ a c, vs = [.slice a Q c] ∧ Sl w 2 a Q c (T.flatMap pc2)
def ShfF (N XE : Nat) (X : Pgl) (vs : List Value) (w : World) : Prop := ∃ a c h, vs = [.tuple #[.slice a N c, .int .i64 (XE : Int)]] ∧ Pg w a N c h X
def PgF2 (N : Nat) (X : Pgl) (vs : List Value) (w : World) : Prop := ∃ a c h, vs = [.slice a N c] ∧ Pg w a N c h X
theorem flat_1000 {p : Pgl} (h : fits p = true) : p.flatten.length ≤ 1000000 := by
  obtain ⟨h1, h2⟩ := fits_rows h
  have h3 : ∀ q : Pgl, (∀ r ∈ q, r.length ≤ 40) → q.flatten.length ≤ q.length * 40 := by
    intro q
    induction q with
    | nil => intro _; simp
    | cons r q ih =>
      intro hq
      rw [List.flatten_cons, List.length_append, List.length_cons]
      have := hq r (by simp)
      have := ih fun s hs => hq s (by simp [hs])
      omega
  have := h3 p fun r hr => (h2 r hr).1
  omega
theorem shF_ok2 {front back : Pgl} (h : (shF front back).2 = 0) : ∃ x, (shF front back).1 = movP back x ∧ fits (shF front back).1 = true ∧ touchF front (shF front back).1 = [] ∧ fits back = true := by
  obtain ⟨x, h1, h2, h3⟩ := shF_ok h
  refine ⟨x, h1, by rw [h1]; exact h2, by rw [h1]; exact h3, ?_⟩
  unfold shF at h
  cases hb : fits back with
  | true => rfl
  | false => rw [hb, Bool.and_false] at h; cases h
set_option maxRecDepth 100000 in
set_option maxHeartbeats 16000000 in
theorem walk_PressTouches (l m : List Int) (a0 a1 a2 : Option Addr) (n0 c0 n1 c1 n2 c2 : Nat) (hsr : List Hd) (raw : Pgl) (w : World) (hs : Sl w 1 a0 n0 c0 (l.map I64)) (hl : ∀ x ∈ l, -9223372036854775808 ≤ x ∧ x ≤ 9223372036854775807)
    (hm : Sl w 1 a1 n1 c1 (m.map I64)) (hml : ∀ x ∈ m, -9223372036854775808 ≤ x ∧ x ≤ 9223372036854775807) (hr : Pg w a2 n2 c2 hsr raw) :
    Calls Try.prog 7 #[.slice a0 n0 c0, .slice a1 n1 c1, .slice a2 n2 c2] w fun e w' => e = .returned (.bool true) ∧ Below w.heap.size w w' := by
  have hw1 := hide (ref35_Wide l a0 n0 c0 w hs hl)
  have hw2 := hide (fun w' (hb : Below w.heap.size w w') => ref35_Wide m a1 n1 c1 w' (hm.below hb) hml)
  have hpages := hide (fun w' (hb : Below w.heap.size w w') => ref35_Pages l 2 a0 n0 c0 w' (hs.below hb) hl (by omega))
  obtain rfl := hr.n_eq
  have hrc := Nat.le_trans hr.top.le hr.top.cap
  unfold maxLen at hrc
  obtain ⟨NR, hNR⟩ : ∃ NR, Hid (raw.length = NR) := ⟨_, hide rfl⟩
  have HR := hide hr
  rw [hNR.out] at HR hrc ⊢
  clear hs hl hm hml hr
  go_enter Try.func7, Try.ntmps7
  go_wp2_with (go_at_call 26; refine hw1.out.mono ?_; rintro e w1 ⟨x0, y0, hp0, P0, rfl, O0, F0, hb1⟩; refine hold ?_)
  refine hide ?_
  obtain ⟨N0, hN0⟩ : ∃ N, Hid (P0.length = N) := ⟨_, hide rfl⟩
  have T0 := hide O0.tab
  rw [hN0.out] at T0 ⊢
  clear O0 hw1
  go_wp2_with (go_at_call 26; refine (hw2.out _ hb1).mono ?_; rintro e w2 ⟨x1, y1, hp1, P1, rfl, O1, F1, hb2⟩; refine hold ?_)
  refine hide ?_
  obtain ⟨N1, hN1⟩ : ∃ N, Hid (P1.length = N) := ⟨_, hide rfl⟩
  have T1 := hide O1.tab
  rw [hN1.out] at T1 ⊢
  have T0b := hide (T0.out.below hb2)
  have hb12 := hb1.trans (hb2.mono hb1.size)
  clear O1 hw2 T0 hb1 hb2
  go_wp2_with (refine build_nil _ ?_; intro w3 X3 hb3; refine hold ?_)
  refine hide ?_
  obtain ⟨gz, hgz⟩ : ∃ gz, w2.heap.size = gz := ⟨_, rfl⟩
  rw [hgz] at X3 ⊢
  have T0c := hide (T0b.out.below hb3)
  have T1c := hide (T1.out.below hb3)
  have X3 := hide X3
  have hb13 := hb12.trans (hb3.mono hb12.size)
  clear T0b T1 hb12 hb3 hgz
  go_wp2_with fail
  obtain ⟨g4, hg4⟩ : ∃ g4, Hid (w3.heap.size = g4) := ⟨_, hide rfl⟩
  have X4 := Box.new w3 28 #[.slice x0 N0 y0, .slice x1 N1 y1, .slice (some ⟨gz, 0, none⟩) 0 0, .slice none 0 0]
  have hb4 := sblo w3 (.cells #[.slice x0 N0 y0, .slice x1 N1 y1, .slice (some ⟨gz, 0, none⟩) 0 0, .slice none 0 0] 28)
  generalize w3.alloc (.cells _ 28) = w4 at X4 hb4 ⊢
  have hb14 := hb13.trans (hb4.mono hb13.size)
  have hb34 : Below g4 w3 w4 := by rw [← hg4.out]; exact hb4
  have hg0 : w.heap.size ≤ g4 := by rw [← hg4.out]; exact hb13.size
  rw [hg4.out] at X4 ⊢
  have T4 : Hid (Tbs w4 [(x0, N0, y0), (x1, N1, y1), (some ⟨gz, 0, none⟩, 0, 0), nilH] [P0, P1, [], []]) := hide
    (((((Tbs.nil w4).push (T0c.out.below hb4)).push (T1c.out.below hb4)).push ⟨[], own_of_box (X3.out.under hb4) rfl (Nat.zero_le _) (Nat.zero_le _), Rows.nil _⟩).push (Tab.nil w4))
  have X4 := hide X4
  have hF4 : Hid (∀ P ∈ [P0, P1, [], []], PF P) := hide (fun P hP => by
    simp at hP
    rcases hP with rfl | rfl | rfl
    · exact F0
    · exact F1
    · exact PF.nil)
  clear T0c T1c X3 hb4 F0 F1
  go_wp2_with (first
    | (go_at_call 8; refine (hpages.out _ hb14).mono ?_; rintro e w5 ⟨a5, c5, hs5, L5, rfl, hO5, hT5, hL5, hLF5, hb5⟩; refine hold ?_)
    | fail)
  refine hide ?_
  have X5 : Own w5 g4 28 1 (some ⟨g4, 0, none⟩) 4 4 ([(x0, N0, y0), (x1, N1, y1), (some ⟨gz, 0, none⟩, 0, 0), nilH].map hv) := own_of_box (X4.out.under hb5) rfl (by show 4 ≤ maxLen; decide) (Nat.le_refl _)
  have T5 := hide (T4.out.below hb5)
  have S5 := hO5.sl
  have HT5 := hide hT5
  have HLF5 := hide hLF5
  have hb35 : Below g4 w3 w5 := hb34.trans (hb5.mono (by have := X4.out.lt; omega))
  obtain ⟨K5, hK5⟩ : ∃ K5, Hid (L5.length = K5) := ⟨_, hide rfl⟩
  rw [hK5.out] at hL5 S5 ⊢
  have hz5 := hb35.size
  have hz5b : g4 ≤ w5.heap.size := by rw [← hg4.out]; exact hz5
  clear X4 T4 hO5 hT5 hLF5 hb5 hb14 hpages hb34
  go_upto_if 30 with (at_builtin; refine append_own rfl _ _ 23 rfl 28 (.slice none 0 0) 1 24 Try.underlying23 info_pg rfl w3 g4 (some ⟨g4, 0, none⟩) 4 4 _ rfl X5 a5 K5 c5 (hs5.map hv) rfl S5 (hv_one hs5) (by omega) (by unfold maxLen; omega) hz5b hb35 ?_; intro a6 c6 w6 hO6 hgr6 hb6)
  have T6 := hide (T5.out.kept X5 (by decide) (by decide) hgr6)
  have T6b := hide (HT5.out.kept X5 (by decide) (by decide) hgr6)
  have T6c := hide (T6.out.append T6b.out)
  have hlen6 : ([(x0, N0, y0), (x1, N1, y1), (some ⟨gz, 0, none⟩, 0, 0), nilH] ++ hs5).length = ([P0, P1, [], []] ++ L5).length := T6c.out.len
  have hO6b : Own w6 g4 28 1 a6 (4 + K5) c6 (([(x0, N0, y0), (x1, N1, y1), (some ⟨gz, 0, none⟩, 0, 0), nilH] ++ hs5).map hv) := by rw [List.map_append]; exact hO6
  generalize [(x0, N0, y0), (x1, N1, y1), (some (⟨gz, 0, none⟩ : Addr), 0, 0), nilH] ++ hs5 = H6 at T6c hlen6 hO6b
  generalize [P0, P1, [], []] ++ L5 = L6 at T6c hlen6
  have hb6w : Below w.heap.size w w6 := hb13.trans (hb6.mono hg0)
  have hbz6 : g4 ≤ w6.heap.size := by rw [← hg4.out]; exact hb6.size
  have HO6 := hide hO6b
  clear T5 HT5 HLF5 hF4 T6 T6b hO6 hgr6 X5 S5 hb35 hz5 hz5b hO6b
  go_cut [7] (fun v w' => ∃ (a : Option Addr) (c n : Nat) (hs : List Hd) (L : List Pgl), v = .slice a n c ∧ Pgs w' a n c hs L ∧ n ≤ 7 ∧ Below w.heap.size w w')
  case first =>
    by_cases hnr : NR < 40
    · have hOr := HO6.out
      go_wp2_with (at_builtin; refine append_lit rfl _ _ 23 rfl 28 (.slice none 0 0) 1 24 Try.underlying23 info_pg rfl w3 g4 a6 (4 + K5) c6 _ rfl hOr 1 [.slice a2 NR c2] rfl rfl (by simp [Value.oneCell']) (by omega) (by unfold maxLen; omega) hbz6 hb6 ?_; intro a9 c9 w9 ho9 hg9 hb9)
      have hE9 : ∀ (i : Nat) (y : Hd) (q : Pgl), H6[i]? = some y → L6[i]? = some q → PgE w9 y q := fun i y q h1 h2 => ((T6c.out.kept HO6.out (by decide) (by decide) hg9).get i y q h1 h2).pg
      have hb9w : Below w.heap.size w w9 := hb13.trans (hb9.mono hg0)
      go_meet
      exact ⟨a9, c9, 4 + K5 + 1, H6 ++ [(a2, NR, c2)], L6 ++ [raw], rfl, Pgs.push (w := w9) (n := 0) (c := 0) (a := none) hE9 hlen6 ⟨_, HR.out.below hb9w⟩ ho9.sl, by omega, hb9w⟩
    · go_wp2_with fail
      go_meet
      exact ⟨a6, c6, 4 + K5, H6, L6, rfl, ⟨HO6.out.sl, hlen6, fun i y q h1 h2 => (T6c.out.get i y q h1 h2).pg⟩, by omega, hb6w⟩
  case rest =>
    obtain ⟨a7, c7, n7, hsL, L, rfl, hP7, hn7, hb7⟩ := hcut
    obtain ⟨wL, rfl⟩ : ∃ wL : World, wL = wc := ⟨_, rfl⟩
    have HPG := hide hP7
    clear hP7 HO6 hlen6 T6c hb6w hbz6 hb6 hb13 HR
    go_wp2_with fail
    go_loopg [8, 9] n7 (fun g v _ w' => ∃ (i : Nat), i ≤ n7 ∧ g = n7 - i ∧ v = .int .i64 (i : Int) ∧ Below wL.heap.size wL w')
    case atStart => exact ⟨0, by omega, by omega, rfl, Below.refl _ _⟩
    case round =>
      obtain ⟨i, hi, hg, rfl, hb⟩ := hrel
      have HG := hide hg
      clear hg
      by_cases hin : i < n7
      · have hlen := HPG.out.n_eq
        obtain ⟨p, hp⟩ : ∃ p, L[i]? = some p := ⟨L[i]'(by omega), by simp⟩
        obtain ⟨ai, ni, ci, ri, hui, hpi⟩ := HPG.out.at_ hp
        have HUI := hide hui
        have HPI := hide hpi
        clear hlen hp hui hpi
        go_wp2_with fail
        go_loopg [9] n7 (fun g v w' => ∃ (k : Nat), k ≤ n7 ∧ g = n7 - k ∧ v = .int .i64 (k : Int) ∧ Below wL.heap.size wL w')
        case atStart => exact ⟨0, by omega, by omega, rfl, hb⟩
        case round =>
          clear hb
          obtain ⟨k, hk, hg, rfl, hb⟩ := hrel
          have HG2 := hide hg
          clear hg
          by_cases hkn : k < n7
          · have hlen := HPG.out.n_eq
            obtain ⟨q, hq⟩ : ∃ q, L[k]? = some q := ⟨L[k]'(by omega), by simp⟩
            obtain ⟨ak, nk, ck, rk, huk, hpk⟩ := HPG.out.at_ hq
            obtain ⟨b7, o7, rfl, hlt7, hc7⟩ := HPG.out.top.ex (by have := HPG.out.len; rw [List.length_map]; omega)
            have HC1 := hide (hc7 i _ HUI.out)
            have HC2 := hide (hc7 k _ huk)
            have HPK := hide hpk
            clear hlen hq huk hpk hc7 hlt7
            have hc1 := cell_below HC1.out hb
            have hc2 := cell_below HC2.out hb
            have HTP := hide (fun (w' : World) (hb' : Below wr.heap.size wr w') => pr_Touch p q ri rk ai ak ni nk ci ck w' (HPI.out.below (hb.trans (hb'.mono hb.size))) (HPK.out.below (hb.trans (hb'.mono hb.size))))
            have HTR := hide (fun (w' : World) (hb' : Below wr.heap.size wr w') => ref35_Touch p q ri rk ai ak ni nk ci ck w' (HPI.out.below (hb.trans (hb'.mono hb.size))) (HPK.out.below (hb.trans (hb'.mono hb.size))))
            obtain ⟨T, hT⟩ : ∃ T, Hid (touchF p q = T) := ⟨_, hide rfl⟩
            have hT2 : touchR p q = T := by rw [← touch_eq]; exact hT.out
            rw [hT.out] at HTP
            rw [hT2] at HTR
            obtain ⟨Q, hQ⟩ : ∃ Q, Hid (T.length = Q) := ⟨_, hide rfl⟩
            rw [hQ.out] at HTP HTR
            clear hT2
            go_wp2_with fail
            refine wp_region_free 19 [⟨0, 47, [47], fun vs _ => vs = [.slice (some ⟨b7, o7, none⟩) n7 c7]⟩, ⟨1, 48, [48], fun vs _ => vs = [.int .i64 (i : Int)]⟩, ⟨2, 49, [49], fun vs _ => vs = [.pointer (some ⟨b7, o7 + i, none⟩)]⟩, ⟨3, 50, [50], fun vs _ => vs = [.slice ai ni ci]⟩, ⟨4, 51, [51], fun vs _ => vs = [.slice (some ⟨b7, o7, none⟩) n7 c7]⟩, ⟨5, 52, [52], fun vs _ => vs = [.int .i64 (k : Int)]⟩, ⟨6, 53, [53], fun vs _ => vs = [.pointer (some ⟨b7, o7 + k, none⟩)]⟩, ⟨7, 54, [54], fun vs _ => vs = [.slice ak nk ck]⟩, ⟨8, 55, [55], TchF Q T⟩, ⟨9, 56, [56], fun vs _ => vs = [.slice (some ⟨b7, o7, none⟩) n7 c7]⟩, ⟨10, 57, [57], fun vs _ => vs = [.int .i64 (i : Int)]⟩, ⟨11, 58, [58], fun vs _ => vs = [.pointer (some ⟨b7, o7 + i, none⟩)]⟩, ⟨12, 59, [59], fun vs _ => vs = [.slice ai ni ci]⟩, ⟨13, 60, [60], fun vs _ => vs = [.slice (some ⟨b7, o7, none⟩) n7 c7]⟩, ⟨14, 61, [61], fun vs _ => vs = [.int .i64 (k : Int)]⟩, ⟨15, 62, [62], fun vs _ => vs = [.pointer (some ⟨b7, o7 + k, none⟩)]⟩, ⟨16, 63, [63], fun vs _ => vs = [.slice ak nk ck]⟩, ⟨17, 64, [64], TchF Q T⟩, ⟨18, 65, [65], fun vs _ => vs = [.bool true]⟩] (by kernel_rfl) (by kernel_rfl) ?_ ?_ ?_
            · simp only [All]
              refine ⟨fun _ _ _ _ h => h, fun _ _ _ _ h => h, fun _ _ _ _ h => h, fun _ _ _ _ h => h, fun _ _ _ _ h => h, fun _ _ _ _ h => h, fun _ _ _ _ h => h, fun _ _ _ _ h => h, ?_, fun _ _ _ _ h => h, fun _ _ _ _ h => h, fun _ _ _ _ h => h, fun _ _ _ _ h => h, fun _ _ _ _ h => h, fun _ _ _ _ h => h, fun _ _ _ _ h => h, fun _ _ _ _ h => h, ?_, fun _ _ _ _ h => h, trivial⟩
              · rintro vs w1 w2 hb ⟨a, c, h1, h2⟩
                exact ⟨a, c, h1, h2.below hb⟩
              · rintro vs w1 w2 hb ⟨a, c, h1, h2⟩
                exact ⟨a, c, h1, h2.below hb⟩
            · simp only [All]
              refine ⟨?_, ?_, ?_, ?_, ?_, ?_, ?_, ?_, ?_, ?_, ?_, ?_, ?_, ?_, ?_, ?_, ?_, ?_, ?_, trivial⟩
              · intro o ho a' w' hb hfr hdep
                obtain rfl := Option.some.inj ho
                have g7 : a'.tmps[7]?.getD undef = .slice (some ⟨b7, o7, none⟩) n7 c7 := by have h := hfr 7 (by kernel_rfl); simpa using h
                clear ho hfr hdep
                go_wp2_with fail
                exact ⟨rfl, _, rfl, Below.refl _ _, rfl⟩
              · intro o ho a' w' hb hfr hdep
                obtain rfl := Option.some.inj ho
                have g8 : a'.tmps[8]?.getD undef = .int .i64 (i : Int) := by have h := hfr 8 (by kernel_rfl); simpa using h
                clear ho hfr hdep
                go_wp2_with fail
                exact ⟨rfl, _, rfl, Below.refl _ _, rfl⟩
              · intro o ho a' w' hb hfr hdep
                obtain rfl := Option.some.inj ho
                have g47 : a'.tmps[47]?.getD undef = .slice (some ⟨b7, o7, none⟩) n7 c7 := by have h := hdep 0 _ rfl (by kernel_rfl); simpa using h
                have g48 : a'.tmps[48]?.getD undef = .int .i64 (i : Int) := by have h := hdep 1 _ rfl (by kernel_rfl); simpa using h
                clear ho hfr hdep
                go_wp2_with fail
                exact ⟨rfl, _, rfl, Below.refl _ _, rfl⟩
              · intro o ho a' w' hb hfr hdep
                obtain rfl := Option.some.inj ho
                have g49 : a'.tmps[49]?.getD undef = .pointer (some ⟨b7, o7 + i, none⟩) := by have h := hdep 2 _ rfl (by kernel_rfl); simpa using h
                clear ho hfr hdep
                have hcl := cell_below hc1 hb
                go_wp2_with fail
                exact ⟨rfl, _, rfl, Below.refl _ _, rfl⟩
              · intro o ho a' w' hb hfr hdep
                obtain rfl := Option.some.inj ho
                have g7 : a'.tmps[7]?.getD undef = .slice (some ⟨b7, o7, none⟩) n7 c7 := by have h := hfr 7 (by kernel_rfl); simpa using h
                clear ho hfr hdep
                go_wp2_with fail
                exact ⟨rfl, _, rfl, Below.refl _ _, rfl⟩
              · intro o ho a' w' hb hfr hdep
                obtain rfl := Option.some.inj ho
                have g9 : a'.tmps[9]?.getD undef = .int .i64 (k : Int) := by have h := hfr 9 (by kernel_rfl); simpa using h
                clear ho hfr hdep
                go_wp2_with fail
                exact ⟨rfl, _, rfl, Below.refl _ _, rfl⟩
              · intro o ho a' w' hb hfr hdep
                obtain rfl := Option.some.inj ho
                have g51 : a'.tmps[51]?.getD undef = .slice (some ⟨b7, o7, none⟩) n7 c7 := by have h := hdep 4 _ rfl (by kernel_rfl); simpa using h
                have g52 : a'.tmps[52]?.getD undef = .int .i64 (k : Int) := by have h := hdep 5 _ rfl (by kernel_rfl); simpa using h
                clear ho hfr hdep
                go_wp2_with fail
                exact ⟨rfl, _, rfl, Below.refl _ _, rfl⟩
              · intro o ho a' w' hb hfr hdep
                obtain rfl := Option.some.inj ho
                have g53 : a'.tmps[53]?.getD undef = .pointer (some ⟨b7, o7 + k, none⟩) := by have h := hdep 6 _ rfl (by kernel_rfl); simpa using h
                clear ho hfr hdep
                have hcl := cell_below hc2 hb
                go_wp2_with fail
                exact ⟨rfl, _, rfl, Below.refl _ _, rfl⟩
              · intro o ho a' w' hb hfr hdep
                obtain rfl := Option.some.inj ho
                have g50 : a'.tmps[50]?.getD undef = .slice ai ni ci := by have h := hdep 3 _ rfl (by kernel_rfl); simpa using h
                have g54 : a'.tmps[54]?.getD undef = .slice ak nk ck := by have h := hdep 7 _ rfl (by kernel_rfl); simpa using h
                clear ho hfr hdep
                go_wp2_with (go_at_call 28; refine (HTP.out _ hb).mono ?_; rintro e w2 ⟨a, c, rfl, ho, h2⟩)
                exact ⟨rfl, _, rfl, h2, a, c, rfl, ho.sl⟩
              · intro o ho a' w' hb hfr hdep
                obtain rfl := Option.some.inj ho
                have g7 : a'.tmps[7]?.getD undef = .slice (some ⟨b7, o7, none⟩) n7 c7 := by have h := hfr 7 (by kernel_rfl); simpa using h
                clear ho hfr hdep
                go_wp2_with fail
                exact ⟨rfl, _, rfl, Below.refl _ _, rfl⟩
              · intro o ho a' w' hb hfr hdep
                obtain rfl := Option.some.inj ho
                have g8 : a'.tmps[8]?.getD undef = .int .i64 (i : Int) := by have h := hfr 8 (by kernel_rfl); simpa using h
                clear ho hfr hdep
                go_wp2_with fail
                exact ⟨rfl, _, rfl, Below.refl _ _, rfl⟩
              · intro o ho a' w' hb hfr hdep
                obtain rfl := Option.some.inj ho
                have g56 : a'.tmps[56]?.getD undef = .slice (some ⟨b7, o7, none⟩) n7 c7 := by have h := hdep 9 _ rfl (by kernel_rfl); simpa using h
                have g57 : a'.tmps[57]?.getD undef = .int .i64 (i : Int) := by have h := hdep 10 _ rfl (by kernel_rfl); simpa using h
                clear ho hfr hdep
                go_wp2_with fail
                exact ⟨rfl, _, rfl, Below.refl _ _, rfl⟩
              · intro o ho a' w' hb hfr hdep
                obtain rfl := Option.some.inj ho
                have g58 : a'.tmps[58]?.getD undef = .pointer (some ⟨b7, o7 + i, none⟩) := by have h := hdep 11 _ rfl (by kernel_rfl); simpa using h
                clear ho hfr hdep
                have hcl := cell_below hc1 hb
                go_wp2_with fail
                exact ⟨rfl, _, rfl, Below.refl _ _, rfl⟩
              · intro o ho a' w' hb hfr hdep
                obtain rfl := Option.some.inj ho
                have g7 : a'.tmps[7]?.getD undef = .slice (some ⟨b7, o7, none⟩) n7 c7 := by have h := hfr 7 (by kernel_rfl); simpa using h
                clear ho hfr hdep
                go_wp2_with fail
                exact ⟨rfl, _, rfl, Below.refl _ _, rfl⟩
              · intro o ho a' w' hb hfr hdep
                obtain rfl := Option.some.inj ho
                have g9 : a'.tmps[9]?.getD undef = .int .i64 (k : Int) := by have h := hfr 9 (by kernel_rfl); simpa using h
                clear ho hfr hdep
                go_wp2_with fail
                exact ⟨rfl, _, rfl, Below.refl _ _, rfl⟩
              · intro o ho a' w' hb hfr hdep
                obtain rfl := Option.some.inj ho
                have g60 : a'.tmps[60]?.getD undef = .slice (some ⟨b7, o7, none⟩) n7 c7 := by have h := hdep 13 _ rfl (by kernel_rfl); simpa using h
                have g61 : a'.tmps[61]?.getD undef = .int .i64 (k : Int) := by have h := hdep 14 _ rfl (by kernel_rfl); simpa using h
                clear ho hfr hdep
                go_wp2_with fail
                exact ⟨rfl, _, rfl, Below.refl _ _, rfl⟩
              · intro o ho a' w' hb hfr hdep
                obtain rfl := Option.some.inj ho
                have g62 : a'.tmps[62]?.getD undef = .pointer (some ⟨b7, o7 + k, none⟩) := by have h := hdep 15 _ rfl (by kernel_rfl); simpa using h
                clear ho hfr hdep
                have hcl := cell_below hc2 hb
                go_wp2_with fail
                exact ⟨rfl, _, rfl, Below.refl _ _, rfl⟩
              · intro o ho a' w' hb hfr hdep
                obtain rfl := Option.some.inj ho
                have g59 : a'.tmps[59]?.getD undef = .slice ai ni ci := by have h := hdep 12 _ rfl (by kernel_rfl); simpa using h
                have g63 : a'.tmps[63]?.getD undef = .slice ak nk ck := by have h := hdep 16 _ rfl (by kernel_rfl); simpa using h
                clear ho hfr hdep
                go_wp2_with (go_at_call 29; refine (HTR.out _ hb).mono ?_; rintro e w2 ⟨a, c, rfl, ho, h2⟩)
                exact ⟨rfl, _, rfl, h2, a, c, rfl, ho.sl⟩
              · intro o ho a' w' hb hfr hdep
                obtain rfl := Option.some.inj ho
                obtain ⟨qa55, qc55, g55, s55⟩ := hdep 8 _ rfl (by kernel_rfl)
                simp at g55
                obtain ⟨qa64, qc64, g64, s64⟩ := hdep 17 _ rfl (by kernel_rfl)
                simp at g64
                clear ho hfr hdep
                have hsp := ref35_SamePairs T _ _ _ _ _ _ _ s55 s64
                go_wp2_with (go_at_call 27; refine hsp.mono ?_; rintro e w2 ⟨rfl, nn, rfl⟩)
                exact ⟨rfl, _, rfl, Still.below _, rfl⟩
            · intro gg wA hblA hp'
              have p65 := hp' 18 _ rfl
              clear hp'
              simp at p65
              simp only [List.drop_succ_cons, List.drop_zero, List.map_cons, List.map_nil, putAll, Act.put, List.setIfInBounds_toArray, List.set_cons_succ, List.set_cons_zero, List.cons_append, List.nil_append, p65]
              clear p65 hc1 hc2 HTR
              have hbA := hb.trans (hblA.mono hb.size)
              have hc1 := cell_below HC1.out hbA
              have hc2 := cell_below HC2.out hbA
              have HSP := hide (fun (w' : World) (hb' : Below wA.heap.size wA w') => pr_Shift p q ri rk ai ak ni nk ci ck w' (HPI.out.below (hbA.trans (hb'.mono hbA.size))) (HPK.out.below (hbA.trans (hb'.mono hbA.size))))
              obtain ⟨X, hX⟩ : ∃ X, Hid ((shF p q).1 = X) := ⟨_, hide rfl⟩
              obtain ⟨XE, hXE⟩ : ∃ XE, Hid ((shF p q).2 = XE) := ⟨_, hide rfl⟩
              obtain ⟨N, hN⟩ : ∃ N, Hid (X.length = N) := ⟨_, hide rfl⟩
              rw [hXE.out, hX.out] at HSP
              clear hblA
              go_wp2_with fail
              refine wp_region_free 13 [⟨0, 68, [68], fun vs _ => vs = [.slice (some ⟨b7, o7, none⟩) n7 c7]⟩, ⟨1, 69, [69], fun vs _ => vs = [.int .i64 (i : Int)]⟩, ⟨2, 70, [70], fun vs _ => vs = [.pointer (some ⟨b7, o7 + i, none⟩)]⟩, ⟨3, 71, [71], fun vs _ => vs = [.slice ai ni ci]⟩, ⟨4, 72, [72], fun vs _ => vs = [.slice (some ⟨b7, o7, none⟩) n7 c7]⟩, ⟨5, 73, [73], fun vs _ => vs = [.int .i64 (k : Int)]⟩, ⟨6, 74, [74], fun vs _ => vs = [.pointer (some ⟨b7, o7 + k, none⟩)]⟩, ⟨7, 75, [75], fun vs _ => vs = [.slice ak nk ck]⟩, ⟨8, 76, [76], ShfF N XE X⟩, ⟨9, 67, [67], ShfF N XE X⟩, ⟨10, 77, [77], PgF2 N X⟩, ⟨11, 78, [78], fun vs _ => vs = [.int .i64 (XE : Int)]⟩, ⟨12, 10, [10], PgF2 N X⟩] (by kernel_rfl) (by kernel_rfl) ?_ ?_ ?_
              · simp only [All]
                refine ⟨fun _ _ _ _ h => h, fun _ _ _ _ h => h, fun _ _ _ _ h => h, fun _ _ _ _ h => h, fun _ _ _ _ h => h, fun _ _ _ _ h => h, fun _ _ _ _ h => h, fun _ _ _ _ h => h, ?_, ?_, ?_, fun _ _ _ _ h => h, ?_, trivial⟩
                · rintro vs w1 w2 hb ⟨a, c, h, h1, h2⟩
                  exact ⟨a, c, h, h1, h2.below hb⟩
                · rintro vs w1 w2 hb ⟨a, c, h, h1, h2⟩
                  exact ⟨a, c, h, h1, h2.below hb⟩
                · rintro vs w1 w2 hb ⟨a, c, h, h1, h2⟩
                  exact ⟨a, c, h, h1, h2.below hb⟩
                · rintro vs w1 w2 hb ⟨a, c, h, h1, h2⟩
                  exact ⟨a, c, h, h1, h2.below hb⟩
              · simp only [All]
                refine ⟨?_, ?_, ?_, ?_, ?_, ?_, ?_, ?_, ?_, ?_, ?_, ?_, ?_, trivial⟩
                · intro o ho a' w' hb hfr hdep
                  obtain rfl := Option.some.inj ho
                  have g7 : a'.tmps[7]?.getD undef = .slice (some ⟨b7, o7, none⟩) n7 c7 := by have h := hfr 7 (by kernel_rfl); simpa using h
                  clear ho hfr hdep
                  go_wp2_with fail
                  exact ⟨rfl, _, rfl, Below.refl _ _, rfl⟩
                · intro o ho a' w' hb hfr hdep
                  obtain rfl := Option.some.inj ho
                  have g8 : a'.tmps[8]?.getD undef = .int .i64 (i : Int) := by have h := hfr 8 (by kernel_rfl); simpa using h
                  clear ho hfr hdep
                  go_wp2_with fail
                  exact ⟨rfl, _, rfl, Below.refl _ _, rfl⟩
                · intro o ho a' w' hb hfr hdep
                  obtain rfl := Option.some.inj ho
                  have g68 : a'.tmps[68]?.getD undef = .slice (some ⟨b7, o7, none⟩) n7 c7 := by have h := hdep 0 _ rfl (by kernel_rfl); simpa using h
                  have g69 : a'.tmps[69]?.getD undef = .int .i64 (i : Int) := by have h := hdep 1 _ rfl (by kernel_rfl); simpa using h
                  clear ho hfr hdep
                  go_wp2_with fail
                  exact ⟨rfl, _, rfl, Below.refl _ _, rfl⟩
                · intro o ho a' w' hb hfr hdep
                  obtain rfl := Option.some.inj ho
                  have g70 : a'.tmps[70]?.getD undef = .pointer (some ⟨b7, o7 + i, none⟩) := by have h := hdep 2 _ rfl (by kernel_rfl); simpa using h
                  clear ho hfr hdep
                  have hcl := cell_below hc1 hb
                  go_wp2_with fail
                  exact ⟨rfl, _, rfl, Below.refl _ _, rfl⟩
                · intro o ho a' w' hb hfr hdep
                  obtain rfl := Option.some.inj ho
                  have g7 : a'.tmps[7]?.getD undef = .slice (some ⟨b7, o7, none⟩) n7 c7 := by have h := hfr 7 (by kernel_rfl); simpa using h
                  clear ho hfr hdep
                  go_wp2_with fail
                  exact ⟨rfl, _, rfl, Below.refl _ _, rfl⟩
                · intro o ho a' w' hb hfr hdep
                  obtain rfl := Option.some.inj ho
                  have g9 : a'.tmps[9]?.getD undef = .int .i64 (k : Int) := by have h := hfr 9 (by kernel_rfl); simpa using h
                  clear ho hfr hdep
                  go_wp2_with fail
                  exact ⟨rfl, _, rfl, Below.refl _ _, rfl⟩
                · intro o ho a' w' hb hfr hdep
                  obtain rfl := Option.some.inj ho
                  have g72 : a'.tmps[72]?.getD undef = .slice (some ⟨b7, o7, none⟩) n7 c7 := by have h := hdep 4 _ rfl (by kernel_rfl); simpa using h
                  have g73 : a'.tmps[73]?.getD undef = .int .i64 (k : Int) := by have h := hdep 5 _ rfl (by kernel_rfl); simpa using h
                  clear ho hfr hdep
                  go_wp2_with fail
                  exact ⟨rfl, _, rfl, Below.refl _ _, rfl⟩
                · intro o ho a' w' hb hfr hdep
                  obtain rfl := Option.some.inj ho
                  have g74 : a'.tmps[74]?.getD undef = .pointer (some ⟨b7, o7 + k, none⟩) := by have h := hdep 6 _ rfl (by kernel_rfl); simpa using h
                  clear ho hfr hdep
                  have hcl := cell_below hc2 hb
                  go_wp2_with fail
                  exact ⟨rfl, _, rfl, Below.refl _ _, rfl⟩
                · intro o ho a' w' hb hfr hdep
                  obtain rfl := Option.some.inj ho
                  have g71 : a'.tmps[71]?.getD undef = .slice ai ni ci := by have h := hdep 3 _ rfl (by kernel_rfl); simpa using h
                  have g75 : a'.tmps[75]?.getD undef = .slice ak nk ck := by have h := hdep 7 _ rfl (by kernel_rfl); simpa using h
                  clear ho hfr hdep
                  go_wp2_with (go_at_call 30; refine (HSP.out _ hb).mono ?_; rintro e w2 ⟨a, c, h, rfl, hg, h2⟩)
                  exact ⟨rfl, _, rfl, h2, a, c, h, by rw [hN.out]; rfl, by rw [hN.out] at hg; exact hg⟩
                · intro o ho a' w' hb hfr hdep
                  obtain rfl := Option.some.inj ho
                  obtain ⟨qa76, qc76, qh76, g76, s76⟩ := hdep 8 _ rfl (by kernel_rfl)
                  simp at g76
                  clear ho hfr hdep
                  go_wp2_with fail
                  exact ⟨rfl, _, rfl, Below.refl _ _, qa76, qc76, qh76, rfl, s76⟩
                · intro o ho a' w' hb hfr hdep
                  obtain rfl := Option.some.inj ho
                  obtain ⟨qa67, qc67, qh67, g67, s67⟩ := hdep 9 _ rfl (by kernel_rfl)
                  simp at g67
                  clear ho hfr hdep
                  go_wp2_with fail
                  exact ⟨rfl, _, rfl, Below.refl _ _, qa67, qc67, qh67, rfl, s67⟩
                · intro o ho a' w' hb hfr hdep
                  obtain rfl := Option.some.inj ho
                  obtain ⟨qa67, qc67, qh67, g67, s67⟩ := hdep 9 _ rfl (by kernel_rfl)
                  simp at g67
                  clear ho hfr hdep
                  go_wp2_with fail
                  exact ⟨rfl, _, rfl, Below.refl _ _, rfl⟩
                · intro o ho a' w' hb hfr hdep
                  obtain rfl := Option.some.inj ho
                  obtain ⟨qa77, qc77, qh77, g77, s77⟩ := hdep 10 _ rfl (by kernel_rfl)
                  simp at g77
                  clear ho hfr hdep
                  go_wp2_with fail
                  exact ⟨rfl, _, rfl, Below.refl _ _, qa77, qc77, qh77, rfl, s77⟩
              · intro gg wB hblB hp'
                have p78 := hp' 11 _ rfl
                obtain ⟨aA, cA, hA, p10, gA⟩ := hp' 12 _ rfl
                clear hp'
                simp at p78 p10
                simp only [List.drop_succ_cons, List.drop_zero, List.map_cons, List.map_nil, putAll, Act.put, List.setIfInBounds_toArray, List.set_cons_succ, List.set_cons_zero, List.cons_append, List.nil_append, p78, p10]
                clear p78 p10 hc1 hc2
                have hbB := hbA.trans (hblB.mono hbA.size)
                have hc1 := cell_below HC1.out hbB
                have hc2 := cell_below HC2.out hbB
                have HSR := hide (fun (w' : World) (hb' : Below wB.heap.size wB w') => ref35_Shift p q ri rk ai ak ni nk ci ck w' (HPI.out.below (hbB.trans (hb'.mono hbB.size))) (HPK.out.below (hbB.trans (hb'.mono hbB.size))))
                rw [hXE.out, hX.out] at HSR
                clear hblB hbA HSP
                go_wp2_with fail
                refine wp_region_free 13 [⟨0, 80, [80], fun vs _ => vs = [.slice (some ⟨b7, o7, none⟩) n7 c7]⟩, ⟨1, 81, [81], fun vs _ => vs = [.int .i64 (i : Int)]⟩, ⟨2, 82, [82], fun vs _ => vs = [.pointer (some ⟨b7, o7 + i, none⟩)]⟩, ⟨3, 83, [83], fun vs _ => vs = [.slice ai ni ci]⟩, ⟨4, 84, [84], fun vs _ => vs = [.slice (some ⟨b7, o7, none⟩) n7 c7]⟩, ⟨5, 85, [85], fun vs _ => vs = [.int .i64 (k : Int)]⟩, ⟨6, 86, [86], fun vs _ => vs = [.pointer (some ⟨b7, o7 + k, none⟩)]⟩, ⟨7, 87, [87], fun vs _ => vs = [.slice ak nk ck]⟩, ⟨8, 88, [88], ShfF N XE X⟩, ⟨9, 79, [79], ShfF N XE X⟩, ⟨10, 89, [89], PgF2 N X⟩, ⟨11, 90, [90], fun vs _ => vs = [.int .i64 (XE : Int)]⟩, ⟨12, 12, [12], PgF2 N X⟩] (by kernel_rfl) (by kernel_rfl) ?_ ?_ ?_
                · simp only [All]
                  refine ⟨fun _ _ _ _ h => h, fun _ _ _ _ h => h, fun _ _ _ _ h => h, fun _ _ _ _ h => h, fun _ _ _ _ h => h, fun _ _ _ _ h => h, fun _ _ _ _ h => h, fun _ _ _ _ h => h, ?_, ?_, ?_, fun _ _ _ _ h => h, ?_, trivial⟩
                  · rintro vs w1 w2 hb ⟨a, c, h, h1, h2⟩
                    exact ⟨a, c, h, h1, h2.below hb⟩
                  · rintro vs w1 w2 hb ⟨a, c, h, h1, h2⟩
                    exact ⟨a, c, h, h1, h2.below hb⟩
                  · rintro vs w1 w2 hb ⟨a, c, h, h1, h2⟩
                    exact ⟨a, c, h, h1, h2.below hb⟩
                  · rintro vs w1 w2 hb ⟨a, c, h, h1, h2⟩
                    exact ⟨a, c, h, h1, h2.below hb⟩
                · simp only [All]
                  refine ⟨?_, ?_, ?_, ?_, ?_, ?_, ?_, ?_, ?_, ?_, ?_, ?_, ?_, trivial⟩
                  · intro o ho a' w' hb hfr hdep
                    obtain rfl := Option.some.inj ho
                    have g7 : a'.tmps[7]?.getD undef = .slice (some ⟨b7, o7, none⟩) n7 c7 := by have h := hfr 7 (by kernel_rfl); simpa using h
                    clear ho hfr hdep
                    go_wp2_with fail
                    exact ⟨rfl, _, rfl, Below.refl _ _, rfl⟩
                  · intro o ho a' w' hb hfr hdep
                    obtain rfl := Option.some.inj ho
                    have g8 : a'.tmps[8]?.getD undef = .int .i64 (i : Int) := by have h := hfr 8 (by kernel_rfl); simpa using h
                    clear ho hfr hdep
                    go_wp2_with fail
                    exact ⟨rfl, _, rfl, Below.refl _ _, rfl⟩
                  · intro o ho a' w' hb hfr hdep
                    obtain rfl := Option.some.inj ho
                    have g80 : a'.tmps[80]?.getD undef = .slice (some ⟨b7, o7, none⟩) n7 c7 := by have h := hdep 0 _ rfl (by kernel_rfl); simpa using h
                    have g81 : a'.tmps[81]?.getD undef = .int .i64 (i : Int) := by have h := hdep 1 _ rfl (by kernel_rfl); simpa using h
                    clear ho hfr hdep
                    go_wp2_with fail
                    exact ⟨rfl, _, rfl, Below.refl _ _, rfl⟩
                  · intro o ho a' w' hb hfr hdep
                    obtain rfl := Option.some.inj ho
                    have g82 : a'.tmps[82]?.getD undef = .pointer (some ⟨b7, o7 + i, none⟩) := by have h := hdep 2 _ rfl (by kernel_rfl); simpa using h
                    clear ho hfr hdep
                    have hcl := cell_below hc1 hb
                    go_wp2_with fail
                    exact ⟨rfl, _, rfl, Below.refl _ _, rfl⟩
                  · intro o ho a' w' hb hfr hdep
                    obtain rfl := Option.some.inj ho
                    have g7 : a'.tmps[7]?.getD undef = .slice (some ⟨b7, o7, none⟩) n7 c7 := by have h := hfr 7 (by kernel_rfl); simpa using h
                    clear ho hfr hdep
                    go_wp2_with fail
                    exact ⟨rfl, _, rfl, Below.refl _ _, rfl⟩
                  · intro o ho a' w' hb hfr hdep
                    obtain rfl := Option.some.inj ho
                    have g9 : a'.tmps[9]?.getD undef = .int .i64 (k : Int) := by have h := hfr 9 (by kernel_rfl); simpa using h
                    clear ho hfr hdep
                    go_wp2_with fail
                    exact ⟨rfl, _, rfl, Below.refl _ _, rfl⟩
                  · intro o ho a' w' hb hfr hdep
                    obtain rfl := Option.some.inj ho
                    have g84 : a'.tmps[84]?.getD undef = .slice (some ⟨b7, o7, none⟩) n7 c7 := by have h := hdep 4 _ rfl (by kernel_rfl); simpa using h
                    have g85 : a'.tmps[85]?.getD undef = .int .i64 (k : Int) := by have h := hdep 5 _ rfl (by kernel_rfl); simpa using h
                    clear ho hfr hdep
                    go_wp2_with fail
                    exact ⟨rfl, _, rfl, Below.refl _ _, rfl⟩
                  · intro o ho a' w' hb hfr hdep
                    obtain rfl := Option.some.inj ho
                    have g86 : a'.tmps[86]?.getD undef = .pointer (some ⟨b7, o7 + k, none⟩) := by have h := hdep 6 _ rfl (by kernel_rfl); simpa using h
                    clear ho hfr hdep
                    have hcl := cell_below hc2 hb
                    go_wp2_with fail
                    exact ⟨rfl, _, rfl, Below.refl _ _, rfl⟩
                  · intro o ho a' w' hb hfr hdep
                    obtain rfl := Option.some.inj ho
                    have g83 : a'.tmps[83]?.getD undef = .slice ai ni ci := by have h := hdep 3 _ rfl (by kernel_rfl); simpa using h
                    have g87 : a'.tmps[87]?.getD undef = .slice ak nk ck := by have h := hdep 7 _ rfl (by kernel_rfl); simpa using h
                    clear ho hfr hdep
                    go_wp2_with (go_at_call 31; refine (HSR.out _ hb).mono ?_; rintro e w2 ⟨a, c, h, rfl, hg, h2⟩)
                    exact ⟨rfl, _, rfl, h2, a, c, h, by rw [hN.out]; rfl, by rw [hN.out] at hg; exact hg⟩
                  · intro o ho a' w' hb hfr hdep
                    obtain rfl := Option.some.inj ho
                    obtain ⟨qa88, qc88, qh88, g88, s88⟩ := hdep 8 _ rfl (by kernel_rfl)
                    simp at g88
                    clear ho hfr hdep
                    go_wp2_with fail
                    exact ⟨rfl, _, rfl, Below.refl _ _, qa88, qc88, qh88, rfl, s88⟩
                  · intro o ho a' w' hb hfr hdep
                    obtain rfl := Option.some.inj ho
                    obtain ⟨qa79, qc79, qh79, g79, s79⟩ := hdep 9 _ rfl (by kernel_rfl)
                    simp at g79
                    clear ho hfr hdep
                    go_wp2_with fail
                    exact ⟨rfl, _, rfl, Below.refl _ _, qa79, qc79, qh79, rfl, s79⟩
                  · intro o ho a' w' hb hfr hdep
                    obtain rfl := Option.some.inj ho
                    obtain ⟨qa79, qc79, qh79, g79, s79⟩ := hdep 9 _ rfl (by kernel_rfl)
                    simp at g79
                    clear ho hfr hdep
                    go_wp2_with fail
                    exact ⟨rfl, _, rfl, Below.refl _ _, rfl⟩
                  · intro o ho a' w' hb hfr hdep
                    obtain rfl := Option.some.inj ho
                    obtain ⟨qa89, qc89, qh89, g89, s89⟩ := hdep 10 _ rfl (by kernel_rfl)
                    simp at g89
                    clear ho hfr hdep
                    go_wp2_with fail
                    exact ⟨rfl, _, rfl, Below.refl _ _, qa89, qc89, qh89, rfl, s89⟩
                · intro gg wC hblC hp'
                  have p90 := hp' 11 _ rfl
                  obtain ⟨aB, cB, hB, p12, gB⟩ := hp' 12 _ rfl
                  clear hp'
                  simp at p90 p12
                  simp only [List.drop_succ_cons, List.drop_zero, List.map_cons, List.map_nil, putAll, Act.put, List.setIfInBounds_toArray, List.set_cons_succ, List.set_cons_zero, List.cons_append, List.nil_append, p90, p12]
                  clear p90 p12
                  have hbC := hbB.trans (hblC.mono hbB.size)
                  have hc1 := cell_below HC1.out hbC
                  have hc2 := cell_below HC2.out hbC
                  have gA2 := gA.below hblC
                  clear hblC hbB gA HSR
                  have heq : Calls Try.prog 32 #[.slice aA N cA, .slice aB N cB] wC fun e w' => e = .returned (.bool true) ∧ Below wC.heap.size wC w' := (ref_Equal X X _ _ _ _ _ _ _ _ wC gA2 gB).mono (fun e w' h => by
                    obtain ⟨h1, nn, h2⟩ := h
                    rw [h1, h2, decide_eq_true rfl]
                    exact ⟨rfl, Still.below _⟩)
                  clear gB hc1 hc2
                  by_cases hx0 : XE = 0
                  · subst hx0
                    obtain ⟨x, hx1, hx2, hx3, hx4⟩ := shF_ok2 hXE.out
                    rw [hX.out] at hx1 hx2 hx3
                    have hcn := hide (mov_cN q x)
                    rw [← hx1] at hcn
                    obtain ⟨Z1, hZ1⟩ : ∃ Z, Hid (cN q.flatten = Z) := ⟨_, hide rfl⟩
                    obtain ⟨Z2, hZ2⟩ : ∃ Z, Hid (cM q.flatten = Z) := ⟨_, hide rfl⟩
                    have hle1 := flat_1000 hx2
                    have hle2 := flat_1000 hx4
                    have hZ3 : cN X.flatten = Z1 := hcn.out.1.trans hZ1.out
                    have hZ4 : cM X.flatten = Z2 := hcn.out.2.trans hZ2.out
                    clear hcn hx1
                    go_wp2_with (go_at_call 32; refine heq.mono ?_; rintro e wD ⟨rfl, hblD⟩; refine hold ?_)
                    refine hide ?_
                    have hbD := hbC.trans (hblD.mono hbC.size)
                    have gA3 := hide (gA2.below hblD)
                    have hct1 := cell_Count X _ _ _ _ wD gA3.out hle1
                    rw [hZ3, hZ4] at hct1
                    clear heq gA2 hblD hbC
                    go_wp2_with (go_at_call 33; refine hct1.mono ?_; rintro e wE ⟨rfl, hblE⟩; refine hold ?_)
                    refine hide ?_
                    have hbE := hbD.trans (hblE.mono hbD.size)
                    have gA4 := hide (gA3.out.below hblE)
                    have hct2 := cell_Count q _ _ _ _ wE (HPK.out.below hbE) hle2
                    rw [hZ1.out, hZ2.out] at hct2
                    have hc2 := cell_below HC2.out hbE
                    clear hct1 gA3 hbD hblE
                    go_wp2_with (go_at_call 33; refine hct2.mono ?_; rintro e wF ⟨rfl, hblF⟩; refine hold ?_)
                    refine hide ?_
                    have hbF := hbE.trans (hblF.mono hbE.size)
                    have gA5 := hide (gA4.out.below hblF)
                    have hft := pr_Touch p X _ _ _ _ _ _ _ _ wF (HPI.out.below hbF) gA5.out
                    rw [hx3] at hft
                    have hc1 := cell_below HC1.out hbF
                    clear hct2 gA4 hbE hblF hc2
                    go_wp2_with (go_at_call 28; refine hft.mono ?_; rintro e wG ⟨qa, qc, rfl, hoG, hblG⟩; refine hold ?_)
                    refine hide ?_
                    have hbG := hbF.trans (hblG.mono hbF.size)
                    have hfi := cell_Fits X _ _ _ _ wG (gA5.out.below hblG)
                    rw [hx2] at hfi
                    clear hft hoG hblG hbF hc1 gA5
                    go_wp2_with (go_at_call 34; refine hfi.mono ?_; rintro e w4 ⟨rfl, rfl⟩)
                    go_roundg (n7 - (k + 1))
                    case measure => have := HG2.out; omega
                    case rel => exact ⟨k + 1, by omega, rfl, by go_num, hbG⟩
                  · have dne : ((XE : Int) != 0) = true := by simp; omega
                    clear hx0
                    go_wp2_with (go_at_call 32; refine heq.mono ?_; rintro e wD ⟨rfl, hblD⟩; refine hold ?_)
                    refine hide ?_
                    have hbD := hbC.trans (hblD.mono hbC.size)
                    clear heq hblD gA2 hbC
                    go_wp2_with fail
                    go_roundg (n7 - (k + 1))
                    case measure => have := HG2.out; omega
                    case rel => exact ⟨k + 1, by omega, rfl, by go_num, hbD⟩
          · obtain rfl : k = n7 := by omega
            go_wp2
            go_roundg (k - (i + 1))
            case measure => have := HG.out; omega
            case rel => exact ⟨i + 1, by omega, rfl, by go_num, hb⟩
      · obtain rfl : i = n7 := by omega
        have hlv := law35_lives wr
        go_wp2_with (go_at_call 14; refine hlv.mono ?_; rintro e w9 ⟨rfl, hb9⟩)
        go_ret
        have hbw := hb7.trans (hb.mono hb7.size)
        exact ⟨rfl, hbw.trans (hb9.mono hbw.size)⟩
end Go.Proofs.Ytdeknimelkdaeaa
end
