/- The contracts of the functions that the law reaches, joined into one text. -/
import Derived.Test.YthfljnlankmoiaaBaseC22C
import Derived.OpenShut
import Derived.Deep.Slices
import Derived.Deep.Strs
import Derived.SizedLaws

/- the text Row2 -/
section
/- How the arguments of a law read: slices of integers, of strings, of arrays of integers, with the form's own reach. No program. -/
namespace Go.Dx
open Go.RowKit Go.WideShapes Go.ChangeShapes Go.Deep

/-- no part is longer than the form lets it be -/
def Sized {H : Type} (P : Program) (t : TypeId) (d : DataW H) : Prop := ∀ n ∈ d.weights P t, n ≤ reachBytes
section
variable {H : Type} {enc : TypeId × Value → H} {P : Program} {w : World}
theorem sized_at {ts : List TypeId} {ds : List (DataW H)} (hwt : (DataW.weightsEach P ts ds).all (· ≤ reachBytes) = true) (j : Nat) {t : TypeId} {d : DataW H} (ht : ts[j]? = some t) (hd : ds[j]? = some d) : Sized P t d :=
  fun n hn => by simpa using List.all_eq_true.1 hwt _ (DataW.weights_mem_each ht hd n hn)
theorem sized_all {e : TypeId} : ∀ {l : List (DataW H)} {d : DataW H}, d ∈ l → ∀ n ∈ d.weights P e, n ∈ DataW.weightsAll P e l
  | x :: l, d, hd, n, hn => by
    simp only [DataW.weightsAll, List.mem_append]
    rcases List.mem_cons.1 hd with rfl | h
    · exact .inl hn
    · exact .inr (sized_all h n hn)
theorem Sized.slice {t e : TypeId} {elems spare : List (DataW H)} (h : Sized P t (.slice elems spare)) (hu : P.underlying t = some (.slice e)) :
    (elems.length + spare.length) * P.bytesOf e ≤ reachBytes ∧ (∀ d ∈ elems, Sized P e d) :=
  ⟨h _ (by simp [DataW.weights, hu]), fun d hd n hn => h n (by simp only [DataW.weights, hu, List.mem_cons, List.mem_append]; exact .inr (.inl (sized_all hd n hn)))⟩
theorem Sized.string {t : TypeId} {b : List UInt8} (h : Sized P t (DataW.lit (H := H) (.string b))) : b.length ≤ reachBytes := h _ (by simp [DataW.weights])

theorem add_cells {a : Addr} {n : Nat} : a.add n = a.add n := rfl

theorem trod_ints {t e : TypeId} {k : IntKind} (ht : P.underlying t = some (.slice e)) (he : P.underlying e = some (.int k)) (hc : P.cellsOf e = 1) (hb : 0 < P.bytesOf e) {a : Option Addr} {len cap : Nat} {d : DataW H} {p : List MemPlace}
    (hs : Sized P t d) (h : DataW.Trod enc P w 0 (fun _ => true) true t (.slice a len cap) d p) :
    ∃ zs : List Int, Sl w 1 a len cap (zs.map (Value.int k)) ∧ (∀ n ∈ zs, (Lit.int k n).wf = true) ∧ len ≤ reachBytes := by
  obtain ⟨fuel, hf⟩ := h
  rcases open_ints ht he hc hf with ⟨hcs, _⟩ | ⟨x, l, c, zs, hcs, _, hl, hm, hz, hx, hcell, hwz⟩
  · simp [Value.cells] at hcs
    obtain ⟨rfl, rfl, rfl⟩ := hcs
    exact ⟨[], Sl.empty w 1, by simp, Nat.zero_le _⟩
  · simp [Value.cells] at hcs
    obtain ⟨rfl, rfl, rfl⟩ := hcs
    have hz2 : zs.length = cap := by simpa using hz
    have hd := congrArg Prod.fst hx
    simp only at hd
    subst hd
    refine ⟨zs.take len, ⟨by simp; omega, hl, hm, (fun h => by cases h), ?_⟩, fun n hn => hwz n (List.mem_of_mem_take hn), ?_⟩
    · intro q hq j u hj
      cases hq
      rw [List.getElem?_map, List.getElem?_take] at hj
      by_cases hlt : j < len
      · rw [if_pos hlt] at hj
        have hjz : j < zs.length := by omega
        rw [List.getElem?_eq_getElem hjz] at hj
        simp at hj
        rw [hcell j hjz, ← hj, List.getD_eq_getElem?_getD, List.getElem?_eq_getElem hjz]
        rfl
      · rw [if_neg hlt] at hj; cases hj
    · have hsz := (hs.slice ht).1
      rw [show ∀ (k : IntKind) (l : List Int), (lits (H := H) k l).length = l.length from fun k l => by simp [lits], List.length_take, show min len zs.length = len by omega] at hsz
      exact Nat.le_trans (Nat.le_trans (Nat.le_add_right _ _) (Nat.le_mul_of_pos_right _ hb)) hsz

theorem trod_bytes {t e : TypeId} (ht : P.underlying t = some (.slice e)) (he : P.underlying e = some (.int .u8)) (hc : P.cellsOf e = 1) (hb : 0 < P.bytesOf e) {a : Option Addr} {len cap : Nat} {d : DataW H} {p : List MemPlace}
    (hs : Sized P t d) (h : DataW.Trod enc P w 0 (fun _ => true) true t (.slice a len cap) d p) :
    ∃ l : List UInt8, Sl w 1 a len cap (l.map B8) ∧ len ≤ reachBytes := by
  obtain ⟨zs, h1, h2, h3⟩ := trod_ints ht he hc hb hs h
  refine ⟨zs.map fun n => UInt8.ofNat n.toNat, ?_, h3⟩
  have e : (zs.map fun n => UInt8.ofNat n.toNat).map B8 = zs.map (Value.int .u8) := by
    rw [List.map_map]
    apply List.map_congr_left
    intro n hn
    have hb : 0 ≤ n ∧ n ≤ 255 := bounds_u8 (h2 n hn)
    show Value.int .u8 ((UInt8.ofNat n.toNat).toNat : Int) = _
    rw [UInt8.toNat_ofNat']
    congr 1
    omega
  rw [e]
  exact h1
theorem trod_i64s {t e : TypeId} (ht : P.underlying t = some (.slice e)) (he : P.underlying e = some (.int .i64)) (hc : P.cellsOf e = 1) (hb : 0 < P.bytesOf e) {a : Option Addr} {len cap : Nat} {d : DataW H} {p : List MemPlace}
    (hs : Sized P t d) (h : DataW.Trod enc P w 0 (fun _ => true) true t (.slice a len cap) d p) :
    ∃ l : List Int, Sl w 1 a len cap (l.map I64) ∧ (∀ n ∈ l, -9223372036854775808 ≤ n ∧ n ≤ 9223372036854775807) ∧ len ≤ reachBytes := by
  obtain ⟨zs, h1, h2, h3⟩ := trod_ints ht he hc hb hs h
  exact ⟨zs, h1, fun n hn => bounds_i64 (h2 n hn), h3⟩

theorem trod_strs {t e : TypeId} (ht : P.underlying t = some (.slice e)) (he : P.underlying e = some .string) (hc : P.cellsOf e = 1) (hb : 0 < P.bytesOf e) {a : Option Addr} {len cap : Nat} {d : DataW H} {p : List MemPlace}
    (hs : Sized P t d) (h : DataW.Trod enc P w 0 (fun _ => true) true t (.slice a len cap) d p) :
    ∃ l : List ByteArray, Sl w 1 a len cap (l.map Value.string) ∧ (∀ s ∈ l, s.size ≤ reachBytes) ∧ len ≤ reachBytes ∧ (l = [] ∨ ∃ sp, d = .slice (l.map fun s => .lit (.string s.data.toList)) sp) := by
  obtain ⟨fuel, hf⟩ := h
  rcases open_strs ht he hc hf with ⟨hcs, _⟩ | ⟨x, l, c, m, Sx, hcs, _, hl, hm, hmm, hx, hcell⟩
  · simp [Value.cells] at hcs
    obtain ⟨rfl, rfl, rfl⟩ := hcs
    exact ⟨[], Sl.empty w 1, by simp, Nat.zero_le _, .inl rfl⟩
  · simp [Value.cells] at hcs
    obtain ⟨rfl, rfl, rfl⟩ := hcs
    simp only [if_true] at hmm
    subst hmm
    have hd := congrArg Prod.fst hx
    simp only at hd
    subst hd
    obtain ⟨z1, z2⟩ := hs.slice ht
    refine ⟨(List.range len).map Sx, ⟨by simp, hl, hm, (fun h => by cases h), ?_⟩, ?_, ?_, .inr ⟨_, by rw [List.map_map]; rfl⟩⟩
    · intro q hq j u hj
      cases hq
      have hlt : j < len := by have := (List.getElem?_eq_some_iff.1 hj).1; simpa using this
      rw [(hcell j (by omega)).1]
      simp [hlt] at hj
      rw [hj]
    · intro s hs
      obtain ⟨i, hi, rfl⟩ := List.mem_map.1 hs
      have := Sized.string (z2 _ (List.mem_map.2 ⟨i, hi, rfl⟩))
      rwa [show (Sx i).data.toList.length = (Sx i).size from Array.length_toList] at this
    · simp only [List.length_map, List.length_range] at z1
      exact Nat.le_trans (Nat.le_trans (Nat.le_add_right _ _) (Nat.le_mul_of_pos_right _ hb)) z1

theorem trod_arr {t e n : Nat} {k : IntKind} {base : Nat} {spare : Nat → Bool} {held : Bool} {fuel : Nat} {cs : List Value} {x : DataW H × List MemPlace} (ht : P.underlying t = some (.array n e)) (he : P.underlying e = some (.int k)) (hc : P.cellsOf e = 1) (hct : P.cellsOf t = n)
    (h : DataW.trod enc P w base spare held fuel t cs = some x) : cs.length = n ∧ ∀ i, i < n → ∃ z, cs[i]? = some (.int k z) ∧ (Lit.int k z).wf = true := by
  obtain ⟨xs, m, _, _, hl, hxl, hi⟩ := DataW.trod_array ht h
  rw [hct] at hl
  refine ⟨hl, fun i hin => ?_⟩
  have h1 := hi i hin
  rw [hc, Nat.mul_one, List.getElem?_eq_getElem (by omega)] at h1
  obtain ⟨z, hz, _, hw⟩ := DataW.trod_int he h1
  refine ⟨z, ?_, hw⟩
  have := congrArg (·[0]?) hz
  simpa [List.getElem?_take, List.getElem?_drop] using this

theorem trod_arrs {t e q n : Nat} {k : IntKind} (ht : P.underlying t = some (.slice e)) (he : P.underlying e = some (.array n q)) (hq : P.underlying q = some (.int k)) (hc : P.cellsOf q = 1) (hce : P.cellsOf e = n) (hb : 0 < P.bytesOf e) (hn0 : 0 < n)
    {a : Option Addr} {len cap : Nat} {d : DataW H} {p : List MemPlace} (hs : Sized P t d) (h : DataW.Trod enc P w 0 (fun _ => true) true t (.slice a len cap) d p) :
    ∃ zs : List Int, Sl w n a len cap (zs.map (Value.int k)) ∧ (∀ n ∈ zs, (Lit.int k n).wf = true) ∧ len ≤ reachBytes := by
  obtain ⟨fuel, hf⟩ := h
  rcases open_slice ht hf with ⟨hcs, _⟩ | ⟨x, l, c, m, g, D, Pl, hcs, _, hl, hm, hmm, hx, hel⟩
  · simp [Value.cells] at hcs
    obtain ⟨rfl, rfl, rfl⟩ := hcs
    exact ⟨[], Sl.empty w n, by simp, Nat.zero_le _⟩
  · simp [Value.cells] at hcs
    obtain ⟨rfl, rfl, rfl⟩ := hcs
    simp only [if_true] at hmm
    subst hmm
    have hd := congrArg Prod.fst hx
    simp only at hd
    subst hd
    obtain ⟨z1, z2⟩ := hs.slice ht
    have each : ∀ j, j < len * n → ∃ z, w.cell? (x.add j) = some (.int k z) ∧ (Lit.int k z).wf = true := by
      intro j hj
      have hi : j / n < len := (Nat.div_lt_iff_lt_mul hn0).2 hj
      obtain ⟨cs', h1, h2⟩ := hel (j / n) (by omega)
      rw [hce] at h1
      obtain ⟨_, hcl, hat⟩ := World.cells?_some h1
      have hr : j % n < n := Nat.mod_lt _ hn0
      obtain ⟨z, hz, hwz⟩ := (trod_arr he hq hc hce h2).2 (j % n) hr
      refine ⟨z, ?_, hwz⟩
      have := hat (j % n) hr
      rw [sl_add, Nat.div_add_mod'] at this
      rw [this, hz]
    obtain ⟨Z, hZ⟩ := choose_lt each
    refine ⟨(List.range (len * n)).map Z, ⟨by simp, hl, hm, (fun h => by cases h), ?_⟩, ?_, ?_⟩
    · intro q hq j u hj
      cases hq
      have hlt : j < len * n := by have := (List.getElem?_eq_some_iff.1 hj).1; simpa using this
      rw [(hZ j hlt).1]
      simp [hlt] at hj
      rw [hj]
    · intro z hz
      obtain ⟨i, hi, rfl⟩ := List.mem_map.1 hz
      exact (hZ i (List.mem_range.1 hi)).2
    · simp only [List.length_map, List.length_range] at z1
      exact Nat.le_trans (Nat.le_trans (Nat.le_add_right _ _) (Nat.le_mul_of_pos_right _ hb)) z1
theorem bytes_of_wf {zs : List Int} (h : ∀ n ∈ zs, (Lit.int .u8 n).wf = true) : ∃ l : List UInt8, l.map B8 = zs.map (Value.int .u8) := by
  refine ⟨zs.map fun n => UInt8.ofNat n.toNat, ?_⟩
  rw [List.map_map]
  apply List.map_congr_left
  intro n hn
  have hb : 0 ≤ n ∧ n ≤ 255 := bounds_u8 (h n hn)
  show Value.int .u8 ((UInt8.ofNat n.toNat).toNat : Int) = _
  rw [UInt8.toNat_ofNat']
  congr 1
  omega
end
end Go.Dx
end

/- the text To -/
section
/- '[]byte(s)': the block that is made holds bytes. Pages whose rows are made so. -/
set_option linter.unusedVariables false
namespace Go.Proofs.Ythfljnlankmoiaa
open Go.RowKit Go.Dx

/-- a slice of bytes lies in a block of bytes -/
def Kind (w : World) (a : Option Addr) : Prop := ∀ q, a = some q → ∃ C z, w.heap[q.block]? = some (.cells C 5 z)
theorem Kind.below {w w' : World} {a : Option Addr} (h : Kind w a) (hb : Below w.heap.size w w') : Kind w' a := fun q hq => by
  obtain ⟨C, z, hc⟩ := h q hq
  exact ⟨C, z, by rw [hb.block q.block (Array.getElem?_eq_some_iff.1 hc).1]; exact hc⟩
theorem to_kind {w : World} {ops : Array Oper} {rest : List Oper} {act : Act} {Q : Exit → Act → World → Prop} {ty : TypeId} {pos : String} {after : Array Edge} (d : Nat) (x : Operand) (s : ByteArray) (hx : act.eval x = .string s) (hm : s.size ≤ maxLen)
    (hK : ∀ a c w', Sl w' 1 a s.size c (s.data.toList.map B8) → Kind w' a → Below w.heap.size w w' → wpList Try.prog ops Q rest (act.put (some d) (.slice a s.size c)) w') :
    wpList Try.prog ops Q ({ dst := some d, op := .convert 9 23 x, type := ty, pos := pos, after := after, guard := none } :: rest) act w := by
  refine wpList_plain rfl fun K hK' => ?_
  have hrun := run_bytes_of_string (P := Try.prog) w 9 23 5 s Try.underlying9 Try.underlying23 Try.underlying5
  have hge := grownCap_ge w s.size 0 5
  have hcm := grownCap_le_maxLen w s.size 0 5 hm
  unfold Oper.wp
  simp only [execOp, hx, Sem.run_bind, hrun, Result.andThen, Sem.run_pure]
  refine hK' _ _ (hK _ _ _ ⟨?_, hge, hcm, (fun h => by cases h), ?_⟩ (fun q hq => by cases hq; exact ⟨_, _, heap_alloc_new w.drew _⟩) ((Below.refl _ _).drew.alloc (Nat.le_refl _) _))
  · rw [List.length_map, Array.length_toList, Nat.mul_one]; rfl
  · intro p hp j u hj
    cases hp
    rw [Addr.add_lit, Nat.zero_add, cell_of_row _ w.heap.size j (bytesRow s (grownCap w s.size 0 5)) 5 _ (heap_alloc_new w.drew _)]
    have hj2 : j < s.size := by
      have := (List.getElem?_eq_some_iff.1 hj).1
      rw [List.length_map, Array.length_toList] at this
      exact this
    unfold bytesRow
    rw [Array.getElem?_append_left (by rw [Array.size_map]; exact hj2)]
    rw [← hj]
    simp
theorem kind_ne {w : World} {B : Nat} {e : TypeId} {sz : Nat} {t q : Addr} {n c : Nat} {cs : List Value} (h : Own w B e sz (some t) n c cs) {C : Array Value} {z : Nat × Nat} {e' : TypeId} (hq : w.heap[q.block]? = some (.cells C e' z)) (he : e ≠ e') : q.block ≠ t.block := by
  intro hb
  rcases h.2 with ⟨h1, _⟩ | ⟨g, cap, cur, h1, _, h2, _⟩
  · cases h1
  · injection h1 with h1
    injection h1 with h1
    subst h1
    rw [hb] at hq
    rw [hq] at h2
    injection h2 with h2
    injection h2 with _ h2
    exact he h2.symm

/-- A page whose top the call owns, and whose rows lie in blocks of bytes. -/
structure KPage (w : World) (B : Nat) (a : Option Addr) (c : Nat) (hs : List Hd) (p : List (List UInt8)) : Prop where
  top : Own w B 23 1 a p.length c (hs.map hv)
  len : hs.length = p.length
  row : ∀ (i : Nat) (h : Hd) (r : List UInt8), hs[i]? = some h → p[i]? = some r → Sl w 1 h.1 h.2.1 h.2.2 (r.map B8) ∧ Kind w h.1
theorem KPage.nil (w : World) (B : Nat) : KPage w B none 0 [] [] := ⟨Own.nil _ _ _ _, rfl, fun i h r h1 => by cases h1⟩
theorem KPage.below {w w' : World} {B : Nat} {a : Option Addr} {c : Nat} {hs : List Hd} {p : List (List UInt8)} (h : KPage w B a c hs p) (hb : Below w.heap.size w w') : KPage w' B a c hs p :=
  ⟨h.top.below hb, h.len, fun i x r h1 h2 => ⟨(h.row i x r h1 h2).1.below hb, (h.row i x r h1 h2).2.below hb⟩⟩
theorem KPage.pg {w : World} {B : Nat} {a : Option Addr} {c : Nat} {hs : List Hd} {p : List (List UInt8)} (h : KPage w B a c hs p) : Pg w a p.length c hs p :=
  ⟨h.top.sl, h.len, fun i x r h1 h2 => (h.row i x r h1 h2).1⟩
theorem KPage.push {w w' : World} {B : Nat} {a a' : Option Addr} {c c' : Nat} {hs : List Hd} {p : List (List UInt8)} {x : Hd} {r : List UInt8} (h : KPage w B a c hs p) (hx : Sl w 1 x.1 x.2.1 x.2.2 (r.map B8)) (hk : Kind w x.1)
    (ht : Own w' B 23 1 a' (p.length + 1) c' (hs.map hv ++ [hv x])) (hg : w.grownBy w' (a.map (·.block))) : KPage w' B a' c' (hs ++ [x]) (p ++ [r]) := by
  have key : ∀ (y : Hd) (s : List UInt8), Sl w 1 y.1 y.2.1 y.2.2 (s.map B8) → Kind w y.1 → Sl w' 1 y.1 y.2.1 y.2.2 (s.map B8) ∧ Kind w' y.1 := by
    intro y s hy hky
    have hne : ∀ q, y.1 = some q → some q.block ≠ a.map (·.block) := by
      intro q hq e
      cases ha : a with
      | none => rw [ha] at e; cases e
      | some t =>
        obtain ⟨C, z, hc⟩ := hky q hq
        have ho := h.top
        rw [ha] at ho e
        exact kind_ne ho hc (by decide) (by simpa using e)
    refine ⟨hy.grown hg hne, fun q hq => ?_⟩
    obtain ⟨C, z, hc⟩ := hky q hq
    exact ⟨C, z, by rw [hg.block q.block (Array.getElem?_eq_some_iff.1 hc).1 (hne q hq)]; exact hc⟩
  refine ⟨by rw [List.length_append, List.map_append]; exact ht, by simp [h.len], ?_⟩
  intro i y s h1 h2
  rw [List.getElem?_append] at h1 h2
  by_cases hi : i < hs.length
  · rw [if_pos hi] at h1
    rw [if_pos (by rw [← h.len]; exact hi)] at h2
    exact key y s (h.row i y s h1 h2).1 (h.row i y s h1 h2).2
  · rw [if_neg hi] at h1
    rw [if_neg (by rw [← h.len]; exact hi)] at h2
    have e : i - hs.length = 0 := by
      have := (List.getElem?_eq_some_iff.1 h1).1
      simp at this; omega
    rw [e] at h1
    have e2 : i - p.length = 0 := by rw [← h.len]; exact e
    rw [e2] at h2
    simp at h1 h2
    subst h1 h2
    exact key x r hx hk
section
variable {w : World} {ops : Array Oper} {rest : List Oper} {o : Oper} {act : Act} {Q : Exit → Act → World → Prop}
/-- 'append(p, l)' on such a page -/
theorem app_k (hg : o.guard = none) (s x : Operand) (hop : o.op = Op.call { callee := Callee.builtin Builtin.append, args := #[s, x], argTypes := #[41, 41] })
    (w0 : World) (B : Nat) (a : Option Addr) (n c : Nat) (hs : List Hd) (p : List (List UInt8)) (hn0 : p.length = n) (hes : act.eval s = .slice a n c) (hown : KPage w B a c hs p)
    (y : Hd) (r : List UInt8) (hy : Sl w 1 y.1 y.2.1 y.2.2 (r.map B8)) (hk : Kind w y.1) (hx : act.eval x = .slice (some ⟨w.heap.size, 0, none⟩) 1 1)
    (hn : (n + 1) * 24 ≤ 140737488355328) (hB : B ≤ w.heap.size) (hbel : Below B w0 w)
    (hK : ∀ a' c' w', KPage w' B a' c' (hs ++ [y]) (p ++ [r]) → Below B w0 w' → wpList Try.prog ops Q rest (act.put o.dst (.slice a' (n + 1) c')) w') :
    wpList Try.prog ops Q (o :: rest) act (w.alloc (.cells #[hv y] 23)) := by
  subst hn0
  refine append_lit hg s x 41 hop 23 (.slice none 0 0) 1 24 Try.underlying41 info_row rfl w0 B a _ c _ hes hown.top 1 [hv y] hx rfl (by simp [hv, Value.oneCell']) hn (by unfold maxLen; omega) hB hbel ?_
  intro a' c' w' ho hgr hb
  exact hK a' c' w' (hown.push hy hk ho hgr) hb
end
end Go.Proofs.Ythfljnlankmoiaa
end

/- the text Pure4 -/
section
/- The plain laws of layer 1: round trip, canonical, truncated. No Go. -/
namespace Go.Dx

theorem val_digs_to {m k : Nat} (h : m < 256 ^ k) : ∀ j, j ≤ k → val (digs m k j) = m / 256 ^ (k - j)
  | 0, _ => by rw [digs_zero, Nat.sub_zero, Nat.div_eq_of_lt h]; rfl
  | j + 1, hj => by
    rw [digs_succ, val_snoc, val_digs_to h j (by omega), dig_toNat]
    have e1 : k - j = (k - 1 - j) + 1 := by omega
    have e2 : k - (j + 1) = k - 1 - j := by omega
    rw [e1, e2, Nat.pow_succ, ← Nat.div_div_eq_div_mul]
    omega
theorem val_digs {m k : Nat} (h : m < 256 ^ k) : val (digs m k k) = m := by rw [val_digs_to h k (Nat.le_refl _), Nat.sub_self, Nat.pow_zero, Nat.div_one]
theorem map_flp_flp (neg : Bool) (l : List UInt8) : (l.map (flp neg)).map (flp neg) = l := by
  rw [List.map_map]
  have : (flp neg ∘ flp neg) = id := by funext d; exact flp_flp neg d
  rw [this, List.map_id]
theorem hd_sign (neg : Bool) (k : Nat) (h : k ≤ 8) : decide ((hd neg k).toNat < 128) = neg := by
  cases neg with
  | false => have := hd_pos k h; apply decide_eq_false; omega
  | true => have := hd_neg k h; apply decide_eq_true; omega
theorem flp_hd (neg : Bool) (k : Nat) (h : k ≤ 8) : (flp neg (hd neg k)).toNat = 128 + k := by
  unfold hd; rw [flp_flp, UInt8.toNat_ofNat']; omega

/-- The first theorem of layer 1: what is encoded is decoded, whatever follows. -/
theorem decInt_enc {n : Int} (h0 : -9223372036854775808 ≤ n) (h1 : n ≤ 9223372036854775807) (t : List UInt8) :
    decInt (encInt n ++ t) = (n, (((encInt n).length : Nat) : Int), 0) := by
  have hm := mag_lt h0 h1
  have hL := len_klen (m := mag n) (by omega)
  have hval : n = if decide (n < 0) then -1 - (mag n : Int) else (mag n : Int) := by
    unfold mag
    by_cases hn : n < 0 <;> simp [hn] <;> omega
  rw [encInt_length]
  unfold encInt
  generalize mag n = m at *
  generalize klen m = k at *
  generalize decide (n < 0) = neg at *
  subst hval
  obtain ⟨h8, hk, hk2⟩ := hL
  rw [List.cons_append, decInt_cons, hd_sign _ _ h8, flp_hd _ _ h8, Nat.add_sub_cancel_left]
  have hlen : ((digs m k k).map (flp neg)).length = k := by rw [List.length_map, digs_length]
  have htake : ((digs m k k).map (flp neg) ++ t).take k = (digs m k k).map (flp neg) := by
    have := List.take_left (l₁ := (digs m k k).map (flp neg)) (l₂ := t); rwa [hlen] at this
  have hv : val ((((digs m k k).map (flp neg) ++ t).take k).map (flp neg)) = m := by rw [htake, map_flp_flp, val_digs hk]
  rw [decK_ok (by omega) (by rw [List.length_append, hlen]; omega) ?_ (by rw [hv]; omega), hv]
  · rfl
  · rcases Nat.eq_zero_or_pos k with h | h
    · exact .inl h
    · refine .inr ?_
      obtain ⟨j, rfl⟩ : ∃ j, k = j + 1 := ⟨k - 1, by omega⟩
      have e : ((digs m (j + 1) (j + 1)).map (flp neg) ++ t).getD 0 0 = flp neg (dig m j) := by
        unfold digs; rw [List.range_succ_eq_map]; simp
      rw [e, flp_flp]
      intro hz
      have h3 := congrArg UInt8.toNat hz
      rw [dig_toNat] at h3
      rcases hk2 with h2 | h2
      · omega
      · have h4 : 1 ≤ m / 256 ^ j := (Nat.le_div_iff_mul_le (Nat.pow_pos (by omega))).2 (by simpa using h2)
        have h5 : m / 256 ^ j < 256 := (Nat.div_lt_iff_lt_mul (Nat.pow_pos (by omega))).2 (by rw [Nat.mul_comm]; rwa [← Nat.pow_succ])
        have h6 : m / 256 ^ j % 256 = m / 256 ^ j := Nat.mod_eq_of_lt h5
        simp at h3
        omega

/-- what lacks its end asks for more -/
theorem decInt_cut {n : Int} (h0 : -9223372036854775808 ≤ n) (h1 : n ≤ 9223372036854775807) {i : Nat} (hi : i < (encInt n).length) : decInt ((encInt n).take i) = (0, 0, 3) := by
  have hm := mag_lt h0 h1
  have hL := len_klen (m := mag n) (by omega)
  rw [encInt_length] at hi
  unfold encInt
  cases i with
  | zero => rfl
  | succ j =>
    rw [List.take_succ_cons, decInt_cons, hd_sign _ _ hL.1, flp_hd _ _ hL.1, Nat.add_sub_cancel_left]
    exact decK_more (by have := hL.1; omega) (by rw [List.length_take, List.length_map, digs_length]; omega)

/-- what is decoded was encoded -/
theorem decInt_canon {b : List UInt8} (h : (decInt b).2.2 = 0) : encInt (decInt b).1 = b.take (decInt b).2.1.toNat := by
  cases b with
  | nil => simp [decInt] at h
  | cons x t =>
    rw [decInt_cons] at h ⊢
    have hge := flp_ge x (decide (x.toNat < 128)) rfl
    generalize decide (x.toNat < 128) = neg at *
    obtain ⟨K, hK⟩ : ∃ K, (flp neg x).toNat = 128 + K := ⟨(flp neg x).toNat - 128, by omega⟩
    rw [hK, Nat.add_sub_cancel_left] at h ⊢
    by_cases h8 : 8 < K
    · rw [decK_8 h8] at h; simp at h
    by_cases hl : t.length < K
    · rw [decK_more h8 hl] at h; simp at h
    by_cases hz : K = 0 ∨ flp neg (t.getD 0 0) ≠ 0
    · by_cases hb : 9223372036854775808 ≤ val ((t.take K).map (flp neg))
      · rw [decK_big h8 hl hz hb] at h; simp at h
      · rw [decK_ok h8 hl hz hb]
        have := (enc_iff hK (by omega) (by omega) (by omega)).2 hz
        show encInt (if neg then _ else _) = _
        rw [this]
        show _ = (x :: t).take ((K : Int) + 1).toNat
        rw [show ((K : Int) + 1).toNat = K + 1 by omega, List.take_succ_cons]
    · rw [decK_zero h8 hl (by omega) (by
        by_cases h : flp neg (t.getD 0 0) = 0
        · exact h
        · exact absurd (.inr h) hz)] at h
      simp at h
end Go.Dx
end

/- the text Law1 -/
section
namespace Go.Proofs.Ythfljnlankmoiaa
open Go.RowKit Go.Dx

theorem GetInt_any {l : List UInt8} {a : Option Addr} {n c : Nat} {w : World} (hs : Sl w 1 a n c (l.map B8)) {x y z : Int} (h : decInt l = (x, y, z)) :
    Calls Try.prog 80 #[.slice a n c] w fun e w' => e = .returned (R3 (x, y, z)) ∧ w = w' := by
  rw [← h]; exact wire_GetInt l a n c w hs
end Go.Proofs.Ythfljnlankmoiaa
end

/- the text Law2 -/
section
namespace Go.Proofs.Ythfljnlankmoiaa
open Go.RowKit Go.Dx

theorem refInt_at {l : List UInt8} {r : Int × Int × Int} (h : decInt l = r) {a : Option Addr} {n c : Nat} {w : World} (hs : Sl w 1 a n c (l.map B8)) :
    Calls Try.prog 81 #[.slice a n c] w fun e w' => e = .returned (R3 r) ∧ Below w.heap.size w w' := by subst h; exact ref_GetInt l a n c w hs
theorem refBytes_at {l : List UInt8} {r : ByteArray × Int × Int} (h : decBytes l = r) (hl : l.length ≤ 4503599627370496) {a : Option Addr} {n c : Nat} {w : World} (hs : Sl w 1 a n c (l.map B8)) :
    Calls Try.prog 78 #[.slice a n c] w fun e w' => e = .returned (RS r) ∧ Below w.heap.size w w' := by subst h; exact ref_GetBytes l a n c w hs hl
theorem refStrings_at {l : List UInt8} {r : List ByteArray × Int × Int} (h : decSeq decBytes l = r) (hl : l.length ≤ 1000000000) {a : Option Addr} {n c : Nat} {w : World} (hs : Sl w 1 a n c (l.map B8)) :
    Calls Try.prog 70 #[.slice a n c] w (Gives3 9 1 r.1.length (r.1.map Value.string) r.2.1 r.2.2 w) := by subst h; exact ref_GetStrings l a n c w hs hl
end Go.Proofs.Ythfljnlankmoiaa
end

/- the text C31 -/
section
namespace Go.Proofs.Ythfljnlankmoiaa
open Go.RowKit Go.Dx

def strOf (r : List UInt8) : ByteArray := ⟨r.toArray⟩
def linesS (p : List (List UInt8)) : List ByteArray := p.map strOf
/-- the page that is read, how many bytes it took, the error -/
def decPage (l : List UInt8) : List (List UInt8) × Int × Int := if (decSeq decBytes l).2.2 = 0 then ((decSeq decBytes l).1.map fun s => s.data.toList, (decSeq decBytes l).2.1, 0) else ([], 0, (decSeq decBytes l).2.2)
theorem lines_snoc {p : List (List UInt8)} {k : Nat} {x : List UInt8} (h : p[k]? = some x) : linesS (p.take (k + 1)) = linesS (p.take k) ++ [strOf x] := by unfold linesS; rw [take_snoc h, List.map_append]; rfl
/-- What a call hands back that returns a page, a number and an error. -/
def GivesD (r : List (List UInt8) × Int × Int) (w : World) (e : Ending) (w' : World) : Prop :=
  ∃ a c hs, e = .returned (.tuple #[.slice a r.1.length c, .int .i64 r.2.1, .int .i64 r.2.2]) ∧ Pg w' a r.1.length c hs r.1 ∧ Below w.heap.size w w'
theorem seq_count {l : List UInt8} {xs : List ByteArray} {B : Int} (h : decSeq decBytes l = (xs, B, 0)) : xs.length ≤ l.length := by
  by_cases hc : cntErr l 1 = 0
  · obtain ⟨A, N, h1, h2, _, _, _, h6⟩ := cnt_facts (by omega) hc
    have h3 := h
    unfold decSeq at h3
    rw [if_neg (by simp [hc]), h1, h2] at h3
    simp only [Int.toNat_natCast] at h3
    generalize hs : seqTo decBytes l A N = r at h3
    obtain ⟨ys, C, e⟩ := r
    by_cases he : e = 0
    · subst he
      simp at h3
      rw [← h3.1, seqTo_len hs]; exact h6
    · rw [if_pos he] at h3
      injection h3 with h4
      rw [← h4]; exact Nat.zero_le _
  · rw [decSeq_cnt hc] at h
    injection h with h4
    rw [← h4]; exact Nat.zero_le _

set_option maxHeartbeats 400000 in
theorem ref_Lines (p : List (List UInt8)) (hs : List Hd) (a : Option Addr) (n c : Nat) (w : World) (hp : Pg w a n c hs p) (hpl : p.length ≤ 1000000) :
    Calls Try.prog 45 #[.slice a n c] w (Gives 9 1 (linesS p).length ((linesS p).map Value.string) w) := by
  have HL : Hid ((linesS p).length = p.length) := hide (by unfold linesS; rw [List.length_map])
  obtain rfl := hp.n_eq
  go_enter Try.func45, Try.ntmps45
  go_wp2_with fail
  go_loopg [3, 4] p.length (fun g s i w' => ∃ (k : Nat) (a2 : Option Addr) (c2 : Nat), k ≤ p.length ∧ g = p.length - k ∧ i = .int .i64 k ∧ s = .slice a2 k c2 ∧ Own w' w.heap.size 9 1 a2 k c2 ((linesS (p.take k)).map Value.string) ∧ Below w.heap.size w w')
  case atStart => exact ⟨0, none, 0, by omega, by omega, rfl, rfl, Own.nil _ _ _ _, Below.refl _ _⟩
  case round =>
    obtain ⟨k, a2, c2, hk, hg, rfl, rfl, hown, hbk⟩ := hrel
    have HG := hide hg
    clear hg
    by_cases hkl : k < p.length
    · obtain ⟨x, hx⟩ : ∃ x, p[k]? = some x := ⟨p[k], by simp [hkl]⟩
      obtain ⟨ax, cx, hux, hsx⟩ := hp.get hx
      have HX := hide (lines_snoc hx)
      have HU := hide hux
      have ht := hp.top.below hbk
      have hsw := hsx.below hbk
      clear hx hux hsx
      go_wp2_with (first
        | (with_reducible refine idx_p 14 _ _ _ _ _ hs rfl ht _ _ k rfl rfl _ HU.out ?_; intro b o hcell hbo)
        | (with_reducible refine to_str 16 _ _ _ _ _ rfl hsw ?_)
        | (at_builtin; refine app_s rfl _ _ rfl w w.heap.size _ _ _ _ rfl hown _ rfl (by omega) hbk.size hbk ?_; intro a' c' w' ho' hgr' hb'))
      go_roundg (p.length - (k + 1))
      case measure => have := HG.out; omega
      case rel => exact ⟨k + 1, a', c', by omega, rfl, by go_num, rfl, by rw [HX.out, List.map_append]; exact ho', hb'⟩
    · obtain rfl : k = p.length := by omega
      go_wp2_with fail
      go_ret
      rw [List.take_length] at hown
      rw [HL.out]
      exact ⟨a2, c2, rfl, hown, hbk⟩

theorem strOf_sizes {p : List (List UInt8)} {b : Nat} (h : ∀ r ∈ p, r.length ≤ b) : ∀ x ∈ linesS p, x.size ≤ b := by
  intro x hx
  obtain ⟨r, hr, rfl⟩ := List.mem_map.1 hx
  have := h r hr
  show r.toArray.size ≤ b
  simpa using this
set_option maxHeartbeats 400000 in
theorem cell_Encode (p : List (List UInt8)) (hs : List Hd) (a : Option Addr) (n c : Nat) (w : World) (hp : Pg w a n c hs p) (hpl : p.length ≤ 1000000) (hpr : ∀ r ∈ p, r.length ≤ 1000000) (hT : (encStrs (linesS p)).length ≤ 140737488355000) :
    Calls Try.prog 43 #[.slice a n c] w (Gives 5 1 (encStrs (linesS p)).length ((encStrs (linesS p)).map B8) w) := by
  have HL : Hid ((linesS p).length = p.length) := hide (by unfold linesS; rw [List.length_map])
  have hsz : ∀ x ∈ linesS p, x.size ≤ 140737488355000 := fun x hx => Nat.le_trans (strOf_sizes hpr x hx) (by decide)
  obtain rfl := hp.n_eq
  go_enter Try.func43, Try.ntmps43
  go_wp2_with fail
  go_loopg [3, 8] p.length (fun g s i w' => ∃ (k : Nat) (a2 : Option Addr) (c2 : Nat), k ≤ p.length ∧ g = p.length - k ∧ i = .int .i64 k ∧ s = .slice a2 k c2 ∧ Own w' w.heap.size 9 1 a2 k c2 ((linesS (p.take k)).map Value.string) ∧ Below w.heap.size w w')
  case atStart => exact ⟨0, none, 0, by omega, by omega, rfl, rfl, Own.nil _ _ _ _, Below.refl _ _⟩
  case round =>
    obtain ⟨k, a2, c2, hk, hg, rfl, rfl, hown, hbk⟩ := hrel
    have HG := hide hg
    clear hg
    by_cases hkl : k < p.length
    · obtain ⟨x, hx⟩ : ∃ x, p[k]? = some x := ⟨p[k], by simp [hkl]⟩
      obtain ⟨ax, cx, hux, hsx⟩ := hp.get hx
      have HX := hide (lines_snoc hx)
      have HU := hide hux
      have ht := hp.top.below hbk
      have hsw := hsx.below hbk
      clear hx hux hsx
      go_wp2_with (first
        | (with_reducible refine idx_p 10 _ _ _ _ _ hs rfl ht _ _ k rfl rfl _ HU.out ?_; intro b o hcell hbo)
        | (with_reducible refine to_str 14 _ _ _ _ _ rfl hsw ?_)
        | (at_builtin; refine app_s rfl _ _ rfl w w.heap.size _ _ _ _ rfl hown _ rfl (by omega) hbk.size hbk ?_; intro a' c' w' ho' hgr' hb'))
      go_roundg (p.length - (k + 1))
      case measure => have := HG.out; omega
      case rel => exact ⟨k + 1, a', c', by omega, rfl, by go_num, rfl, by rw [HX.out, List.map_append]; exact ho', hb'⟩
    · obtain rfl : k = p.length := by omega
      rw [List.take_length] at hown
      have hsl := hown.sl
      go_wp2_with fail
      refine (wire_Strings (linesS p) hsz hT (by rw [HL.out]; omega) a2 p.length c2 wr hsl).mono ?_
      rintro e w2 ⟨a3, c3, rfl, ho3, hb3⟩
      go_wp2_with fail
      go_ret
      exact ⟨a3, c3, rfl, ho3.mono hbk.size, hbk.trans (hb3.mono hbk.size)⟩
end Go.Proofs.Ythfljnlankmoiaa
end

/- the text Pure5 -/
section
/- What is decoded was encoded: strings and lists. No Go. -/
namespace Go.Dx

theorem decInt_range (b : List UInt8) : -9223372036854775808 ≤ (decInt b).1 ∧ (decInt b).1 ≤ 9223372036854775807 := by
  by_cases h : (decInt b).2.2 = 0
  · obtain ⟨_, _, h1, h2⟩ := decInt_used h; exact ⟨h1, h2⟩
  · rw [decInt_err h]; simp
/-- a decoder and its encoder -/
def Canon {α : Type} (f : List UInt8 → α × Int × Int) (enc : α → List UInt8) : Prop :=
  ∀ b, (f b).2.2 = 0 → 0 ≤ (f b).2.1 ∧ (f b).2.1 ≤ b.length ∧ enc (f b).1 = b.take (f b).2.1.toNat
theorem canon_int : Canon decInt encInt := fun b h => by
  obtain ⟨h1, h2, _, _⟩ := decInt_used h
  exact ⟨by omega, h2, decInt_canon h⟩
theorem canon_bytes : Canon decBytes fun s => encBytes s.data.toList := fun b h => by
  by_cases hE : cntErr b 1 = 0
  · obtain ⟨A, N, e1, e2, e3, hA, hAN, hN⟩ := cnt_facts (by omega) hE
    have hc := decInt_canon e3
    rw [e1, e2] at hc
    simp at hAN hc
    unfold decBytes
    rw [if_pos hE, e1, e2]
    simp only [Int.toNat_natCast]
    refine ⟨by omega, by omega, ?_⟩
    rw [show ((A : Int) + (N : Int)).toNat = A + N by omega, List.take_add]
    unfold encBytes
    rw [List.length_take, List.length_drop, show min N (b.length - A) = N by omega, hc]
  · unfold decBytes at h
    rw [if_neg hE] at h
    exact absurd h hE
theorem seqTo_canon {α : Type} {f : List UInt8 → α × Int × Int} {enc : α → List UInt8} (hf : Canon f enc) {l : List UInt8} {A : Nat} (hA : A ≤ l.length) :
    ∀ {k : Nat} {xs : List α} {B : Nat}, seqTo f l A k = (xs, B, 0) → A ≤ B ∧ B ≤ l.length ∧ xs.flatMap enc = (l.drop A).take (B - A)
  | 0, xs, B, h => by
    simp [seqTo] at h
    obtain ⟨rfl, rfl⟩ := h
    exact ⟨Nat.le_refl _, hA, by simp⟩
  | k + 1, xs, B, h => by
    by_cases h0 : (seqTo f l A k).2.2 = 0
    · obtain ⟨h1, h2, h3⟩ := seqTo_canon hf hA (k := k) (xs := (seqTo f l A k).1) (B := (seqTo f l A k).2.1) (by rw [← h0])
      by_cases he : (f (l.drop (seqTo f l A k).2.1)).2.2 = 0
      · have hs := seqTo_step (k := k) (xs := (seqTo f l A k).1) (B := (seqTo f l A k).2.1) (by rw [← h0]) he
        rw [hs] at h
        injection h with g1 g2
        injection g2 with g2 g3
        obtain ⟨c1, c2, c3⟩ := hf _ he
        generalize seqTo f l A k = r at *
        obtain ⟨U, hU⟩ := Int.eq_ofNat_of_zero_le c1
        rw [hU] at c2 c3 g2
        rw [List.length_drop] at c2
        simp only [Int.toNat_natCast] at c3 g2
        subst g1 g2
        refine ⟨by omega, by omega, ?_⟩
        rw [List.flatMap_append, h3, List.flatMap_cons, List.flatMap_nil, List.append_nil, c3, show r.2.1 + U - A = (r.2.1 - A) + U by omega, List.take_add, List.drop_drop,
          show A + (r.2.1 - A) = r.2.1 by omega]
      · have hs := seqTo_stop (k := k) (xs := (seqTo f l A k).1) (B := (seqTo f l A k).2.1) (by rw [← h0]) he
        rw [hs] at h
        injection h with g1 g2
        injection g2 with g2 g3
        exact absurd g3 he
    · have := seqTo_err h0 1
      rw [this] at h
      rw [h] at h0
      exact absurd rfl h0
theorem decSeq_bad {α : Type} {f : List UInt8 → α × Int × Int} {l : List UInt8} (h : (decSeq f l).2.2 ≠ 0) : decSeq f l = ([], 0, (decSeq f l).2.2) := by
  unfold decSeq at *
  by_cases hE : cntErr l 1 = 0
  · rw [if_neg (by simp [hE])] at h ⊢
    by_cases hr : (seqTo f l (decInt l).2.1.toNat (decInt l).1.toNat).2.2 = 0
    · rw [if_neg (by simp [hr])] at h; exact absurd rfl h
    · simp only [if_pos hr]
  · simp only [if_pos hE]
theorem decSeq_canon {α : Type} {f : List UInt8 → α × Int × Int} {enc : α → List UInt8} (hf : Canon f enc) {l : List UInt8} (h : (decSeq f l).2.2 = 0) :
    0 ≤ (decSeq f l).2.1 ∧ (decSeq f l).2.1 ≤ l.length ∧ encInt ((decSeq f l).1.length : Nat) ++ (decSeq f l).1.flatMap enc = l.take (decSeq f l).2.1.toNat ∧ (decSeq f l).1.length ≤ l.length := by
  by_cases hE : cntErr l 1 = 0
  · obtain ⟨A, N, e1, e2, e3, hA, hAN, hN⟩ := cnt_facts (by omega) hE
    have hc := decInt_canon e3
    rw [e1, e2] at hc
    simp at hAN hc
    by_cases h0 : (seqTo f l A N).2.2 = 0
    · have hs : seqTo f l A N = ((seqTo f l A N).1, (seqTo f l A N).2.1, 0) := by rw [← h0]
      have hlen := seqTo_len hs
      obtain ⟨h1, h2, h3⟩ := seqTo_canon hf (by omega) hs
      rw [decSeq_ok hE e1 e2 hs]
      refine ⟨by simp, by simpa using h2, ?_, by simp only; omega⟩
      simp only [Int.toNat_natCast]
      rw [hlen, h3, hc, show (seqTo f l A N).2.1 = A + ((seqTo f l A N).2.1 - A) by omega, List.take_add, Nat.add_sub_cancel_left]
    · exfalso
      apply h0
      unfold decSeq at h
      rw [if_neg (by simp [hE]), e1, e2] at h
      simp only [Int.toNat_natCast] at h
      rw [if_pos h0] at h
      exact h
  · rw [decSeq_cnt hE] at h
    exact absurd h hE
theorem seqTo_all {α : Type} {f : List UInt8 → α × Int × Int} {P : α → Prop} (hP : ∀ b, P (f b).1) {l : List UInt8} {A : Nat} : ∀ k, ∀ x ∈ (seqTo f l A k).1, P x
  | 0 => by intro x hx; simp [seqTo] at hx
  | k + 1 => by
    intro x hx
    have ih := seqTo_all hP (l := l) (A := A) k
    unfold seqTo at hx
    simp only at hx
    split at hx
    · exact ih x hx
    · split at hx
      · simp at hx
      · rw [List.mem_append] at hx
        rcases hx with hx | hx
        · exact ih x hx
        · simp at hx; subst hx; exact hP _
theorem decSeq_all {α : Type} {f : List UInt8 → α × Int × Int} {P : α → Prop} (hP : ∀ b, P (f b).1) (l : List UInt8) : ∀ x ∈ (decSeq f l).1, P x := by
  intro x hx
  unfold decSeq at hx
  split at hx
  · simp at hx
  · simp only at hx
    split at hx
    · simp at hx
    · exact seqTo_all hP _ x hx
theorem encBytes_len (l : List UInt8) : l.length ≤ (encBytes l).length := by unfold encBytes; rw [List.length_append]; omega
theorem mem_flatMap_len {α : Type} (enc : α → List UInt8) : ∀ (xs : List α) (x : α), x ∈ xs → (enc x).length ≤ (xs.flatMap enc).length
  | y :: ys, x, h => by
    rw [List.flatMap_cons, List.length_append]
    rcases List.mem_cons.1 h with rfl | h
    · omega
    · have := mem_flatMap_len enc ys x h; omega
/-- the lists that are decoded are short -/
theorem decInts_short (l : List UInt8) : (encInts (decSeq decInt l).1).length ≤ l.length + 9 ∧ (decSeq decInt l).1.length ≤ l.length := by
  by_cases h : (decSeq decInt l).2.2 = 0
  · obtain ⟨h1, h2, h3, h4⟩ := decSeq_canon canon_int h
    refine ⟨?_, h4⟩
    unfold encInts
    rw [h3, List.length_take]
    omega
  · rw [decSeq_bad h]
    refine ⟨?_, by simp⟩
    show (encInt 0 ++ []).length ≤ _
    have := encInt_le 0
    simp
    omega
theorem decStrs_short (l : List UInt8) : (encStrs (decSeq decBytes l).1).length ≤ l.length + 9 ∧ (decSeq decBytes l).1.length ≤ l.length ∧ ∀ s ∈ (decSeq decBytes l).1, s.size ≤ l.length := by
  by_cases h : (decSeq decBytes l).2.2 = 0
  · obtain ⟨h1, h2, h3, h4⟩ := decSeq_canon canon_bytes h
    have h5 := congrArg List.length h3
    rw [List.length_append, List.length_take] at h5
    refine ⟨?_, h4, fun s hs => ?_⟩
    · unfold encStrs
      rw [h3, List.length_take]
      omega
    · have h6 := mem_flatMap_len (fun s : ByteArray => encBytes s.data.toList) _ s hs
      have h7 := encBytes_len s.data.toList
      have h8 : s.data.toList.length = s.size := Array.length_toList
      omega
  · rw [decSeq_bad h]
    refine ⟨?_, by simp, by simp⟩
    show (encInt 0 ++ []).length ≤ _
    have := encInt_le 0
    simp
    omega
theorem decBytes_short (l : List UInt8) : (decBytes l).1.size ≤ l.length := by
  by_cases h : (decBytes l).2.2 = 0
  · obtain ⟨h1, h2, h3⟩ := canon_bytes l h
    have h5 := congrArg List.length h3
    have h7 := encBytes_len (decBytes l).1.data.toList
    have h8 : (decBytes l).1.data.toList.length = (decBytes l).1.size := Array.length_toList
    rw [List.length_take] at h5
    simp only at h5
    omega
  · unfold decBytes at *
    split
    · rename_i hE; rw [if_pos hE] at h; exact absurd rfl h
    · exact Nat.zero_le _
end Go.Dx
end

/- the text C32 -/
section
namespace Go.Proofs.Ythfljnlankmoiaa
open Go.RowKit Go.Dx

theorem flatMap_mem {α : Type} {enc : α → List UInt8} : ∀ {xs : List α} {x : α}, x ∈ xs → (enc x).length ≤ (xs.flatMap enc).length := by
  intro xs
  induction xs with
  | nil => intro x h; cases h
  | cons y xs ih =>
    intro x h
    rw [List.flatMap_cons, List.length_append]
    rcases List.mem_cons.1 h with rfl | h
    · omega
    · have := ih h; omega
theorem dec_facts {l : List UInt8} {xs : List ByteArray} {B : Int} (h : decSeq decBytes l = (xs, B, 0)) : xs.length ≤ l.length ∧ ∀ x ∈ xs, x.size ≤ l.length := by
  have h0 := decSeq_canon canon_bytes (l := l) (by rw [h])
  rw [h] at h0
  obtain ⟨_, _, h3, h4⟩ := h0
  refine ⟨h4, fun x hx => ?_⟩
  have h5 := flatMap_mem (enc := fun s : ByteArray => encBytes s.data.toList) hx
  have h3' : encInt ((xs.length : Nat) : Int) ++ xs.flatMap (fun s : ByteArray => encBytes s.data.toList) = l.take B.toNat := h3
  have h6 := congrArg List.length h3'
  rw [List.length_append, List.length_take] at h6
  have h7 : x.size ≤ (encBytes x.data.toList).length := by
    unfold encBytes
    rw [List.length_append, Array.length_toList]
    show x.size ≤ _ + x.size
    omega
  omega
def toL (s : ByteArray) : List UInt8 := s.data.toList
theorem toL_snoc {xs : List ByteArray} {k : Nat} {x : ByteArray} (h : xs[k]? = some x) : (xs.take (k + 1)).map toL = (xs.take k).map toL ++ [toL x] := by rw [take_snoc h, List.map_append]; rfl
theorem dec_yes {l : List UInt8} {xs : List ByteArray} {B : Int} (h : decSeq decBytes l = (xs, B, 0)) : decPage l = (xs.map toL, B, 0) := by unfold decPage; rw [h]; rfl
theorem dec_no {l : List UInt8} {xs : List ByteArray} {B E : Int} (h : decSeq decBytes l = (xs, B, E)) (hE : E ≠ 0) : decPage l = ([], 0, E) := by unfold decPage; rw [h]; exact if_neg hE

set_option maxHeartbeats 400000 in
theorem cell_Decode (l : List UInt8) (a : Option Addr) (n c : Nat) (w : World) (hs : Sl w 1 a n c (l.map B8)) (hl : l.length ≤ 1000000) :
    Calls Try.prog 46 #[.slice a n c] w (GivesD (decPage l) w) := by
  obtain ⟨⟨xs, B, E⟩, HD⟩ : ∃ r, Hid (decSeq decBytes l = r) := ⟨_, hide rfl⟩
  have HC := hide (GetStrings_at HD.out (by omega) hs)
  by_cases hE : E = 0
  · subst hE
    obtain ⟨hxl, hxs⟩ := dec_facts HD.out
    have hx6 : xs.length ≤ 1000000 := Nat.le_trans hxl hl
    rw [dec_yes HD.out]
    clear HD hxl hs
    go_enter Try.func46, Try.ntmps46
    go_wp2_with fail
    refine HC.out.mono ?_
    rintro e w1 ⟨a1, c1, rfl, ho1, hb1⟩
    have hsl := ho1.sl
    clear HC ho1
    go_wp2_with fail
    go_loopg [8, 22] xs.length (fun g s i w' => ∃ (k : Nat) (a2 : Option Addr) (c2 : Nat) (hs2 : List Hd), k ≤ xs.length ∧ g = xs.length - k ∧ i = .int .i64 k ∧ s = .slice a2 k c2 ∧ KPage w' w1.heap.size a2 c2 hs2 ((xs.take k).map toL) ∧ Below w1.heap.size w1 w')
    case atStart => exact ⟨0, none, 0, [], by omega, by omega, rfl, rfl, KPage.nil _ _, Below.refl _ _⟩
    case round =>
      obtain ⟨k, a2, c2, hs2, hk, hg, rfl, rfl, hkp, hbk⟩ := hrel
      have HG := hide hg
      clear hg
      by_cases hkl : k < xs.length
      · obtain ⟨x, hx⟩ : ∃ x, xs[k]? = some x := ⟨xs[k], by simp [hkl]⟩
        have HX := hide hx
        have hxm := hxs x (List.mem_of_getElem? hx)
        have HKL : Hid (((xs.take k).map toL).length = k) := hide (by rw [List.length_map, List.length_take]; omega)
        clear hx
        go_wp2_with (first
          | (with_reducible refine idx_s 24 _ _ _ _ _ xs rfl (hsl.below hbk) _ _ k rfl rfl x HX.out ?_; intro b o hcell hbo)
          | (with_reducible refine to_kind 28 _ x rfl (by unfold maxLen; omega) ?_; intro a4 c4 w4 hs4 hk4 hb4)
          | (at_builtin; refine app_k rfl _ _ rfl w1 w1.heap.size _ _ _ hs2 ((xs.take k).map toL) HKL.out rfl (hkp.below hb4) (a4, x.size, c4) (toL x) hs4 hk4 rfl (by omega) (Nat.le_trans hbk.size hb4.size) (hbk.trans (hb4.mono hbk.size)) ?_; intro a' c' w' ho' hb'))
        go_roundg (xs.length - (k + 1))
        case measure => have := HG.out; omega
        case rel => exact ⟨k + 1, a', c', hs2 ++ [(a4, x.size, c4)], by omega, rfl, by go_num, rfl, by rw [toL_snoc HX.out]; exact ho', hb'⟩
      · obtain rfl : k = xs.length := by omega
        have hbw : Below w.heap.size w wr := hb1.trans (hbk.mono hb1.size)
        rw [List.take_length] at hkp
        go_wp2_with fail
        go_ret3
        have hpg := hkp.pg
        exact ⟨a2, c2, hs2, by rw [List.length_map]; rfl, by rw [List.length_map] at hpg ⊢; exact hpg, hbw⟩
  · rw [dec_no HD.out hE]
    have hne : (E != 0) = true := by simp [hE]
    clear HD hs
    go_enter Try.func46, Try.ntmps46
    go_wp2_with fail
    refine HC.out.mono ?_
    rintro e w1 ⟨a1, c1, rfl, ho1, hb1⟩
    clear HC ho1
    go_wp2_with fail
    go_ret3
    exact ⟨none, 0, [], rfl, pg_nil _, hb1⟩

set_option maxHeartbeats 400000 in
theorem ref4_Decode (l : List UInt8) (a : Option Addr) (n c : Nat) (w : World) (hs : Sl w 1 a n c (l.map B8)) (hl : l.length ≤ 1000000) :
    Calls Try.prog 47 #[.slice a n c] w (GivesD (decPage l) w) := by
  obtain ⟨⟨xs, B, E⟩, HD⟩ : ∃ r, Hid (decSeq decBytes l = r) := ⟨_, hide rfl⟩
  have HC := hide (refStrings_at HD.out (by omega) hs)
  by_cases hE : E = 0
  · subst hE
    obtain ⟨hxl, hxs⟩ := dec_facts HD.out
    have hx6 : xs.length ≤ 1000000 := Nat.le_trans hxl hl
    rw [dec_yes HD.out]
    clear HD hxl hs
    go_enter Try.func47, Try.ntmps47
    go_wp2_with fail
    refine HC.out.mono ?_
    rintro e w1 ⟨a1, c1, rfl, ho1, hb1⟩
    have hsl := ho1.sl
    clear HC ho1
    go_wp2_with fail
    go_loopg [8, 9] xs.length (fun g s i w' => ∃ (k : Nat) (a2 : Option Addr) (c2 : Nat) (hs2 : List Hd), k ≤ xs.length ∧ g = xs.length - k ∧ i = .int .i64 k ∧ s = .slice a2 k c2 ∧ KPage w' w1.heap.size a2 c2 hs2 ((xs.take k).map toL) ∧ Below w1.heap.size w1 w')
    case atStart => exact ⟨0, none, 0, [], by omega, by omega, rfl, rfl, KPage.nil _ _, Below.refl _ _⟩
    case round =>
      obtain ⟨k, a2, c2, hs2, hk, hg, rfl, rfl, hkp, hbk⟩ := hrel
      have HG := hide hg
      clear hg
      by_cases hkl : k < xs.length
      · obtain ⟨x, hx⟩ : ∃ x, xs[k]? = some x := ⟨xs[k], by simp [hkl]⟩
        have HX := hide hx
        have hxm := hxs x (List.mem_of_getElem? hx)
        have HKL : Hid (((xs.take k).map toL).length = k) := hide (by rw [List.length_map, List.length_take]; omega)
        clear hx
        go_wp2_with (first
          | (with_reducible refine idx_s 28 _ _ _ _ _ xs rfl (hsl.below hbk) _ _ k rfl rfl x HX.out ?_; intro b o hcell hbo)
          | (with_reducible refine to_kind 30 _ x rfl (by unfold maxLen; omega) ?_; intro a4 c4 w4 hs4 hk4 hb4)
          | (at_builtin; refine app_k rfl _ _ rfl w1 w1.heap.size _ _ _ hs2 ((xs.take k).map toL) HKL.out rfl (hkp.below hb4) (a4, x.size, c4) (toL x) hs4 hk4 rfl (by omega) (Nat.le_trans hbk.size hb4.size) (hbk.trans (hb4.mono hbk.size)) ?_; intro a' c' w' ho' hb'))
        go_roundg (xs.length - (k + 1))
        case measure => have := HG.out; omega
        case rel => exact ⟨k + 1, a', c', hs2 ++ [(a4, x.size, c4)], by omega, rfl, by go_num, rfl, by rw [toL_snoc HX.out]; exact ho', hb'⟩
      · obtain rfl : k = xs.length := by omega
        have hbw : Below w.heap.size w wr := hb1.trans (hbk.mono hb1.size)
        rw [List.take_length] at hkp
        go_wp2_with fail
        go_ret3
        have hpg := hkp.pg
        exact ⟨a2, c2, hs2, by rw [List.length_map]; rfl, by rw [List.length_map] at hpg ⊢; exact hpg, hbw⟩
  · rw [dec_no HD.out hE]
    have hne : (E != 0) = true := by simp [hE]
    clear HD hs
    go_enter Try.func47, Try.ntmps47
    go_wp2_with fail
    refine HC.out.mono ?_
    rintro e w1 ⟨a1, c1, rfl, ho1, hb1⟩
    clear HC ho1
    go_wp2_with fail
    go_ret3
    exact ⟨none, 0, [], rfl, pg_nil _, hb1⟩
end Go.Proofs.Ythfljnlankmoiaa
end

/- the text CL1 -/
section
namespace Go.Proofs.Ythfljnlankmoiaa
open Go.RowKit Go.Dx

theorem of_dots_fin : ∀ n : Fin 256, ofL (dotsL (UInt8.ofNat n.val)) = (n.val % 64, 0) := by decide +kernel
theorem of_dots (u : UInt8) : ofL (dotsL u) = (u.toNat % 64, 0) := by
  have h := of_dots_fin ⟨u.toNat, u.toNat_lt⟩
  rw [of_u8] at h; exact h
theorem back_back_fin : ∀ n : Fin 256, (backC (backC (UInt8.ofNat n.val))).toNat = n.val % 64 := by decide +kernel
theorem back_back (u : UInt8) : (backC (backC u)).toNat = u.toNat % 64 := by
  have h := back_back_fin ⟨u.toNat, u.toNat_lt⟩
  rw [of_u8] at h; exact h
theorem back_dots_fin : ∀ n : Fin 256, (dotsL (backC (UInt8.ofNat n.val))).length = (dotsL (UInt8.ofNat n.val)).length := by decide +kernel
theorem back_dots (u : UInt8) : (dotsL (backC u)).length = (dotsL u).length := by
  have h := back_dots_fin ⟨u.toNat, u.toNat_lt⟩
  rw [of_u8] at h; exact h
theorem refOf_at {l : List Int} {r : Nat × Int} (h : ofL l = r) {a : Option Addr} {n c : Nat} {w : World} (hs : Sl w 1 a n c (l.map I64)) :
    Calls Try.prog 10 #[.slice a n c] w fun e w' => e = .returned (ROf r) ∧ Below w.heap.size w w' := by
  subst h; exact (ref_Of l a n c w hs).mono fun e w' ⟨h1, n, h2⟩ => ⟨h1, h2 ▸ Still.below n⟩
theorem refDots_at {u : UInt8} {v : Int} {l : List Int} (hv : (u.toNat : Int) = v) (h : dotsL u = l) {w : World} :
    Calls Try.prog 13 #[.int .u8 v] w (Gives 3 1 l.length (l.map I64) w) := by subst hv h; exact ref_Dots u w
theorem refBack_at {u : UInt8} {v k : Int} (hv : (u.toNat : Int) = v) (h : ((backC u).toNat : Int) = k) {w : World} :
    Calls Try.prog 15 #[.int .u8 v] w fun e w' => e = .returned (.int .u8 k) ∧ Below w.heap.size w w' := by subst hv h; exact ref_Back u w
theorem few_at {l r : List UInt8} {m : Nat} {v : Int} (hv : (m : Int) = v) (h : l.take m = r) (hm : m ≤ 1000000) {a : Option Addr} {n c : Nat} {w : World} (hs : Sl w 1 a n c (l.map B8)) :
    Calls Try.prog 17 #[.slice a n c, .int .i64 v] w (Gives 5 1 r.length (r.map B8) w) := by subst hv h; exact law4_few l m a n c w hs hm
theorem Valid_at {l : List UInt8} {v : Bool} (h : validB l = v) {a : Option Addr} {n c : Nat} {w : World} (hs : Sl w 1 a n c (l.map B8)) :
    Calls Try.prog 16 #[.slice a n c] w fun e w' => e = .returned (.bool v) ∧ w = w' := by subst h; exact cell_Valid l a n c w hs
theorem refValid_at {l : List UInt8} {v : Bool} (h : validB l = v) {a : Option Addr} {n c : Nat} {w : World} (hs : Sl w 1 a n c (l.map B8)) :
    Calls Try.prog 18 #[.slice a n c] w fun e w' => e = .returned (.bool v) ∧ w = w' := by subst h; exact ref_Valid l a n c w hs

set_option maxRecDepth 100000 in
set_option maxHeartbeats 2000000 in
theorem walk_CellDots (u : UInt8) (l : List Int) (a : Option Addr) (n c : Nat) (k : List UInt8) (a2 : Option Addr) (n2 c2 : Nat) (w : World) (hs : Sl w 1 a n c (l.map I64)) (hk : Sl w 1 a2 n2 c2 (k.map B8)) :
    Calls Try.prog 3 #[.int .u8 (u.toNat : Int), .slice a n c, .slice a2 n2 c2] w fun e w' => e = .returned (.bool true) ∧ Below w.heap.size w w' := by
  have hcap := Nat.le_trans hs.le hs.cap
  unfold maxLen at hcap
  obtain rfl := hs.n_eq
  obtain ⟨m, hm, hml⟩ : ∃ m, m = min l.length 8 ∧ m ≤ l.length := ⟨_, rfl, by omega⟩
  have hst : Sl w 1 a m c ((l.take m).map I64) := by have := hs.take m hml; rw [← List.map_take] at this; exact this
  obtain ⟨s, Hs⟩ : ∃ s, Hid (ofL (l.take m) = s) := ⟨_, hide rfl⟩
  obtain ⟨o, x⟩ := s
  obtain ⟨ds, Hds⟩ : ∃ ds, Hid (dotsL u = ds) := ⟨_, hide rfl⟩
  obtain ⟨bc, Hbc⟩ : ∃ bc, Hid (backC u = bc) := ⟨_, hide rfl⟩
  obtain ⟨kt, Hkt⟩ : ∃ kt, Hid (k.take 40 = kt) := ⟨_, hide rfl⟩
  obtain ⟨v, Hv⟩ : ∃ v, Hid (validB kt = v) := ⟨_, hide rfl⟩
  obtain ⟨r, Hr⟩ : ∃ r, Hid (u.toNat % 64 = r) := ⟨_, hide rfl⟩
  have n1 : ((o : Int) != (o : Int)) = false := by simp
  have n2' : (x != x) = false := by simp
  have n3 : ((bc.toNat : Int) != (bc.toNat : Int)) = false := by simp
  have n4 : (v != v) = false := by simp
  have n5 : ((r : Int) == (u.toNat : Int) % 64) = true := by rw [← Hr.out]; simp
  have b0 : Below w.heap.size w w ∧ w.heap.size ≤ w.heap.size := ⟨Below.refl _ _, Nat.le_refl _⟩
  have MM : Hid ((min (l.length : Int) 8).toNat = m) := by show _ = _; omega
  have hle := hs.le
  have hc1 : 0 ≤ min (l.length : Int) 8 := by omega
  have hc2 : min (l.length : Int) 8 ≤ (c : Int) := by omega
  clear hm hml hle
  go_enter Try.func3, Try.ntmps3
  go_wp2_with fail
  rw [MM.out]
  refine (Of_at Hs.out hst).mono ?_
  rintro e w1 ⟨rfl, rfl⟩
  go_wp2_with fail
  refine (refOf_at Hs.out hst).mono ?_
  rintro e w1 ⟨rfl, hb⟩
  have b1 := bs0 b0 hb
  clear hb b0
  go_wp2_with fail
  refine (Dots_at rfl Hds.out).mono ?_
  rintro e w2 ⟨a3, c3, rfl, o3, hb⟩
  have b2 := bs0 b1 hb
  clear hb b1
  go_wp2_with fail
  refine (refDots_at rfl Hds.out).mono ?_
  rintro e w3 ⟨a4, c4, rfl, o4, hb⟩
  have b3 := bs0 b2 hb
  have o3' := o3.sl.below hb
  clear hb b2 o3
  go_wp2_with fail
  refine (SameInts_at (l1 := ds) (l2 := ds) (r := true) (by simp) o3' o4.sl).mono ?_
  rintro e w4 ⟨rfl, hb⟩
  have b4 := bs0 b3 hb
  clear hb b3 o3' o4
  go_wp2_with fail
  refine (Back_at rfl (by rw [Hbc.out])).mono ?_
  rintro e w5 ⟨rfl, rfl⟩
  go_wp2_with fail
  refine (refBack_at rfl (by rw [Hbc.out])).mono ?_
  rintro e w5 ⟨rfl, hb⟩
  have b5 := bs0 b4 hb
  clear hb b4
  go_wp2_with fail
  refine (few_at (m := 40) rfl Hkt.out (by omega) (hk.below b5.1)).mono ?_
  rintro e w6 ⟨a5, c5, rfl, o5, hb⟩
  have b6 := bs0 b5 hb
  clear hb b5
  go_wp2_with fail
  refine (Valid_at Hv.out o5.sl).mono ?_
  rintro e w7 ⟨rfl, rfl⟩
  go_wp2_with fail
  refine (few_at (m := 40) rfl Hkt.out (by omega) (hk.below b6.1)).mono ?_
  rintro e w7 ⟨a6, c6, rfl, o6, hb⟩
  have b7 := bs0 b6 hb
  clear hb b6 o5
  go_wp2_with fail
  refine (refValid_at Hv.out o6.sl).mono ?_
  rintro e w8 ⟨rfl, rfl⟩
  clear o6
  go_wp2_with fail
  refine (Dots_at rfl Hds.out).mono ?_
  rintro e w8 ⟨a7, c7, rfl, o7, hb⟩
  have b8 := bs0 b7 hb
  clear hb b7
  go_wp2_with fail
  refine (Of_at (l := ds) (r := (r, 0)) (by rw [← Hds.out, of_dots, Hr.out]) o7.sl).mono ?_
  rintro e w9 ⟨rfl, rfl⟩
  clear o7
  go_wp2_with fail
  refine (Back_at rfl (by rw [Hbc.out])).mono ?_
  rintro e w9 ⟨rfl, rfl⟩
  go_wp2_with fail
  refine (Back_at rfl (k := (r : Int)) (by rw [← Hbc.out, back_back, Hr.out])).mono ?_
  rintro e w9 ⟨rfl, rfl⟩
  go_wp2_with fail
  refine (Back_at rfl (by rw [Hbc.out])).mono ?_
  rintro e w9 ⟨rfl, rfl⟩
  go_wp2_with fail
  refine (Dots_at rfl rfl).mono ?_
  rintro e w9 ⟨a8, c8, rfl, o8, hb⟩
  have b9 := bs0 b8 hb
  have hlen : (dotsL bc).length = ds.length := by rw [← Hbc.out, back_dots, Hds.out]
  rw [hlen]
  clear hb b8 o8 hlen
  go_wp2_with fail
  refine (Dots_at rfl Hds.out).mono ?_
  rintro e w10 ⟨a9, c9, rfl, o9, hb⟩
  have b10 := bs0 b9 hb
  clear hb b9 o9
  go_wp2_with fail
  refine (law4_lives _).mono ?_
  rintro e w11 ⟨rfl, hb⟩
  have b11 := bs0 b10 hb
  go_wp2_with fail
  go_ret
  exact ⟨rfl, b11.1⟩
end Go.Proofs.Ythfljnlankmoiaa
end

/- the text C23 -/
section
namespace Go.Proofs.Ythfljnlankmoiaa
open Go.RowKit Go.Dx

/-- a number below m out of another, out of a list -/
def aroundF (n : Int) (m : Nat) : Nat := ((if n < 0 then -(n + 1) else n) % (m : Int)).toNat
def atF (l : List Int) (i : Int) (m : Nat) : Nat := if i < 0 ∨ (l.length : Int) ≤ i then 0 else aroundF (l.getD i.toNat 0) m
theorem aroundF_eq {n : Int} {m : Nat} (hm : 1 ≤ m) : (if n < 0 then -(n + 1) else n) % (m : Int) = (aroundF n m : Int) := by
  have h3 := Int.emod_nonneg (if n < 0 then -(n + 1) else n) (show (m : Int) ≠ 0 by omega)
  unfold aroundF; omega
theorem aroundF_lt {n : Int} {m : Nat} (hm : 1 ≤ m) : aroundF n m < m := by
  have h2 := Int.emod_lt_of_pos (if n < 0 then -(n + 1) else n) (show (0 : Int) < m by omega)
  have h3 := aroundF_eq (n := n) hm
  omega
theorem atF_lt {l : List Int} {i : Int} {m : Nat} (hm : 1 ≤ m) : atF l i m < m := by
  unfold atF; split
  · omega
  · exact aroundF_lt hm
set_option maxHeartbeats 400000 in
theorem ref_Around (n v : Int) (m : Nat) (w : World) (hv : (m : Int) = v) (h0 : -9223372036854775808 ≤ n) (h1 : n ≤ 9223372036854775807) (hm : 1 ≤ m) (hm2 : m ≤ 1000000000) :
    Calls Try.prog 25 #[.int .i64 n, .int .i64 v] w fun e w' => e = .returned (.int .i64 (aroundF n m : Nat)) ∧ w = w' := by
  subst hv
  have hr := aroundF_eq (n := n) hm
  obtain ⟨r, HR⟩ : ∃ r, Hid (aroundF n m = r) := ⟨_, hide rfl⟩
  rw [HR.out] at hr ⊢
  by_cases hn : n < 0
  · rw [if_pos hn] at hr
    have HH := hide hr
    clear hr
    go_enter Try.func25, Try.ntmps25
    go_wp2
    go_ret
    exact ⟨by rw [← HH.out, ← Int.tmod_eq_emod_of_nonneg (by omega), Int.neg_tmod]; rfl, rfl⟩
  · rw [if_neg hn] at hr
    have HH := hide hr
    clear hr
    go_enter Try.func25, Try.ntmps25
    go_wp2
    go_ret
    exact ⟨by rw [← HH.out]; rfl, rfl⟩
set_option maxHeartbeats 400000 in
theorem ref_At (l : List Int) (a : Option Addr) (n c : Nat) (i v : Int) (m : Nat) (w : World) (hs : Sl w 1 a n c (l.map I64)) (hl : ∀ x ∈ l, -9223372036854775808 ≤ x ∧ x ≤ 9223372036854775807) (hv : (m : Int) = v) (hm : 1 ≤ m) (hm2 : m ≤ 1000000000) :
    Calls Try.prog 55 #[.slice a n c, .int .i64 i, .int .i64 v] w fun e w' => e = .returned (.int .i64 (atF l i m : Nat)) ∧ w = w' := by
  obtain rfl := hs.n_eq
  have hcap := Nat.le_trans hs.le hs.cap
  unfold maxLen at hcap
  obtain ⟨r, HR⟩ : ∃ r, Hid (atF l i m = r) := ⟨_, hide rfl⟩
  rw [HR.out]
  by_cases h1 : i < 0
  · have d1 : decide (i < 0) = true := decide_eq_true h1
    have HE : Hid (r = 0) := by show _ = _; rw [← HR.out]; exact if_pos (.inl h1)
    go_enter Try.func55, Try.ntmps55
    go_wp2
    go_ret
    exact ⟨by rw [HE.out]; first | done | rfl, rfl⟩
  · have d1 : decide (i < 0) = false := decide_eq_false h1
    by_cases h2 : (l.length : Int) ≤ i
    · have d2 : decide ((l.length : Int) ≤ i) = true := decide_eq_true h2
      have HE : Hid (r = 0) := by show _ = _; rw [← HR.out]; exact if_pos (.inr h2)
      go_enter Try.func55, Try.ntmps55
      go_wp2
      go_ret
      exact ⟨by rw [HE.out]; first | done | rfl, rfl⟩
    · have d2 : decide ((l.length : Int) ≤ i) = false := decide_eq_false h2
      have HE0 : Hid (r = aroundF (l.getD i.toNat 0) m) := by
        show _ = _; rw [← HR.out]; exact if_neg (by omega)
      obtain ⟨k, rfl⟩ := Int.eq_ofNat_of_zero_le (show 0 ≤ i by omega)
      have hk : k < l.length := by omega
      obtain ⟨x, hx⟩ : ∃ x, l[k]? = some x := ⟨l[k], by simp [hk]⟩
      obtain ⟨hx1, hx2⟩ := hl x (List.mem_of_getElem? hx)
      have HE : Hid (r = aroundF x m) := by
        show _ = _; rw [HE0.out, Int.toNat_natCast, List.getD_eq_getElem?_getD, hx]; rfl
      have HX := hide hx
      clear hx HE0
      go_enter Try.func55, Try.ntmps55
      go_wp2_with (first
        | (with_reducible refine idx_i 17 _ _ _ _ _ l rfl hs _ _ k rfl rfl x HX.out ?_; intro b o hcell hbo)
        | (go_at_call 25; refine (ref_Around x _ m _ hv hx1 hx2 hm hm2).mono ?_; rintro e w2 ⟨rfl, rfl⟩))
      go_ret
      exact ⟨by rw [HE.out]; first | done | rfl, rfl⟩
theorem At_at {l : List Int} {i v : Int} {m r : Nat} (h : atF l i m = r) (hv : (m : Int) = v) (hm : 1 ≤ m) (hm2 : m ≤ 1000000000) (hl : ∀ x ∈ l, -9223372036854775808 ≤ x ∧ x ≤ 9223372036854775807) {a : Option Addr} {n c : Nat} {w : World} (hs : Sl w 1 a n c (l.map I64)) :
    Calls Try.prog 55 #[.slice a n c, .int .i64 i, .int .i64 v] w fun e w' => e = .returned (.int .i64 (r : Int)) ∧ w = w' := by
  subst h; exact ref_At l a n c i v m w hs hl hv hm hm2
theorem Around_at {n v : Int} {m r : Nat} (h : aroundF n m = r) (hv : (m : Int) = v) (hm : 1 ≤ m) (hm2 : m ≤ 1000000000) (h0 : -9223372036854775808 ≤ n) (h1 : n ≤ 9223372036854775807) {w : World} :
    Calls Try.prog 25 #[.int .i64 n, .int .i64 v] w fun e w' => e = .returned (.int .i64 (r : Int)) ∧ w = w' := by
  subst h; exact ref_Around n v m w hv h0 h1 hm hm2
end Go.Proofs.Ythfljnlankmoiaa
end

/- the text C24 -/
section
namespace Go.Proofs.Ythfljnlankmoiaa
open Go.RowKit Go.Dx

/-- the memory while a raster's dots are appended -/
structure RAW (w w' : World) (W H : Nat) (a : Option Addr) (m c : Nat) (bs : List Bool) : Prop where
  res : Box w' w.heap.size 36 [.int .i64 0, .int .i64 0, .slice none 0 0]
  ras : Box w' (w.heap.size + 1) 36 [.int .i64 W, .int .i64 H, .slice a m c]
  own : Own w' (w.heap.size + 2) 4 1 a m c (bs.map Value.bool)
  bel : Below w.heap.size w w'
theorem RAW.under {w w' w2 : World} {W H m c : Nat} {a : Option Addr} {bs : List Bool} (h : RAW w w' W H a m c bs) (hb : Below w'.heap.size w' w2) : RAW w w2 W H a m c bs :=
  ⟨h.res.under hb, h.ras.under hb, h.own.below hb, h.bel.trans (hb.mono h.bel.size)⟩
theorem RAW.lt {w w' : World} {W H m c : Nat} {a : Option Addr} {bs : List Bool} (h : RAW w w' W H a m c bs) : w.heap.size + 2 ≤ w'.heap.size := h.ras.lt
theorem RAW.ne {w w' : World} {W H m c : Nat} {a : Option Addr} {bs : List Bool} (h : RAW w w' W H a m c bs) : ∀ b, b < w.heap.size + 2 → some b ≠ a.map (·.block) := by
  intro b hb
  cases a with
  | none => simp
  | some q => have := h.own.base.1; simp; omega
theorem RAW.keep {w w' w2 : World} {W H m c : Nat} {a : Option Addr} {bs : List Bool} (h : RAW w w' W H a m c bs) (hg : w'.grownBy w2 (a.map (·.block))) : Box w2 (w.heap.size + 1) 36 [.int .i64 W, .int .i64 H, .slice a m c] :=
  h.ras.grown hg (h.ne _ (by omega))
theorem RAW.put {w w' w2 : World} {W H m c c' : Nat} {a a' : Option Addr} {bs : List Bool} {v : Bool} (h : RAW w w' W H a m c bs) (ho : Own w2 (w.heap.size + 2) 4 1 a' (m + 1) c' (bs.map Value.bool ++ [.bool v])) (hg : w'.grownBy w2 (a.map (·.block))) :
    RAW w (w2.setCell ⟨w.heap.size + 1, 2, none⟩ (.slice a' (m + 1) c')) W H a' (m + 1) c' (bs ++ [v]) := by
  have hne := h.ne
  refine ⟨(h.res.grown hg (hne _ (by omega))).far (by simp) _, (h.ras.grown hg (hne _ (by omega))).put 2 _, ?_, ?_⟩
  · rw [List.map_append]
    exact ownsRow_setCell_below ho (by simp) _
  · refine ((h.bel.grown hg h.bel.size ?_).setCell (p := ⟨w.heap.size + 1, 2, none⟩) (by simp) _)
    intro k hk
    cases a with
    | none => cases hk
    | some q => have := h.own.base.1; simp at hk; omega

/-- What a call hands back that returns a small valid raster. -/
def GivesRas (w : World) (r : Ending) (w' : World) : Prop :=
  ∃ (W H : Nat) (bs : List Bool) (a : Option Addr) (c : Nat), W ≤ 14 ∧ H ≤ 13 ∧ bs.length = W * H ∧ r = .returned (RV W H a (W * H) c) ∧ Sl w' 1 a (W * H) c (bs.map Value.bool) ∧ Below w.heap.size w w'

set_option maxRecDepth 100000 in
set_option maxHeartbeats 1000000 in
theorem ref_Raster (l : List Int) (a : Option Addr) (n c : Nat) (w : World) (hs : Sl w 1 a n c (l.map I64)) (hl : ∀ x ∈ l, -9223372036854775808 ≤ x ∧ x ≤ 9223372036854775807) :
    Calls Try.prog 20 #[.slice a n c] w (GivesRas w) := by
  obtain ⟨W, HW⟩ : ∃ W, Hid (atF l 0 15 = W) := ⟨_, hide rfl⟩
  obtain ⟨H, HH⟩ : ∃ H, Hid (atF l 1 14 = H) := ⟨_, hide rfl⟩
  have hW : W ≤ 14 := by rw [← HW.out]; have := atF_lt (l := l) (i := 0) (m := 15) (by omega); omega
  have hH : H ≤ 13 := by rw [← HH.out]; have := atF_lt (l := l) (i := 1) (m := 14) (by omega); omega
  obtain ⟨N, HN⟩ : ∃ N, Hid (W * H = N) := ⟨_, hide rfl⟩
  have hN : N ≤ 182 := by rw [← HN.out]; exact Nat.mul_le_mul hW hH
  have HL := hide hl
  clear hl
  have hq := fun (i v : Int) (m r : Nat) (h : atF l i m = r) (hv : (m : Int) = v) (h1 : 1 ≤ m) (h2 : m ≤ 1000000000) (w' : World) (hb : Below w.heap.size w w') => At_at h hv h1 h2 HL.out (hs.below hb)
  have HQ := hide hq
  clear hq
  go_enter Try.func20, Try.ntmps20
  go_wp2_with fail
  refine (HQ.out 0 _ 15 W HW.out rfl (by omega) (by omega) _ (bl1 w _)).mono ?_
  rintro e w1 ⟨rfl, rfl⟩
  go_wp2_with fail
  refine (HQ.out 1 _ 14 H HH.out rfl (by omega) (by omega) _ (bl1 w _)).mono ?_
  rintro e w1 ⟨rfl, rfl⟩
  go_wp2_with fail
  have hU0 : RAW w ((w.alloc (.cells #[.int .i64 0, .int .i64 0, .slice none 0 0] 36)).alloc (.cells #[.int .i64 W, .int .i64 H, .slice none 0 0] 36)) W H none 0 0 [] :=
    ⟨un_box0 (Below.refl _ _), un_box (Below.refl _ _), Own.nil _ _ _ _, bl2 _ _ _⟩
  go_loopg [4] N (fun g i w' => ∃ (k : Nat) (a2 : Option Addr) (c2 : Nat) (bs : List Bool), k ≤ N ∧ g = N - k ∧ bs.length = k ∧ i = .int .i64 k ∧ RAW w w' W H a2 k c2 bs)
  case atStart => exact ⟨0, none, 0, [], by omega, by omega, rfl, rfl, hU0⟩
  case round =>
    clear hU0
    obtain ⟨m, a2, c2, bs, hm, hg, hbs, rfl, hU1⟩ := hrel
    have HG := hide hg
    have HBS := hide hbs
    clear hg hbs
    have e0 := hU1.ras.at_ (j := 0) rfl
    have e1 := hU1.ras.at_ (j := 1) rfl
    have MN : Hid (wrap64 ((W : Int) * (H : Int)) = (N : Int)) := by
      show _ = _
      rw [← Int.natCast_mul, HN.out]; exact IntWalk.wrap64_in _ (by omega)
    by_cases hml : m < N
    · obtain ⟨p, Hp⟩ : ∃ p, Hid (p = m % 37) := ⟨_, rfl⟩
      obtain ⟨d, Hd⟩ : ∃ d, Hid (d = m / 37) := ⟨_, rfl⟩
      obtain ⟨r, Hr⟩ : ∃ r, Hid (atF l (2 + (p : Int)) 1000 = r) := ⟨_, hide rfl⟩
      have hr : r < 1000 := by rw [← Hr.out]; exact atF_lt (by omega)
      obtain ⟨q, Hq⟩ : ∃ q, Hid (q = r / (1 + d)) := ⟨_, rfl⟩
      have hp37 : p < 37 := by rw [Hp.out]; omega
      have hd5 : d ≤ 5 := by rw [Hd.out]; omega
      have hq1 : q < 1000 := by rw [Hq.out]; exact Nat.lt_of_le_of_lt (Nat.div_le_self _ _) hr
      obtain ⟨t, Ht⟩ : ∃ t, Hid (t = q % 2) := ⟨_, rfl⟩
      obtain ⟨v, Hv⟩ : ∃ v, Hid (((t : Int) == 1) = v) := ⟨_, hide rfl⟩
      have Mp : Hid ((m : Int) % 37 = (p : Int)) := by show _ = _; rw [Hp.out]; omega
      have Md : Hid ((m : Int) / 37 = (d : Int)) := by show _ = _; rw [Hd.out]; omega
      have Mq : Hid ((r : Int) / (1 + (d : Int)) = (q : Int)) := by
        show _ = _
        rw [Hq.out, show (1 + (d : Int)) = ((1 + d : Nat) : Int) by omega, Int.natCast_ediv]
      have Mt : Hid ((q : Int) % 2 = (t : Int)) := by show _ = _; rw [Ht.out]; omega
      have hcall : ∀ w', Below wr.heap.size wr w' → Calls Try.prog 55 #[.slice a n c, .int .i64 (2 + (p : Int)), .int .i64 1000] w' fun e w2 => e = .returned (.int .i64 (r : Int)) ∧ w' = w2 := fun w' hb =>
        HQ.out _ _ 1000 r Hr.out rfl (by omega) (by omega) w' (hU1.bel.trans (hb.mono hU1.bel.size))
      have mN := MN.out
      go_wp2_with fail
      clear mN
      refine wp_region_free 14 [⟨0, 19, [19], fun vs _ => vs = [.pointer (some ⟨w.heap.size + 1, 2, none⟩)]⟩, ⟨1, 20, [20], fun vs _ => vs = [.slice a2 m c2]⟩, ⟨2, 21, [21], fun vs _ => vs = [.slice a n c]⟩, ⟨3, 22, [22], fun vs _ => vs = [.int .i64 (m : Int)]⟩, ⟨4, 23, [23], fun vs _ => vs = [.int .i64 (p : Int)]⟩, ⟨5, 24, [24], fun vs _ => vs = [.int .i64 (2 + (p : Int))]⟩, ⟨6, 25, [25], fun vs _ => vs = [.int .i64 (r : Int)]⟩, ⟨7, 26, [26], fun vs _ => vs = [.int .i64 (m : Int)]⟩, ⟨8, 27, [27], fun vs _ => vs = [.int .i64 (d : Int)]⟩, ⟨9, 28, [28], fun vs _ => vs = [.int .i64 (1 + (d : Int))]⟩, ⟨10, 29, [29], fun vs _ => vs = [.int .i64 (q : Int)]⟩, ⟨11, 30, [30], fun vs _ => vs = [.int .i64 (t : Int)]⟩, ⟨12, 31, [31], fun vs _ => vs = [.bool v]⟩, ⟨13, 32, [32], fun vs w => ∃ b, vs = [.slice (some ⟨b, 0, none⟩) 1 1] ∧ Sl w 1 (some ⟨b, 0, none⟩) 1 1 [.bool v]⟩] (by kernel_rfl) (by kernel_rfl) ?_ ?_ ?_
      · simp only [All]
        refine ⟨fun _ _ _ _ h => h, fun _ _ _ _ h => h, fun _ _ _ _ h => h, fun _ _ _ _ h => h, fun _ _ _ _ h => h, fun _ _ _ _ h => h, fun _ _ _ _ h => h, fun _ _ _ _ h => h, fun _ _ _ _ h => h, fun _ _ _ _ h => h, fun _ _ _ _ h => h, fun _ _ _ _ h => h, fun _ _ _ _ h => h, ?_, trivial⟩
        · rintro vs w w' hb ⟨b, h1, h2⟩
          exact ⟨b, h1, h2.below hb⟩
      · simp only [All]
        refine ⟨?_, ?_, ?_, ?_, ?_, ?_, ?_, ?_, ?_, ?_, ?_, ?_, ?_, ?_, trivial⟩
        · intro o ho a' w' hb hfr hdep
          obtain rfl := Option.some.inj ho
          have g3 : a'.tmps[3]?.getD undef = .pointer (some ⟨w.heap.size + 1, 0, none⟩) := by have h := hfr 3 (by kernel_rfl); simpa using h
          clear ho hfr hdep
          go_wp2_with fail
          exact ⟨rfl, _, rfl, Below.refl _ _, rfl⟩
        · intro o ho a' w' hb hfr hdep
          obtain rfl := Option.some.inj ho
          have g19 : a'.tmps[19]?.getD undef = .pointer (some ⟨w.heap.size + 1, 2, none⟩) := by have h := hdep 0 _ rfl (by kernel_rfl); simpa using h
          clear ho hfr hdep
          have hq := (hU1.ras.under hb).at_ (j := 2) rfl
          go_wp2_with fail
          exact ⟨rfl, _, rfl, Below.refl _ _, rfl⟩
        · intro o ho a' w' hb hfr hdep
          obtain rfl := Option.some.inj ho
          have g0 : a'.tmps[0]?.getD undef = .slice a n c := by have h := hfr 0 (by kernel_rfl); simpa using h
          clear ho hfr hdep
          go_wp2_with fail
          exact ⟨rfl, _, rfl, Below.refl _ _, rfl⟩
        · intro o ho a' w' hb hfr hdep
          obtain rfl := Option.some.inj ho
          have g4 : a'.tmps[4]?.getD undef = .int .i64 (m : Int) := by have h := hfr 4 (by kernel_rfl); simpa using h
          clear ho hfr hdep
          go_wp2_with fail
          exact ⟨rfl, _, rfl, Below.refl _ _, rfl⟩
        · intro o ho a' w' hb hfr hdep
          obtain rfl := Option.some.inj ho
          have g22 : a'.tmps[22]?.getD undef = .int .i64 (m : Int) := by have h := hdep 3 _ rfl (by kernel_rfl); simpa using h
          clear ho hfr hdep
          go_wp2_with fail
          exact ⟨rfl, _, rfl, Below.refl _ _, by show [Value.int .i64 ((m : Int) % 37)] = _; rw [Mp.out]⟩
        · intro o ho a' w' hb hfr hdep
          obtain rfl := Option.some.inj ho
          have g23 : a'.tmps[23]?.getD undef = .int .i64 (p : Int) := by have h := hdep 4 _ rfl (by kernel_rfl); simpa using h
          clear ho hfr hdep
          go_wp2_with fail
          exact ⟨rfl, _, rfl, Below.refl _ _, rfl⟩
        · intro o ho a' w' hb hfr hdep
          obtain rfl := Option.some.inj ho
          have g21 : a'.tmps[21]?.getD undef = .slice a n c := by have h := hdep 2 _ rfl (by kernel_rfl); simpa using h
          have g24 : a'.tmps[24]?.getD undef = .int .i64 (2 + (p : Int)) := by have h := hdep 5 _ rfl (by kernel_rfl); simpa using h
          clear ho hfr hdep
          go_wp2_with fail
          refine (hcall _ hb).mono ?_
          rintro e w2 ⟨rfl, rfl⟩
          go_wp2_with fail
          exact ⟨rfl, _, rfl, Below.refl _ _, rfl⟩
        · intro o ho a' w' hb hfr hdep
          obtain rfl := Option.some.inj ho
          have g4 : a'.tmps[4]?.getD undef = .int .i64 (m : Int) := by have h := hfr 4 (by kernel_rfl); simpa using h
          clear ho hfr hdep
          go_wp2_with fail
          exact ⟨rfl, _, rfl, Below.refl _ _, rfl⟩
        · intro o ho a' w' hb hfr hdep
          obtain rfl := Option.some.inj ho
          have g26 : a'.tmps[26]?.getD undef = .int .i64 (m : Int) := by have h := hdep 7 _ rfl (by kernel_rfl); simpa using h
          clear ho hfr hdep
          have md := Md.out
          go_wp2_with fail
          exact ⟨rfl, _, rfl, Below.refl _ _, rfl⟩
        · intro o ho a' w' hb hfr hdep
          obtain rfl := Option.some.inj ho
          have g27 : a'.tmps[27]?.getD undef = .int .i64 (d : Int) := by have h := hdep 8 _ rfl (by kernel_rfl); simpa using h
          clear ho hfr hdep
          go_wp2_with fail
          exact ⟨rfl, _, rfl, Below.refl _ _, rfl⟩
        · intro o ho a' w' hb hfr hdep
          obtain rfl := Option.some.inj ho
          have g25 : a'.tmps[25]?.getD undef = .int .i64 (r : Int) := by have h := hdep 6 _ rfl (by kernel_rfl); simpa using h
          have g28 : a'.tmps[28]?.getD undef = .int .i64 (1 + (d : Int)) := by have h := hdep 9 _ rfl (by kernel_rfl); simpa using h
          clear ho hfr hdep
          have mq := Mq.out
          go_wp2_with fail
          exact ⟨rfl, _, rfl, Below.refl _ _, rfl⟩
        · intro o ho a' w' hb hfr hdep
          obtain rfl := Option.some.inj ho
          have g29 : a'.tmps[29]?.getD undef = .int .i64 (q : Int) := by have h := hdep 10 _ rfl (by kernel_rfl); simpa using h
          clear ho hfr hdep
          go_wp2_with fail
          exact ⟨rfl, _, rfl, Below.refl _ _, by show [Value.int .i64 ((q : Int) % 2)] = _; rw [Mt.out]⟩
        · intro o ho a' w' hb hfr hdep
          obtain rfl := Option.some.inj ho
          have g30 : a'.tmps[30]?.getD undef = .int .i64 (t : Int) := by have h := hdep 11 _ rfl (by kernel_rfl); simpa using h
          clear ho hfr hdep
          have hv := Hv.out
          go_wp2_with fail
          exact ⟨rfl, _, rfl, Below.refl _ _, rfl⟩
        · intro o ho a' w' hb hfr hdep
          obtain rfl := Option.some.inj ho
          have g31 : a'.tmps[31]?.getD undef = .bool v := by have h := hdep 12 _ rfl (by kernel_rfl); simpa using h
          clear ho hfr hdep
          go_wp2_with fail
          exact ⟨rfl, _, rfl, bl1 _ _, _, rfl, Sl.fresh _ _ 1 1 [.bool v] rfl (by unfold maxLen; omega)⟩
      · intro g w2 hb hp
        have p1 := hp 1 _ rfl
        obtain ⟨b, p16, hsb⟩ := hp 13 _ rfl
        clear hp
        simp at p1 p16
        simp only [List.map_cons, List.map_nil, putAll, Act.put, List.setIfInBounds_toArray, List.set_cons_succ, List.set_cons_zero, p1, p16]
        have hU2 := hU1.under hb
        refine append_own rfl _ _ 34 rfl 4 (.bool false) 1 1 Try.underlying34 info_bool rfl w2 (w.heap.size + 2) a2 m c2 _ (by rfl) hU2.own _ 1 1 [.bool v] (by rfl) hsb (by simp [Value.oneCell']) (by omega) (by unfold maxLen; omega) hU2.lt (Below.refl _ _) ?_
        intro a' c' w3 ho' hgr' hb'
        have hr3 := hU2.keep hgr'
        have e2 := hr3.at_ (j := 2) rfl
        have e3 := hr3.free 2
        go_wp2
        go_roundg (N - (m + 1))
        case measure => have := HG.out; omega
        case rel => exact ⟨m + 1, a', c', bs ++ [v], by omega, rfl, by rw [List.length_append, HBS.out]; rfl, by go_num, hU2.put ho' hgr'⟩
    · obtain rfl : N = m := by omega
      have mN := MN.out
      go_wp2_with (first
        | (with_reducible refine load_box 35 36 _ 36 _ 0 _ [.int .i64 W, .int .i64 H, .slice a2 N c2] isAgg_raster (size_raster _ _ _) hU1.ras rfl (fun j u hj => by rw [Nat.zero_add]; exact hj) ?_)
        | (with_reducible refine store_all 36 _ _ 36 _ _ [.int .i64 W, .int .i64 H, .slice a2 N c2] _ (size_raster _ _ _) hU1.res rfl rfl rfl (Eq.refl 3) (by simp [Value.oneCell']) ?_; intro w7 hx7 hg7 hs7))
      have hne : ∀ q, a2 = some q → some q.block ≠ some w.heap.size := by
        intro q hq
        subst hq
        have := hU1.own.base.1
        simp; omega
      refine bodyPost_ret (run_results_cell rfl rfl isAgg_raster (size_raster _ _ _) hx7) rfl ⟨W, H, bs, a2, c2, hW, hH, by rw [HBS.out, HN.out], by rw [HN.out], by rw [HN.out]; exact hU1.own.sl.grown hg7 hne, hU1.bel.grown hg7 hU1.bel.size (fun k hk => by cases hk; exact Nat.le_refl _)⟩
end Go.Proofs.Ythfljnlankmoiaa
end

/- the text C25 -/
section
namespace Go.Proofs.Ythfljnlankmoiaa
open Go.RowKit Go.Dx

/-- What a call hands back that returns whatever raster. -/
def GivesAny (w : World) (r : Ending) (w' : World) : Prop :=
  ∃ (W H : Int) (bs : List Bool) (a : Option Addr) (n c : Nat), r = .returned (RV W H a n c) ∧ Sl w' 1 a n c (bs.map Value.bool) ∧ Below w.heap.size w w'
theorem bent_sl {w w7 : World} {a : Option Addr} {n c : Nat} {bs : List Value} (hs : Sl w 1 a n c bs) (hb : Below w.heap.size w w7) : Sl w7 1 a n c bs := hs.below hb

set_option maxRecDepth 100000 in
set_option maxHeartbeats 1000000 in
theorem law4_bent (W H how b : Int) (bs : List Bool) (a : Option Addr) (n c : Nat) (w : World) (hs : Sl w 1 a n c (bs.map Value.bool)) (h0 : -9223372036854775808 ≤ how) (h1 : how ≤ 9223372036854775807) (hn : n ≤ 1000000) :
    Calls Try.prog 21 #[RV W H a n c, .int .i64 how, .int .i64 b] w (GivesAny w) := by
  obtain ⟨k, Hk⟩ : ∃ k, Hid (aroundF how 5 = k) := ⟨_, hide rfl⟩
  have hk : k < 5 := by rw [← Hk.out]; exact aroundF_lt (by omega)
  have hk5 : k = 0 ∨ k = 1 ∨ k = 2 ∨ k = 3 ∨ k = 4 := by omega
  have HA := hide (fun w => Around_at Hk.out rfl (by omega) (by omega) h0 h1 (w := w))
  clear hk
  go_enter Try.func21, Try.ntmps21
  go_wp2_with fail
  refine (HA.out _).mono ?_
  rintro e w1 ⟨rfl, hw⟩
  have x0 : Box w1 w.heap.size 36 [.int .i64 W, .int .i64 H, .slice a n c] := by rw [← hw]; exact un_box0 (Below.refl _ _)
  have x1 : Box w1 (w.heap.size + 1) 36 [.int .i64 0, .int .i64 0, .slice none 0 0] := by rw [← hw]; exact un_box (Below.refl _ _)
  have hb : Below w.heap.size w w1 := by rw [← hw]; exact bl2 w _ _
  clear hw HA Hk
  have e0 := x0.at_ (j := 0) rfl
  have e1 := x0.at_ (j := 1) rfl
  have e2 := x0.at_ (j := 2) rfl
  have f0 := x0.free 0
  have f1 := x0.free 1
  have f2 := x0.free 2
  have hlt := x1.lt
  rcases hk5 with rfl | rfl | rfl | rfl | rfl
  · have y0 : Box (w1.setCell ⟨w.heap.size, 0, none⟩ (.int .i64 b)) w.heap.size 36 [.int .i64 b, .int .i64 H, .slice a n c] := x0.put 0 _
    have y1 := x1.far (p := ⟨w.heap.size, 0, none⟩) (by simp) (.int .i64 b)
    have hb2 := hb.setCell (p := ⟨w.heap.size, 0, none⟩) (Nat.le_refl _) (.int .i64 b)
    go_wp2_with (first
      | (with_reducible refine load_box 30 36 _ 36 _ 0 _ [.int .i64 b, .int .i64 H, .slice a n c] isAgg_raster (size_raster _ _ _) y0 rfl (fun j u hj => by rw [Nat.zero_add]; exact hj) ?_)
      | (with_reducible refine store_all 36 _ _ 36 _ _ [.int .i64 b, .int .i64 H, .slice a n c] _ (size_raster _ _ _) y1 rfl rfl rfl (Eq.refl 3) (by simp [Value.oneCell']) ?_; intro w7 hx7 hg7 hs7))
    have hb7 := hb2.grown hg7 hb2.size (fun k hk => by cases hk; exact Nat.le_succ _)
    refine bodyPost_ret (run_results_cell rfl rfl isAgg_raster (size_raster _ _ _) hx7) rfl ⟨b, H, bs, a, n, c, rfl, hs.below hb7, hb7⟩
  · have y0 : Box (w1.setCell ⟨w.heap.size, 1, none⟩ (.int .i64 b)) w.heap.size 36 [.int .i64 W, .int .i64 b, .slice a n c] := x0.put 1 _
    have y1 := x1.far (p := ⟨w.heap.size, 1, none⟩) (by simp) (.int .i64 b)
    have hb2 := hb.setCell (p := ⟨w.heap.size, 1, none⟩) (Nat.le_refl _) (.int .i64 b)
    go_wp2_with (first
      | (with_reducible refine load_box 30 36 _ 36 _ 0 _ [.int .i64 W, .int .i64 b, .slice a n c] isAgg_raster (size_raster _ _ _) y0 rfl (fun j u hj => by rw [Nat.zero_add]; exact hj) ?_)
      | (with_reducible refine store_all 36 _ _ 36 _ _ [.int .i64 W, .int .i64 b, .slice a n c] _ (size_raster _ _ _) y1 rfl rfl rfl (Eq.refl 3) (by simp [Value.oneCell']) ?_; intro w7 hx7 hg7 hs7))
    have hb7 := hb2.grown hg7 hb2.size (fun k hk => by cases hk; exact Nat.le_succ _)
    refine bodyPost_ret (run_results_cell rfl rfl isAgg_raster (size_raster _ _ _) hx7) rfl ⟨W, b, bs, a, n, c, rfl, hs.below hb7, hb7⟩
  · have hs1 := hs.below hb
    have hnl := hs.n_eq
    have HNL := hide hnl
    clear hnl
    have e2' : (w1.alloc (.cells #[] 4)).cell? ⟨w.heap.size, 2, none⟩ = some (.slice a n c) := (x0.alloc _).at_ rfl
    have hown := Own.built w1 w1.heap.size 4 1 0 #[] (Nat.le_refl _) rfl (by decide)
    go_wp2_with (first
      | (at_builtin; refine append_own rfl _ _ 34 rfl 4 (.bool false) 1 1 Try.underlying34 info_bool rfl w1 w1.heap.size _ 0 0 _ rfl hown a n c (bs.map Value.bool) rfl (hs1.alloc _) (one_map _ (fun _ => rfl) _) (by omega) (by unfold maxLen; omega) (by simp) ((Below.refl _ _).alloc (Nat.le_refl _) _) ?_; intro a3 c3 w3 ho3 hgr3 hb3; rw [Nat.zero_add, List.nil_append] at ho3)
      | (at_builtin; refine append_lit rfl _ _ 34 rfl 4 (.bool false) 1 1 Try.underlying34 info_bool rfl w1 w1.heap.size _ _ _ _ rfl ho3 1 [.bool true] rfl rfl (by simp [Value.oneCell']) (by omega) (by unfold maxLen; omega) hb3.size hb3 ?_; intro a4 c4 w4 ho4 hgr4 hb4; have z0 := x0.under hb4; have z1 := x1.under hb4; have g2 := z0.at_ (j := 2) rfl; have g3 := z0.free 2; have y0 : Box (w4.setCell ⟨w.heap.size, 2, none⟩ (.slice a4 (n + 1) c4)) w.heap.size 36 [.int .i64 W, .int .i64 H, .slice a4 (n + 1) c4] := z0.put 2 _; have y1 := z1.far (p := ⟨w.heap.size, 2, none⟩) (by simp) (.slice a4 (n + 1) c4))
      | (with_reducible refine load_box 30 36 _ 36 _ 0 _ [.int .i64 W, .int .i64 H, .slice a4 (n + 1) c4] isAgg_raster (size_raster _ _ _) y0 rfl (fun j u hj => by rw [Nat.zero_add]; exact hj) ?_)
      | (with_reducible refine store_all 36 _ _ 36 _ _ [.int .i64 W, .int .i64 H, .slice a4 (n + 1) c4] _ (size_raster _ _ _) y1 rfl rfl rfl (Eq.refl 3) (by simp [Value.oneCell']) ?_; intro w7 hx7 hg7 hs7))
    have hbw := hb.trans (hb4.mono hb.size)
    have hb7 := ((hbw.setCell (p := ⟨w.heap.size, 2, none⟩) (Nat.le_refl _) (.slice a4 (n + 1) c4)).grown hg7 (by rw [Deep.nblk_setCell]; exact hbw.size) (fun k hk => by cases hk; exact Nat.le_succ _))
    refine bodyPost_ret (run_results_cell rfl rfl isAgg_raster (size_raster _ _ _) hx7) rfl ⟨W, H, bs ++ [true], a4, n + 1, c4, rfl, ?_, hb7⟩
    have ho5 := ownsRow_setCell_below ho4 (a := ⟨w.heap.size, 2, none⟩) (by simp; omega) (.slice a4 (n + 1) c4)
    rw [List.map_append]
    refine (Own.sl (B := w1.heap.size) (e := 4) ho5).grown hg7 ?_
    intro q hq
    subst hq
    have := (Own.base (e := 4) ho4).1
    simp; omega
  · go_wp2_with (with_reducible refine store_all 36 _ _ 36 _ _ [.int .i64 0, .int .i64 b, .slice none 0 0] _ (size_raster _ _ _) x1 rfl rfl rfl (Eq.refl 3) (by simp [Value.oneCell']) ?_; intro w7 hx7 hg7 hs7)
    have hb7 := hb.grown hg7 hb.size (fun k hk => by cases hk; exact Nat.le_succ _)
    refine bodyPost_ret (run_results_cell rfl rfl isAgg_raster (size_raster _ _ _) hx7) rfl ⟨0, b, [], none, 0, 0, rfl, Sl.empty _ _, hb7⟩
  · go_wp2_with (first
      | (with_reducible refine load_box 30 36 _ 36 _ 0 _ [.int .i64 W, .int .i64 H, .slice a n c] isAgg_raster (size_raster _ _ _) x0 rfl (fun j u hj => by rw [Nat.zero_add]; exact hj) ?_)
      | (with_reducible refine store_all 36 _ _ 36 _ _ [.int .i64 W, .int .i64 H, .slice a n c] _ (size_raster _ _ _) x1 rfl rfl rfl (Eq.refl 3) (by simp [Value.oneCell']) ?_; intro w7 hx7 hg7 hs7))
    have hb7 := hb.grown hg7 hb.size (fun k hk => by cases hk; exact Nat.le_succ _)
    refine bodyPost_ret (run_results_cell rfl rfl isAgg_raster (size_raster _ _ _) hx7) rfl ⟨W, H, bs, a, n, c, rfl, hs.below hb7, hb7⟩
end Go.Proofs.Ythfljnlankmoiaa
end

/- the text Pg2 -/
section
/- A store into a slice that a call owns; a row of an owned page replaced. -/
namespace Go.Dx
open Go.RowKit
theorem Own.put {w : World} {B : Nat} {e : TypeId} {p : Addr} {n c : Nat} {xs : List Value} (h : Own w B e 1 (some p) n c xs) {i : Nat} (v : Value) : Own (w.setCell ⟨p.block, i, none⟩ v) B e 1 (some p) n c (xs.set i v) := by
  refine ⟨by rw [List.length_set]; exact h.1, ?_⟩
  rcases h.2 with ⟨h1, _⟩ | ⟨g, cap, cur, h1, h2, h3, h4, h5, h6, h7⟩
  · cases h1
  · injection h1 with h1 hn hc
    injection h1 with h1
    subst h1
    refine .inr ⟨g, cap, cur.setIfInBounds i v, by rw [hc], h2, ?_, h4, h5, by simpa using h6, ?_⟩
    · simp [World.setCell, Array.getElem?_modify, h3]
    · rw [Array.toList_setIfInBounds, ← h7, Nat.mul_one, List.take_set]
theorem Own.free {w : World} {B : Nat} {e : TypeId} {p : Addr} {n c : Nat} {sz : Nat} {xs : List Value} (h : Own w B e sz (some p) n c xs) (j : Nat) : w.frozen? ⟨p.block, j, none⟩ = false := by
  rcases h.2 with ⟨h1, _⟩ | ⟨g, cap, cur, h1, h2, h3, _⟩
  · cases h1
  · injection h1 with h1 hn hc
    injection h1 with h1
    subst h1
    simp [World.frozen?, h3]
theorem Own.at_ {w : World} {B : Nat} {e : TypeId} {b : Nat} {n c : Nat} {xs : List Value} (h : Own w B e 1 (some ⟨b, 0, none⟩) n c xs) {j : Nat} {v : Value} (hj : xs[j]? = some v) : w.cell? ⟨b, j, none⟩ = some v := by
  have := h.sl.cell ⟨b, 0, none⟩ rfl j v hj
  rw [Addr.add_lit, Nat.zero_add] at this
  exact this
theorem Own.zero {w : World} {B : Nat} {e : TypeId} {p : Addr} {n c : Nat} {sz : Nat} {xs : List Value} (h : Own w B e sz (some p) n c xs) : p = ⟨p.block, 0, none⟩ := by
  rcases h.2 with ⟨h1, _⟩ | ⟨g, cap, cur, h1, _⟩
  · cases h1
  · injection h1 with h1 hn hc
    injection h1 with h1
    subst h1; rfl
theorem Own.set_other {w : World} {B : Nat} {e : TypeId} {a : Option Addr} {n c : Nat} {sz : Nat} {xs : List Value} (h : Own w B e sz a n c xs) {p : Addr} (hp : ∀ q, a = some q → q.block ≠ p.block) (v : Value) : Own (w.setCell p v) B e sz a n c xs := by
  refine ⟨h.1, ?_⟩
  rcases h.2 with h1 | ⟨g, cap, cur, h1, h2, h3, r⟩
  · exact .inl h1
  · refine .inr ⟨g, cap, cur, h1, h2, ?_, r⟩
    injection h1 with h1
    rw [Below.heap_setCell w p v g (hp _ h1)]
    exact h3
end Go.Dx
namespace Go.Proofs.Ythfljnlankmoiaa
open Go.RowKit Go.Dx
theorem OPage.top_kept {w w' : World} {B : Nat} {t : Addr} {c : Nat} {hs : List Hd} {p : List (List UInt8)} {i : Nat} {x : Hd} (h : OPage w B (some t) c hs p) (hi : hs[i]? = some x)
    (hg : w.grownBy w' (x.1.map (·.block))) : Own w' B 23 1 (some t) p.length c (hs.map hv) := by
  have hil : i < hs.length := (List.getElem?_eq_some_iff.1 hi).1
  have hp : i < p.length := by rw [← h.len]; exact hil
  refine h.top.kept hg fun q hq => ?_
  cases hq
  have ho := h.row i x p[i] hi (by simp [hp])
  cases hx : x.1 with
  | none => simp
  | some q' =>
    rw [hx] at ho
    have := own_ne h.top ho (by decide)
    simpa using this
/-- one row of an owned page replaced by another that is owned -/
theorem OPage.replace {w w' : World} {B : Nat} {t : Addr} {c : Nat} {hs : List Hd} {p : List (List UInt8)} {i : Nat} {x y : Hd} {r : List UInt8} (h : OPage w B (some t) c hs p) (hi : hs[i]? = some x)
    (hg : w.grownBy w' (x.1.map (·.block))) (hne : ∀ j z, hs[j]? = some z → j ≠ i → ∀ q q', z.1 = some q → x.1 = some q' → q.block ≠ q'.block) (hy : Own w' B 5 1 y.1 y.2.1 y.2.2 (r.map B8)) :
    OPage (w'.setCell ⟨t.block, i, none⟩ (hv y)) B (some t) c (hs.set i y) (p.set i r) := by
  have hil : i < hs.length := (List.getElem?_eq_some_iff.1 hi).1
  have hxi := h.row i x
  have ht : Own w' B 23 1 (some t) p.length c (hs.map hv) := by
    refine h.top.kept hg fun q hq => ?_
    cases hq
    have hp : i < p.length := by rw [← h.len]; exact hil
    have ho := hxi p[i] hi (by simp [hp])
    cases hx : x.1 with
    | none => simp
    | some q' =>
      rw [hx] at ho
      have := own_ne h.top ho (by decide)
      simpa using this
  refine ⟨?_, by rw [List.length_set, List.length_set]; exact h.len, ?_⟩
  · have := ht.put (i := i) (hv y)
    rw [List.length_set, List.map_set]; exact this
  · intro j z s hz hs'
    rw [List.getElem?_set] at hz hs'
    by_cases hj : i = j
    · subst hj
      rw [if_pos rfl, if_pos hil] at hz
      rw [if_pos rfl, if_pos (by rw [← h.len]; exact hil)] at hs'
      cases hz; cases hs'
      refine hy.set_other (fun q hq => ?_) _
      rw [hq] at hy
      have := own_ne hy ht (by decide)
      exact this
    · rw [if_neg hj] at hz hs'
      have ho := h.row j z s hz hs'
      have ho' : Own w' B 5 1 z.1 z.2.1 z.2.2 (s.map B8) := ho.kept hg fun q hq => by
        cases hx : x.1 with
        | none => simp
        | some q' =>
          have := hne j z hz (fun e => hj e.symm) q q' hq hx
          simpa using this
      refine ho'.set_other (fun q hq => ?_) _
      rw [hq] at ho'
      have := own_ne ho' ht (by decide)
      exact this
end Go.Proofs.Ythfljnlankmoiaa
end

/- the text C26 -/
section
namespace Go.Proofs.Ythfljnlankmoiaa
open Go.RowKit Go.Dx

/-- the rows lie in pairwise different blocks -/
def Apart (hs : List Hd) : Prop := ∀ (i j : Nat) (x y : Hd), hs[i]? = some x → hs[j]? = some y → i ≠ j → ∀ p q, x.1 = some p → y.1 = some q → p.block ≠ q.block
theorem Apart.nil : Apart [] := fun i j x y h => by cases h
/-- every row lies below block B -/
def Under (B : Nat) (hs : List Hd) : Prop := ∀ (i : Nat) (x : Hd), hs[i]? = some x → ∀ p, x.1 = some p → p.block < B
theorem Under.nil (B : Nat) : Under B [] := fun i x h => by cases h
theorem Under.mono {B B' : Nat} {hs : List Hd} (h : Under B hs) (hB : B ≤ B') : Under B' hs := fun i x hx p hp => Nat.lt_of_lt_of_le (h i x hx p hp) hB
theorem Apart.push {B : Nat} {hs : List Hd} {y : Hd} (h : Apart hs) (hu : Under B hs) (hy : ∀ q, y.1 = some q → B ≤ q.block) : Apart (hs ++ [y]) := by
  intro i j x z hx hz hij p q hp hq
  rw [List.getElem?_append] at hx hz
  by_cases hi : i < hs.length
  · rw [if_pos hi] at hx
    by_cases hj : j < hs.length
    · rw [if_pos hj] at hz
      exact h i j x z hx hz hij p q hp hq
    · rw [if_neg hj] at hz
      have e : j - hs.length = 0 := by have := (List.getElem?_eq_some_iff.1 hz).1; simp at this; omega
      rw [e] at hz
      simp at hz
      subst hz
      have := hu i x hx p hp
      have := hy q hq
      omega
  · rw [if_neg hi] at hx
    have e : i - hs.length = 0 := by have := (List.getElem?_eq_some_iff.1 hx).1; simp at this; omega
    rw [e] at hx
    simp at hx
    subst hx
    by_cases hj : j < hs.length
    · rw [if_pos hj] at hz
      have := hu j z hz q hq
      have := hy p hp
      omega
    · rw [if_neg hj] at hz
      have e2 : j - hs.length = 0 := by have := (List.getElem?_eq_some_iff.1 hz).1; simp at this; omega
      omega
theorem Under.push {B : Nat} {hs : List Hd} {y : Hd} (h : Under B hs) (hy : ∀ q, y.1 = some q → q.block < B) : Under B (hs ++ [y]) := by
  intro i x hx p hp
  rw [List.getElem?_append] at hx
  by_cases hi : i < hs.length
  · rw [if_pos hi] at hx
    exact h i x hx p hp
  · rw [if_neg hi] at hx
    have e : i - hs.length = 0 := by have := (List.getElem?_eq_some_iff.1 hx).1; simp at this; omega
    rw [e] at hx
    simp at hx
    subst hx
    exact hy p hp

/-- What a call hands back that returns a small page. -/
def GivesPage (w : World) (r : Ending) (w' : World) : Prop :=
  ∃ (p : List (List UInt8)) (a : Option Addr) (c : Nat) (hs : List Hd), p.length ≤ 5 ∧ (∀ l ∈ p, l.length ≤ 10) ∧ r = .returned (.slice a p.length c) ∧ OPage w' w.heap.size a c hs p ∧ Below w.heap.size w w'
end Go.Proofs.Ythfljnlankmoiaa
end

/- the text Free2 -/
section
/- A region that draws its order, in whose head one operation (an append, a store) changes what lies there: TP. What it waits for (TE) comes before it; what may come at any time (TL) leaves the world as it is. No program in sight. -/
set_option linter.unusedVariables false
namespace Go.Dx
open Go.RowKit

theorem grown_of_below {w w' : World} (h : Below w.heap.size w w') (row : Option Nat) : w.grownBy w' row := ⟨h.os, h.tape, h.output, h.size, fun k hk _ => h.block k hk⟩
theorem grown_trans {a b c : World} {row : Option Nat} (h : a.grownBy b row) (k : b.grownBy c row) : a.grownBy c row :=
  ⟨k.os.trans h.os, k.tape.trans h.tape, k.output.trans h.output, Nat.le_trans h.size k.size, fun i hi hr => (k.block i (Nat.lt_of_lt_of_le hi h.size) hr).trans (h.block i hi hr)⟩
/-- what an operation leaves that does not touch the world -/
def OneStill (d : Nat) (a : Act) (w : World) (R : Value → World → Prop) (e : Exit) (a' : Act) (w' : World) : Prop := e = .normal ∧ ∃ v, a' = a.put (some d) v ∧ w' = w ∧ R v w'
def OneTurn (d : Nat) (a : Act) (R : Value → World → Prop) (e : Exit) (a' : Act) (w' : World) : Prop := e = .normal ∧ ∃ v, a' = a.put (some d) v ∧ R v w'

structure MidInv (l : List Oper) (n p : Nat) (T : List HOp) (a0 : Act) (w0 : World) (G : World → Prop) (listed : Array Bool) (a : Act) (w : World) : Prop where
  inv : HeadInv .any l.toArray n listed
  defers : a.defers = a0.defers
  size : a.tmps.size = a0.tmps.size
  frame : ∀ k, (∀ t ∈ T, t.d ≠ k) → a.tmps.getD k undef = a0.tmps.getD k undef
  pre : listed.getD p false = false → Below w0.heap.size w0 w
  post : listed.getD p false = true → G w
  facts : ∀ t ∈ T, listed.getD t.i false = true → t.fact a w

section
variable {P : Program}
theorem wp_region_mid {id : Nat} {Q : Exit → Act → World → Prop} {a0 : Act} {w0 : World} {l : List Oper} (n : Nat) (L G : World → Prop) (TP : HOp) (TE TL : List HOp) (hm : P.follows .mixedOrders = true)
    (hB : (headOk l n ((TP :: (TE ++ TL)).map fun t => (t.i, t.d, t.s)) a0.tmps.size && (TE.all fun t => Region.waitsFor .any l.toArray TP.i t.i && t.i != TP.i)) = true)
    (hL1 : ∀ w, Below w0.heap.size w0 w → L w) (hL2 : ∀ w, G w → L w)
    (hmono : All (fun t : HOp => ∀ vs w w', Below w.heap.size w w' → t.p vs w → t.p vs w') (TE ++ TL))
    (hopP : ∀ o, l[TP.i]? = some o → ∀ (a : Act) (w : World), Below w0.heap.size w0 w →
      (∀ k, ((TP :: (TE ++ TL)).map (·.d)).contains k = false → a.tmps.getD k undef = a0.tmps.getD k undef) →
      (∀ (k : Nat) (u : HOp), (TP :: (TE ++ TL))[k]? = some u → Region.waitsFor .any l.toArray TP.i u.i = true → u.p (u.s.map fun k => a.tmps.getD k undef) w) →
      wpList P l.toArray (OneTurn TP.d a fun v w' => TP.p (TP.s.map fun k => if TP.d = k then v else a.tmps.getD k undef) w' ∧ G w' ∧ All (fun u : HOp => ∀ vs, u.p vs w → u.p vs w') (TE ++ TL)) [o] a w)
    (hopE : All (fun t : HOp => ∀ o, l[t.i]? = some o → ∀ (a : Act) (w : World), Below w0.heap.size w0 w →
      (∀ k, ((TP :: (TE ++ TL)).map (·.d)).contains k = false → a.tmps.getD k undef = a0.tmps.getD k undef) →
      (∀ (k : Nat) (u : HOp), (TP :: (TE ++ TL))[k]? = some u → Region.waitsFor .any l.toArray t.i u.i = true → u.p (u.s.map fun k => a.tmps.getD k undef) w) →
      wpList P l.toArray (OneDone t.d a w fun v w' => t.p (t.s.map fun k => if t.d = k then v else a.tmps.getD k undef) w') [o] a w) TE)
    (hopL : All (fun t : HOp => ∀ o, l[t.i]? = some o → ∀ (a : Act) (w : World), L w →
      (∀ k, ((TP :: (TE ++ TL)).map (·.d)).contains k = false → a.tmps.getD k undef = a0.tmps.getD k undef) →
      (∀ (k : Nat) (u : HOp), (TP :: (TE ++ TL))[k]? = some u → Region.waitsFor .any l.toArray t.i u.i = true → u.p (u.s.map fun k => a.tmps.getD k undef) w) →
      wpList P l.toArray (OneStill t.d a w fun v w' => t.p (t.s.map fun k => if t.d = k then v else a.tmps.getD k undef) w') [o] a w) TL)
    (hend : ∀ (g : Nat → Value) (w : World), G w → (∀ (k : Nat) (u : HOp), (TP :: (TE ++ TL))[k]? = some u → u.p (u.s.map fun k => if k ∈ (TP :: (TE ++ TL)).map (·.d) then g k else a0.tmps.getD k undef) w) →
      wpList P l.toArray Q (l.drop n) (putAll a0 (((TP :: (TE ++ TL)).map (·.d)).map fun d => (d, g d))) w) : (Code.region id l.toArray true).wp P Q a0 w0 := by
  obtain ⟨T, hTdef⟩ : ∃ T, TP :: (TE ++ TL) = T := ⟨_, rfl⟩
  have memP : TP ∈ T := by rw [← hTdef]; exact List.mem_cons_self
  have split : ∀ t ∈ T, t = TP ∨ t ∈ TE ∨ t ∈ TL := by
    intro t ht
    rw [← hTdef] at ht
    rcases List.mem_cons.1 ht with h | h
    · exact .inl h
    · exact .inr (List.mem_append.1 h)
  have rest : ∀ t ∈ T, t ≠ TP → t ∈ TE ++ TL := by
    intro t ht hne
    rw [← hTdef] at ht
    rcases List.mem_cons.1 ht with h | h
    · exact absurd h hne
    · exact h
  rw [hTdef] at hB hopP hopE hopL hend
  rw [Bool.and_eq_true] at hB
  obtain ⟨hB, hE⟩ := hB
  have hE1 : ∀ t ∈ TE, Region.waitsFor .any l.toArray TP.i t.i = true ∧ t.i ≠ TP.i := by
    intro t ht
    have := List.all_eq_true.1 hE t ht
    simpa using this
  simp only [headOk, Bool.and_eq_true, decide_eq_true_eq] at hB
  obtain ⟨⟨⟨⟨⟨⟨⟨hnd, hn⟩, hs⟩, hc⟩, hseq⟩, hcov⟩, hT⟩, hpair⟩ := hB
  have hnodup : ∀ t ∈ T, ∀ u ∈ T, t.i = u.i → t = u := inj_nodup (·.i) T (by rw [List.map_map] at hnd; exact hnd)
  have hn' : n < l.toArray.size := by simpa using hn
  have cover : ∀ j, j < n → ∃ t ∈ T, t.i = j := by
    intro j hj
    have h := List.all_eq_true.1 hcov j (List.mem_range.2 hj)
    obtain ⟨x, hx, he⟩ := List.any_eq_true.1 h
    obtain ⟨t, ht, rfl⟩ := List.mem_map.1 hx
    exact ⟨t, ht, by simpa using he⟩
  have own : ∀ t ∈ T, t.i < n ∧ t.d < a0.tmps.size ∧ ∃ o, l[t.i]? = some o ∧ o.dst = some t.d ∧ ∀ e ∈ o.after, Region.binds .any e = true → e.on < t.i := by
    intro t ht
    have h := List.all_eq_true.1 hT _ (List.mem_map.2 ⟨t, ht, rfl⟩)
    simp only [Bool.and_eq_true, decide_eq_true_eq] at h
    obtain ⟨⟨h1, h2⟩, h3⟩ := h
    refine ⟨h1, h2, ?_⟩
    cases ho : l[t.i]? with
    | none => rw [ho] at h3; cases h3
    | some o =>
      rw [ho] at h3
      simp only [Bool.and_eq_true, beq_iff_eq] at h3
      refine ⟨o, rfl, h3.1, fun e he hb => ?_⟩
      have := Array.all_eq_true_iff_forall_mem.1 h3.2 e he
      simpa [hb] using this
  have pair : ∀ t ∈ T, ∀ u ∈ T, t.i ≠ u.i → t.d ≠ u.d ∧ (t.d ∈ u.s → Region.waitsFor .any l.toArray u.i t.i = true) := by
    intro t ht u hu hne
    have h := List.all_eq_true.1 (List.all_eq_true.1 hpair _ (List.mem_map.2 ⟨t, ht, rfl⟩)) _ (List.mem_map.2 ⟨u, hu, rfl⟩)
    simp only [Bool.or_eq_true, beq_iff_eq, hne, false_or, Bool.and_eq_true, bne_iff_ne, ne_eq, Bool.not_eq_true'] at h
    refine ⟨h.1, fun hin => ?_⟩
    rcases h.2 with h2 | h2
    · have : u.s.contains t.d = true := by simpa using hin
      rw [this] at h2; cases h2
    · exact h2
  have key : ∀ (f : Nat) (listed : Array Bool) (a : Act) (w : World), MidInv l n TP.i T a0 w0 G listed a w → todo listed n = f → wpAny P .any l.toArray Q (f + (l.length - n)) listed a w := by
    intro f
    induction f with
    | zero =>
      intro listed a w I h0
      have hall : ∀ j, j < n → listed.getD j true = true := by
        intro j hj
        cases hb : listed.getD j true with
        | true => rfl
        | false =>
          have : j ∈ (List.range n).filter fun j => !listed.getD j true := List.mem_filter.2 ⟨List.mem_range.2 hj, by rw [hb]; rfl⟩
          unfold todo at h0
          rw [List.eq_nil_of_length_eq_zero h0] at this
          cases this
      have hlist : listed = (List.replicate n true ++ List.replicate (l.length - n) false).toArray := by
        have hsz := I.inv.size
        apply Array.ext
        · simp at hsz ⊢; omega
        · intro j h1 h2
          by_cases hj : j < n
          · have := hall j hj
            simp [Array.getD, h1] at this
            simp [this, List.getElem_append_left, hj]
          · have := I.inv.tail j (by omega) (by rw [← hsz]; exact h1)
            simp [Array.getD, h1] at this
            simp only [this, List.getElem_toArray]
            rw [List.getElem_append_right (by simp; omega)]
            simp
      have ha : a = putAll a0 ((T.map (·.d)).map fun d => (d, a.tmps.getD d undef)) := by
        have hd : ∀ d ∈ T.map (·.d), d < a0.tmps.size := by
          intro d hd
          obtain ⟨t, ht, rfl⟩ := List.mem_map.1 hd
          exact (own t ht).2.1
        refine act_ext (by rw [putAll_defers]; exact I.defers) (by rw [putAll_size]; exact I.size) (fun k => ?_)
        rw [putAll_get (fun d => a.tmps.getD d undef) _ _ _ hd]
        by_cases h : k ∈ T.map (·.d)
        · rw [if_pos h]
        · rw [if_neg h]
          exact I.frame k (fun t ht e => h (List.mem_map.2 ⟨t, ht, e⟩))
      have hlp : listed.getD TP.i false = true := by
        have := hall TP.i (own TP memP).1
        rcases Nat.lt_or_ge TP.i listed.size with h' | h'
        · simp [h'] at this ⊢; exact this
        · have := I.inv.size; have := (own TP memP).1; omega
      have hfin := hend (fun d => a.tmps.getD d undef) w (I.post hlp) (fun k u hu => by
        have hu' := List.mem_of_getElem? hu
        have h1 := I.facts u hu' (by
          have := hall u.i (own u hu').1
          rcases Nat.lt_or_ge u.i listed.size with h' | h'
          · simp [h'] at this ⊢; exact this
          · have := I.inv.size; have := (own u hu').1; omega)
        unfold HOp.fact at h1
        have e : (u.s.map fun k => if k ∈ T.map (·.d) then a.tmps.getD k undef else a0.tmps.getD k undef) = u.s.map fun k => a.tmps.getD k undef := by
          apply List.map_congr_left
          intro k _
          by_cases h : k ∈ T.map (·.d)
          · rw [if_pos h]
          · rw [if_neg h]
            exact (I.frame k (fun t ht e => h (List.mem_map.2 ⟨t, ht, e⟩))).symm
        rw [e]
        exact h1)
      rw [← ha] at hfin
      rw [Nat.zero_add]
      have hseq' : Region.seqB .any l.toArray (l.drop n).length n listed = true := by rw [hlist, List.length_drop]; exact hseq
      have := wpAny_of_seq (md := .any) (Q' := Q) (l.drop n) n listed a w (fun j => by simp [List.getElem?_drop]) hseq' hfin
      rwa [List.length_drop] at this
    | succ f ih =>
      intro listed a w I hf
      have hex : ∃ j, j < n ∧ listed.getD j true = false := by
        cases hL : (List.range n).filter fun j => !listed.getD j true with
        | nil => unfold todo at hf; rw [hL] at hf; cases hf
        | cons j L =>
          have : j ∈ (List.range n).filter fun j => !listed.getD j true := by rw [hL]; exact List.mem_cons_self
          obtain ⟨h1, h2⟩ := List.mem_filter.1 this
          exact ⟨j, List.mem_range.1 h1, by simpa using h2⟩
      have hready : Region.ready .any l.toArray listed ≠ [] := by
        have hmin : ∀ m j, j ≤ m → j < n → listed.getD j true = false → ∃ i, i ∈ Region.ready .any l.toArray listed := by
          intro m
          induction m with
          | zero =>
            intro j hj hjn hjl
            have hj0 : j = 0 := by omega
            subst hj0
            obtain ⟨t, ht, hti⟩ := cover 0 hjn
            obtain ⟨_, _, o, ho, _, hb⟩ := own t ht
            rw [hti] at ho hb
            exact ⟨0, mem_ready.2 ⟨hjl, o, by simpa using ho, fun e he hbe => absurd (hb e he hbe) (by omega)⟩⟩
          | succ m ihm =>
            intro j hj hjn hjl
            obtain ⟨t, ht, hti⟩ := cover j hjn
            obtain ⟨_, _, o, ho, _, hb⟩ := own t ht
            rw [hti] at ho hb
            by_cases hall : ∀ e ∈ o.after, Region.binds .any e = true → listed.getD e.on false = true
            · exact ⟨j, mem_ready.2 ⟨hjl, o, by simpa using ho, hall⟩⟩
            · simp only [Classical.not_forall] at hall
              obtain ⟨e, he, hbe, hne⟩ := hall
              have hlt := hb e he hbe
              have hes : e.on < listed.size := by rw [I.inv.size]; simp; omega
              exact ihm e.on (by omega) (by omega) (getD_in hes (by simpa using hne))
        obtain ⟨j, hj, hjl⟩ := hex
        obtain ⟨i, hi⟩ := hmin j j (Nat.le_refl _) hj hjl
        intro h
        rw [h] at hi
        cases hi
      rw [show f + 1 + (l.length - n) = (f + (l.length - n)) + 1 by omega]
      refine ⟨fun h => absurd h hready, fun i hi => ?_⟩
      have hin : i < n := by
        rcases Nat.lt_or_ge i n with h | h
        · exact h
        · obtain ⟨j, hj, hjl⟩ := hex
          exact absurd hi (tail_waits hs hc hn' I.inv _ j rfl hj hjl i h)
      obtain ⟨t, ht, hti⟩ := cover i hin
      obtain ⟨_, htd, o, ho, hdst, _⟩ := own t ht
      obtain ⟨hil, oi, hoi, hafter⟩ := mem_ready.1 hi
      have hoo : oi = o := by rw [hti] at ho; exact Option.some.inj (hoi.symm.trans (by simpa using ho))
      subst hoo
      have hframe : ∀ k, (T.map (·.d)).contains k = false → a.tmps.getD k undef = a0.tmps.getD k undef := fun k hk => I.frame k (fun u hu e => by
          have : (T.map (·.d)).contains k = true := by simpa using ⟨u, hu, e⟩
          rw [this] at hk; cases hk)
      have hfacts : ∀ (k : Nat) (u : HOp), T[k]? = some u → Region.waitsFor .any l.toArray t.i u.i = true → u.p (u.s.map fun k => a.tmps.getD k undef) w := fun k u hu hw => by
        have hu' := List.mem_of_getElem? hu
        obtain ⟨oj, hoj, e, he, hb, hon⟩ := Region.waitsFor_spec hw
        have : oj = oi := by rw [hti] at hoj; exact Option.some.inj (hoj.symm.trans hoi)
        subst this
        have h1 := hafter e he hb
        rw [hon] at h1
        exact I.facts u hu' h1
      have step0 : ∀ (v : Value) (w' : World), (t.i ≠ TP.i → (listed.getD TP.i false = false → Below w0.heap.size w0 w') ∧ (listed.getD TP.i false = true → G w')) → (t.i = TP.i → G w') →
          (∀ u ∈ T, u ≠ t → listed.getD u.i false = true → ∀ vs, u.p vs w → u.p vs w') → t.p (t.s.map fun k => if t.d = k then v else a.tmps.getD k undef) w' → wpAny P .any l.toArray Q (f + (l.length - n)) (listed.setIfInBounds i true) (a.put (some t.d) v) w' := by
        intro v w' hph hG hsurv hp
        refine ih _ _ _ ⟨I.inv.set hi hin, I.defers, ?_, ?_, ?_, ?_, ?_⟩ ?_
        · rw [← I.size]; simp [Act.put]
        · intro k hk
          rw [put_get, if_neg (fun h => hk t ht h.1)]
          exact I.frame k hk
        · intro hl
          by_cases hip : t.i = TP.i
          · exfalso
            rw [← hip, hti] at hl
            have hlt : i < listed.size := by rw [I.inv.size]; omega
            simp [hlt] at hl
          · rw [getD_set_ne false (by rw [← hti]; exact hip)] at hl
            exact (hph hip).1 hl
        · intro hl
          by_cases hip : t.i = TP.i
          · exact hG hip
          · rw [getD_set_ne false (by rw [← hti]; exact hip)] at hl
            exact (hph hip).2 hl
        · intro u hu hul
          by_cases hui : t.i = u.i
          · unfold HOp.fact
            by_cases hut : u = t
            · subst hut
              have e : (u.s.map fun k => (a.put (some u.d) v).tmps.getD k undef) = u.s.map fun k => if u.d = k then v else a.tmps.getD k undef := by
                apply List.map_congr_left
                intro k _
                rw [put_get, I.size]
                by_cases hk : u.d = k
                · rw [if_pos ⟨hk, htd⟩, if_pos hk]
                · rw [if_neg (fun h => hk h.1), if_neg hk]
              rw [e]
              exact hp
            · exact absurd (hnodup t ht u hu hui).symm hut
          · unfold HOp.fact
            have hul2 : listed.getD u.i false = true := by rw [← getD_set_ne false (i := i) (j := u.i) (by rw [← hti]; exact hui)]; exact hul
            have h1 := hsurv u hu (fun e => hui (by rw [e])) hul2 _ (I.facts u hu hul2)
            have hnot : t.d ∉ u.s := by
              intro hin2
              have hw := (pair t ht u hu hui).2 hin2
              obtain ⟨ou, hou, e, he, hb, hon⟩ := Region.waitsFor_spec hw
              have := I.inv.closed u.i ou hou hul2 e he hb
              rw [hon, hti, getD_both hil] at this
              cases this
            have e : (u.s.map fun k => (a.put (some t.d) v).tmps.getD k undef) = u.s.map fun k => a.tmps.getD k undef := by
              apply List.map_congr_left
              intro k hk
              rw [put_get, if_neg (fun (h : t.d = k ∧ t.d < a.tmps.size) => hnot (by rw [h.1]; exact hk))]
            rw [e]
            exact h1
        · have := todo_set hin hil; omega
      have fin : ∀ (R : Exit → Act → World → Prop), (∀ e a' w', R e a' w' → e = .normal) → (∀ a' w', R .normal a' w' → wpAny P .any l.toArray Q (f + (l.length - n)) (listed.setIfInBounds i true) a' w') → wpList P l.toArray R [oi] a w → wpOp P l.toArray Q i (fun a' w' => wpAny P .any l.toArray Q (f + (l.length - n)) (listed.setIfInBounds i true) a' w') a w := by
        intro R hR step H
        unfold wpList at H
        unfold wpOp
        rw [hoi]
        simp only
        by_cases hwant : Region.wanted oi (yielded l.toArray a.tmps) = true
        · rw [if_pos hwant] at H
          rw [if_pos hwant]
          left
          rcases H with H | ⟨_, a1, w1, h1⟩
          · exact wp_both (fun a' w' h => step a' w' h) (fun e a' w' he h => absurd (hR _ _ _ h) he) H
          · exact absurd (hR _ _ _ h1) (by simp)
        · rw [if_neg hwant] at H
          rw [if_neg hwant]
          exact step _ _ H
      have prep : t.i = TP.i ∨ t ∈ TE → listed.getD TP.i false = false := by
        intro h
        rcases h with h | h
        · rw [h] at hti
          rw [hti]
          exact getD_both hil
        · cases hlp : listed.getD TP.i false with
          | false => rfl
          | true =>
            obtain ⟨hw, _⟩ := hE1 t h
            obtain ⟨ou, hou, e, he, hb, hon⟩ := Region.waitsFor_spec hw
            have := I.inv.closed TP.i ou hou hlp e he hb
            rw [hon, hti, getD_both hil] at this
            cases this
      by_cases htP : t = TP
      · subst htP
        have hpre := prep (.inl rfl)
        refine fin _ ?_ ?_ (hopP oi ho a w (I.pre hpre) hframe hfacts)
        · exact fun e a' w' h => h.1
        · rintro a' w' ⟨_, v, rfl, hp, hG, hS⟩
          refine step0 v w' (fun h => absurd rfl h) (fun _ => hG) (fun u hu hne _ => hS.mem u (rest u hu hne)) hp
      · have hipP : t.i ≠ TP.i := fun h => htP (hnodup t ht TP memP h)
        rcases split t ht with h | h | h
        · exact absurd h htP
        · have hpre := prep (.inr h)
          refine fin _ ?_ ?_ (hopE.mem t h oi ho a w (I.pre hpre) hframe hfacts)
          · exact fun e a' w' h => h.1
          · rintro a' w' ⟨_, v, rfl, hbel, hp⟩
            refine step0 v w' (fun _ => ⟨fun _ => (I.pre hpre).trans (hbel.mono (I.pre hpre).size), fun h => by rw [hpre] at h; cases h⟩) (fun h => absurd h hipP) (fun u hu hne hul => ?_) hp
            have huP : u ≠ TP := fun e => by rw [e, hpre] at hul; cases hul
            exact fun vs hv => hmono.mem u (rest u hu huP) vs w w' hbel hv
        · have hLw : L w := by
            cases hlp : listed.getD TP.i false with
            | false => exact hL1 w (I.pre hlp)
            | true => exact hL2 w (I.post hlp)
          refine fin _ ?_ ?_ (hopL.mem t h oi ho a w hLw hframe hfacts)
          · exact fun e a' w' h => h.1
          · rintro a' w' ⟨_, v, rfl, rfl, hp⟩
            exact step0 v _ (fun _ => ⟨I.pre, I.post⟩) (fun h => absurd h hipP) (fun u hu hne hul vs hv => hv) hp
  refine wp_region_any hm ?_
  have inv0 : HeadInv .any l.toArray n (Array.replicate l.toArray.size false) :=
    ⟨by simp, fun j oj _ hl => (by rw [getD_replicate_false] at hl; cases hl), fun t _ ht => getD_in (by simpa using ht) (getD_replicate_false _ _)⟩
  have I0 : MidInv l n TP.i T a0 w0 G (Array.replicate l.toArray.size false) a0 { w0 with drawn := w0.drawn + 1 } :=
    ⟨inv0, rfl, rfl, fun _ _ => rfl, fun _ => Still.below 1, fun hl => (by rw [getD_replicate_false] at hl; cases hl), fun t _ hl => (by rw [getD_replicate_false] at hl; cases hl)⟩
  have ht0 : todo (Array.replicate l.toArray.size false) n = n := by
    unfold todo
    rw [List.filter_eq_self.2 (fun j hj => by
      have hj' := List.mem_range.1 hj
      have : (Array.replicate l.toArray.size false).getD j true = false := getD_in (by simp; omega) (getD_replicate_false _ _)
      rw [this]; rfl), List.length_range]
  have := key n _ _ _ I0 ht0
  rwa [show n + (l.length - n) = l.toArray.size by simp; omega] at this
end
end Go.Dx
end

/- the text C27 -/
section
namespace Go.Proofs.Ythfljnlankmoiaa
open Go.RowKit Go.Dx

theorem u8_small {m : Nat} (h : m < 256) : B8 (UInt8.ofNat m) = .int .u8 (m : Int) := by
  show Value.int .u8 ((UInt8.ofNat m).toNat : Int) = _
  rw [UInt8.toNat_ofNat', Nat.mod_eq_of_lt h]
theorem OPage.under {w : World} {B : Nat} {a : Option Addr} {c : Nat} {hs : List Hd} {p : List (List UInt8)} (h : OPage w B a c hs p) : Under w.heap.size hs := by
  intro i x hx q hq
  have hi : i < p.length := by rw [← h.len]; exact (List.getElem?_eq_some_iff.1 hx).1
  have ho := h.row i x p[i] hx (by simp [hi])
  rw [hq] at ho
  exact ho.base.2
set_option maxRecDepth 100000 in
set_option maxHeartbeats 1000000 in
theorem ref_Page (l : List Int) (a : Option Addr) (n c : Nat) (w : World) (hs : Sl w 1 a n c (l.map I64)) (hl : ∀ x ∈ l, -9223372036854775808 ≤ x ∧ x ≤ 9223372036854775807) :
    Calls Try.prog 26 #[.slice a n c] w (GivesPage w) := by
  obtain ⟨K, HK⟩ : ∃ K, Hid (atF l 0 6 = K) := ⟨_, hide rfl⟩
  have hK : K < 6 := by rw [← HK.out]; exact atF_lt (by omega)
  have HQ : Hid (∀ (i v : Int) (m r : Nat), atF l i m = r → (m : Int) = v → 1 ≤ m → m ≤ 1000000000 → ∀ w', Below w.heap.size w w' → Calls Try.prog 55 #[.slice a n c, .int .i64 i, .int .i64 v] w' fun e w2 => e = .returned (.int .i64 (r : Int)) ∧ w' = w2) :=
    fun i v m r h hv h1 h2 w' hb => At_at h hv h1 h2 hl (hs.below hb)
  clear hl
  go_enter Try.func26, Try.ntmps26
  go_wp2_with fail
  refine (HQ.out 0 _ 6 K HK.out rfl (by omega) (by omega) _ (Below.refl _ _)).mono ?_
  rintro e w1 ⟨rfl, rfl⟩
  go_wp2_with fail
  go_loopg [3, 5] K (fun g x i w' => ∃ (k : Nat) (a2 : Option Addr) (c2 : Nat) (hs : List Hd) (p : List (List UInt8)), k ≤ K ∧ g = K - k ∧ p.length = k ∧ (∀ r ∈ p, r.length ≤ 9) ∧ i = .int .i64 k ∧ x = .slice a2 k c2 ∧ OPage w' w.heap.size a2 c2 hs p ∧ Apart hs ∧ Under w'.heap.size hs ∧ Below w.heap.size w w')
  case atStart => exact ⟨0, none, 0, [], [], by omega, by omega, rfl, by simp, rfl, rfl, OPage.nil _ _, Apart.nil, Under.nil _, Below.refl _ _⟩
  case round =>
    obtain ⟨k, a2, c2, hs2, p, hk, hg, hpk, hpr, rfl, rfl, hop, hap, hun, hbk⟩ := hrel
    have HG := hide hg
    have HPK := hide hpk
    have HPR := hide hpr
    clear hg hpk hpr
    by_cases hkl : k < K
    · obtain ⟨wd, Hwd⟩ : ∃ wd, Hid (atF l (1 + (k : Int)) 10 = wd) := ⟨_, hide rfl⟩
      have hwd : wd < 10 := by rw [← Hwd.out]; exact atF_lt (by omega)
      obtain ⟨wy, rfl⟩ : ∃ wy : World, wy = wr := ⟨_, rfl⟩
      go_wp2_with fail
      refine (HQ.out _ _ 10 wd Hwd.out rfl (by omega) (by omega) _ hbk).mono ?_
      rintro e w1 ⟨rfl, rfl⟩
      go_wp2_with fail
      go_loopg [6, 8] wd (fun g x i w' => ∃ (j : Nat) (a3 : Option Addr) (c3 : Nat) (xs : List UInt8), j ≤ wd ∧ g = wd - j ∧ xs.length = j ∧ i = .int .i64 j ∧ x = .slice a3 j c3 ∧ Own w' wy.heap.size 5 1 a3 j c3 (xs.map B8) ∧ Below wy.heap.size wy w')
      case atStart => exact ⟨0, none, 0, [], by omega, by omega, rfl, rfl, rfl, Own.nil _ _ _ _, Below.refl _ _⟩
      case round =>
        obtain ⟨j, a3, c3, xs, hj, hg1, hxl, rfl, rfl, hox, hbj⟩ := hrel
        have HG1 := hide hg1
        have HXL := hide hxl
        clear hg1 hxl
        by_cases hjl : j < wd
        · obtain ⟨m, Hm⟩ : ∃ m, Hid (atF l (6 + 9 * (k : Int) + (j : Int)) 80 = m) := ⟨_, hide rfl⟩
          have hm : m < 80 := by rw [← Hm.out]; exact atF_lt (by omega)
          go_wp2_with fail
          refine (HQ.out _ _ 80 m Hm.out rfl (by omega) (by omega) _ (hbk.trans (hbj.mono hbk.size))).mono ?_
          rintro e w1 ⟨rfl, rfl⟩
          by_cases h64 : 64 ≤ m
          · go_wp2_with (at_builtin; refine app_b rfl _ _ rfl wy wy.heap.size _ _ _ _ rfl hox _ rfl (by omega) hbj.size hbj ?_; intro a' c' w' ho' hgr' hb')
            go_roundg (wd - (j + 1))
            case measure => have := HG1.out; omega
            case rel => exact ⟨j + 1, a', c', xs ++ [UInt8.ofNat 0], by omega, rfl, by rw [List.length_append, HXL.out]; rfl, by go_num, rfl, by rw [List.map_append]; exact ho', hb'⟩
          · go_wp2_with (at_builtin; refine app_b rfl _ _ rfl wy wy.heap.size _ _ _ _ rfl hox _ rfl (by omega) hbj.size hbj ?_; intro a' c' w' ho' hgr' hb')
            go_roundg (wd - (j + 1))
            case measure => have := HG1.out; omega
            case rel => exact ⟨j + 1, a', c', xs ++ [UInt8.ofNat m], by omega, rfl, by rw [List.length_append, HXL.out]; rfl, by go_num, rfl, by rw [List.map_append]; show Own _ _ _ _ _ _ _ (xs.map B8 ++ [B8 (UInt8.ofNat m)]); rw [u8_small (by omega)]; exact ho', hb'⟩
        · obtain rfl : wd = j := by omega
          have hnew : ∀ q, (a3, wd, c3).1 = some q → wy.heap.size ≤ q.block := fun q hq => by
            have hq' : a3 = some q := hq
            subst hq'
            exact hox.base.1
          go_wp2_with (at_builtin; refine app_p rfl _ _ rfl w w.heap.size _ _ _ hs2 p HPK.out rfl (hop.below hbj) (a3, wd, c3) xs (hox.mono hbk.size) rfl (by omega) (Nat.le_trans hbk.size hbj.size) (hbk.trans (hbj.mono hbk.size)) ?_; intro a' c' w' ho' hb')
          go_roundg (K - (k + 1))
          case measure => have := HG.out; omega
          case rel =>
            refine ⟨k + 1, a', c', hs2 ++ [(a3, wd, c3)], p ++ [xs], by omega, rfl, by rw [List.length_append, HPK.out]; rfl, ?_, by go_num, rfl, ho', hap.push hun hnew, ho'.under, hb'⟩
            intro r hr
            rcases List.mem_append.1 hr with h | h
            · exact HPR.out r h
            · rw [List.mem_singleton.1 h, HXL.out]; omega
    · obtain rfl : K = k := by omega
      have HKL : Hid (hs2.length = K) := hide (by rw [hop.len, HPK.out])
      by_cases hK0 : K = 0
      · obtain ⟨s, Hs⟩ : ∃ s, Hid (atF l 51 12 = s) := ⟨_, hide rfl⟩
        have hs12 : s < 12 := by rw [← Hs.out]; exact atF_lt (by omega)
        subst hK0
        by_cases hs0 : s = 0
        · subst hs0
          go_wp2_with fail
          refine (HQ.out _ _ 12 0 Hs.out rfl (by omega) (by omega) _ hbk).mono ?_
          rintro e w1 ⟨rfl, rfl⟩
          go_wp2_with fail
          go_ret
          exact ⟨p, a2, c2, hs2, by rw [HPK.out]; omega, fun l h => Nat.le_succ_of_le (HPR.out l h), by rw [HPK.out]; rfl, hop, hbk⟩
        · go_wp2_with fail
          refine (HQ.out _ _ 12 s Hs.out rfl (by omega) (by omega) _ hbk).mono ?_
          rintro e w1 ⟨rfl, rfl⟩
          go_wp2_with fail
          go_ret
          exact ⟨p, a2, c2, hs2, by rw [HPK.out]; omega, fun l h => Nat.le_succ_of_le (HPR.out l h), by rw [HPK.out]; rfl, hop, hbk⟩
      obtain ⟨s, Hs⟩ : ∃ s, Hid (atF l 51 12 = s) := ⟨_, hide rfl⟩
      have hs12 : s < 12 := by rw [← Hs.out]; exact atF_lt (by omega)
      by_cases hs0 : ¬ s = 0
      · go_wp2_with fail
        refine (HQ.out _ _ 12 s Hs.out rfl (by omega) (by omega) _ hbk).mono ?_
        rintro e w1 ⟨rfl, rfl⟩
        go_wp2_with fail
        go_ret
        exact ⟨p, a2, c2, hs2, by rw [HPK.out]; omega, fun l h => Nat.le_succ_of_le (HPR.out l h), by rw [HPK.out]; rfl, hop, hbk⟩
      obtain rfl := Decidable.not_not.1 hs0
      obtain ⟨kk, HKK⟩ : ∃ kk : Nat, Hid ((K : Int) - 1 = (kk : Int)) := ⟨K - 1, hide (by omega)⟩
      have hkk : kk < K := by have := HKK.out; omega
      obtain ⟨⟨xa, xn, xc⟩, hx⟩ : ∃ x, hs2[kk]? = some x := ⟨hs2[kk]'(by rw [HKL.out]; exact hkk), by simp [HKL.out, hkk]⟩
      have hpl : kk < p.length := by rw [HPK.out]; exact hkk
      obtain ⟨r, hr⟩ : ∃ r, p[kk]? = some r := ⟨p[kk]'hpl, by simp [hpl]⟩
      have hrow := hop.row kk _ _ hx hr
      have hrl := HPR.out r (List.mem_of_getElem? hr)
      have hxn : xn ≤ 9 := by have := hrow.len; simp at this; omega
      have hat : (hs2.map hv)[kk]? = some (.slice xa xn xc) := by rw [List.getElem?_map, hx]; rfl
      have hcall : ∀ w', Below w.heap.size w w' → Calls Try.prog 55 #[.slice a n c, .int .i64 52, .int .i64 192] w' fun e w2 => e = .returned (.int .i64 (atF l 52 192 : Int)) ∧ w' = w2 := fun w' hb =>
        HQ.out _ _ 192 _ rfl rfl (by omega) (by omega) w' hb
      have hm := atF_lt (l := l) (i := 52) (m := 192) (by omega)
      generalize atF l 52 192 = m at hcall hm
      obtain ⟨q, Mq⟩ : ∃ q : Nat, Hid (64 + (m : Int) = (q : Int)) := ⟨64 + m, hide (by omega)⟩
      have hq : q < 256 := by have := Mq.out; omega
      obtain ⟨tb, rfl⟩ : ∃ tb, a2 = some ⟨tb, 0, none⟩ := by
        cases a2 with
        | none => have := hop.top.sl.nil rfl; have := hop.top.sl.le; have := HPK.out; omega
        | some t => exact ⟨t.block, congrArg some hop.top.zero⟩
      go_wp2_with fail
      refine (HQ.out _ _ 12 0 Hs.out rfl (by omega) (by omega) _ hbk).mono ?_
      rintro e w1 ⟨rfl, rfl⟩
      go_wp2_with fail
      refine wp_region_mid 14 (Below w.heap.size w) (fun w' => wr.grownBy w' (xa.map (·.block)) ∧ Below w.heap.size w w') ⟨13, 64, [64], fun vs w' => ∃ a' c', vs = [.slice a' (xn + 1) c'] ∧ Own w' w.heap.size 5 1 a' (xn + 1) c' ((r ++ [UInt8.ofNat q]).map B8)⟩ [⟨7, 58, [58], fun vs _ => vs = [.slice xa xn xc]⟩, ⟨12, 63, [63], fun vs w => ∃ b, vs = [.slice (some ⟨b, 0, none⟩) 1 1] ∧ wr.heap.size ≤ b ∧ b < w.heap.size ∧ Sl w 1 (some ⟨b, 0, none⟩) 1 1 [.int .u8 (q : Int)]⟩] [⟨0, 51, [51], fun vs _ => vs = [.slice (some ⟨tb, 0, none⟩) K c2]⟩, ⟨1, 52, [52], fun vs _ => vs = [.int .i64 (K : Int)]⟩, ⟨2, 53, [53], fun vs _ => vs = [.int .i64 (kk : Int)]⟩, ⟨3, 54, [54], fun vs _ => vs = [.slice (some ⟨tb, 0, none⟩) K c2]⟩, ⟨4, 55, [55], fun vs _ => vs = [.int .i64 (K : Int)]⟩, ⟨5, 56, [56], fun vs _ => vs = [.int .i64 (kk : Int)]⟩, ⟨6, 57, [57], fun vs _ => vs = [.pointer (some ⟨tb, kk, none⟩)]⟩, ⟨8, 59, [59], fun vs _ => vs = [.slice a n c]⟩, ⟨9, 60, [60], fun vs _ => vs = [.int .i64 (m : Int)]⟩, ⟨10, 61, [61], fun vs _ => vs = [.int .i64 (q : Int)]⟩, ⟨11, 62, [62], fun vs _ => vs = [.int .u8 (q : Int)]⟩] (by kernel_rfl) (by kernel_rfl) ?_ ?_ ?_ ?_ ?_ ?_ ?_
      · exact fun w' h => hbk.trans (h.mono hbk.size)
      · exact fun w' h => h.2
      · simp only [All, List.cons_append, List.nil_append]
        refine ⟨fun _ _ _ _ h => h, ?_, fun _ _ _ _ h => h, fun _ _ _ _ h => h, fun _ _ _ _ h => h, fun _ _ _ _ h => h, fun _ _ _ _ h => h, fun _ _ _ _ h => h, fun _ _ _ _ h => h, fun _ _ _ _ h => h, fun _ _ _ _ h => h, fun _ _ _ _ h => h, fun _ _ _ _ h => h, trivial⟩
        · rintro vs w w' hb ⟨b, h1, h0, h3, h2⟩
          exact ⟨b, h1, h0, Nat.lt_of_lt_of_le h3 hb.size, h2.below hb⟩
      · intro o ho a' w' hb hfr hdep
        obtain rfl := Option.some.inj ho
        have g58 : a'.tmps[58]?.getD undef = .slice xa xn xc := by have h := hdep 1 _ rfl (by kernel_rfl); simpa using h
        obtain ⟨b, g63, hb0, hb1, hsb⟩ := hdep 2 _ rfl (by kernel_rfl)
        simp at g63
        clear ho hfr hdep
        have hbw := hbk.trans (hb.mono hbk.size)
        refine append_own rfl _ _ 23 rfl 5 (.int .u8 0) 1 1 Try.underlying23 info_u8 rfl w w.heap.size xa xn xc _ (by show a'.tmps.getD 58 undef = _; simpa using g58) (hrow.below hb) _ 1 1 [.int .u8 (q : Int)] (by show a'.tmps.getD 63 undef = _; simpa using g63) hsb (by simp [Value.oneCell']) (by omega) (by unfold maxLen; omega) hbw.size hbw ?_
        intro a3 c3 w3 ho' hgr' hb'
        rw [← u8_small hq] at ho'
        go_wp2
        refine ⟨rfl, _, rfl, ⟨a3, c3, rfl, ho'⟩, ⟨grown_trans (grown_of_below hb _) hgr', hb'⟩, ?_⟩
        simp only [All]
        refine ⟨fun _ h => h, ?_, fun _ h => h, fun _ h => h, fun _ h => h, fun _ h => h, fun _ h => h, fun _ h => h, fun _ h => h, fun _ h => h, fun _ h => h, fun _ h => h, fun _ h => h, trivial⟩
        rintro vs ⟨b2, h1, h0, h3, h2⟩
        refine ⟨b2, h1, h0, Nat.lt_of_lt_of_le h3 hgr'.size, h2.grown hgr' ?_⟩
        intro q2 hq2 e2
        cases hq2
        cases hxa : xa with
        | none => rw [hxa] at e2; cases e2
        | some q3 =>
          rw [hxa] at e2 hrow
          have := hrow.base
          simp at e2
          omega
      · simp only [All]
        refine ⟨?_, ?_, trivial⟩
        · intro o ho a' w' hb hfr hdep
          obtain rfl := Option.some.inj ho
          have g57 : a'.tmps[57]?.getD undef = .pointer (some ⟨tb, kk, none⟩) := by have h := hdep 9 _ rfl (by kernel_rfl); simpa using h
          clear ho hfr hdep
          have hq := (hop.top.below hb).at_ hat
          go_wp2_with fail
          exact ⟨rfl, _, rfl, Below.refl _ _, rfl⟩
        · intro o ho a' w' hb hfr hdep
          obtain rfl := Option.some.inj ho
          have g62 : a'.tmps[62]?.getD undef = .int .u8 (q : Int) := by have h := hdep 13 _ rfl (by kernel_rfl); simpa using h
          clear ho hfr hdep
          go_wp2_with fail
          exact ⟨rfl, _, rfl, bl1 _ _, _, rfl, hb.size, by simp, Sl.fresh _ _ 1 1 [.int .u8 (q : Int)] rfl (by unfold maxLen; omega)⟩
      · simp only [All]
        refine ⟨?_, ?_, ?_, ?_, ?_, ?_, ?_, ?_, ?_, ?_, ?_, trivial⟩
        · intro o ho a' w' hb hfr hdep
          obtain rfl := Option.some.inj ho
          have g3 : a'.tmps[3]?.getD undef = .slice (some ⟨tb, 0, none⟩) K c2 := by have h := hfr 3 (by kernel_rfl); simpa using h
          clear ho hfr hdep
          go_wp2_with fail
          exact ⟨rfl, _, rfl, rfl, rfl⟩
        · intro o ho a' w' hb hfr hdep
          obtain rfl := Option.some.inj ho
          have g4 : a'.tmps[4]?.getD undef = .int .i64 (K : Int) := by have h := hfr 4 (by kernel_rfl); simpa using h
          clear ho hfr hdep
          go_wp2_with fail
          exact ⟨rfl, _, rfl, rfl, rfl⟩
        · intro o ho a' w' hb hfr hdep
          obtain rfl := Option.some.inj ho
          have g52 : a'.tmps[52]?.getD undef = .int .i64 (K : Int) := by have h := hdep 4 _ rfl (by kernel_rfl); simpa using h
          clear ho hfr hdep
          go_wp2_with fail
          exact ⟨rfl, _, rfl, rfl, by show [Value.int .i64 ((K : Int) - 1)] = _; rw [HKK.out]⟩
        · intro o ho a' w' hb hfr hdep
          obtain rfl := Option.some.inj ho
          have g3 : a'.tmps[3]?.getD undef = .slice (some ⟨tb, 0, none⟩) K c2 := by have h := hfr 3 (by kernel_rfl); simpa using h
          clear ho hfr hdep
          go_wp2_with fail
          exact ⟨rfl, _, rfl, rfl, rfl⟩
        · intro o ho a' w' hb hfr hdep
          obtain rfl := Option.some.inj ho
          have g4 : a'.tmps[4]?.getD undef = .int .i64 (K : Int) := by have h := hfr 4 (by kernel_rfl); simpa using h
          clear ho hfr hdep
          go_wp2_with fail
          exact ⟨rfl, _, rfl, rfl, rfl⟩
        · intro o ho a' w' hb hfr hdep
          obtain rfl := Option.some.inj ho
          have g55 : a'.tmps[55]?.getD undef = .int .i64 (K : Int) := by have h := hdep 7 _ rfl (by kernel_rfl); simpa using h
          clear ho hfr hdep
          go_wp2_with fail
          exact ⟨rfl, _, rfl, rfl, by show [Value.int .i64 ((K : Int) - 1)] = _; rw [HKK.out]⟩
        · intro o ho a' w' hb hfr hdep
          obtain rfl := Option.some.inj ho
          have g54 : a'.tmps[54]?.getD undef = .slice (some ⟨tb, 0, none⟩) K c2 := by have h := hdep 6 _ rfl (by kernel_rfl); simpa using h
          have g56 : a'.tmps[56]?.getD undef = .int .i64 (kk : Int) := by have h := hdep 8 _ rfl (by kernel_rfl); simpa using h
          clear ho hfr hdep
          go_wp2_with fail
          exact ⟨rfl, _, rfl, rfl, rfl⟩
        · intro o ho a' w' hb hfr hdep
          obtain rfl := Option.some.inj ho
          have g0 : a'.tmps[0]?.getD undef = .slice a n c := by have h := hfr 0 (by kernel_rfl); simpa using h
          clear ho hfr hdep
          go_wp2_with fail
          exact ⟨rfl, _, rfl, rfl, rfl⟩
        · intro o ho a' w' hb hfr hdep
          obtain rfl := Option.some.inj ho
          have g59 : a'.tmps[59]?.getD undef = .slice a n c := by have h := hdep 10 _ rfl (by kernel_rfl); simpa using h
          clear ho hfr hdep
          go_wp2_with fail
          refine (hcall _ hb).mono ?_
          rintro e w2 ⟨rfl, rfl⟩
          go_wp2_with fail
          exact ⟨rfl, _, rfl, rfl, rfl⟩
        · intro o ho a' w' hb hfr hdep
          obtain rfl := Option.some.inj ho
          have g60 : a'.tmps[60]?.getD undef = .int .i64 (m : Int) := by have h := hdep 11 _ rfl (by kernel_rfl); simpa using h
          clear ho hfr hdep
          go_wp2_with fail
          exact ⟨rfl, _, rfl, rfl, by show [Value.int .i64 (64 + (m : Int))] = _; rw [Mq.out]⟩
        · intro o ho a' w' hb hfr hdep
          obtain rfl := Option.some.inj ho
          have g61 : a'.tmps[61]?.getD undef = .int .i64 (q : Int) := by have h := hdep 12 _ rfl (by kernel_rfl); simpa using h
          clear ho hfr hdep
          go_wp2_with fail
          exact ⟨rfl, _, rfl, rfl, rfl⟩
      · intro g w2 hG hp
        obtain ⟨a', c', p64, ho'⟩ := hp 0 _ rfl
        have p51 := hp 3 _ rfl
        have p53 := hp 5 _ rfl
        clear hp
        simp at p51 p53 p64
        simp only [List.map_cons, List.map_nil, List.cons_append, List.nil_append, putAll, Act.put, List.setIfInBounds_toArray, List.set_cons_succ, List.set_cons_zero, p51, p53, p64]
        have ht := hop.top_kept hx hG.1
        have hat2 := ht.at_ hat
        have hfr2 := ht.free kk
        go_wp2
        go_ret
        refine ⟨p.set kk (r ++ [UInt8.ofNat q]), some ⟨tb, 0, none⟩, c2, hs2.set kk (a', xn + 1, c'), by rw [List.length_set, HPK.out]; omega, ?_, by rw [List.length_set, HPK.out]; rfl, ?_, hG.2.setCell (p := ⟨tb, kk, none⟩) ht.base.1 _⟩
        · intro x hx
          rcases List.mem_or_eq_of_mem_set hx with h | h
          · exact Nat.le_succ_of_le (HPR.out x h)
          · rw [h, List.length_append]; simp; omega
        · exact hop.replace (y := (a', xn + 1, c')) (r := r ++ [UInt8.ofNat q]) hx hG.1 (fun j z hz hne q q' hq hq' => hap j kk z _ hz hx hne q q' hq hq') ho' 
end Go.Proofs.Ythfljnlankmoiaa
end

/- the text CR1 -/
section
namespace Go.Proofs.Ythfljnlankmoiaa
open Go.RowKit Go.Dx

theorem u8_of {z : Int} (hz : (Lit.int .u8 z).wf = true) : ∃ u : UInt8, z = (u.toNat : Int) := by
  have hb : 0 ≤ z ∧ z ≤ 255 := bounds_u8 hz
  refine ⟨UInt8.ofNat z.toNat, ?_⟩
  rw [UInt8.toNat_ofNat']; omega
theorem row_CellDots {z : Int} (hz : (Lit.int .u8 z).wf = true) {l : List Int} {a : Option Addr} {n c : Nat} {k : List UInt8} {a2 : Option Addr} {n2 c2 : Nat} {w : World} (hs : Sl w 1 a n c (l.map I64)) (hk : Sl w 1 a2 n2 c2 (k.map B8)) :
    Calls Try.prog 3 #[.int .u8 z, .slice a n c, .slice a2 n2 c2] w fun e w' => e = .returned (.bool true) ∧ Below w.heap.size w w' := by
  obtain ⟨u, rfl⟩ := u8_of hz
  exact walk_CellDots u l a n c k a2 n2 c2 w hs hk
end Go.Proofs.Ythfljnlankmoiaa
end

/- the text Pure6 -/
section
/- Round trips of strings and lists. No Go. -/
namespace Go.Dx

/-- a decoder reads back what its encoder wrote, whatever follows -/
def Round {α : Type} (P : α → Prop) (f : List UInt8 → α × Int × Int) (enc : α → List UInt8) : Prop :=
  ∀ x t, P x → f (enc x ++ t) = (x, (((enc x).length : Nat) : Int), 0) ∧ 1 ≤ (enc x).length
theorem round_int : Round (fun x => -9223372036854775808 ≤ x ∧ x ≤ 9223372036854775807) decInt encInt := fun x t h => ⟨decInt_enc h.1 h.2 t, encInt_pos x⟩
theorem cnt_round {N : Nat} (hN : N ≤ 9223372036854775807) {size : Int} (h1 : 1 ≤ size) {r : List UInt8} (hr : N * size.toNat ≤ r.length) : cntErr (encInt (N : Int) ++ r) size = 0 := by
  have hd := decInt_enc (n := (N : Int)) (by omega) (by omega) r
  unfold cntErr
  rw [hd, if_neg (by simp), if_neg (by simp only; omega), if_neg]
  simp only
  rw [List.length_append]
  obtain ⟨S, rfl⟩ := Int.eq_ofNat_of_zero_le (a := size) (by omega)
  simp only [Int.toNat_natCast] at hr
  intro h
  have h2 : ¬ (N : Int) ≤ (((encInt (N : Int)).length + r.length : Nat) - ((encInt (N : Int)).length : Int) : Int) / (S : Int) := by omega
  apply h2
  rw [Int.le_ediv_iff_mul_le (by omega)]
  have h3 : ((N * S : Nat) : Int) = (N : Int) * (S : Int) := by simp
  rw [← h3]
  omega
theorem round_bytes : Round (fun s : ByteArray => s.size ≤ 9223372036854775807) decBytes (fun s => encBytes s.data.toList) := fun s t hs => by
  have hl : s.data.toList.length = s.size := Array.length_toList
  refine ⟨?_, ?_⟩
  · have e : encBytes s.data.toList ++ t = encInt (s.size : Int) ++ (s.data.toList ++ t) := by unfold encBytes; rw [hl, List.append_assoc]
    have hc : cntErr (encInt (s.size : Int) ++ (s.data.toList ++ t)) 1 = 0 := cnt_round hs (by omega) (by rw [List.length_append]; simp)
    have hd := decInt_enc (n := (s.size : Int)) (by omega) (by omega) (s.data.toList ++ t)
    simp only [e]
    unfold decBytes
    rw [if_pos hc, hd]
    simp only [Int.toNat_natCast]
    have e2 : (encInt (s.size : Int) ++ (s.data.toList ++ t)).drop (encInt (s.size : Int)).length = s.data.toList ++ t := List.drop_left
    have e3 : (s.data.toList ++ t).take s.size = s.data.toList := by rw [← hl]; exact List.take_left
    rw [e2, e3]
    unfold encBytes
    rw [hl, List.length_append, hl]
    simp
  · have := encInt_pos (s.data.toList.length : Int)
    unfold encBytes
    rw [List.length_append]
    omega
theorem seqTo_round {α : Type} {P : α → Prop} {f : List UInt8 → α × Int × Int} {enc : α → List UInt8} (hf : Round P f enc) (pre t : List UInt8) : ∀ (xs : List α), (∀ x ∈ xs, P x) →
    ∀ k, k ≤ xs.length → seqTo f (pre ++ (xs.flatMap enc ++ t)) pre.length k = (xs.take k, pre.length + ((xs.take k).flatMap enc).length, 0) := by
  intro xs hP k
  induction k with
  | zero => intro _; simp [seqTo]
  | succ k ih =>
    intro hk
    have h := ih (by omega)
    have hx : k < xs.length := by omega
    have hsplit : xs.flatMap enc = (xs.take k).flatMap enc ++ (enc xs[k] ++ (xs.drop (k + 1)).flatMap enc) := by
      conv => lhs; rw [← List.take_append_drop k xs, List.drop_eq_getElem_cons hx]
      rw [List.flatMap_append, List.flatMap_cons]
    have hd : (pre ++ (xs.flatMap enc ++ t)).drop (pre.length + ((xs.take k).flatMap enc).length) = enc xs[k] ++ ((xs.drop (k + 1)).flatMap enc ++ t) := by
      rw [List.drop_append, List.drop_of_length_le (by omega), List.nil_append, Nat.add_sub_cancel_left, hsplit, List.append_assoc, List.drop_left, List.append_assoc]
    have hr := (hf xs[k] ((xs.drop (k + 1)).flatMap enc ++ t) (hP _ (List.getElem_mem hx))).1
    rw [seqTo_step h (by rw [hd, hr]), hd, hr]
    have ht : xs.take (k + 1) = xs.take k ++ [xs[k]] := by rw [List.take_add_one, List.getElem?_eq_getElem hx]; rfl
    rw [ht, List.flatMap_append, List.length_append]
    simp [Nat.add_assoc]
theorem flatMap_ge {α : Type} {enc : α → List UInt8} : ∀ {xs : List α}, (∀ x ∈ xs, 1 ≤ (enc x).length) → xs.length ≤ (xs.flatMap enc).length
  | [], _ => by simp
  | x :: xs, h => by
    rw [List.flatMap_cons, List.length_append, List.length_cons]
    have := h x List.mem_cons_self
    have := flatMap_ge (xs := xs) fun y hy => h y (List.mem_cons_of_mem _ hy)
    omega
theorem decSeq_round {α : Type} {P : α → Prop} {f : List UInt8 → α × Int × Int} {enc : α → List UInt8} (hf : Round P f enc) (xs : List α) (hP : ∀ x ∈ xs, P x) (hN : xs.length ≤ 9223372036854775807) (t : List UInt8) :
    decSeq f ((encInt (xs.length : Int) ++ xs.flatMap enc) ++ t) = (xs, (((encInt (xs.length : Int) ++ xs.flatMap enc).length : Nat) : Int), 0) := by
  have hge : xs.length ≤ (xs.flatMap enc).length := flatMap_ge fun x hx => (hf x [] (hP x hx)).2
  have hd := decInt_enc (n := (xs.length : Int)) (by omega) (by omega) (xs.flatMap enc ++ t)
  have hc : cntErr (encInt (xs.length : Int) ++ (xs.flatMap enc ++ t)) 1 = 0 := cnt_round hN (by omega) (by rw [List.length_append, show ((1 : Int).toNat) = 1 from rfl]; omega)
  have hs := seqTo_round hf (encInt (xs.length : Int)) t xs hP xs.length (Nat.le_refl _)
  rw [List.take_length] at hs
  rw [List.append_assoc, decSeq_ok hc (by rw [hd]) (by rw [hd]) hs, List.length_append]
end Go.Dx
end

/- the text Pure8 -/
section
/- Proper prefixes of encodings ask for more. No Go. -/
namespace Go.Dx

theorem cnt_more_enc {N : Nat} (hN : N ≤ 9223372036854775807) {size : Int} {i : Nat} (r : List UInt8) (hi : i < (encInt (N : Int)).length) : cntErr ((encInt (N : Int) ++ r).take i) size = 3 := by
  have h := decInt_cut (n := (N : Int)) (by omega) (by omega) hi
  rw [List.take_append_of_le_length (by omega)]
  unfold cntErr
  rw [h, if_pos (by decide)]
theorem cnt_more {N : Nat} (hN : N ≤ 9223372036854775807) {S : Nat} (h1 : 1 ≤ S) (t : List UInt8) (ht : t.length < N * S) : cntErr (encInt (N : Int) ++ t) (S : Int) = 3 := by
  have hd := decInt_enc (n := (N : Int)) (by omega) (by omega) t
  unfold cntErr
  rw [hd, if_neg (by simp), if_neg (by simp only; omega), if_pos]
  simp only
  rw [List.length_append]
  have e : (((encInt (N : Int)).length + t.length : Nat) : Int) - ((encInt (N : Int)).length : Int) = (t.length : Int) := by omega
  rw [e]
  have h3 : t.length / S < N := (Nat.div_lt_iff_lt_mul (by omega)).2 ht
  have h4 : (t.length : Int) / (S : Int) = ((t.length / S : Nat) : Int) := by simp
  rw [h4]
  omega
theorem take_enc {N : Nat} (r : List UInt8) {i : Nat} (hi : (encInt (N : Int)).length ≤ i) : (encInt (N : Int) ++ r).take i = encInt (N : Int) ++ r.take (i - (encInt (N : Int)).length) := by
  rw [List.take_append, List.take_of_length_le hi]

/-- what lacks its end asks for more -/
def Cuts {α : Type} (P : α → Prop) (f : List UInt8 → α × Int × Int) (enc : α → List UInt8) : Prop := ∀ x i, P x → i < (enc x).length → (f ((enc x).take i)).2.2 = 3
theorem cuts_int : Cuts (fun x => -9223372036854775808 ≤ x ∧ x ≤ 9223372036854775807) decInt encInt := fun x i h hi => by rw [decInt_cut h.1 h.2 hi]
theorem cuts_bytes : Cuts (fun s : ByteArray => s.size ≤ 9223372036854775807) decBytes (fun s => encBytes s.data.toList) := fun s i hs hi => by
  have hl : s.data.toList.length = s.size := Array.length_toList
  simp only [encBytes] at hi ⊢
  rw [hl] at hi ⊢
  rw [List.length_append, hl] at hi
  have hs : s.size ≤ 9223372036854775807 := hs
  have hc : cntErr ((encInt (s.size : Int) ++ s.data.toList).take i) 1 = 3 := by
    by_cases h : i < (encInt (s.size : Int)).length
    · exact cnt_more_enc hs _ h
    · rw [take_enc _ (by omega)]
      exact cnt_more (S := 1) hs (by omega) _ (by rw [List.length_take, hl]; omega)
  unfold decBytes
  rw [if_neg (by rw [hc]; decide), hc]

theorem cut_at {α : Type} (enc : α → List UInt8) : ∀ (xs : List α) (j : Nat), j < (xs.flatMap enc).length →
    ∃ (k : Nat) (hk : k < xs.length) (m : Nat), m < (enc xs[k]).length ∧ (xs.flatMap enc).take j = (xs.take k).flatMap enc ++ (enc xs[k]).take m
  | [], j, h => by simp at h
  | x :: xs, j, h => by
    rw [List.flatMap_cons, List.length_append] at h
    by_cases hj : j < (enc x).length
    · refine ⟨0, by simp, j, by simpa using hj, ?_⟩
      rw [List.flatMap_cons, List.take_append_of_le_length (by omega)]
      simp
    · obtain ⟨k, hk, m, hm, e⟩ := cut_at enc xs (j - (enc x).length) (by omega)
      refine ⟨k + 1, by simpa using hk, m, by simpa using hm, ?_⟩
      rw [List.flatMap_cons, List.take_append, List.take_of_length_le (by omega), e]
      simp
theorem decSeq_cut {α : Type} {P : α → Prop} {f : List UInt8 → α × Int × Int} {enc : α → List UInt8} (hf : Round P f enc) (hc : Cuts P f enc) (xs : List α) (hP : ∀ x ∈ xs, P x) (hN : xs.length ≤ 9223372036854775807)
    {i : Nat} (hi : i < (encInt (xs.length : Int) ++ xs.flatMap enc).length) : decSeq f ((encInt (xs.length : Int) ++ xs.flatMap enc).take i) = ([], 0, 3) := by
  rw [List.length_append] at hi
  by_cases h : i < (encInt (xs.length : Int)).length
  · rw [decSeq_cnt (by rw [cnt_more_enc hN _ h]; decide), cnt_more_enc hN _ h]
  · rw [take_enc _ (by omega)]
    generalize hj : i - (encInt (xs.length : Int)).length = j
    have hj2 : j < (xs.flatMap enc).length := by omega
    by_cases hlt : j < xs.length * 1
    · have h3 : cntErr (encInt (xs.length : Int) ++ (xs.flatMap enc).take j) 1 = 3 := cnt_more (S := 1) hN (by omega) _ (by rw [List.length_take]; omega)
      rw [decSeq_cnt (by rw [h3]; decide), h3]
    · have h0 : cntErr (encInt (xs.length : Int) ++ (xs.flatMap enc).take j) 1 = 0 := cnt_round hN (by omega) (by rw [List.length_take]; show _ * 1 ≤ _; omega)
      have hd := decInt_enc (n := (xs.length : Int)) (by omega) (by omega) ((xs.flatMap enc).take j)
      obtain ⟨k, hk, m, hm, e⟩ := cut_at enc xs j hj2
      have hs := seqTo_round hf (encInt (xs.length : Int)) ((enc xs[k]).take m) (xs.take k) (fun x hx => hP x (List.mem_of_mem_take hx)) k (by rw [List.length_take]; omega)
      rw [List.take_take, Nat.min_self] at hs
      rw [e]
      rw [e] at h0 hd
      have hdrop : (encInt (xs.length : Int) ++ ((xs.take k).flatMap enc ++ (enc xs[k]).take m)).drop ((encInt (xs.length : Int)).length + ((xs.take k).flatMap enc).length) = (enc xs[k]).take m := by
        rw [← List.append_assoc, ← List.length_append, List.drop_left]
      have h3 := hc xs[k] m (hP _ (List.getElem_mem hk)) hm
      have hst := seqTo_stop hs (by rw [hdrop, h3]; decide)
      rw [hdrop, h3] at hst
      exact decSeq_err h0 (by rw [hd]) (by rw [hd]) hk (by decide) hst
end Go.Dx
end

/- the text Law7 -/
section
namespace Go.Proofs.Ythfljnlankmoiaa
open Go.RowKit Go.Dx

def total (xs : List ByteArray) : Nat := (xs.map (·.size)).sum
theorem ret_dec {p q : Prop} [Decidable p] [Decidable q] (h : p ↔ q) : Ending.returned (.bool (decide p)) = .returned (.bool (decide q)) := by rw [decide_eq_decide.2 h]
theorem total_snoc (xs : List ByteArray) (y : ByteArray) : total (xs ++ [y]) = total xs + y.size := by simp [total]
theorem total_take {xs : List ByteArray} {k : Nat} {y : ByteArray} (h : xs[k]? = some y) : total (xs.take (k + 1)) = total (xs.take k) + y.size := by
  rw [List.take_add_one, h]; exact total_snoc _ _
theorem total_take_le (xs : List ByteArray) (k : Nat) : total (xs.take k) ≤ total xs := by
  have h : total xs = total (xs.take k) + total (xs.drop k) := by
    conv => lhs; rw [← List.take_append_drop k xs]
    simp only [total, List.map_append, List.sum_append]
  omega
theorem total_le {xs : List ByteArray} {M : Nat} (h : ∀ x ∈ xs, x.size ≤ M) : total xs ≤ xs.length * M := by
  induction xs with
  | nil => simp [total]
  | cons x xs ih =>
    have h1 := h x List.mem_cons_self
    have h2 := ih fun y hy => h y (List.mem_cons_of_mem _ hy)
    simp only [total, List.map_cons, List.sum_cons, List.length_cons, Nat.add_mul] at *
    omega

end Go.Proofs.Ythfljnlankmoiaa
end

/- the text Law8 -/
section
namespace Go.Proofs.Ythfljnlankmoiaa
open Go.RowKit Go.Dx

theorem tr_int {x : Int} (h0 : -9223372036854775808 ≤ x) (h1 : x ≤ 9223372036854775807) {E : List UInt8} (hE : encInt x = E) {i : Nat} (hi : i < E.length) : decInt (E.take i) = (0, 0, 3) := by
  subst hE; exact decInt_cut h0 h1 hi
theorem tr_bytes {s : ByteArray} (hs : s.size ≤ 140737488355000) {E : List UInt8} (hE : encBytes s.data.toList = E) {i : Nat} (hi : i < E.length) : ∃ y1 y2, decBytes (E.take i) = (y1, y2, 3) := by
  subst hE
  have h := cuts_bytes s i (by show s.size ≤ _; omega) hi
  exact ⟨_, _, Prod.ext rfl (Prod.ext rfl h)⟩
theorem tr_ints {l : List Int} (hl : ∀ x ∈ l, -9223372036854775808 ≤ x ∧ x ≤ 9223372036854775807) (hN : l.length ≤ 140737488355000) {E : List UInt8} (hE : encInts l = E) {i : Nat} (hi : i < E.length) : decSeq decInt (E.take i) = ([], 0, 3) := by
  subst hE; exact decSeq_cut round_int cuts_int l hl (by omega) hi
theorem tr_strs {l : List ByteArray} (hl : ∀ x ∈ l, x.size ≤ 140737488355000) (hN : l.length ≤ 140737488355000) {E : List UInt8} (hE : encStrs l = E) {i : Nat} (hi : i < E.length) : decSeq decBytes (E.take i) = ([], 0, 3) := by
  subst hE; exact decSeq_cut round_bytes cuts_bytes l (fun x hx => by have := hl x hx; show x.size ≤ _; omega) (by omega) hi
theorem tr_digs {fl : List UInt8} {n : Nat} (hf : fl.length = n * 16) (hN : n ≤ 140737488355000) {E : List UInt8} (hE : encInt n ++ fl = E) {i : Nat} (hi : i < E.length) : decDigs (E.take i) = (0, [], 0, 3) := by
  subst hE
  rw [List.length_append] at hi
  have h3 : cntErr ((encInt (n : Int) ++ fl).take i) 16 = 3 := by
    by_cases h : i < (encInt (n : Int)).length
    · exact cnt_more_enc (by omega) _ h
    · rw [take_enc _ (by omega)]
      exact cnt_more (S := 16) (by omega) (by omega) _ (by rw [List.length_take]; omega)
  unfold decDigs
  rw [if_neg (by rw [h3]; decide), h3]
theorem encStrs_le (l : List ByteArray) : (encStrs l).length ≤ 9 + 9 * l.length + total l := by
  have h : ∀ l : List ByteArray, (l.flatMap fun s => encBytes s.data.toList).length ≤ 9 * l.length + total l := by
    intro l
    induction l with
    | nil => simp [total]
    | cons x l ih =>
      have h2 := encInt_le (x.data.toList.length : Int)
      have h3 : x.data.toList.length = x.size := Array.length_toList
      simp only [List.flatMap_cons, List.length_append, List.length_cons, total, List.map_cons, List.sum_cons, encBytes] at *
      omega
  have h1 := h l
  have h2 := encInt_le (l.length : Int)
  unfold encStrs
  rw [List.length_append]
  omega
theorem encInts_le' (l : List Int) : (encInts l).length ≤ 9 + 9 * l.length := by
  have h : ∀ l : List Int, (l.flatMap encInt).length ≤ 9 * l.length := by
    intro l
    induction l with
    | nil => simp
    | cons x l ih => have := encInt_le x; rw [List.flatMap_cons, List.length_append, List.length_cons]; omega
  have h1 := h l
  have h2 := encInt_le (l.length : Int)
  unfold encInts
  rw [List.length_append]
  omega
theorem encBytes_le' (l : List UInt8) : (encBytes l).length ≤ 9 + l.length := by
  have h2 := encInt_le (l.length : Int)
  unfold encBytes
  rw [List.length_append]
  omega

end Go.Proofs.Ythfljnlankmoiaa
end

/- the text Law9 -/
section
namespace Go.Proofs.Ythfljnlankmoiaa
open Go.RowKit Go.Dx

theorem rInt_at {x : Int} {r : List UInt8} (h : encInt x = r) (h0 : -9223372036854775808 ≤ x) (h1 : x ≤ 9223372036854775807) {w : World} :
    Calls Try.prog 82 #[.int .i64 x] w (Gives 5 1 r.length (r.map B8) w) := by subst h; exact ref_Int x h0 h1 w
theorem size_of_total {t : List ByteArray} {x : ByteArray} (h : x ∈ t) : x.size ≤ total t := by
  induction t with
  | nil => cases h
  | cons y t ih =>
    simp only [total, List.map_cons, List.sum_cons] at *
    rcases List.mem_cons.1 h with rfl | h
    · omega
    · have := ih h; omega

end Go.Proofs.Ythfljnlankmoiaa
end

/- the text Law10 -/
section
namespace Go.Proofs.Ythfljnlankmoiaa
open Go.RowKit Go.Dx

theorem decDigs_round {fl : List UInt8} {n : Nat} (hf : fl.length = n * 16) (hN : n ≤ 140737488355000) (t : List UInt8) : decDigs ((encInt (n : Int) ++ fl) ++ t) = (n, fl, (((encInt (n : Int) ++ fl).length : Nat) : Int), 0) := by
  have hc : cntErr (encInt (n : Int) ++ (fl ++ t)) 16 = 0 := cnt_round (by omega) (by omega) (by rw [List.length_append, show ((16 : Int).toNat) = 16 from rfl]; omega)
  have hd := decInt_enc (n := (n : Int)) (by omega) (by omega) (fl ++ t)
  rw [List.append_assoc]
  unfold decDigs
  rw [if_pos hc, hd]
  simp only [Int.toNat_natCast]
  rw [List.drop_left, show (fl ++ t).take (n * 16) = fl by rw [← hf]; exact List.take_left, List.length_append, hf]
  refine Prod.ext rfl (Prod.ext rfl (Prod.ext ?_ rfl))
  show ((encInt (n : Int)).length : Int) + 16 * (n : Int) = (((encInt (n : Int)).length + n * 16 : Nat) : Int)
  omega
theorem rt_bytes {s : ByteArray} (hs : s.size ≤ 140737488355000) {E : List UInt8} (hE : encBytes s.data.toList = E) (t : List UInt8) : decBytes (E ++ t) = (s, (E.length : Int), 0) := by
  subst hE; exact (round_bytes s t (by omega)).1
theorem rt_ints {l : List Int} (hl : ∀ x ∈ l, -9223372036854775808 ≤ x ∧ x ≤ 9223372036854775807) (hN : l.length ≤ 140737488355000) {E : List UInt8} (hE : encInts l = E) (t : List UInt8) : decSeq decInt (E ++ t) = (l, (E.length : Int), 0) := by
  subst hE; exact decSeq_round round_int l hl (by omega) t
theorem rt_strs {l : List ByteArray} (hl : ∀ x ∈ l, x.size ≤ 140737488355000) (hN : l.length ≤ 140737488355000) {E : List UInt8} (hE : encStrs l = E) (t : List UInt8) : decSeq decBytes (E ++ t) = (l, (E.length : Int), 0) := by
  subst hE; exact decSeq_round round_bytes l (fun x hx => by have := hl x hx; show x.size ≤ _; omega) (by omega) t
theorem rt_digs {fl : List UInt8} {n : Nat} (hf : fl.length = n * 16) (hN : n ≤ 140737488355000) {E : List UInt8} (hE : encInt (n : Int) ++ fl = E) (t : List UInt8) : decDigs (E ++ t) = (n, fl, (E.length : Int), 0) := by
  subst hE; exact decDigs_round hf hN t

end Go.Proofs.Ythfljnlankmoiaa
end

/- the text Free3 -/
section
/- A region that draws its order, whose operations that change the world follow one another (CH); the others (TL) leave the world as it is and may come at any time. No program in sight. -/
set_option linter.unusedVariables false
namespace Go.Dx
open Go.RowKit

structure ChInv (l : List Oper) (n : Nat) (CH TL T : List HOp) (a0 : Act) (G : Nat → List Value → World → Prop) (listed : Array Bool) (a : Act) (w : World) : Prop where
  inv : HeadInv .any l.toArray n listed
  defers : a.defers = a0.defers
  size : a.tmps.size = a0.tmps.size
  frame : ∀ k, (∀ t ∈ T, t.d ≠ k) → a.tmps.getD k undef = a0.tmps.getD k undef
  stage : ∃ j, j ≤ CH.length ∧ (∀ m c, CH[m]? = some c → (listed.getD c.i false = true ↔ m < j)) ∧ G j (CH.map fun c => a.tmps.getD c.d undef) w
  facts : ∀ t ∈ TL, listed.getD t.i false = true → t.fact a w

/-- each waits for the one before it -/
def linkOk (ops : Array Oper) : List Nat → Bool
  | i :: j :: l => Region.waitsFor .any ops j i && linkOk ops (j :: l)
  | _ => true
theorem linkOk_get {ops : Array Oper} : ∀ {L : List Nat}, linkOk ops L = true → ∀ m i j, L[m]? = some i → L[m + 1]? = some j → Region.waitsFor .any ops j i = true := by
  intro L
  induction L with
  | nil => intro _ m i j h; cases h
  | cons x L ih =>
    intro h m i j h1 h2
    cases L with
    | nil => cases m <;> simp at h2
    | cons y L =>
      simp only [linkOk, Bool.and_eq_true] at h
      cases m with
      | zero => cases h1; cases h2; exact h.1
      | succ m => exact ih h.2 m i j h1 h2

section
variable {P : Program}
theorem wp_region_chain {id : Nat} {Q : Exit → Act → World → Prop} {a0 : Act} {w0 : World} {l : List Oper} (n : Nat) (G : Nat → List Value → World → Prop) (CH TL : List HOp) (hm : P.follows .mixedOrders = true)
    (hB : (headOk l n ((CH ++ TL).map fun t => (t.i, t.d, t.s)) a0.tmps.size && linkOk l.toArray (CH.map (·.i)) && (TL.all fun t => CH.all fun c => t.i != c.i && t.d != c.d)) = true)
    (hG0 : G 0 (CH.map fun c => a0.tmps.getD c.d undef) { w0 with drawn := w0.drawn + 1 })
    (hmono : All (fun t : HOp => ∀ vs w w', t.p vs w → t.p vs w') TL)
    (hopC : ∀ m c, CH[m]? = some c → ∀ o, l[c.i]? = some o → ∀ (a : Act) (w : World), G m (CH.map fun c => a.tmps.getD c.d undef) w →
      (∀ k, ((CH ++ TL).map (·.d)).contains k = false → a.tmps.getD k undef = a0.tmps.getD k undef) →
      (∀ (k : Nat) (u : HOp), TL[k]? = some u → Region.waitsFor .any l.toArray c.i u.i = true → u.p (u.s.map fun k => a.tmps.getD k undef) w) →
      wpList P l.toArray (OneTurn c.d a fun v w' => G (m + 1) (CH.map fun e => if e.d = c.d then v else a.tmps.getD e.d undef) w') [o] a w)
    (hopL : All (fun t : HOp => ∀ o, l[t.i]? = some o → ∀ (a : Act) (w : World),
      (∀ k, ((CH ++ TL).map (·.d)).contains k = false → a.tmps.getD k undef = a0.tmps.getD k undef) →
      (∀ (k : Nat) (u : HOp), TL[k]? = some u → Region.waitsFor .any l.toArray t.i u.i = true → u.p (u.s.map fun k => a.tmps.getD k undef) w) →
      wpList P l.toArray (OneStill t.d a w fun v w' => t.p (t.s.map fun k => if t.d = k then v else a.tmps.getD k undef) w') [o] a w) TL)
    (hend : ∀ (g : Nat → Value) (w : World), G CH.length (CH.map fun c => g c.d) w → (∀ (k : Nat) (u : HOp), TL[k]? = some u → u.p (u.s.map fun k => if k ∈ (CH ++ TL).map (·.d) then g k else a0.tmps.getD k undef) w) →
      wpList P l.toArray Q (l.drop n) (putAll a0 (((CH ++ TL).map (·.d)).map fun d => (d, g d))) w) : (Code.region id l.toArray true).wp P Q a0 w0 := by
  obtain ⟨T, hTdef⟩ : ∃ T, CH ++ TL = T := ⟨_, rfl⟩
  have memC : ∀ t ∈ CH, t ∈ T := fun t ht => by rw [← hTdef]; exact List.mem_append_left _ ht
  have memL : ∀ t ∈ TL, t ∈ T := fun t ht => by rw [← hTdef]; exact List.mem_append_right _ ht
  have split : ∀ t ∈ T, t ∈ CH ∨ t ∈ TL := fun t ht => by rw [← hTdef] at ht; exact List.mem_append.1 ht
  rw [hTdef] at hB hopC hopL hend
  rw [Bool.and_eq_true, Bool.and_eq_true] at hB
  obtain ⟨⟨hB, hlink⟩, hdis⟩ := hB
  have hdis2 : ∀ t ∈ TL, ∀ c ∈ CH, t.i ≠ c.i ∧ t.d ≠ c.d := by
    intro t ht c hc
    have := List.all_eq_true.1 (List.all_eq_true.1 hdis t ht) c hc
    simpa using this
  have hlk : ∀ m c e, CH[m]? = some c → CH[m + 1]? = some e → Region.waitsFor .any l.toArray e.i c.i = true := fun m c e h1 h2 =>
    linkOk_get hlink m c.i e.i (by rw [List.getElem?_map, h1]; rfl) (by rw [List.getElem?_map, h2]; rfl)
  simp only [headOk, Bool.and_eq_true, decide_eq_true_eq] at hB
  obtain ⟨⟨⟨⟨⟨⟨⟨hnd, hn⟩, hs⟩, hc⟩, hseq⟩, hcov⟩, hT⟩, hpair⟩ := hB
  have hnodup : ∀ t ∈ T, ∀ u ∈ T, t.i = u.i → t = u := inj_nodup (·.i) T (by rw [List.map_map] at hnd; exact hnd)
  have hn' : n < l.toArray.size := by simpa using hn
  have cover : ∀ j, j < n → ∃ t ∈ T, t.i = j := by
    intro j hj
    have h := List.all_eq_true.1 hcov j (List.mem_range.2 hj)
    obtain ⟨x, hx, he⟩ := List.any_eq_true.1 h
    obtain ⟨t, ht, rfl⟩ := List.mem_map.1 hx
    exact ⟨t, ht, by simpa using he⟩
  have own : ∀ t ∈ T, t.i < n ∧ t.d < a0.tmps.size ∧ ∃ o, l[t.i]? = some o ∧ o.dst = some t.d ∧ ∀ e ∈ o.after, Region.binds .any e = true → e.on < t.i := by
    intro t ht
    have h := List.all_eq_true.1 hT _ (List.mem_map.2 ⟨t, ht, rfl⟩)
    simp only [Bool.and_eq_true, decide_eq_true_eq] at h
    obtain ⟨⟨h1, h2⟩, h3⟩ := h
    refine ⟨h1, h2, ?_⟩
    cases ho : l[t.i]? with
    | none => rw [ho] at h3; cases h3
    | some o =>
      rw [ho] at h3
      simp only [Bool.and_eq_true, beq_iff_eq] at h3
      refine ⟨o, rfl, h3.1, fun e he hb => ?_⟩
      have := Array.all_eq_true_iff_forall_mem.1 h3.2 e he
      simpa [hb] using this
  have pair : ∀ t ∈ T, ∀ u ∈ T, t.i ≠ u.i → t.d ≠ u.d ∧ (t.d ∈ u.s → Region.waitsFor .any l.toArray u.i t.i = true) := by
    intro t ht u hu hne
    have h := List.all_eq_true.1 (List.all_eq_true.1 hpair _ (List.mem_map.2 ⟨t, ht, rfl⟩)) _ (List.mem_map.2 ⟨u, hu, rfl⟩)
    simp only [Bool.or_eq_true, beq_iff_eq, hne, false_or, Bool.and_eq_true, bne_iff_ne, ne_eq, Bool.not_eq_true'] at h
    refine ⟨h.1, fun hin => ?_⟩
    rcases h.2 with h2 | h2
    · have : u.s.contains t.d = true := by simpa using hin
      rw [this] at h2; cases h2
    · exact h2
  have key : ∀ (f : Nat) (listed : Array Bool) (a : Act) (w : World), ChInv l n CH TL T a0 G listed a w → todo listed n = f → wpAny P .any l.toArray Q (f + (l.length - n)) listed a w := by
    intro f
    induction f with
    | zero =>
      intro listed a w I h0
      have hall : ∀ j, j < n → listed.getD j true = true := by
        intro j hj
        cases hb : listed.getD j true with
        | true => rfl
        | false =>
          have : j ∈ (List.range n).filter fun j => !listed.getD j true := List.mem_filter.2 ⟨List.mem_range.2 hj, by rw [hb]; rfl⟩
          unfold todo at h0
          rw [List.eq_nil_of_length_eq_zero h0] at this
          cases this
      have hlist : listed = (List.replicate n true ++ List.replicate (l.length - n) false).toArray := by
        have hsz := I.inv.size
        apply Array.ext
        · simp at hsz ⊢; omega
        · intro j h1 h2
          by_cases hj : j < n
          · have := hall j hj
            simp [Array.getD, h1] at this
            simp [this, List.getElem_append_left, hj]
          · have := I.inv.tail j (by omega) (by rw [← hsz]; exact h1)
            simp [Array.getD, h1] at this
            simp only [this, List.getElem_toArray]
            rw [List.getElem_append_right (by simp; omega)]
            simp
      have ha : a = putAll a0 ((T.map (·.d)).map fun d => (d, a.tmps.getD d undef)) := by
        have hd : ∀ d ∈ T.map (·.d), d < a0.tmps.size := by
          intro d hd
          obtain ⟨t, ht, rfl⟩ := List.mem_map.1 hd
          exact (own t ht).2.1
        refine act_ext (by rw [putAll_defers]; exact I.defers) (by rw [putAll_size]; exact I.size) (fun k => ?_)
        rw [putAll_get (fun d => a.tmps.getD d undef) _ _ _ hd]
        by_cases h : k ∈ T.map (·.d)
        · rw [if_pos h]
        · rw [if_neg h]
          exact I.frame k (fun t ht e => h (List.mem_map.2 ⟨t, ht, e⟩))
      have hls : ∀ t ∈ T, listed.getD t.i false = true := by
        intro t ht
        have := hall t.i (own t ht).1
        rcases Nat.lt_or_ge t.i listed.size with h' | h'
        · simp [h'] at this ⊢; exact this
        · have := I.inv.size; have := (own t ht).1; omega
      obtain ⟨j, hj, hjs, hG⟩ := I.stage
      have hjl : j = CH.length := by
        rcases Nat.lt_or_ge j CH.length with h | h
        · have h1 : CH[j]? = some CH[j] := by simp [h]
          have := (hjs j _ h1).1 (hls _ (memC _ (List.getElem_mem h)))
          omega
        · omega
      rw [hjl] at hG
      have hfin := hend (fun d => a.tmps.getD d undef) w hG (fun k u hu => by
        have hu' := List.mem_of_getElem? hu
        have h1 := I.facts u hu' (hls u (memL u hu'))
        unfold HOp.fact at h1
        have e : (u.s.map fun k => if k ∈ T.map (·.d) then a.tmps.getD k undef else a0.tmps.getD k undef) = u.s.map fun k => a.tmps.getD k undef := by
          apply List.map_congr_left
          intro k _
          by_cases h : k ∈ T.map (·.d)
          · rw [if_pos h]
          · rw [if_neg h]
            exact (I.frame k (fun t ht e => h (List.mem_map.2 ⟨t, ht, e⟩))).symm
        rw [e]
        exact h1)
      rw [← ha] at hfin
      rw [Nat.zero_add]
      have hseq' : Region.seqB .any l.toArray (l.drop n).length n listed = true := by rw [hlist, List.length_drop]; exact hseq
      have := wpAny_of_seq (md := .any) (Q' := Q) (l.drop n) n listed a w (fun j => by simp [List.getElem?_drop]) hseq' hfin
      rwa [List.length_drop] at this
    | succ f ih =>
      intro listed a w I hf
      have hex : ∃ j, j < n ∧ listed.getD j true = false := by
        cases hL : (List.range n).filter fun j => !listed.getD j true with
        | nil => unfold todo at hf; rw [hL] at hf; cases hf
        | cons j L =>
          have : j ∈ (List.range n).filter fun j => !listed.getD j true := by rw [hL]; exact List.mem_cons_self
          obtain ⟨h1, h2⟩ := List.mem_filter.1 this
          exact ⟨j, List.mem_range.1 h1, by simpa using h2⟩
      have hready : Region.ready .any l.toArray listed ≠ [] := by
        have hmin : ∀ m j, j ≤ m → j < n → listed.getD j true = false → ∃ i, i ∈ Region.ready .any l.toArray listed := by
          intro m
          induction m with
          | zero =>
            intro j hj hjn hjl
            have hj0 : j = 0 := by omega
            subst hj0
            obtain ⟨t, ht, hti⟩ := cover 0 hjn
            obtain ⟨_, _, o, ho, _, hb⟩ := own t ht
            rw [hti] at ho hb
            exact ⟨0, mem_ready.2 ⟨hjl, o, by simpa using ho, fun e he hbe => absurd (hb e he hbe) (by omega)⟩⟩
          | succ m ihm =>
            intro j hj hjn hjl
            obtain ⟨t, ht, hti⟩ := cover j hjn
            obtain ⟨_, _, o, ho, _, hb⟩ := own t ht
            rw [hti] at ho hb
            by_cases hall : ∀ e ∈ o.after, Region.binds .any e = true → listed.getD e.on false = true
            · exact ⟨j, mem_ready.2 ⟨hjl, o, by simpa using ho, hall⟩⟩
            · simp only [Classical.not_forall] at hall
              obtain ⟨e, he, hbe, hne⟩ := hall
              have hlt := hb e he hbe
              have hes : e.on < listed.size := by rw [I.inv.size]; simp; omega
              exact ihm e.on (by omega) (by omega) (getD_in hes (by simpa using hne))
        obtain ⟨j, hj, hjl⟩ := hex
        obtain ⟨i, hi⟩ := hmin j j (Nat.le_refl _) hj hjl
        intro h
        rw [h] at hi
        cases hi
      rw [show f + 1 + (l.length - n) = (f + (l.length - n)) + 1 by omega]
      refine ⟨fun h => absurd h hready, fun i hi => ?_⟩
      have hin : i < n := by
        rcases Nat.lt_or_ge i n with h | h
        · exact h
        · obtain ⟨j, hj, hjl⟩ := hex
          exact absurd hi (tail_waits hs hc hn' I.inv _ j rfl hj hjl i h)
      obtain ⟨t, ht, hti⟩ := cover i hin
      obtain ⟨_, htd, o, ho, hdst, _⟩ := own t ht
      obtain ⟨hil, oi, hoi, hafter⟩ := mem_ready.1 hi
      have hoo : oi = o := by rw [hti] at ho; exact Option.some.inj (hoi.symm.trans (by simpa using ho))
      subst hoo
      have hframe : ∀ k, (T.map (·.d)).contains k = false → a.tmps.getD k undef = a0.tmps.getD k undef := fun k hk => I.frame k (fun u hu e => by
          have : (T.map (·.d)).contains k = true := by simpa using ⟨u, hu, e⟩
          rw [this] at hk; cases hk)
      have hfacts : ∀ (k : Nat) (u : HOp), TL[k]? = some u → Region.waitsFor .any l.toArray t.i u.i = true → u.p (u.s.map fun k => a.tmps.getD k undef) w := fun k u hu hw => by
        have hu' := List.mem_of_getElem? hu
        obtain ⟨oj, hoj, e, he, hb, hon⟩ := Region.waitsFor_spec hw
        have : oj = oi := by rw [hti] at hoj; exact Option.some.inj (hoj.symm.trans hoi)
        subst this
        have h1 := hafter e he hb
        rw [hon] at h1
        exact I.facts u hu' h1
      have step0 : ∀ (v : Value) (w' : World), (∃ j, j ≤ CH.length ∧ (∀ m c, CH[m]? = some c → ((listed.setIfInBounds i true).getD c.i false = true ↔ m < j)) ∧ G j (CH.map fun c => (a.put (some t.d) v).tmps.getD c.d undef) w') →
          (t ∈ TL → t.p (t.s.map fun k => if t.d = k then v else a.tmps.getD k undef) w') → wpAny P .any l.toArray Q (f + (l.length - n)) (listed.setIfInBounds i true) (a.put (some t.d) v) w' := by
        intro v w' hst hp
        refine ih _ _ _ ⟨I.inv.set hi hin, I.defers, ?_, ?_, hst, ?_⟩ ?_
        · rw [← I.size]; simp [Act.put]
        · intro k hk
          rw [put_get, if_neg (fun h => hk t ht h.1)]
          exact I.frame k hk
        · intro u hu hul
          by_cases hui : t.i = u.i
          · unfold HOp.fact
            have hut : u = t := hnodup u (memL u hu) t ht hui.symm
            subst hut
            have e : (u.s.map fun k => (a.put (some u.d) v).tmps.getD k undef) = u.s.map fun k => if u.d = k then v else a.tmps.getD k undef := by
              apply List.map_congr_left
              intro k _
              rw [put_get, I.size]
              by_cases hk : u.d = k
              · rw [if_pos ⟨hk, htd⟩, if_pos hk]
              · rw [if_neg (fun h => hk h.1), if_neg hk]
            rw [e]
            exact hp hu
          · unfold HOp.fact
            have hul2 : listed.getD u.i false = true := by rw [← getD_set_ne false (i := i) (j := u.i) (by rw [← hti]; exact hui)]; exact hul
            have h1 := hmono.mem u hu _ w w' (I.facts u hu hul2)
            have hnot : t.d ∉ u.s := by
              intro hin2
              have hw := (pair t ht u (memL u hu) hui).2 hin2
              obtain ⟨ou, hou, e, he, hb, hon⟩ := Region.waitsFor_spec hw
              have := I.inv.closed u.i ou hou hul2 e he hb
              rw [hon, hti, getD_both hil] at this
              cases this
            have e : (u.s.map fun k => (a.put (some t.d) v).tmps.getD k undef) = u.s.map fun k => a.tmps.getD k undef := by
              apply List.map_congr_left
              intro k hk
              rw [put_get, if_neg (fun (h : t.d = k ∧ t.d < a.tmps.size) => hnot (by rw [h.1]; exact hk))]
            rw [e]
            exact h1
        · have := todo_set hin hil; omega
      have fin : ∀ (R : Exit → Act → World → Prop), (∀ e a' w', R e a' w' → e = .normal) → (∀ a' w', R .normal a' w' → wpAny P .any l.toArray Q (f + (l.length - n)) (listed.setIfInBounds i true) a' w') → wpList P l.toArray R [oi] a w → wpOp P l.toArray Q i (fun a' w' => wpAny P .any l.toArray Q (f + (l.length - n)) (listed.setIfInBounds i true) a' w') a w := by
        intro R hR step H
        unfold wpList at H
        unfold wpOp
        rw [hoi]
        simp only
        by_cases hwant : Region.wanted oi (yielded l.toArray a.tmps) = true
        · rw [if_pos hwant] at H
          rw [if_pos hwant]
          left
          rcases H with H | ⟨_, a1, w1, h1⟩
          · exact wp_both (fun a' w' h => step a' w' h) (fun e a' w' he h => absurd (hR _ _ _ h) he) H
          · exact absurd (hR _ _ _ h1) (by simp)
        · rw [if_neg hwant] at H
          rw [if_neg hwant]
          exact step _ _ H
      obtain ⟨j, hj, hjs, hG⟩ := I.stage
      rcases split t ht with h | h
      · obtain ⟨j0, hj0l, hj0⟩ := List.mem_iff_getElem.1 h
        have hg0 : CH[j0]? = some t := by rw [List.getElem?_eq_getElem hj0l, hj0]
        have hnl : listed.getD t.i false = false := by rw [hti]; exact getD_both hil
        have h1 : ¬ j0 < j := fun h => by rw [(hjs j0 t hg0).2 h] at hnl; cases hnl
        have h2 : j0 ≤ j := by
          cases j0 with
          | zero => omega
          | succ q =>
            have hq : CH[q]? = some CH[q] := by simp
            obtain ⟨oj, hoj, e, he, hb, hon⟩ := Region.waitsFor_spec (hlk q _ t hq hg0)
            have : oj = oi := by rw [hti] at hoj; exact Option.some.inj (hoj.symm.trans hoi)
            subst this
            have h3 := hafter e he hb
            rw [hon] at h3
            have := (hjs q _ hq).1 h3
            omega
        obtain rfl : j0 = j := by omega
        refine fin _ (fun e a' w' h => h.1) ?_ (hopC j0 t hg0 oi ho a w hG hframe hfacts)
        rintro a' w' ⟨_, v, rfl, hG'⟩
        refine step0 v w' ⟨j0 + 1, by omega, ?_, ?_⟩ (fun hL => absurd rfl (hdis2 t hL t h).1)
        · intro m c hc
          by_cases hci : c.i = i
          · have hct : c = t := hnodup c (memC c (List.mem_of_getElem? hc)) t ht (by rw [hci, hti])
            subst hct
            have hm0 : m = j0 := by
              rcases Nat.lt_trichotomy m j0 with h | h | h
              · have := (hjs m c hc).2 h
                rw [hnl] at this; cases this
              · exact h
              · exfalso
                have hnd2 : (CH.map (·.i)).Nodup := by
                  have h5 := hnd
                  rw [← hTdef, List.map_map, List.map_append] at h5
                  exact (List.nodup_append.1 h5).1
                have h6 : (CH.map (·.i))[m]? = some c.i := by rw [List.getElem?_map, hc]; rfl
                have h7 : (CH.map (·.i))[j0]? = some c.i := by rw [List.getElem?_map, hg0]; rfl
                obtain ⟨hm1, hm2⟩ := List.getElem?_eq_some_iff.1 h6
                have := (List.getElem?_inj hm1 hnd2).1 (h6.trans h7.symm)
                omega
            subst hm0
            have hlt : i < listed.size := by rw [I.inv.size]; simp; have := hn; omega
            rw [hci]
            simp [hlt]
          · rw [getD_set_ne false (fun e => hci e.symm), hjs m c hc]
            constructor
            · intro h; omega
            · intro h
              rcases Nat.lt_or_ge m j0 with h' | h'
              · exact h'
              · obtain rfl : m = j0 := by omega
                rw [hg0] at hc
                cases hc
                exact absurd hti hci
        · have e : (CH.map fun c => (a.put (some t.d) v).tmps.getD c.d undef) = CH.map fun e => if e.d = t.d then v else a.tmps.getD e.d undef := by
            apply List.map_congr_left
            intro c _
            rw [put_get, I.size]
            by_cases hk : t.d = c.d
            · rw [if_pos ⟨hk, htd⟩, if_pos hk.symm]
            · rw [if_neg (fun h => hk h.1), if_neg (fun h => hk h.symm)]
          rw [e]
          exact hG'
      · refine fin _ (fun e a' w' h => h.1) ?_ (hopL.mem t h oi ho a w hframe hfacts)
        rintro a' w' ⟨_, v, rfl, rfl, hp⟩
        refine step0 v _ ⟨j, hj, ?_, ?_⟩ (fun _ => hp)
        · intro m c hc
          rw [getD_set_ne false (by rw [← hti]; exact (hdis2 t h c (List.mem_of_getElem? hc)).1)]
          exact hjs m c hc
        · have e : (CH.map fun c => (a.put (some t.d) v).tmps.getD c.d undef) = CH.map fun c => a.tmps.getD c.d undef := by
            apply List.map_congr_left
            intro c hc
            rw [put_get, if_neg (fun hh => (hdis2 t h c hc).2 hh.1)]
          rw [e]
          exact hG
  refine wp_region_any hm ?_
  have inv0 : HeadInv .any l.toArray n (Array.replicate l.toArray.size false) :=
    ⟨by simp, fun j oj _ hl => (by rw [getD_replicate_false] at hl; cases hl), fun t _ ht => getD_in (by simpa using ht) (getD_replicate_false _ _)⟩
  have I0 : ChInv l n CH TL T a0 G (Array.replicate l.toArray.size false) a0 { w0 with drawn := w0.drawn + 1 } :=
    ⟨inv0, rfl, rfl, fun _ _ => rfl, ⟨0, Nat.zero_le _, fun m c _ => (by rw [getD_replicate_false]; simp), hG0⟩, fun t _ hl => (by rw [getD_replicate_false] at hl; cases hl)⟩
  have ht0 : todo (Array.replicate l.toArray.size false) n = n := by
    unfold todo
    rw [List.filter_eq_self.2 (fun j hj => by
      have hj' := List.mem_range.1 hj
      have : (Array.replicate l.toArray.size false).getD j true = false := getD_in (by simp; omega) (getD_replicate_false _ _)
      rw [this]; rfl), List.length_range]
  have := key n _ _ _ I0 ht0
  rwa [show n + (l.length - n) = l.toArray.size by simp; omega] at this
end
end Go.Dx
end

/- the text CL5 -/
section
namespace Go.Proofs.Ythfljnlankmoiaa
open Go.RowKit Go.Dx

theorem encStrs_pos (l : List ByteArray) : 0 < (encStrs l).length := by
  have := encInt_pos (l.length : Int)
  unfold encStrs
  rw [List.length_append]; omega
theorem lines_total {b : Nat} : ∀ {p : List (List UInt8)}, (∀ r ∈ p, r.length ≤ b) → total (linesS p) ≤ p.length * b := by
  intro p
  induction p with
  | nil => intro _; simp [total, linesS]
  | cons r p ih =>
    intro h
    have h1 := h r List.mem_cons_self
    have h2 := ih (fun s hs => h s (List.mem_cons_of_mem _ hs))
    have e : total (linesS (r :: p)) = r.length + total (linesS p) := by
      unfold total linesS
      rw [List.map_cons, List.map_cons, List.sum_cons]
      congr 1
    rw [e, List.length_cons, Nat.add_mul, Nat.one_mul]
    omega
theorem lines_back (p : List (List UInt8)) : (linesS p).map toL = p := by
  unfold linesS
  rw [List.map_map]
  have : toL ∘ strOf = id := by funext r; rfl
  rw [this, List.map_id]
theorem Encode_at {p : List (List UInt8)} {E : List UInt8} (h : encStrs (linesS p) = E) (hpl : p.length ≤ 1000000) (hpr : ∀ r ∈ p, r.length ≤ 1000000) (hT : E.length ≤ 140737488355000) {a : Option Addr} {n c : Nat} {hs : List Hd} {w : World} (hp : Pg w a n c hs p) :
    Calls Try.prog 43 #[.slice a n c] w (Gives 5 1 E.length (E.map B8) w) := by subst h; exact cell_Encode p hs a n c w hp hpl hpr hT
theorem Decode_at {l : List UInt8} {r : List (List UInt8) × Int × Int} (h : decPage l = r) (hl : l.length ≤ 1000000) {a : Option Addr} {n c : Nat} {w : World} (hs : Sl w 1 a n c (l.map B8)) :
    Calls Try.prog 46 #[.slice a n c] w (GivesD r w) := by subst h; exact cell_Decode l a n c w hs hl
theorem refDecode_at {l : List UInt8} {r : List (List UInt8) × Int × Int} (h : decPage l = r) (hl : l.length ≤ 1000000) {a : Option Addr} {n c : Nat} {w : World} (hs : Sl w 1 a n c (l.map B8)) :
    Calls Try.prog 47 #[.slice a n c] w (GivesD r w) := by subst h; exact ref4_Decode l a n c w hs hl
/-- some texts in a list -/
structure Four (w : World) (B : Nat) (T : List (List UInt8)) : Prop where
  sl : ∀ (i : Nat) (t : List UInt8), T[i]? = some t → ∃ a n c, w.cell? ⟨B, i, none⟩ = some (.slice a n c) ∧ Sl w 1 a n c (t.map B8)
  lt : B < w.heap.size
theorem cell_und {w w' : World} {B i : Nat} {v : Value} (h : w.cell? ⟨B, i, none⟩ = some v) (hlt : B < w.heap.size) (hb : Below w.heap.size w w') : w'.cell? ⟨B, i, none⟩ = some v := (World.cell?_of_block (hb.block B hlt)).trans h
/-- 's[:n]', whatever the world is -/
theorem cut_hig {P : Program} {w : World} {ops : Array Oper} {rest : List Oper} {act : Act} {Q : Exit → Act → World → Prop} {ty : TypeId} {pos : String} {after : Array Edge} (d : Nat) (t : TypeId) (x hi : Operand) (e : TypeId) (ht : P.underlying t = some (.slice e)) (sz : Nat) (hsz : (P.info? e).map (·.size) = some sz)
    (a : Option Addr) (n c : Nat) (hx : act.eval x = .slice a n c) (ku : IntKind) (u : Nat) (hu : act.eval hi = .int ku (u : Int)) (hun : u ≤ c)
    (hK : wpList P ops Q rest (act.put (some d) (.slice a u c)) w) :
    wpList P ops Q ({ dst := some d, op := .slice t x none (some hi) none, type := ty, pos := pos, after := after, guard := none } :: rest) act w := by
  refine wpList_plain rfl fun K hK' => ?_
  obtain ⟨i0, hi0, hs0⟩ := Option.map_eq_some_iff.1 hsz
  have hrun : (Instr.sliceAt t (.slice a n c) none (some (.int ku (u : Int))) none).run P w = .ok (.slice a u c) w := by
    have h3 : (0 : Int) ≤ u ∧ (u : Int) ≤ c := by omega
    simp [Instr.sliceAt, Instr.slice, Instr.sliceBounds, Instr.sliceBound, asIntOf, run_underlying ht, sizeOf, typeInfo, hi0, h3, hun]
    intro _
    cases a with
    | none => rfl
    | some p => simp [Addr.add]
  unfold Oper.wp
  simp [execOp, hx, hu, hrun, Result.andThen]
  exact hK' _ _ hK

/-- the steps of the list of texts: what was made so far, R: where it all lies -/
def GT (w3 : World) (nb : Nat) (E f2 f6 : List UInt8) (kk : Nat) (ab : Option Addr) (cb : Nat) (an : Option Addr) (cn : Nat) : Nat → List Value → World → Prop
  | 0, _, w => Below w3.heap.size w3 w
  | 1, vs, w => ∃ b, vs.getD 0 undef = .slice (some ⟨b, 0, none⟩) 0 0 ∧ Own w w3.heap.size 5 1 (some ⟨b, 0, none⟩) 0 0 [] ∧ Below w3.heap.size w3 w
  | 2, vs, w => ∃ a c, vs.getD 1 undef = .slice a nb c ∧ Own w w3.heap.size 5 1 a nb c (E.map B8) ∧ Below w3.heap.size w3 w
  | 3, vs, w => ∃ a c a' c', vs.getD 1 undef = .slice a nb c ∧ Own w w3.heap.size 5 1 a nb c (E.map B8) ∧ vs.getD 2 undef = .slice a' f2.length c' ∧ Sl w 1 a' f2.length c' (f2.map B8) ∧ Below w3.heap.size w3 w
  | 4, vs, w => ∃ a c, vs.getD 3 undef = .slice a (nb + f2.length) c ∧ Sl w 1 a (nb + f2.length) c ((E ++ f2).map B8) ∧ Below w3.heap.size w3 w
  | 5, vs, w => ∃ a c a' c', vs.getD 3 undef = .slice a (nb + f2.length) c ∧ Sl w 1 a (nb + f2.length) c ((E ++ f2).map B8) ∧ vs.getD 4 undef = .slice a' f6.length c' ∧ Sl w 1 a' f6.length c' (f6.map B8) ∧ Below w3.heap.size w3 w
  | _, vs, w => ∃ B a c a' c', vs.getD 5 undef = .slice (some ⟨B, 0, none⟩) 4 4 ∧ Box w B 23 [.slice a (nb + f2.length) c, .slice ab kk cb, .slice an nb cn, .slice a' f6.length c'] ∧ Sl w 1 a (nb + f2.length) c ((E ++ f2).map B8) ∧ Sl w 1 a' f6.length c' (f6.map B8) ∧ Below w3.heap.size w3 w

set_option maxRecDepth 100000 in
set_option maxHeartbeats 4000000 in
theorem walk_CellBytes (l : List Int) (raw : List UInt8) (cut z : Int) (a1 : Option Addr) (n1 c1 : Nat) (a2 : Option Addr) (n2 c2 : Nat) (w : World) (hl : Sl w 1 a1 n1 c1 (l.map I64)) (hr : Sl w 1 a2 n2 c2 (raw.map B8))
    (ll : ∀ x ∈ l, -9223372036854775808 ≤ x ∧ x ≤ 9223372036854775807) (hcut : -9223372036854775808 ≤ cut ∧ cut ≤ 9223372036854775807) (hz : (Lit.int .u8 z).wf = true) :
    Calls Try.prog 8 #[.slice a1 n1 c1, .slice a2 n2 c2, .int .i64 cut, .int .u8 z] w fun e w' => e = .returned (.bool true) ∧ Below w.heap.size w w' := by
  obtain ⟨u, rfl⟩ := u8_of hz
  obtain ⟨hc0, hc1⟩ := hcut
  obtain ⟨f2, Hf2⟩ : ∃ f, Hid (raw.take 20 = f) := ⟨_, hide rfl⟩
  obtain ⟨f6, Hf6⟩ : ∃ f, Hid (raw.take 60 = f) := ⟨_, hide rfl⟩
  have hf2 : f2.length ≤ 20 := by rw [← Hf2.out, List.length_take]; omega
  have hf6 : f6.length ≤ 60 := by rw [← Hf6.out, List.length_take]; omega
  go_enter Try.func8, Try.ntmps8
  go_wp2_with fail
  refine (ref_Page l a1 n1 c1 w hl ll).mono ?_
  rintro e w1 ⟨p, ap, cp, hds, hp5, hp10, rfl, hop, hb⟩
  have b1 : Below w.heap.size w w1 ∧ w.heap.size ≤ w1.heap.size := ⟨hb, hb.size⟩
  have hpp := hop.pg
  obtain ⟨E, HE⟩ : ∃ E, Hid (encStrs (linesS p) = E) := ⟨_, hide rfl⟩
  have hEl : E.length ≤ 200 := by
    rw [← HE.out]
    have h1 := encStrs_le (linesS p)
    have h2 := lines_total hp10
    have h3 : (linesS p).length = p.length := by unfold linesS; rw [List.length_map]
    have h4 : p.length * 10 ≤ 50 := by omega
    omega
  have hE0 : 0 < E.length := by rw [← HE.out]; exact encStrs_pos _
  have hpr6 : ∀ r ∈ p, r.length ≤ 1000000 := fun r h => Nat.le_trans (hp10 r h) (by decide)
  have hpl6 : p.length ≤ 1000000 := Nat.le_trans hp5 (by decide)
  have hsz : ∀ x ∈ linesS p, x.size ≤ 140737488355000 := fun x hx => Nat.le_trans (strOf_sizes hpr6 x hx) (by decide)
  have hLn : (linesS p).length ≤ 140737488355000 := by unfold linesS; rw [List.length_map]; omega
  have hr1 := hr.below hb
  have HD1 := hide (fun t => dec_yes (rt_strs hsz hLn HE.out t))
  have HD2 := hide (fun i (hi : i < E.length) => dec_no (tr_strs hsz hLn HE.out hi) (by decide))
  obtain ⟨pl, HPL⟩ : ∃ pl, Hid (p.length = pl) := ⟨_, hide rfl⟩
  obtain ⟨nb, HNB⟩ : ∃ nb, Hid (E.length = nb) := ⟨_, hide rfl⟩
  rw [lines_back, HNB.out] at HD1
  rw [HNB.out] at hEl hE0
  rw [HPL.out] at hpp ⊢
  have HEn := hide (Encode_at HE.out hpl6 hpr6 (by rw [HNB.out]; omega) hpp)
  rw [HNB.out] at HEn
  clear hl ll hr hop hb hp5 hp10
  go_wp2_with fail
  refine HEn.out.mono ?_
  rintro e w2 ⟨ab, cb, rfl, hob, hb⟩
  have b2 := bs0 b1 hb
  have hpp2 := hpp.below hb
  have hr2 := hr1.below hb
  have d2 : Below w2.heap.size w2 w2 ∧ w2.heap.size ≤ w2.heap.size := ⟨Below.refl _ _, Nat.le_refl _⟩
  clear HEn hb b1 hpp hr1
  have hle1 : (nb : Int) ≠ 0 := by omega
  go_wp2_with fail
  refine (ref_Lines p _ _ _ _ w2 hpp2 hpl6).mono ?_
  rintro e w3 ⟨al, cl, rfl, hol, hb⟩
  have b3 := bs0 b2 hb
  have d3 := bs0 d2 hb
  have hsl3 := hol.sl
  have hob3 := hob.below hb
  clear hb b2 hol hob
  go_wp2_with fail
  refine (Strings_at HE.out hsz (by rw [HNB.out]; omega) hLn hsl3).mono ?_
  rintro e w4 ⟨ae, ce, rfl, hoe, hb⟩
  have b4 := bs0 b3 hb
  have d4 := bs0 d3 hb
  have hob4 := hob3.below hb
  have hse := hoe.sl
  clear hb b3 hsl3 hob3 hoe
  go_wp2_with fail
  refine (Same_at (r := true) (by simp) hob4.sl hse).mono ?_
  rintro e w5 ⟨rfl, hb⟩
  have b5 := bs0 b4 hb
  have d5 := bs0 d4 hb
  have hob5 := hob4.below hb
  clear hb b4 hse hob4
  obtain ⟨kk, Hkk⟩ : ∃ kk, Hid (aroundF cut nb = kk) := ⟨_, hide rfl⟩
  have hkk : kk < nb := by rw [← Hkk.out]; exact aroundF_lt (by omega)
  have hown := Own.built w5 w5.heap.size 5 1 0 #[] (Nat.le_refl _) rfl (by decide)
  have hr5 : Sl w5 1 a2 n2 c2 (raw.map B8) := hr2.below d5.1
  have hpp5 : Pg w5 ap pl cp hds p := hpp2.below d5.1
  clear d2 d3 d4 d5 hr2 hpp2
  go_wp2_with fail
  refine (Around_at Hkk.out rfl (by omega) (by omega) hc0 hc1).mono ?_
  rintro e w6 ⟨rfl, rfl⟩
  go_wp2_with (at_builtin; refine append_own rfl _ _ 23 rfl 5 (.int .u8 0) 1 1 Try.underlying23 info_u8 rfl w5 w5.heap.size _ 0 0 _ rfl hown ab nb cb (E.map B8) rfl (hob5.sl.alloc _) (one_map _ (fun _ => rfl) _) (by omega) (by unfold maxLen; omega) (by simp) ((Below.refl _ _).alloc (Nat.le_refl _) _) ?_; intro a7 c7 w7 ho7 hgr7 hb7; rw [Nat.zero_add, List.nil_append] at ho7)
  obtain ⟨t7, rfl⟩ : ∃ t7, a7 = some ⟨t7, 0, none⟩ := by
    cases a7 with
    | none => have := ho7.sl.nil rfl; have := ho7.sl.le; omega
    | some q => exact ⟨q.block, congrArg some ho7.zero⟩
  obtain ⟨x0, hx0⟩ : ∃ x, E[kk]? = some x := ⟨E[kk]'(by rw [HNB.out]; exact hkk), by simp⟩
  have hat : (E.map B8)[kk]? = some (B8 x0) := by rw [List.getElem?_map, hx0]; rfl
  have hc7 := ho7.at_ hat
  have hf7 := ho7.free kk
  have ho8 : Own (w7.setCell ⟨t7, kk, none⟩ (.int .u8 (u.toNat : Int))) w5.heap.size 5 1 (some ⟨t7, 0, none⟩) nb c7 ((E.set kk u).map B8) := by
    have := ho7.put (i := kk) (B8 u)
    rw [List.map_set]; exact this
  have hb8 := hb7.setCell (p := ⟨t7, kk, none⟩) ho7.base.1 (.int .u8 (u.toNat : Int))
  go_wp2_with fail
  generalize w7.setCell ⟨t7, kk, none⟩ (.int .u8 (u.toNat : Int)) = w8 at *
  have b8 := bs0 b5 hb8
  have hob8 := (hob5.below hb8).sl
  have hr8 := hr5.below hb8
  have hpp8 := hpp5.below hb8
  have hs8 := ho8.sl
  have hcb := Nat.le_trans hob8.le hob8.cap
  have hkc : kk ≤ cb := by have := hob8.le; omega
  clear hc7 hf7 hat hx0 ho7 hgr7 hb7 hob5 hr5 hpp5 ho8 hb8 hown b5 hcb
  refine wp_region_chain 13 (GT w8 nb E f2 f6 kk ab cb (some ⟨t7, 0, none⟩) c7) [⟨0, 53, [], fun _ _ => True⟩, ⟨2, 55, [], fun _ _ => True⟩, ⟨4, 57, [], fun _ _ => True⟩, ⟨5, 58, [], fun _ _ => True⟩, ⟨11, 64, [], fun _ _ => True⟩, ⟨12, 65, [], fun _ _ => True⟩] [⟨1, 54, [54], fun vs _ => vs = [.slice ab nb cb]⟩, ⟨3, 56, [56], fun vs _ => vs = [.slice a2 n2 c2]⟩, ⟨6, 59, [59], fun vs _ => vs = [.slice ab nb cb]⟩, ⟨7, 60, [60], fun vs _ => vs = [.int .i64 (kk : Int)]⟩, ⟨8, 61, [61], fun vs _ => vs = [.slice ab kk cb]⟩, ⟨9, 62, [62], fun vs _ => vs = [.slice (some ⟨t7, 0, none⟩) nb c7]⟩, ⟨10, 63, [63], fun vs _ => vs = [.slice a2 n2 c2]⟩] (by kernel_rfl) (by kernel_rfl) ?_ ?_ ?_ ?_ ?_
  · exact (Still.below 1 : Below w8.heap.size w8 (w8.drewN 1))
  · simp only [All]
    exact ⟨fun _ _ _ h => h, fun _ _ _ h => h, fun _ _ _ h => h, fun _ _ _ h => h, fun _ _ _ h => h, fun _ _ _ h => h, fun _ _ _ h => h, trivial⟩
  · intro m c hc o ho a w' hG hfr hdep
    rcases m with _ | _ | _ | _ | _ | _ | m
    · cases hc
      obtain rfl := Option.some.inj ho
      have hB : Below w8.heap.size w8 w' := hG
      go_wp2_with fail
      exact ⟨rfl, _, rfl, w'.heap.size, rfl, Own.built w' w8.heap.size 5 1 0 #[] hB.size rfl (by decide), hB.alloc hB.size _⟩
    · cases hc
      obtain rfl := Option.some.inj ho
      obtain ⟨b, g53, hob, hB⟩ := hG
      replace g53 : a.tmps.getD 53 undef = .slice (some ⟨b, 0, none⟩) 0 0 := g53
      have g54 : a.tmps[54]?.getD undef = .slice ab nb cb := by have h := hdep 0 _ rfl (by kernel_rfl); simpa using h
      refine append_own rfl _ _ 23 rfl 5 (.int .u8 0) 1 1 Try.underlying23 info_u8 rfl w8 w8.heap.size _ 0 0 _ g53 hob ab nb cb (E.map B8) (by show a.tmps.getD 54 undef = _; simpa using g54) (hob8.below hB) (one_map _ (fun _ => rfl) _) (by omega) (by unfold maxLen; omega) hB.size hB ?_
      intro a3 c3 w3 ho3 hgr3 hb3
      rw [Nat.zero_add, List.nil_append] at ho3
      rw [Nat.zero_add]
      go_wp2
      exact ⟨rfl, _, rfl, a3, c3, rfl, ho3, hb3⟩
    · cases hc
      obtain rfl := Option.some.inj ho
      obtain ⟨a3, c3, g55, ho3, hB⟩ := hG
      replace g55 : a.tmps.getD 55 undef = _ := g55
      have g56 : a.tmps[56]?.getD undef = .slice a2 n2 c2 := by have h := hdep 1 _ rfl (by kernel_rfl); simpa using h
      go_wp2_with fail
      refine (few_at (m := 20) rfl Hf2.out (by omega) (hr8.below hB)).mono ?_
      rintro e w3 ⟨a5, c5, rfl, ho5, hb5⟩
      have hB3 := hB.trans (hb5.mono hB.size)
      go_wp2_with fail
      exact ⟨rfl, _, rfl, a3, c3, a5, c5, g55, ho3.below hb5, rfl, ho5.sl, hB3⟩
    · cases hc
      obtain rfl := Option.some.inj ho
      obtain ⟨a3, c3, a5, c5, g55, ho3, g57, hs5, hB⟩ := hG
      replace g55 : a.tmps.getD 55 undef = _ := g55
      replace g57 : a.tmps.getD 57 undef = _ := g57
      refine append_own rfl _ _ 23 rfl 5 (.int .u8 0) 1 1 Try.underlying23 info_u8 rfl w8 w8.heap.size a3 nb c3 (E.map B8) g55 ho3 a5 f2.length c5 (f2.map B8) g57 hs5 (one_map _ (fun _ => rfl) _) (by omega) (by unfold maxLen; omega) hB.size hB ?_
      intro a6 c6 w3 ho6 hgr6 hb6
      go_wp2
      exact ⟨rfl, _, rfl, a6, c6, rfl, by rw [List.map_append]; exact ho6.sl, hb6⟩
    · cases hc
      obtain rfl := Option.some.inj ho
      obtain ⟨a6, c6, g58, hs6, hB⟩ := hG
      replace g58 : a.tmps.getD 58 undef = _ := g58
      have g63 : a.tmps[63]?.getD undef = .slice a2 n2 c2 := by have h := hdep 6 _ rfl (by kernel_rfl); simpa using h
      go_wp2_with fail
      refine (few_at (m := 60) rfl Hf6.out (by omega) (hr8.below hB)).mono ?_
      rintro e w3 ⟨a5, c5, rfl, ho5, hb5⟩
      have hB3 := hB.trans (hb5.mono hB.size)
      go_wp2_with fail
      exact ⟨rfl, _, rfl, a6, c6, a5, c5, g58, hs6.below hb5, rfl, ho5.sl, hB3⟩
    · cases hc
      obtain rfl := Option.some.inj ho
      obtain ⟨a6, c6, a5, c5, g58, hs6, g64, hs5, hB⟩ := hG
      replace g58 : a.tmps[58]?.getD undef = .slice a6 (nb + f2.length) c6 := by have h : a.tmps.getD 58 undef = _ := g58; simpa using h
      replace g64 : a.tmps[64]?.getD undef = .slice a5 f6.length c5 := by have h : a.tmps.getD 64 undef = _ := g64; simpa using h
      have g61 : a.tmps[61]?.getD undef = .slice ab kk cb := by have h := hdep 4 _ rfl (by kernel_rfl); simpa using h
      have g62 : a.tmps[62]?.getD undef = .slice (some ⟨t7, 0, none⟩) nb c7 := by have h := hdep 5 _ rfl (by kernel_rfl); simpa using h
      go_wp2_with fail
      exact ⟨rfl, _, rfl, w'.heap.size, a6, c6, a5, c5, rfl, Box.new _ _ _, hs6.alloc _, hs5.alloc _, hB.alloc hB.size _⟩
    · cases hc
  · simp only [All]
    refine ⟨?_, ?_, ?_, ?_, ?_, ?_, ?_, trivial⟩
    · intro o ho a' w' hfr hdep
      obtain rfl := Option.some.inj ho
      have g10 : a'.tmps[10]?.getD undef = .slice ab nb cb := by have h := hfr 10 (by kernel_rfl); simpa using h
      clear ho hfr hdep
      go_wp2_with fail
      exact ⟨rfl, _, rfl, rfl, rfl⟩
    · intro o ho a' w' hfr hdep
      obtain rfl := Option.some.inj ho
      have g1 : a'.tmps[1]?.getD undef = .slice a2 n2 c2 := by have h := hfr 1 (by kernel_rfl); simpa using h
      clear ho hfr hdep
      go_wp2_with fail
      exact ⟨rfl, _, rfl, rfl, rfl⟩
    · intro o ho a' w' hfr hdep
      obtain rfl := Option.some.inj ho
      have g10 : a'.tmps[10]?.getD undef = .slice ab nb cb := by have h := hfr 10 (by kernel_rfl); simpa using h
      clear ho hfr hdep
      go_wp2_with fail
      exact ⟨rfl, _, rfl, rfl, rfl⟩
    · intro o ho a' w' hfr hdep
      obtain rfl := Option.some.inj ho
      have g11 : a'.tmps[11]?.getD undef = .int .i64 (kk : Int) := by have h := hfr 11 (by kernel_rfl); simpa using h
      clear ho hfr hdep
      go_wp2_with fail
      exact ⟨rfl, _, rfl, rfl, rfl⟩
    · intro o ho a' w' hfr hdep
      obtain rfl := Option.some.inj ho
      have g59 : a'.tmps[59]?.getD undef = .slice ab nb cb := by have h := hdep 2 _ rfl (by kernel_rfl); simpa using h
      have g60 : a'.tmps[60]?.getD undef = .int .i64 (kk : Int) := by have h := hdep 3 _ rfl (by kernel_rfl); simpa using h
      clear ho hfr hdep
      refine cut_hig 61 23 _ _ 5 Try.underlying23 1 size_u8 ab nb cb (by show a'.tmps.getD 59 undef = _; simpa using g59) .i64 kk (by show a'.tmps.getD 60 undef = _; simpa using g60) hkc ?_
      go_wp2_with fail
      exact ⟨rfl, _, rfl, rfl, rfl⟩
    · intro o ho a' w' hfr hdep
      obtain rfl := Option.some.inj ho
      have g12 : a'.tmps[12]?.getD undef = .slice (some ⟨t7, 0, none⟩) nb c7 := by have h := hfr 12 (by kernel_rfl); simpa using h
      clear ho hfr hdep
      go_wp2_with fail
      exact ⟨rfl, _, rfl, rfl, rfl⟩
    · intro o ho a' w' hfr hdep
      obtain rfl := Option.some.inj ho
      have g1 : a'.tmps[1]?.getD undef = .slice a2 n2 c2 := by have h := hfr 1 (by kernel_rfl); simpa using h
      clear ho hfr hdep
      go_wp2_with fail
      exact ⟨rfl, _, rfl, rfl, rfl⟩
  · intro g w9 hG hp
    clear hp
    obtain ⟨B, a6, c6, a5, c5, g65, hx9, hs6, hs5, hb9⟩ := hG
    replace g65 : g 65 = _ := g65
    simp only [List.map_cons, List.map_nil, List.cons_append, List.nil_append, putAll, Act.put, List.setIfInBounds_toArray, List.set_cons_succ, List.set_cons_zero, g65]
    obtain ⟨T, F, hTl, hT200, hT0, hT1⟩ : ∃ T, Four w9 B T ∧ Hid (T.length = 4) ∧ Hid (∀ t ∈ T, t.length ≤ 1000000) ∧ Hid (T[0]? = some (E ++ f2)) ∧ Hid (T[1]? = some (E.take kk)) := by
      refine ⟨[E ++ f2, E.take kk, E.set kk u, f6], ⟨?_, hx9.lt⟩, rfl, ?_, rfl, rfl⟩
      · intro i t ht
        rcases i with _ | _ | _ | _ | i
        · cases ht; exact ⟨_, _, _, hx9.at_ rfl, hs6⟩
        · cases ht
          refine ⟨_, _, _, hx9.at_ rfl, ?_⟩
          have := (hob8.below hb9).take kk (by omega)
          rw [← List.map_take] at this
          exact this
        · cases ht; exact ⟨_, _, _, hx9.at_ rfl, hs8.below hb9⟩
        · cases ht; exact ⟨_, _, _, hx9.at_ rfl, hs5⟩
        · cases ht
      · show ∀ t ∈ _, _
        intro t ht
        have hn := HNB.out
        rcases List.mem_cons.1 ht with rfl | ht
        · rw [List.length_append]; omega
        rcases List.mem_cons.1 ht with rfl | ht
        · rw [List.length_take]; omega
        rcases List.mem_cons.1 ht with rfl | ht
        · rw [List.length_set]; omega
        rcases List.mem_cons.1 ht with rfl | ht
        · omega
        · cases ht
    have hpp9 := hpp8.below hb9
    have b9 := bs0 b8 hb9
    have hB9 := F.lt
    clear hx9 hs6 hs5 hob8 hs8 hr8 hpp8 hb9 b8 g65
    go_wp2_with fail
    go_loopg [14] 4 (fun g i' w' => ∃ i : Nat, i ≤ 4 ∧ g = 4 - i ∧ i' = .int .i64 i ∧ Below w9.heap.size w9 w')
    case atStart => exact ⟨0, by omega, rfl, rfl, Below.refl _ _⟩
    case round =>
      obtain ⟨i, hi4, hg, rfl, hbk⟩ := hrel
      by_cases hi : i < 4
      · obtain ⟨t, ht⟩ : ∃ t, T[i]? = some t := ⟨T[i]'(by rw [hTl.out]; exact hi), by simp⟩
        obtain ⟨ta, tn, tc, he, htp⟩ := F.sl i t ht
        have ht6 := hT200.out t (List.mem_of_getElem? ht)
        obtain ⟨⟨q, m, x⟩, Hd⟩ : ∃ r, Hid (decPage t = r) := ⟨_, hide rfl⟩
        have e1 : (x != x) = false := by simp
        have e2 : (m != m) = false := by simp
        clear ht
        have b0 : Below w9.heap.size w9 wr ∧ w9.heap.size ≤ wr.heap.size := ⟨hbk, hbk.size⟩
        have q0 := cell_und he hB9 b0.1
        go_wp2_with fail
        refine (Decode_at Hd.out ht6 (htp.below b0.1)).mono ?_
        rintro e w10 ⟨a10, c10, h10, rfl, hp10, hb⟩
        have b1 := bs0 b0 hb
        clear q0
        have q0 := cell_und he hB9 b1.1
        go_wp2_with fail
        refine (refDecode_at Hd.out ht6 (htp.below b1.1)).mono ?_
        rintro e w11 ⟨a11, c11, h11, rfl, hp11, hb2⟩
        have b2 := bs0 b1 hb2
        have hp10b := hp10.below hb2
        go_wp2_with fail
        refine (Equal_at (v := true) (by simp) hp10b hp11).mono ?_
        rintro e w12 ⟨rfl, hb3⟩
        have b3 := bs0 b2 hb3
        go_wp2_with fail
        go_roundg (4 - (i + 1))
        case measure => omega
        case rel => exact ⟨i + 1, by omega, rfl, by go_num, b3.1⟩
      · have b0 : Below w9.heap.size w9 wr ∧ w9.heap.size ≤ wr.heap.size := ⟨hbk, hbk.size⟩
        obtain ⟨a20, n20, c20, he0, hs20⟩ := F.sl 0 _ hT0.out
        obtain ⟨a21, n21, c21, he1, hs21⟩ := F.sl 1 _ hT1.out
        have q0 := cell_und he0 hB9 b0.1
        have ht0 := hT200.out _ (List.mem_of_getElem? hT0.out)
        have ht1 := hT200.out _ (List.mem_of_getElem? hT1.out)
        go_wp2_with fail
        refine (Decode_at (HD1.out f2) ht0 (hs20.below b0.1)).mono ?_
        rintro e w10 ⟨a10, c10, h10, rfl, hp10, hb⟩
        have b1 := bs0 b0 hb
        have hp9b := hpp9.below b1.1
        clear q0
        have q1 := cell_und he1 hB9 b1.1
        go_wp2_with fail
        refine (Decode_at (HD2.out kk (by rw [HNB.out]; exact hkk)) ht1 (hs21.below b1.1)).mono ?_
        rintro e w11 ⟨a11, c11, h11, rfl, hp11, hb2⟩
        have b2 := bs0 b1 hb2
        have hp10b := hp10.below hb2
        have hp9c := hp9b.below hb2
        go_wp2_with fail
        refine (Equal_at (v := true) (by simp) hp10b hp9c).mono ?_
        rintro e w12 ⟨rfl, hb3⟩
        have b3 := bs0 b2 hb3
        go_wp2_with fail
        refine (law4_lives w12).mono ?_
        rintro e w13 ⟨rfl, hb4⟩
        have b4 := bs0 b3 hb4
        go_wp2_with fail
        go_ret
        exact ⟨rfl, b9.1.trans (b4.1.mono b9.2)⟩
end Go.Proofs.Ythfljnlankmoiaa
end
