/- The contracts of the functions that the law reaches, joined into one text. -/
import Derived.Test.YtkjcbneanaeleaaBaseB35E
import Derived.OpenShut
import Derived.Deep.Slices
import Derived.Deep.Strs
import Derived.SizedLaws
set_option linter.unusedVariables false
set_option linter.unusedSimpArgs false

/- the text Row2 -/
section
/- How the arguments of a law read: slices of integers, of strings, of arrays of integers, with the form's own reach. No program. -/
namespace Go.Dx
open Go.RowKit Go.WideShapes Go.ChangeShapes Go.Deep

/-- no part is longer than the form lets it be -/
def Sized {H : Type} (P : Program) (t : TypeId) (d : DataW H) : Prop := ∀ n ∈ d.weights P t, n ≤ reachBytes
section
variable {H : Type} {enc : TypeId × Value → H} {P : Program} {w : World}
theorem sized_at {ts : List TypeId} {ds : List (DataW H)} (hwt : (DataW.weightsEach P ts ds).all (· ≤ reachBytes) = true) (j : Nat) {t : TypeId} {d : DataW H} (ht : ts[j]? = some t) (hd : ds[j]? = some d) : Sized P t d :=
  fun n hn => by simpa using List.all_eq_true.1 hwt _ (DataW.weights_mem_each ht hd n hn)
theorem sized_all {e : TypeId} : ∀ {l : List (DataW H)} {d : DataW H}, d ∈ l → ∀ n ∈ d.weights P e, n ∈ DataW.weightsAll P e l
  | x :: l, d, hd, n, hn => by
    simp only [DataW.weightsAll, List.mem_append]
    rcases List.mem_cons.1 hd with rfl | h
    · exact .inl hn
    · exact .inr (sized_all h n hn)
theorem Sized.slice {t e : TypeId} {elems spare : List (DataW H)} (h : Sized P t (.slice elems spare)) (hu : P.underlying t = some (.slice e)) :
    (elems.length + spare.length) * P.bytesOf e ≤ reachBytes ∧ (∀ d ∈ elems, Sized P e d) :=
  ⟨h _ (by simp [DataW.weights, hu]), fun d hd n hn => h n (by simp only [DataW.weights, hu, List.mem_cons, List.mem_append]; exact .inr (.inl (sized_all hd n hn)))⟩
theorem Sized.string {t : TypeId} {b : List UInt8} (h : Sized P t (DataW.lit (H := H) (.string b))) : b.length ≤ reachBytes := h _ (by simp [DataW.weights])

theorem add_cells {a : Addr} {n : Nat} : a.add n = a.add n := rfl

theorem trod_ints {t e : TypeId} {k : IntKind} (ht : P.underlying t = some (.slice e)) (he : P.underlying e = some (.int k)) (hc : P.cellsOf e = 1) (hb : 0 < P.bytesOf e) {a : Option Addr} {len cap : Nat} {d : DataW H} {p : List MemPlace}
    (hs : Sized P t d) (h : DataW.Trod enc P w 0 (fun _ => true) true t (.slice a len cap) d p) :
    ∃ zs : List Int, Sl w 1 a len cap (zs.map (Value.int k)) ∧ (∀ n ∈ zs, (Lit.int k n).wf = true) ∧ len ≤ reachBytes := by
  obtain ⟨fuel, hf⟩ := h
  rcases open_ints ht he hc hf with ⟨hcs, _⟩ | ⟨x, l, c, zs, hcs, _, hl, hm, hz, hx, hcell, hwz⟩
  · simp [Value.cells] at hcs
    obtain ⟨rfl, rfl, rfl⟩ := hcs
    exact ⟨[], Sl.empty w 1, by simp, Nat.zero_le _⟩
  · simp [Value.cells] at hcs
    obtain ⟨rfl, rfl, rfl⟩ := hcs
    have hz2 : zs.length = cap := by simpa using hz
    have hd := congrArg Prod.fst hx
    simp only at hd
    subst hd
    refine ⟨zs.take len, ⟨by simp; omega, hl, hm, (fun h => by cases h), ?_⟩, fun n hn => hwz n (List.mem_of_mem_take hn), ?_⟩
    · intro q hq j u hj
      cases hq
      rw [List.getElem?_map, List.getElem?_take] at hj
      by_cases hlt : j < len
      · rw [if_pos hlt] at hj
        have hjz : j < zs.length := by omega
        rw [List.getElem?_eq_getElem hjz] at hj
        simp at hj
        rw [hcell j hjz, ← hj, List.getD_eq_getElem?_getD, List.getElem?_eq_getElem hjz]
        rfl
      · rw [if_neg hlt] at hj; cases hj
    · have hsz := (hs.slice ht).1
      rw [show ∀ (k : IntKind) (l : List Int), (lits (H := H) k l).length = l.length from fun k l => by simp [lits], List.length_take, show min len zs.length = len by omega] at hsz
      exact Nat.le_trans (Nat.le_trans (Nat.le_add_right _ _) (Nat.le_mul_of_pos_right _ hb)) hsz

theorem trod_bytes {t e : TypeId} (ht : P.underlying t = some (.slice e)) (he : P.underlying e = some (.int .u8)) (hc : P.cellsOf e = 1) (hb : 0 < P.bytesOf e) {a : Option Addr} {len cap : Nat} {d : DataW H} {p : List MemPlace}
    (hs : Sized P t d) (h : DataW.Trod enc P w 0 (fun _ => true) true t (.slice a len cap) d p) :
    ∃ l : List UInt8, Sl w 1 a len cap (l.map B8) ∧ len ≤ reachBytes := by
  obtain ⟨zs, h1, h2, h3⟩ := trod_ints ht he hc hb hs h
  refine ⟨zs.map fun n => UInt8.ofNat n.toNat, ?_, h3⟩
  have e : (zs.map fun n => UInt8.ofNat n.toNat).map B8 = zs.map (Value.int .u8) := by
    rw [List.map_map]
    apply List.map_congr_left
    intro n hn
    have hb : 0 ≤ n ∧ n ≤ 255 := bounds_u8 (h2 n hn)
    show Value.int .u8 ((UInt8.ofNat n.toNat).toNat : Int) = _
    rw [UInt8.toNat_ofNat']
    congr 1
    omega
  rw [e]
  exact h1
theorem trod_i64s {t e : TypeId} (ht : P.underlying t = some (.slice e)) (he : P.underlying e = some (.int .i64)) (hc : P.cellsOf e = 1) (hb : 0 < P.bytesOf e) {a : Option Addr} {len cap : Nat} {d : DataW H} {p : List MemPlace}
    (hs : Sized P t d) (h : DataW.Trod enc P w 0 (fun _ => true) true t (.slice a len cap) d p) :
    ∃ l : List Int, Sl w 1 a len cap (l.map I64) ∧ (∀ n ∈ l, -9223372036854775808 ≤ n ∧ n ≤ 9223372036854775807) ∧ len ≤ reachBytes := by
  obtain ⟨zs, h1, h2, h3⟩ := trod_ints ht he hc hb hs h
  exact ⟨zs, h1, fun n hn => bounds_i64 (h2 n hn), h3⟩

theorem trod_strs {t e : TypeId} (ht : P.underlying t = some (.slice e)) (he : P.underlying e = some .string) (hc : P.cellsOf e = 1) (hb : 0 < P.bytesOf e) {a : Option Addr} {len cap : Nat} {d : DataW H} {p : List MemPlace}
    (hs : Sized P t d) (h : DataW.Trod enc P w 0 (fun _ => true) true t (.slice a len cap) d p) :
    ∃ l : List ByteArray, Sl w 1 a len cap (l.map Value.string) ∧ (∀ s ∈ l, s.size ≤ reachBytes) ∧ len ≤ reachBytes ∧ (l = [] ∨ ∃ sp, d = .slice (l.map fun s => .lit (.string s.data.toList)) sp) := by
  obtain ⟨fuel, hf⟩ := h
  rcases open_strs ht he hc hf with ⟨hcs, _⟩ | ⟨x, l, c, m, Sx, hcs, _, hl, hm, hmm, hx, hcell⟩
  · simp [Value.cells] at hcs
    obtain ⟨rfl, rfl, rfl⟩ := hcs
    exact ⟨[], Sl.empty w 1, by simp, Nat.zero_le _, .inl rfl⟩
  · simp [Value.cells] at hcs
    obtain ⟨rfl, rfl, rfl⟩ := hcs
    simp only [if_true] at hmm
    subst hmm
    have hd := congrArg Prod.fst hx
    simp only at hd
    subst hd
    obtain ⟨z1, z2⟩ := hs.slice ht
    refine ⟨(List.range len).map Sx, ⟨by simp, hl, hm, (fun h => by cases h), ?_⟩, ?_, ?_, .inr ⟨_, by rw [List.map_map]; rfl⟩⟩
    · intro q hq j u hj
      cases hq
      have hlt : j < len := by have := (List.getElem?_eq_some_iff.1 hj).1; simpa using this
      rw [(hcell j (by omega)).1]
      simp [hlt] at hj
      rw [hj]
    · intro s hs
      obtain ⟨i, hi, rfl⟩ := List.mem_map.1 hs
      have := Sized.string (z2 _ (List.mem_map.2 ⟨i, hi, rfl⟩))
      rwa [show (Sx i).data.toList.length = (Sx i).size from Array.length_toList] at this
    · simp only [List.length_map, List.length_range] at z1
      exact Nat.le_trans (Nat.le_trans (Nat.le_add_right _ _) (Nat.le_mul_of_pos_right _ hb)) z1

theorem trod_arr {t e n : Nat} {k : IntKind} {base : Nat} {spare : Nat → Bool} {held : Bool} {fuel : Nat} {cs : List Value} {x : DataW H × List MemPlace} (ht : P.underlying t = some (.array n e)) (he : P.underlying e = some (.int k)) (hc : P.cellsOf e = 1) (hct : P.cellsOf t = n)
    (h : DataW.trod enc P w base spare held fuel t cs = some x) : cs.length = n ∧ ∀ i, i < n → ∃ z, cs[i]? = some (.int k z) ∧ (Lit.int k z).wf = true := by
  obtain ⟨xs, m, _, _, hl, hxl, hi⟩ := DataW.trod_array ht h
  rw [hct] at hl
  refine ⟨hl, fun i hin => ?_⟩
  have h1 := hi i hin
  rw [hc, Nat.mul_one, List.getElem?_eq_getElem (by omega)] at h1
  obtain ⟨z, hz, _, hw⟩ := DataW.trod_int he h1
  refine ⟨z, ?_, hw⟩
  have := congrArg (·[0]?) hz
  simpa [List.getElem?_take, List.getElem?_drop] using this

theorem trod_arrs {t e q n : Nat} {k : IntKind} (ht : P.underlying t = some (.slice e)) (he : P.underlying e = some (.array n q)) (hq : P.underlying q = some (.int k)) (hc : P.cellsOf q = 1) (hce : P.cellsOf e = n) (hb : 0 < P.bytesOf e) (hn0 : 0 < n)
    {a : Option Addr} {len cap : Nat} {d : DataW H} {p : List MemPlace} (hs : Sized P t d) (h : DataW.Trod enc P w 0 (fun _ => true) true t (.slice a len cap) d p) :
    ∃ zs : List Int, Sl w n a len cap (zs.map (Value.int k)) ∧ (∀ n ∈ zs, (Lit.int k n).wf = true) ∧ len ≤ reachBytes := by
  obtain ⟨fuel, hf⟩ := h
  rcases open_slice ht hf with ⟨hcs, _⟩ | ⟨x, l, c, m, g, D, Pl, hcs, _, hl, hm, hmm, hx, hel⟩
  · simp [Value.cells] at hcs
    obtain ⟨rfl, rfl, rfl⟩ := hcs
    exact ⟨[], Sl.empty w n, by simp, Nat.zero_le _⟩
  · simp [Value.cells] at hcs
    obtain ⟨rfl, rfl, rfl⟩ := hcs
    simp only [if_true] at hmm
    subst hmm
    have hd := congrArg Prod.fst hx
    simp only at hd
    subst hd
    obtain ⟨z1, z2⟩ := hs.slice ht
    have each : ∀ j, j < len * n → ∃ z, w.cell? (x.add j) = some (.int k z) ∧ (Lit.int k z).wf = true := by
      intro j hj
      have hi : j / n < len := (Nat.div_lt_iff_lt_mul hn0).2 hj
      obtain ⟨cs', h1, h2⟩ := hel (j / n) (by omega)
      rw [hce] at h1
      obtain ⟨_, hcl, hat⟩ := World.cells?_some h1
      have hr : j % n < n := Nat.mod_lt _ hn0
      obtain ⟨z, hz, hwz⟩ := (trod_arr he hq hc hce h2).2 (j % n) hr
      refine ⟨z, ?_, hwz⟩
      have := hat (j % n) hr
      rw [sl_add, Nat.div_add_mod'] at this
      rw [this, hz]
    obtain ⟨Z, hZ⟩ := choose_lt each
    refine ⟨(List.range (len * n)).map Z, ⟨by simp, hl, hm, (fun h => by cases h), ?_⟩, ?_, ?_⟩
    · intro q hq j u hj
      cases hq
      have hlt : j < len * n := by have := (List.getElem?_eq_some_iff.1 hj).1; simpa using this
      rw [(hZ j hlt).1]
      simp [hlt] at hj
      rw [hj]
    · intro z hz
      obtain ⟨i, hi, rfl⟩ := List.mem_map.1 hz
      exact (hZ i (List.mem_range.1 hi)).2
    · simp only [List.length_map, List.length_range] at z1
      exact Nat.le_trans (Nat.le_trans (Nat.le_add_right _ _) (Nat.le_mul_of_pos_right _ hb)) z1
theorem bytes_of_wf {zs : List Int} (h : ∀ n ∈ zs, (Lit.int .u8 n).wf = true) : ∃ l : List UInt8, l.map B8 = zs.map (Value.int .u8) := by
  refine ⟨zs.map fun n => UInt8.ofNat n.toNat, ?_⟩
  rw [List.map_map]
  apply List.map_congr_left
  intro n hn
  have hb : 0 ≤ n ∧ n ≤ 255 := bounds_u8 (h n hn)
  show Value.int .u8 ((UInt8.ofNat n.toNat).toNat : Int) = _
  rw [UInt8.toNat_ofNat']
  congr 1
  omega
end
end Go.Dx
end

/- the text B36 -/
section
/- Chapter 06: plain and SameSteps (steps of the reference). -/
namespace Go.Proofs.Ytkjcbneanaeleaa
open Go.RowKit Go.Dx
theorem size_rst : (Try.prog.info? 40).map (·.size) = some 3 := by kernel_rfl
theorem size_r3 (x y z : Value) : (Try.prog.info? 40).map (·.size) = some ([x, y, z] : List Value).length := by rw [size_rst]; rfl
theorem same_at {x y : List UInt8} {a1 a2 : Option Addr} {n1 n2 c1 c2 : Nat} {w : World} (hxy : x = y) (h1 : Sl w 1 a1 n1 c1 (x.map B8)) (h2 : Sl w 1 a2 n2 c2 (y.map B8)) :
    Calls Try.prog 46 #[.slice a1 n1 c1, .slice a2 n2 c2] w fun e w' => e = .returned (.bool true) ∧ Below w.heap.size w w' := by
  refine (ref_Same x y a1 a2 n1 n2 c1 c2 w ⟨h1.len, h1.le, h1.cap, h1.nil, h1.cell⟩ ⟨h2.len, h2.le, h2.cap, h2.nil, h2.cell⟩).mono ?_
  rintro e w' ⟨rfl, m, hm⟩
  exact ⟨by rw [decide_eq_true hxy], hm ▸ Still.below m⟩
section
variable {w : World} {ops : Array Oper} {rest : List Oper} {o : Oper} {act : Act} {Q : Exit → Act → World → Prop}
theorem app_rst3 (hg : o.guard = none) (s x : Operand) (hop : o.op = Op.call { callee := Callee.builtin Builtin.append, args := #[s, x], argTypes := #[43, 43] })
    (w0 : World) (B : Nat) (a : Option Addr) (n c : Nat) (cs : List Value) (hs : act.eval s = .slice a n c) (hown : Own w B 91 6 a n c cs)
    (p : SH) (a2 : Option Addr) (c2 : Nat) (hx : act.eval x = .slice a2 1 c2) (hy : Sl w 6 a2 1 c2 (stc p))
    (hn : n ≤ 1000000) (hB : B ≤ w.heap.size) (hbel : Below B w0 w)
    (hK : ∀ a' c' w', Own w' B 91 6 a' (n + 1) c' (cs ++ stc p) → Below B w0 w' → wpList Try.prog ops Q rest (act.put o.dst (.slice a' (n + 1) c')) w') :
    wpList Try.prog ops Q (o :: rest) act w := by
  refine append_own hg s x 43 hop 91 zeroStep 6 56 Try.underlying43 info_rstep rfl w0 B a _ c _ hs hown a2 1 c2 (stc p) hx hy (stc_one p) (by omega) (by unfold maxLen; omega) hB hbel ?_
  intro a' c' w' ho hgr hb
  exact hK a' c' w' ho hb
end
set_option maxRecDepth 100000 in
set_option maxHeartbeats 4000000 in
theorem law_plain (L : List Stp) (ps : List SH) (a : Option Addr) (n c : Nat) (hn : n ≤ 1000) (w : World) (hS : Stl w a n c ps L) :
    Calls Try.prog 15 #[.slice a n c] w (StepsR L w) := by
  have hpl : n = ps.length := hS.top.nf stc_len (by decide)
  have HPL := hide hpl
  clear hpl
  go_enter Try.func15, Try.ntmps15
  go_wp2_with fail
  go_loopg [3, 4] n (fun gh ov v w' => ∃ (k : Nat) (ao : Option Addr) (co : Nat), k ≤ n ∧ gh = n - k ∧ ov = .slice ao k co ∧ v = .int .i64 (k : Int) ∧ Hid (Own w' w.heap.size 91 6 ao k co ((ps.take k).flatMap stc)) ∧ Below w.heap.size w w')
  case atStart => exact ⟨0, none, 0, by omega, by omega, rfl, rfl, hide (Own.nil _ _ _ _), Below.refl _ _⟩
  case round =>
    obtain ⟨k, ao, co, hk, hgk, rfl, rfl, HO, hb⟩ := hrel
    have HG := hide hgk
    clear hgk
    by_cases hkl : k < n
    · obtain ⟨p, hp⟩ : ∃ p, ps[k]? = some p := ⟨_, List.getElem?_eq_getElem (by have := HPL.out; omega)⟩
      have HT : Hid ((ps.take (k + 1)).flatMap stc = (ps.take k).flatMap stc ++ stc p) := hide (by rw [List.take_add_one, hp, List.flatMap_append]; simp)
      have hSr := hS.below hb
      have hO := HO.out
      obtain ⟨b1, o1, hab, hb1, x0, x1, x2, x3, x4, x5⟩ := st_cells hSr hp
      subst hab
      clear hp hSr
      have e1 : decide (k < n) = true := decide_eq_true hkl
      have e1' : decide ((k : Int) < (n : Int)) = true := decide_eq_true (by omega)
      go_wp2_with fail
      refine wp_region_free 20 [⟨0, 12, [12], fun vs _ => vs = [.slice (some ⟨b1, o1, none⟩) n c]⟩, ⟨1, 13, [13], fun vs _ => vs = [.int .i64 (k : Int)]⟩, ⟨2, 14, [14], fun vs _ => vs = [.pointer (some ⟨b1, o1 + k * 6, none⟩)]⟩, ⟨3, 15, [15], fun vs _ => vs = [.pointer (some ⟨b1, o1 + k * 6, none⟩)]⟩, ⟨4, 16, [16], fun vs _ => vs = [.pointer (some ⟨b1, o1 + k * 6, none⟩)]⟩, ⟨5, 17, [17], fun vs _ => vs = [.int .i64 p.1.dst.lang]⟩, ⟨6, 18, [18], fun vs _ => vs = [.slice (some ⟨b1, o1, none⟩) n c]⟩, ⟨7, 19, [19], fun vs _ => vs = [.int .i64 (k : Int)]⟩, ⟨8, 20, [20], fun vs _ => vs = [.pointer (some ⟨b1, o1 + k * 6, none⟩)]⟩, ⟨9, 21, [21], fun vs _ => vs = [.pointer (some ⟨b1, o1 + k * 6, none⟩)]⟩, ⟨10, 22, [22], fun vs _ => vs = [.pointer (some ⟨b1, o1 + k * 6 + 1, none⟩)]⟩, ⟨11, 23, [23], fun vs _ => vs = [.bool p.1.dst.num]⟩, ⟨12, 24, [24], fun vs _ => vs = [.slice (some ⟨b1, o1, none⟩) n c]⟩, ⟨13, 25, [25], fun vs _ => vs = [.int .i64 (k : Int)]⟩, ⟨14, 26, [26], fun vs _ => vs = [.pointer (some ⟨b1, o1 + k * 6, none⟩)]⟩, ⟨15, 27, [27], fun vs _ => vs = [.pointer (some ⟨b1, o1 + k * 6, none⟩)]⟩, ⟨16, 28, [28], fun vs _ => vs = [.pointer (some ⟨b1, o1 + k * 6 + 2, none⟩)]⟩, ⟨17, 29, [29], fun vs _ => vs = [.bool p.1.dst.wrd]⟩, ⟨18, 30, [30], fun vs _ => vs = [.agg #[.int .i64 p.1.dst.lang, .bool p.1.dst.num, .bool p.1.dst.wrd]]⟩, ⟨19, 5, [5], fun vs w' => ∃ b, vs = [.pointer (some ⟨b, 0, none⟩)] ∧ wr.heap.size ≤ b ∧ Box w' b 40 [.int .i64 0, .bool false, .bool false]⟩] (by kernel_rfl) (by kernel_rfl) ?_ ?_ ?_
      · simp only [All]
        refine ⟨fun _ _ _ _ h => h, fun _ _ _ _ h => h, fun _ _ _ _ h => h, fun _ _ _ _ h => h, fun _ _ _ _ h => h, fun _ _ _ _ h => h, fun _ _ _ _ h => h, fun _ _ _ _ h => h, fun _ _ _ _ h => h, fun _ _ _ _ h => h, fun _ _ _ _ h => h, fun _ _ _ _ h => h, fun _ _ _ _ h => h, fun _ _ _ _ h => h, fun _ _ _ _ h => h, fun _ _ _ _ h => h, fun _ _ _ _ h => h, fun _ _ _ _ h => h, fun _ _ _ _ h => h, ?_, trivial⟩
        · rintro vs w2 w3 hb ⟨b, h1, h2, h3⟩
          exact ⟨b, h1, h2, h3.under hb⟩
      · simp only [All]
        refine ⟨?_, ?_, ?_, ?_, ?_, ?_, ?_, ?_, ?_, ?_, ?_, ?_, ?_, ?_, ?_, ?_, ?_, ?_, ?_, ?_, trivial⟩
        · intro o ho a' w' hb hfr hdep
          obtain rfl := Option.some.inj ho
          have g0 : a'.tmps[0]?.getD undef = .slice (some ⟨b1, o1, none⟩) n c := by have h := hfr 0 (by kernel_rfl); simpa using h
          clear ho hfr hdep
          go_wp2_with fail
          exact ⟨rfl, _, rfl, Below.refl _ _, rfl⟩
        · intro o ho a' w' hb hfr hdep
          obtain rfl := Option.some.inj ho
          have g4 : a'.tmps[4]?.getD undef = .int .i64 (k : Int) := by have h := hfr 4 (by kernel_rfl); simpa using h
          clear ho hfr hdep
          go_wp2_with fail
          exact ⟨rfl, _, rfl, Below.refl _ _, rfl⟩
        · intro o ho a' w' hb hfr hdep
          obtain rfl := Option.some.inj ho
          have g12 : a'.tmps[12]?.getD undef = .slice (some ⟨b1, o1, none⟩) n c := by have h := hdep 0 _ rfl (by kernel_rfl); simpa using h
          have g13 : a'.tmps[13]?.getD undef = .int .i64 (k : Int) := by have h := hdep 1 _ rfl (by kernel_rfl); simpa using h
          clear ho hfr hdep
          go_wp2_with fail
          exact ⟨rfl, _, rfl, Below.refl _ _, rfl⟩
        · intro o ho a' w' hb hfr hdep
          obtain rfl := Option.some.inj ho
          have g14 : a'.tmps[14]?.getD undef = .pointer (some ⟨b1, o1 + k * 6, none⟩) := by have h := hdep 2 _ rfl (by kernel_rfl); simpa using h
          clear ho hfr hdep
          go_wp2_with fail
          exact ⟨rfl, _, rfl, Below.refl _ _, rfl⟩
        · intro o ho a' w' hb hfr hdep
          obtain rfl := Option.some.inj ho
          have g15 : a'.tmps[15]?.getD undef = .pointer (some ⟨b1, o1 + k * 6, none⟩) := by have h := hdep 3 _ rfl (by kernel_rfl); simpa using h
          clear ho hfr hdep
          go_wp2_with fail
          exact ⟨rfl, _, rfl, Below.refl _ _, rfl⟩
        · intro o ho a' w' hb hfr hdep
          obtain rfl := Option.some.inj ho
          have g16 : a'.tmps[16]?.getD undef = .pointer (some ⟨b1, o1 + k * 6, none⟩) := by have h := hdep 4 _ rfl (by kernel_rfl); simpa using h
          clear ho hfr hdep
          have hcl := cell_below x0 hb
          go_wp2_with fail
          exact ⟨rfl, _, rfl, Below.refl _ _, rfl⟩
        · intro o ho a' w' hb hfr hdep
          obtain rfl := Option.some.inj ho
          have g0 : a'.tmps[0]?.getD undef = .slice (some ⟨b1, o1, none⟩) n c := by have h := hfr 0 (by kernel_rfl); simpa using h
          clear ho hfr hdep
          go_wp2_with fail
          exact ⟨rfl, _, rfl, Below.refl _ _, rfl⟩
        · intro o ho a' w' hb hfr hdep
          obtain rfl := Option.some.inj ho
          have g4 : a'.tmps[4]?.getD undef = .int .i64 (k : Int) := by have h := hfr 4 (by kernel_rfl); simpa using h
          clear ho hfr hdep
          go_wp2_with fail
          exact ⟨rfl, _, rfl, Below.refl _ _, rfl⟩
        · intro o ho a' w' hb hfr hdep
          obtain rfl := Option.some.inj ho
          have g18 : a'.tmps[18]?.getD undef = .slice (some ⟨b1, o1, none⟩) n c := by have h := hdep 6 _ rfl (by kernel_rfl); simpa using h
          have g19 : a'.tmps[19]?.getD undef = .int .i64 (k : Int) := by have h := hdep 7 _ rfl (by kernel_rfl); simpa using h
          clear ho hfr hdep
          go_wp2_with fail
          exact ⟨rfl, _, rfl, Below.refl _ _, rfl⟩
        · intro o ho a' w' hb hfr hdep
          obtain rfl := Option.some.inj ho
          have g20 : a'.tmps[20]?.getD undef = .pointer (some ⟨b1, o1 + k * 6, none⟩) := by have h := hdep 8 _ rfl (by kernel_rfl); simpa using h
          clear ho hfr hdep
          go_wp2_with fail
          exact ⟨rfl, _, rfl, Below.refl _ _, rfl⟩
        · intro o ho a' w' hb hfr hdep
          obtain rfl := Option.some.inj ho
          have g21 : a'.tmps[21]?.getD undef = .pointer (some ⟨b1, o1 + k * 6, none⟩) := by have h := hdep 9 _ rfl (by kernel_rfl); simpa using h
          clear ho hfr hdep
          go_wp2_with fail
          exact ⟨rfl, _, rfl, Below.refl _ _, rfl⟩
        · intro o ho a' w' hb hfr hdep
          obtain rfl := Option.some.inj ho
          have g22 : a'.tmps[22]?.getD undef = .pointer (some ⟨b1, o1 + k * 6 + 1, none⟩) := by have h := hdep 10 _ rfl (by kernel_rfl); simpa using h
          clear ho hfr hdep
          have hcl := cell_below x1 hb
          go_wp2_with fail
          exact ⟨rfl, _, rfl, Below.refl _ _, rfl⟩
        · intro o ho a' w' hb hfr hdep
          obtain rfl := Option.some.inj ho
          have g0 : a'.tmps[0]?.getD undef = .slice (some ⟨b1, o1, none⟩) n c := by have h := hfr 0 (by kernel_rfl); simpa using h
          clear ho hfr hdep
          go_wp2_with fail
          exact ⟨rfl, _, rfl, Below.refl _ _, rfl⟩
        · intro o ho a' w' hb hfr hdep
          obtain rfl := Option.some.inj ho
          have g4 : a'.tmps[4]?.getD undef = .int .i64 (k : Int) := by have h := hfr 4 (by kernel_rfl); simpa using h
          clear ho hfr hdep
          go_wp2_with fail
          exact ⟨rfl, _, rfl, Below.refl _ _, rfl⟩
        · intro o ho a' w' hb hfr hdep
          obtain rfl := Option.some.inj ho
          have g24 : a'.tmps[24]?.getD undef = .slice (some ⟨b1, o1, none⟩) n c := by have h := hdep 12 _ rfl (by kernel_rfl); simpa using h
          have g25 : a'.tmps[25]?.getD undef = .int .i64 (k : Int) := by have h := hdep 13 _ rfl (by kernel_rfl); simpa using h
          clear ho hfr hdep
          go_wp2_with fail
          exact ⟨rfl, _, rfl, Below.refl _ _, rfl⟩
        · intro o ho a' w' hb hfr hdep
          obtain rfl := Option.some.inj ho
          have g26 : a'.tmps[26]?.getD undef = .pointer (some ⟨b1, o1 + k * 6, none⟩) := by have h := hdep 14 _ rfl (by kernel_rfl); simpa using h
          clear ho hfr hdep
          go_wp2_with fail
          exact ⟨rfl, _, rfl, Below.refl _ _, rfl⟩
        · intro o ho a' w' hb hfr hdep
          obtain rfl := Option.some.inj ho
          have g27 : a'.tmps[27]?.getD undef = .pointer (some ⟨b1, o1 + k * 6, none⟩) := by have h := hdep 15 _ rfl (by kernel_rfl); simpa using h
          clear ho hfr hdep
          go_wp2_with fail
          exact ⟨rfl, _, rfl, Below.refl _ _, rfl⟩
        · intro o ho a' w' hb hfr hdep
          obtain rfl := Option.some.inj ho
          have g28 : a'.tmps[28]?.getD undef = .pointer (some ⟨b1, o1 + k * 6 + 2, none⟩) := by have h := hdep 16 _ rfl (by kernel_rfl); simpa using h
          clear ho hfr hdep
          have hcl := cell_below x2 hb
          go_wp2_with fail
          exact ⟨rfl, _, rfl, Below.refl _ _, rfl⟩
        · intro o ho a' w' hb hfr hdep
          obtain rfl := Option.some.inj ho
          have g17 : a'.tmps[17]?.getD undef = .int .i64 p.1.dst.lang := by have h := hdep 5 _ rfl (by kernel_rfl); simpa using h
          have g23 : a'.tmps[23]?.getD undef = .bool p.1.dst.num := by have h := hdep 11 _ rfl (by kernel_rfl); simpa using h
          have g29 : a'.tmps[29]?.getD undef = .bool p.1.dst.wrd := by have h := hdep 17 _ rfl (by kernel_rfl); simpa using h
          clear ho hfr hdep
          go_wp2_with fail
          exact ⟨rfl, _, rfl, Below.refl _ _, rfl⟩
        · intro o ho a' w' hb hfr hdep
          obtain rfl := Option.some.inj ho
          clear ho hfr hdep
          have hxn := Box.new w' 40 #[.int .i64 0, .bool false, .bool false]
          have hsz := hb.size
          go_wp2_with fail
          exact ⟨rfl, _, rfl, blo _ _, _, rfl, hsz, hxn⟩
      · intro g w3 hb3 hp3
        have p30 := hp3 18 _ rfl
        obtain ⟨g5, p5, hg5, hx5⟩ := hp3 19 _ rfl
        clear hp3
        simp at p30 p5
        simp only [List.drop_succ_cons, List.drop_zero, List.map_cons, List.map_nil, putAll, Act.put, List.setIfInBounds_toArray, List.set_cons_succ, List.set_cons_zero, List.cons_append, List.nil_append, p30, p5]
        clear p30 p5
        refine store_all 40 _ _ 40 g5 [.int .i64 0, .bool false, .bool false] [.int .i64 p.1.dst.lang, .bool p.1.dst.num, .bool p.1.dst.wrd] (.agg #[.int .i64 p.1.dst.lang, .bool p.1.dst.num, .bool p.1.dst.wrd]) (size_r3 _ _ _) hx5 rfl rfl rfl (Eq.refl 3) (by simp [Value.oneCell']) ?_; intro w4 hY hgr4 hs4
        have hb4 := hb3.grown hgr4 hb3.size (fun q hq => by cases hq; exact hg5)
        clear hx5 hgr4 hs4
        go_wp2_with fail
        refine wp_region_free 19 [⟨0, 31, [31], fun vs _ => vs = [.slice ao k co]⟩, ⟨1, 32, [32], fun vs _ => vs = [.agg #[.int .i64 p.1.dst.lang, .bool p.1.dst.num, .bool p.1.dst.wrd]]⟩, ⟨2, 33, [33], fun vs _ => vs = [.slice (some ⟨b1, o1, none⟩) n c]⟩, ⟨3, 34, [34], fun vs _ => vs = [.int .i64 (k : Int)]⟩, ⟨4, 35, [35], fun vs _ => vs = [.pointer (some ⟨b1, o1 + k * 6, none⟩)]⟩, ⟨5, 36, [36], fun vs _ => vs = [.pointer (some ⟨b1, o1 + k * 6 + 3, none⟩)]⟩, ⟨6, 37, [37], fun vs _ => vs = [.int .i64 p.1.len]⟩, ⟨7, 38, [38], fun vs _ => vs = [.slice (some ⟨b1, o1, none⟩) n c]⟩, ⟨8, 39, [39], fun vs _ => vs = [.int .i64 (k : Int)]⟩, ⟨9, 40, [40], fun vs _ => vs = [.pointer (some ⟨b1, o1 + k * 6, none⟩)]⟩, ⟨10, 41, [41], fun vs _ => vs = [.pointer (some ⟨b1, o1 + k * 6 + 4, none⟩)]⟩, ⟨11, 42, [42], fun vs _ => vs = [.slice p.2.1 p.2.2.1 p.2.2.2]⟩, ⟨12, 43, [43], fun vs _ => vs = [.slice (some ⟨b1, o1, none⟩) n c]⟩, ⟨13, 44, [44], fun vs _ => vs = [.int .i64 (k : Int)]⟩, ⟨14, 45, [45], fun vs _ => vs = [.pointer (some ⟨b1, o1 + k * 6, none⟩)]⟩, ⟨15, 46, [46], fun vs _ => vs = [.pointer (some ⟨b1, o1 + k * 6 + 5, none⟩)]⟩, ⟨16, 47, [47], fun vs _ => vs = [.int .i64 p.1.rule]⟩, ⟨17, 48, [48], fun vs _ => vs = [.agg #[.int .i64 p.1.dst.lang, .bool p.1.dst.num, .bool p.1.dst.wrd, .int .i64 p.1.len, .slice p.2.1 p.2.2.1 p.2.2.2, .int .i64 p.1.rule]]⟩, ⟨18, 49, [49], fun vs w' => ∃ b, vs = [.slice (some ⟨b, 0, none⟩) 1 1] ∧ Sl w' 6 (some ⟨b, 0, none⟩) 1 1 (stc p)⟩] (by kernel_rfl) (by kernel_rfl) ?_ ?_ ?_
        · simp only [All]
          refine ⟨fun _ _ _ _ h => h, fun _ _ _ _ h => h, fun _ _ _ _ h => h, fun _ _ _ _ h => h, fun _ _ _ _ h => h, fun _ _ _ _ h => h, fun _ _ _ _ h => h, fun _ _ _ _ h => h, fun _ _ _ _ h => h, fun _ _ _ _ h => h, fun _ _ _ _ h => h, fun _ _ _ _ h => h, fun _ _ _ _ h => h, fun _ _ _ _ h => h, fun _ _ _ _ h => h, fun _ _ _ _ h => h, fun _ _ _ _ h => h, fun _ _ _ _ h => h, ?_, trivial⟩
          · rintro vs w w' hb ⟨b, h1, h2⟩
            exact ⟨b, h1, h2.below hb⟩
        · simp only [All]
          refine ⟨?_, ?_, ?_, ?_, ?_, ?_, ?_, ?_, ?_, ?_, ?_, ?_, ?_, ?_, ?_, ?_, ?_, ?_, ?_, trivial⟩
          · intro o ho a' w' hb hfr hdep
            obtain rfl := Option.some.inj ho
            have g3 : a'.tmps[3]?.getD undef = .slice ao k co := by have h := hfr 3 (by kernel_rfl); simpa using h
            clear ho hfr hdep
            go_wp2_with fail
            exact ⟨rfl, _, rfl, Below.refl _ _, rfl⟩
          · intro o ho a' w' hb hfr hdep
            obtain rfl := Option.some.inj ho
            have g5' : a'.tmps[5]?.getD undef = .pointer (some ⟨g5, 0, none⟩) := by have h := hfr 5 (by kernel_rfl); simpa using h
            clear ho hfr hdep
            refine load_struct 32 40 _ 3 size_rst _ Try.underlying40 ⟨g5, 0, none⟩ (by show a'.tmps.getD 5 undef = _; simpa using g5') [.int .i64 p.1.dst.lang, .bool p.1.dst.num, .bool p.1.dst.wrd] rfl (fun j u hj => by rw [Addr.add_lit, Nat.zero_add]; exact (hY.under hb).at_ hj) ?_
            exact ⟨rfl, _, rfl, Below.refl _ _, rfl⟩
          · intro o ho a' w' hb hfr hdep
            obtain rfl := Option.some.inj ho
            have g0 : a'.tmps[0]?.getD undef = .slice (some ⟨b1, o1, none⟩) n c := by have h := hfr 0 (by kernel_rfl); simpa using h
            clear ho hfr hdep
            go_wp2_with fail
            exact ⟨rfl, _, rfl, Below.refl _ _, rfl⟩
          · intro o ho a' w' hb hfr hdep
            obtain rfl := Option.some.inj ho
            have g4 : a'.tmps[4]?.getD undef = .int .i64 (k : Int) := by have h := hfr 4 (by kernel_rfl); simpa using h
            clear ho hfr hdep
            go_wp2_with fail
            exact ⟨rfl, _, rfl, Below.refl _ _, rfl⟩
          · intro o ho a' w' hb hfr hdep
            obtain rfl := Option.some.inj ho
            have g33 : a'.tmps[33]?.getD undef = .slice (some ⟨b1, o1, none⟩) n c := by have h := hdep 2 _ rfl (by kernel_rfl); simpa using h
            have g34 : a'.tmps[34]?.getD undef = .int .i64 (k : Int) := by have h := hdep 3 _ rfl (by kernel_rfl); simpa using h
            clear ho hfr hdep
            go_wp2_with fail
            exact ⟨rfl, _, rfl, Below.refl _ _, rfl⟩
          · intro o ho a' w' hb hfr hdep
            obtain rfl := Option.some.inj ho
            have g35 : a'.tmps[35]?.getD undef = .pointer (some ⟨b1, o1 + k * 6, none⟩) := by have h := hdep 4 _ rfl (by kernel_rfl); simpa using h
            clear ho hfr hdep
            go_wp2_with fail
            exact ⟨rfl, _, rfl, Below.refl _ _, rfl⟩
          · intro o ho a' w' hb hfr hdep
            obtain rfl := Option.some.inj ho
            have g36 : a'.tmps[36]?.getD undef = .pointer (some ⟨b1, o1 + k * 6 + 3, none⟩) := by have h := hdep 5 _ rfl (by kernel_rfl); simpa using h
            clear ho hfr hdep
            have hcl := cell_below x3 (hb4.trans (hb.mono hb4.size))
            go_wp2_with fail
            exact ⟨rfl, _, rfl, Below.refl _ _, rfl⟩
          · intro o ho a' w' hb hfr hdep
            obtain rfl := Option.some.inj ho
            have g0 : a'.tmps[0]?.getD undef = .slice (some ⟨b1, o1, none⟩) n c := by have h := hfr 0 (by kernel_rfl); simpa using h
            clear ho hfr hdep
            go_wp2_with fail
            exact ⟨rfl, _, rfl, Below.refl _ _, rfl⟩
          · intro o ho a' w' hb hfr hdep
            obtain rfl := Option.some.inj ho
            have g4 : a'.tmps[4]?.getD undef = .int .i64 (k : Int) := by have h := hfr 4 (by kernel_rfl); simpa using h
            clear ho hfr hdep
            go_wp2_with fail
            exact ⟨rfl, _, rfl, Below.refl _ _, rfl⟩
          · intro o ho a' w' hb hfr hdep
            obtain rfl := Option.some.inj ho
            have g38 : a'.tmps[38]?.getD undef = .slice (some ⟨b1, o1, none⟩) n c := by have h := hdep 7 _ rfl (by kernel_rfl); simpa using h
            have g39 : a'.tmps[39]?.getD undef = .int .i64 (k : Int) := by have h := hdep 8 _ rfl (by kernel_rfl); simpa using h
            clear ho hfr hdep
            go_wp2_with fail
            exact ⟨rfl, _, rfl, Below.refl _ _, rfl⟩
          · intro o ho a' w' hb hfr hdep
            obtain rfl := Option.some.inj ho
            have g40 : a'.tmps[40]?.getD undef = .pointer (some ⟨b1, o1 + k * 6, none⟩) := by have h := hdep 9 _ rfl (by kernel_rfl); simpa using h
            clear ho hfr hdep
            go_wp2_with fail
            exact ⟨rfl, _, rfl, Below.refl _ _, rfl⟩
          · intro o ho a' w' hb hfr hdep
            obtain rfl := Option.some.inj ho
            have g41 : a'.tmps[41]?.getD undef = .pointer (some ⟨b1, o1 + k * 6 + 4, none⟩) := by have h := hdep 10 _ rfl (by kernel_rfl); simpa using h
            clear ho hfr hdep
            have hcl := cell_below x4 (hb4.trans (hb.mono hb4.size))
            go_wp2_with fail
            exact ⟨rfl, _, rfl, Below.refl _ _, rfl⟩
          · intro o ho a' w' hb hfr hdep
            obtain rfl := Option.some.inj ho
            have g0 : a'.tmps[0]?.getD undef = .slice (some ⟨b1, o1, none⟩) n c := by have h := hfr 0 (by kernel_rfl); simpa using h
            clear ho hfr hdep
            go_wp2_with fail
            exact ⟨rfl, _, rfl, Below.refl _ _, rfl⟩
          · intro o ho a' w' hb hfr hdep
            obtain rfl := Option.some.inj ho
            have g4 : a'.tmps[4]?.getD undef = .int .i64 (k : Int) := by have h := hfr 4 (by kernel_rfl); simpa using h
            clear ho hfr hdep
            go_wp2_with fail
            exact ⟨rfl, _, rfl, Below.refl _ _, rfl⟩
          · intro o ho a' w' hb hfr hdep
            obtain rfl := Option.some.inj ho
            have g43 : a'.tmps[43]?.getD undef = .slice (some ⟨b1, o1, none⟩) n c := by have h := hdep 12 _ rfl (by kernel_rfl); simpa using h
            have g44 : a'.tmps[44]?.getD undef = .int .i64 (k : Int) := by have h := hdep 13 _ rfl (by kernel_rfl); simpa using h
            clear ho hfr hdep
            go_wp2_with fail
            exact ⟨rfl, _, rfl, Below.refl _ _, rfl⟩
          · intro o ho a' w' hb hfr hdep
            obtain rfl := Option.some.inj ho
            have g45 : a'.tmps[45]?.getD undef = .pointer (some ⟨b1, o1 + k * 6, none⟩) := by have h := hdep 14 _ rfl (by kernel_rfl); simpa using h
            clear ho hfr hdep
            go_wp2_with fail
            exact ⟨rfl, _, rfl, Below.refl _ _, rfl⟩
          · intro o ho a' w' hb hfr hdep
            obtain rfl := Option.some.inj ho
            have g46 : a'.tmps[46]?.getD undef = .pointer (some ⟨b1, o1 + k * 6 + 5, none⟩) := by have h := hdep 15 _ rfl (by kernel_rfl); simpa using h
            clear ho hfr hdep
            have hcl := cell_below x5 (hb4.trans (hb.mono hb4.size))
            go_wp2_with fail
            exact ⟨rfl, _, rfl, Below.refl _ _, rfl⟩
          · intro o ho a' w' hb hfr hdep
            obtain rfl := Option.some.inj ho
            have g32 : a'.tmps[32]?.getD undef = .agg #[.int .i64 p.1.dst.lang, .bool p.1.dst.num, .bool p.1.dst.wrd] := by have h := hdep 1 _ rfl (by kernel_rfl); simpa using h
            have g37 : a'.tmps[37]?.getD undef = .int .i64 p.1.len := by have h := hdep 6 _ rfl (by kernel_rfl); simpa using h
            have g42 : a'.tmps[42]?.getD undef = .slice p.2.1 p.2.2.1 p.2.2.2 := by have h := hdep 11 _ rfl (by kernel_rfl); simpa using h
            have g47 : a'.tmps[47]?.getD undef = .int .i64 p.1.rule := by have h := hdep 16 _ rfl (by kernel_rfl); simpa using h
            clear ho hfr hdep
            go_wp2_with fail
            exact ⟨rfl, _, rfl, Below.refl _ _, rfl⟩
          · intro o ho a' w' hb hfr hdep
            obtain rfl := Option.some.inj ho
            have g48 : a'.tmps[48]?.getD undef = .agg #[.int .i64 p.1.dst.lang, .bool p.1.dst.num, .bool p.1.dst.wrd, .int .i64 p.1.len, .slice p.2.1 p.2.2.1 p.2.2.2, .int .i64 p.1.rule] := by have h := hdep 17 _ rfl (by kernel_rfl); simpa using h
            clear ho hfr hdep
            go_wp2_with fail
            exact ⟨rfl, _, rfl, blo _ _, _, rfl, Sl.fresh _ _ 6 1 (stc p) rfl (by decide)⟩
        · intro g w5 hb5 hp5
          have p31 := hp5 0 _ rfl
          obtain ⟨b9, p49, hs9⟩ := hp5 18 _ rfl
          clear hp5
          simp at p31 p49
          simp only [List.drop_succ_cons, List.drop_zero, List.map_cons, List.map_nil, putAll, Act.put, List.setIfInBounds_toArray, List.set_cons_succ, List.set_cons_zero, List.cons_append, List.nil_append, p31, p49]
          clear p31 p49
          have hb45 := hb4.trans (hb5.mono hb4.size)
          have hbW := hb.trans (hb45.mono hb.size)
          have hO5 := hO.below hb45
          go_wp2_with (at_builtin; refine app_rst3 rfl _ _ rfl w w.heap.size ao k co _ rfl hO5 p _ _ rfl hs9 (by omega) hbW.size hbW ?_; intro a7 c7 w7 ho7 hb7)
          go_roundg (n - (k + 1))
          case measure => have := HG.out; omega
          case rel => exact ⟨k + 1, a7, c7, by omega, rfl, rfl, by go_num, hide (by rw [HT.out]; exact ho7), hb7⟩
    · obtain rfl : k = n := by omega
      have hSr := hS.below hb
      have hO := HO.out
      go_wp2_with fail
      go_ret
      have hpl := HPL.out
      have hnL := hS.n_eq
      rw [List.take_of_length_le (by omega)] at hO
      exact ⟨ao, co, ps, by rw [← hnL]; rfl, by rw [← hnL]; exact ⟨hO.sl, hSr.row, hSr.eq⟩, hb⟩

set_option maxRecDepth 100000 in
set_option maxHeartbeats 4000000 in
theorem ref_SameSteps (L : List Stp) (ps qs : List SH) (a a2 : Option Addr) (n c c2 : Nat) (hn : n ≤ 1000) (w : World) (hS : Stl w a n c ps L) (hS2 : Stl w a2 n c2 qs L) :
    Calls Try.prog 14 #[.slice a n c, .slice a2 n c2] w fun e w' => e = .returned (.bool true) ∧ Below w.heap.size w w' := by
  have HN := hide hS.n_eq
  go_enter Try.func14, Try.ntmps14
  go_wp2_with fail
  go_loopg [5] n (fun gh v w' => ∃ k : Nat, k ≤ n ∧ gh = n - k ∧ v = .int .i64 (k : Int) ∧ Below w.heap.size w w')
  case atStart => exact ⟨0, by omega, by omega, rfl, Below.refl _ _⟩
  case round =>
    obtain ⟨k, hk, hgk, rfl, hb⟩ := hrel
    have HG := hide hgk
    clear hgk
    by_cases hkl : k < n
    · obtain ⟨st, hst⟩ : ∃ st, L[k]? = some st := ⟨_, List.getElem?_eq_getElem (by have := HN.out; omega)⟩
      have hSr := hS.below hb
      have hSr2 := hS2.below hb
      obtain ⟨p, hp, hpst⟩ := st_get hSr.eq hst
      obtain ⟨q, hq, hqst⟩ := st_get hSr2.eq hst
      obtain ⟨b1, o1, hab, hb1, x0, x1, x2, x3, x4, x5⟩ := st_cells hSr hp
      obtain ⟨b2, o2, hab2, hb2, y0, y1, y2, y3, y4, y5⟩ := st_cells hSr2 hq
      have hp1 := hSr.row p (List.mem_of_getElem? hp)
      have hp2 := hSr2.row q (List.mem_of_getElem? hq)
      subst hab; subst hab2
      have hqp : q.1 = p.1 := by rw [hqst, hpst]
      rw [hqp] at y0 y1 y2 y3 y5
      have hc1 : p.1.cells = q.1.cells := by rw [hqp]
      have HD1 : Hid (∀ (j : Nat) (u : Value), ([.int .i64 p.1.dst.lang, .bool p.1.dst.num, .bool p.1.dst.wrd] : List Value)[j]? = some u → wr.cell? ⟨b1, o1 + k * 6 + j, none⟩ = some u) := hide (by
        intro j u hj
        rcases j with _ | _ | _ | j
        · cases hj; exact x0
        · cases hj; exact x1
        · cases hj; exact x2
        · cases hj)
      have HD2 : Hid (∀ (j : Nat) (u : Value), ([.int .i64 p.1.dst.lang, .bool p.1.dst.num, .bool p.1.dst.wrd] : List Value)[j]? = some u → wr.cell? ⟨b2, o2 + k * 6 + j, none⟩ = some u) := hide (by
        intro j u hj
        rcases j with _ | _ | _ | j
        · cases hj; exact y0
        · cases hj; exact y1
        · cases hj; exact y2
        · cases hj)
      have v1 : (p.1.dst.lang != p.1.dst.lang) = false := by simp
      have v2 : (p.1.dst.num != p.1.dst.num) = false := by simp
      have v3 : (p.1.dst.wrd != p.1.dst.wrd) = false := by simp
      have v4 : (p.1.len != p.1.len) = false := by simp
      have v5 : (p.1.rule != p.1.rule) = false := by simp
      clear hp hq hpst hqst hst hqp hSr hSr2 x0 x1 x2 y0 y1 y2
      have e1 : decide (k < n) = true := decide_eq_true hkl
      have e1' : decide ((k : Int) < (n : Int)) = true := decide_eq_true (by omega)
      go_wp2_with fail
      refine wp_region_free 50 [⟨0, 17, [17], fun vs _ => vs = [.slice (some ⟨b1, o1, none⟩) n c]⟩, ⟨1, 18, [18], fun vs _ => vs = [.int .i64 (k : Int)]⟩, ⟨2, 19, [19], fun vs _ => vs = [.pointer (some ⟨b1, o1 + k * 6, none⟩)]⟩, ⟨3, 20, [20], fun vs _ => vs = [.pointer (some ⟨b1, o1 + k * 6, none⟩)]⟩, ⟨4, 21, [21], fun vs _ => vs = [.agg #[.int .i64 p.1.dst.lang, .bool p.1.dst.num, .bool p.1.dst.wrd]]⟩, ⟨5, 22, [22], fun vs _ => vs = [.slice (some ⟨b2, o2, none⟩) n c2]⟩, ⟨6, 23, [23], fun vs _ => vs = [.int .i64 (k : Int)]⟩, ⟨7, 24, [24], fun vs _ => vs = [.pointer (some ⟨b2, o2 + k * 6, none⟩)]⟩, ⟨8, 25, [25], fun vs _ => vs = [.pointer (some ⟨b2, o2 + k * 6, none⟩)]⟩, ⟨9, 26, [26], fun vs _ => vs = [.agg #[.int .i64 p.1.dst.lang, .bool p.1.dst.num, .bool p.1.dst.wrd]]⟩, ⟨10, 27, [27], fun vs _ => vs = [.bool false]⟩, ⟨11, 28, [28], fun vs _ => vs = [.bool false]⟩, ⟨12, 29, [29], fun vs _ => vs = [.slice (some ⟨b1, o1, none⟩) n c]⟩, ⟨13, 30, [30], fun vs _ => vs = [.int .i64 (k : Int)]⟩, ⟨14, 31, [31], fun vs _ => vs = [.pointer (some ⟨b1, o1 + k * 6, none⟩)]⟩, ⟨15, 32, [32], fun vs _ => vs = [.pointer (some ⟨b1, o1 + k * 6 + 3, none⟩)]⟩, ⟨16, 33, [33], fun vs _ => vs = [.int .i64 p.1.len]⟩, ⟨17, 34, [34], fun vs _ => vs = [.slice (some ⟨b2, o2, none⟩) n c2]⟩, ⟨18, 35, [35], fun vs _ => vs = [.int .i64 (k : Int)]⟩, ⟨19, 36, [36], fun vs _ => vs = [.pointer (some ⟨b2, o2 + k * 6, none⟩)]⟩, ⟨20, 37, [37], fun vs _ => vs = [.pointer (some ⟨b2, o2 + k * 6 + 3, none⟩)]⟩, ⟨21, 38, [38], fun vs _ => vs = [.int .i64 p.1.len]⟩, ⟨22, 39, [39], fun vs _ => vs = [.bool false]⟩, ⟨23, 40, [40], fun vs _ => vs = [.bool false]⟩, ⟨24, 41, [41], fun vs _ => vs = [.bool false]⟩, ⟨25, 42, [42], fun vs _ => vs = [.slice (some ⟨b1, o1, none⟩) n c]⟩, ⟨26, 43, [43], fun vs _ => vs = [.int .i64 (k : Int)]⟩, ⟨27, 44, [44], fun vs _ => vs = [.pointer (some ⟨b1, o1 + k * 6, none⟩)]⟩, ⟨28, 45, [45], fun vs _ => vs = [.pointer (some ⟨b1, o1 + k * 6 + 5, none⟩)]⟩, ⟨29, 46, [46], fun vs _ => vs = [.int .i64 p.1.rule]⟩, ⟨30, 47, [47], fun vs _ => vs = [.slice (some ⟨b2, o2, none⟩) n c2]⟩, ⟨31, 48, [48], fun vs _ => vs = [.int .i64 (k : Int)]⟩, ⟨32, 49, [49], fun vs _ => vs = [.pointer (some ⟨b2, o2 + k * 6, none⟩)]⟩, ⟨33, 50, [50], fun vs _ => vs = [.pointer (some ⟨b2, o2 + k * 6 + 5, none⟩)]⟩, ⟨34, 51, [51], fun vs _ => vs = [.int .i64 p.1.rule]⟩, ⟨35, 52, [52], fun vs _ => vs = [.bool false]⟩, ⟨36, 53, [53], fun vs _ => vs = [.bool false]⟩, ⟨37, 54, [54], fun vs _ => vs = [.bool false]⟩, ⟨38, 55, [55], fun vs _ => vs = [.slice (some ⟨b1, o1, none⟩) n c]⟩, ⟨39, 56, [56], fun vs _ => vs = [.int .i64 (k : Int)]⟩, ⟨40, 57, [57], fun vs _ => vs = [.pointer (some ⟨b1, o1 + k * 6, none⟩)]⟩, ⟨41, 58, [58], fun vs _ => vs = [.pointer (some ⟨b1, o1 + k * 6 + 4, none⟩)]⟩, ⟨42, 59, [59], fun vs _ => vs = [.slice p.2.1 p.2.2.1 p.2.2.2]⟩, ⟨43, 60, [60], fun vs _ => vs = [.slice (some ⟨b2, o2, none⟩) n c2]⟩, ⟨44, 61, [61], fun vs _ => vs = [.int .i64 (k : Int)]⟩, ⟨45, 62, [62], fun vs _ => vs = [.pointer (some ⟨b2, o2 + k * 6, none⟩)]⟩, ⟨46, 63, [63], fun vs _ => vs = [.pointer (some ⟨b2, o2 + k * 6 + 4, none⟩)]⟩, ⟨47, 64, [64], fun vs _ => vs = [.slice q.2.1 q.2.2.1 q.2.2.2]⟩, ⟨48, 65, [65], fun vs _ => vs = [.bool true]⟩, ⟨49, 66, [66], fun vs _ => vs = [.bool false]⟩] (by kernel_rfl) (by kernel_rfl) ?_ ?_ ?_
      · simp only [All]
        refine ⟨fun _ _ _ _ h => h, fun _ _ _ _ h => h, fun _ _ _ _ h => h, fun _ _ _ _ h => h, fun _ _ _ _ h => h, fun _ _ _ _ h => h, fun _ _ _ _ h => h, fun _ _ _ _ h => h, fun _ _ _ _ h => h, fun _ _ _ _ h => h, fun _ _ _ _ h => h, fun _ _ _ _ h => h, fun _ _ _ _ h => h, fun _ _ _ _ h => h, fun _ _ _ _ h => h, fun _ _ _ _ h => h, fun _ _ _ _ h => h, fun _ _ _ _ h => h, fun _ _ _ _ h => h, fun _ _ _ _ h => h, fun _ _ _ _ h => h, fun _ _ _ _ h => h, fun _ _ _ _ h => h, fun _ _ _ _ h => h, fun _ _ _ _ h => h, fun _ _ _ _ h => h, fun _ _ _ _ h => h, fun _ _ _ _ h => h, fun _ _ _ _ h => h, fun _ _ _ _ h => h, fun _ _ _ _ h => h, fun _ _ _ _ h => h, fun _ _ _ _ h => h, fun _ _ _ _ h => h, fun _ _ _ _ h => h, fun _ _ _ _ h => h, fun _ _ _ _ h => h, fun _ _ _ _ h => h, fun _ _ _ _ h => h, fun _ _ _ _ h => h, fun _ _ _ _ h => h, fun _ _ _ _ h => h, fun _ _ _ _ h => h, fun _ _ _ _ h => h, fun _ _ _ _ h => h, fun _ _ _ _ h => h, fun _ _ _ _ h => h, fun _ _ _ _ h => h, fun _ _ _ _ h => h, fun _ _ _ _ h => h, trivial⟩
      · simp only [All]
        refine ⟨?_, ?_, ?_, ?_, ?_, ?_, ?_, ?_, ?_, ?_, ?_, ?_, ?_, ?_, ?_, ?_, ?_, ?_, ?_, ?_, ?_, ?_, ?_, ?_, ?_, ?_, ?_, ?_, ?_, ?_, ?_, ?_, ?_, ?_, ?_, ?_, ?_, ?_, ?_, ?_, ?_, ?_, ?_, ?_, ?_, ?_, ?_, ?_, ?_, ?_, trivial⟩
        · intro o ho a' w' hb hfr hdep
          obtain rfl := Option.some.inj ho
          have g0 : a'.tmps[0]?.getD undef = .slice (some ⟨b1, o1, none⟩) n c := by have h := hfr 0 (by kernel_rfl); simpa using h
          clear ho hfr hdep
          go_wp2_with fail
          exact ⟨rfl, _, rfl, Below.refl _ _, rfl⟩
        · intro o ho a' w' hb hfr hdep
          obtain rfl := Option.some.inj ho
          have g5 : a'.tmps[5]?.getD undef = .int .i64 (k : Int) := by have h := hfr 5 (by kernel_rfl); simpa using h
          clear ho hfr hdep
          go_wp2_with fail
          exact ⟨rfl, _, rfl, Below.refl _ _, rfl⟩
        · intro o ho a' w' hb hfr hdep
          obtain rfl := Option.some.inj ho
          have g17 : a'.tmps[17]?.getD undef = .slice (some ⟨b1, o1, none⟩) n c := by have h := hdep 0 _ rfl (by kernel_rfl); simpa using h
          have g18 : a'.tmps[18]?.getD undef = .int .i64 (k : Int) := by have h := hdep 1 _ rfl (by kernel_rfl); simpa using h
          clear ho hfr hdep
          go_wp2_with fail
          exact ⟨rfl, _, rfl, Below.refl _ _, rfl⟩
        · intro o ho a' w' hb hfr hdep
          obtain rfl := Option.some.inj ho
          have g19 : a'.tmps[19]?.getD undef = .pointer (some ⟨b1, o1 + k * 6, none⟩) := by have h := hdep 2 _ rfl (by kernel_rfl); simpa using h
          clear ho hfr hdep
          go_wp2_with fail
          exact ⟨rfl, _, rfl, Below.refl _ _, rfl⟩
        · intro o ho a' w' hb hfr hdep
          obtain rfl := Option.some.inj ho
          have g20 : a'.tmps[20]?.getD undef = .pointer (some ⟨b1, o1 + k * 6, none⟩) := by have h := hdep 3 _ rfl (by kernel_rfl); simpa using h
          clear ho hfr hdep
          refine load_struct 21 40 _ 3 size_rst _ Try.underlying40 ⟨b1, o1 + k * 6, none⟩ (by show a'.tmps.getD 20 undef = _; simpa using g20) [.int .i64 p.1.dst.lang, .bool p.1.dst.num, .bool p.1.dst.wrd] rfl (fun j u hj => by rw [Addr.add_lit]; exact cell_below (HD1.out j u hj) hb) ?_
          exact ⟨rfl, _, rfl, Below.refl _ _, rfl⟩
        · intro o ho a' w' hb hfr hdep
          obtain rfl := Option.some.inj ho
          have g1 : a'.tmps[1]?.getD undef = .slice (some ⟨b2, o2, none⟩) n c2 := by have h := hfr 1 (by kernel_rfl); simpa using h
          clear ho hfr hdep
          go_wp2_with fail
          exact ⟨rfl, _, rfl, Below.refl _ _, rfl⟩
        · intro o ho a' w' hb hfr hdep
          obtain rfl := Option.some.inj ho
          have g5 : a'.tmps[5]?.getD undef = .int .i64 (k : Int) := by have h := hfr 5 (by kernel_rfl); simpa using h
          clear ho hfr hdep
          go_wp2_with fail
          exact ⟨rfl, _, rfl, Below.refl _ _, rfl⟩
        · intro o ho a' w' hb hfr hdep
          obtain rfl := Option.some.inj ho
          have g22 : a'.tmps[22]?.getD undef = .slice (some ⟨b2, o2, none⟩) n c2 := by have h := hdep 5 _ rfl (by kernel_rfl); simpa using h
          have g23 : a'.tmps[23]?.getD undef = .int .i64 (k : Int) := by have h := hdep 6 _ rfl (by kernel_rfl); simpa using h
          clear ho hfr hdep
          go_wp2_with fail
          exact ⟨rfl, _, rfl, Below.refl _ _, rfl⟩
        · intro o ho a' w' hb hfr hdep
          obtain rfl := Option.some.inj ho
          have g24 : a'.tmps[24]?.getD undef = .pointer (some ⟨b2, o2 + k * 6, none⟩) := by have h := hdep 7 _ rfl (by kernel_rfl); simpa using h
          clear ho hfr hdep
          go_wp2_with fail
          exact ⟨rfl, _, rfl, Below.refl _ _, rfl⟩
        · intro o ho a' w' hb hfr hdep
          obtain rfl := Option.some.inj ho
          have g25 : a'.tmps[25]?.getD undef = .pointer (some ⟨b2, o2 + k * 6, none⟩) := by have h := hdep 8 _ rfl (by kernel_rfl); simpa using h
          clear ho hfr hdep
          refine load_struct 26 40 _ 3 size_rst _ Try.underlying40 ⟨b2, o2 + k * 6, none⟩ (by show a'.tmps.getD 25 undef = _; simpa using g25) [.int .i64 p.1.dst.lang, .bool p.1.dst.num, .bool p.1.dst.wrd] rfl (fun j u hj => by rw [Addr.add_lit]; exact cell_below (HD2.out j u hj) hb) ?_
          exact ⟨rfl, _, rfl, Below.refl _ _, rfl⟩
        · intro o ho a' w' hb hfr hdep
          obtain rfl := Option.some.inj ho
          have g21 : a'.tmps[21]?.getD undef = .agg #[.int .i64 p.1.dst.lang, .bool p.1.dst.num, .bool p.1.dst.wrd] := by have h := hdep 4 _ rfl (by kernel_rfl); simpa using h
          have g26 : a'.tmps[26]?.getD undef = .agg #[.int .i64 p.1.dst.lang, .bool p.1.dst.num, .bool p.1.dst.wrd] := by have h := hdep 9 _ rfl (by kernel_rfl); simpa using h
          clear ho hfr hdep
          go_wp2_with fail
          exact ⟨rfl, _, rfl, Below.refl _ _, rfl⟩
        · intro o ho a' w' hb hfr hdep
          obtain rfl := Option.some.inj ho
          have g27 : a'.tmps[27]?.getD undef = .bool false := by have h := hdep 10 _ rfl (by kernel_rfl); simpa using h
          clear ho hfr hdep
          go_wp2_with fail
          exact ⟨rfl, _, rfl, Below.refl _ _, rfl⟩
        · intro o ho a' w' hb hfr hdep
          obtain rfl := Option.some.inj ho
          have g0 : a'.tmps[0]?.getD undef = .slice (some ⟨b1, o1, none⟩) n c := by have h := hfr 0 (by kernel_rfl); simpa using h
          have g28 : a'.tmps[28]?.getD undef = .bool false := by have h := hdep 11 _ rfl (by kernel_rfl); simpa using h
          have q28 := opt_bool g28
          clear ho hfr hdep
          refine unguard_any (by simp [Region.wanted, yielded, q28]) ?_
          go_wp2_with fail
          exact ⟨rfl, _, rfl, Below.refl _ _, rfl⟩
        · intro o ho a' w' hb hfr hdep
          obtain rfl := Option.some.inj ho
          have g5 : a'.tmps[5]?.getD undef = .int .i64 (k : Int) := by have h := hfr 5 (by kernel_rfl); simpa using h
          have g28 : a'.tmps[28]?.getD undef = .bool false := by have h := hdep 11 _ rfl (by kernel_rfl); simpa using h
          have q28 := opt_bool g28
          clear ho hfr hdep
          refine unguard_any (by simp [Region.wanted, yielded, q28]) ?_
          go_wp2_with fail
          exact ⟨rfl, _, rfl, Below.refl _ _, rfl⟩
        · intro o ho a' w' hb hfr hdep
          obtain rfl := Option.some.inj ho
          have g29 : a'.tmps[29]?.getD undef = .slice (some ⟨b1, o1, none⟩) n c := by have h := hdep 12 _ rfl (by kernel_rfl); simpa using h
          have g30 : a'.tmps[30]?.getD undef = .int .i64 (k : Int) := by have h := hdep 13 _ rfl (by kernel_rfl); simpa using h
          have g28 : a'.tmps[28]?.getD undef = .bool false := by have h := hdep 11 _ rfl (by kernel_rfl); simpa using h
          have q28 := opt_bool g28
          clear ho hfr hdep
          refine unguard_any (by simp [Region.wanted, yielded, q28]) ?_
          go_wp2_with fail
          exact ⟨rfl, _, rfl, Below.refl _ _, rfl⟩
        · intro o ho a' w' hb hfr hdep
          obtain rfl := Option.some.inj ho
          have g31 : a'.tmps[31]?.getD undef = .pointer (some ⟨b1, o1 + k * 6, none⟩) := by have h := hdep 14 _ rfl (by kernel_rfl); simpa using h
          have g28 : a'.tmps[28]?.getD undef = .bool false := by have h := hdep 11 _ rfl (by kernel_rfl); simpa using h
          have q28 := opt_bool g28
          clear ho hfr hdep
          refine unguard_any (by simp [Region.wanted, yielded, q28]) ?_
          go_wp2_with fail
          exact ⟨rfl, _, rfl, Below.refl _ _, rfl⟩
        · intro o ho a' w' hb hfr hdep
          obtain rfl := Option.some.inj ho
          have g32 : a'.tmps[32]?.getD undef = .pointer (some ⟨b1, o1 + k * 6 + 3, none⟩) := by have h := hdep 15 _ rfl (by kernel_rfl); simpa using h
          have g28 : a'.tmps[28]?.getD undef = .bool false := by have h := hdep 11 _ rfl (by kernel_rfl); simpa using h
          have q28 := opt_bool g28
          clear ho hfr hdep
          refine unguard_any (by simp [Region.wanted, yielded, q28]) ?_
          have hcl := cell_below x3 hb
          go_wp2_with fail
          exact ⟨rfl, _, rfl, Below.refl _ _, rfl⟩
        · intro o ho a' w' hb hfr hdep
          obtain rfl := Option.some.inj ho
          have g1 : a'.tmps[1]?.getD undef = .slice (some ⟨b2, o2, none⟩) n c2 := by have h := hfr 1 (by kernel_rfl); simpa using h
          have g28 : a'.tmps[28]?.getD undef = .bool false := by have h := hdep 11 _ rfl (by kernel_rfl); simpa using h
          have q28 := opt_bool g28
          clear ho hfr hdep
          refine unguard_any (by simp [Region.wanted, yielded, q28]) ?_
          go_wp2_with fail
          exact ⟨rfl, _, rfl, Below.refl _ _, rfl⟩
        · intro o ho a' w' hb hfr hdep
          obtain rfl := Option.some.inj ho
          have g5 : a'.tmps[5]?.getD undef = .int .i64 (k : Int) := by have h := hfr 5 (by kernel_rfl); simpa using h
          have g28 : a'.tmps[28]?.getD undef = .bool false := by have h := hdep 11 _ rfl (by kernel_rfl); simpa using h
          have q28 := opt_bool g28
          clear ho hfr hdep
          refine unguard_any (by simp [Region.wanted, yielded, q28]) ?_
          go_wp2_with fail
          exact ⟨rfl, _, rfl, Below.refl _ _, rfl⟩
        · intro o ho a' w' hb hfr hdep
          obtain rfl := Option.some.inj ho
          have g34 : a'.tmps[34]?.getD undef = .slice (some ⟨b2, o2, none⟩) n c2 := by have h := hdep 17 _ rfl (by kernel_rfl); simpa using h
          have g35 : a'.tmps[35]?.getD undef = .int .i64 (k : Int) := by have h := hdep 18 _ rfl (by kernel_rfl); simpa using h
          have g28 : a'.tmps[28]?.getD undef = .bool false := by have h := hdep 11 _ rfl (by kernel_rfl); simpa using h
          have q28 := opt_bool g28
          clear ho hfr hdep
          refine unguard_any (by simp [Region.wanted, yielded, q28]) ?_
          go_wp2_with fail
          exact ⟨rfl, _, rfl, Below.refl _ _, rfl⟩
        · intro o ho a' w' hb hfr hdep
          obtain rfl := Option.some.inj ho
          have g36 : a'.tmps[36]?.getD undef = .pointer (some ⟨b2, o2 + k * 6, none⟩) := by have h := hdep 19 _ rfl (by kernel_rfl); simpa using h
          have g28 : a'.tmps[28]?.getD undef = .bool false := by have h := hdep 11 _ rfl (by kernel_rfl); simpa using h
          have q28 := opt_bool g28
          clear ho hfr hdep
          refine unguard_any (by simp [Region.wanted, yielded, q28]) ?_
          go_wp2_with fail
          exact ⟨rfl, _, rfl, Below.refl _ _, rfl⟩
        · intro o ho a' w' hb hfr hdep
          obtain rfl := Option.some.inj ho
          have g37 : a'.tmps[37]?.getD undef = .pointer (some ⟨b2, o2 + k * 6 + 3, none⟩) := by have h := hdep 20 _ rfl (by kernel_rfl); simpa using h
          have g28 : a'.tmps[28]?.getD undef = .bool false := by have h := hdep 11 _ rfl (by kernel_rfl); simpa using h
          have q28 := opt_bool g28
          clear ho hfr hdep
          refine unguard_any (by simp [Region.wanted, yielded, q28]) ?_
          have hcl := cell_below y3 hb
          go_wp2_with fail
          exact ⟨rfl, _, rfl, Below.refl _ _, rfl⟩
        · intro o ho a' w' hb hfr hdep
          obtain rfl := Option.some.inj ho
          have g33 : a'.tmps[33]?.getD undef = .int .i64 p.1.len := by have h := hdep 16 _ rfl (by kernel_rfl); simpa using h
          have g38 : a'.tmps[38]?.getD undef = .int .i64 p.1.len := by have h := hdep 21 _ rfl (by kernel_rfl); simpa using h
          have g28 : a'.tmps[28]?.getD undef = .bool false := by have h := hdep 11 _ rfl (by kernel_rfl); simpa using h
          have q28 := opt_bool g28
          clear ho hfr hdep
          refine unguard_any (by simp [Region.wanted, yielded, q28]) ?_
          go_wp2_with fail
          exact ⟨rfl, _, rfl, Below.refl _ _, rfl⟩
        · intro o ho a' w' hb hfr hdep
          obtain rfl := Option.some.inj ho
          have g28 : a'.tmps[28]?.getD undef = .bool false := by have h := hdep 11 _ rfl (by kernel_rfl); simpa using h
          have g39 : a'.tmps[39]?.getD undef = .bool false := by have h := hdep 22 _ rfl (by kernel_rfl); simpa using h
          clear ho hfr hdep
          go_wp2_with fail
          exact ⟨rfl, _, rfl, Below.refl _ _, rfl⟩
        · intro o ho a' w' hb hfr hdep
          obtain rfl := Option.some.inj ho
          have g40 : a'.tmps[40]?.getD undef = .bool false := by have h := hdep 23 _ rfl (by kernel_rfl); simpa using h
          clear ho hfr hdep
          go_wp2_with fail
          exact ⟨rfl, _, rfl, Below.refl _ _, rfl⟩
        · intro o ho a' w' hb hfr hdep
          obtain rfl := Option.some.inj ho
          have g0 : a'.tmps[0]?.getD undef = .slice (some ⟨b1, o1, none⟩) n c := by have h := hfr 0 (by kernel_rfl); simpa using h
          have g41 : a'.tmps[41]?.getD undef = .bool false := by have h := hdep 24 _ rfl (by kernel_rfl); simpa using h
          have q41 := opt_bool g41
          clear ho hfr hdep
          refine unguard_any (by simp [Region.wanted, yielded, q41]) ?_
          go_wp2_with fail
          exact ⟨rfl, _, rfl, Below.refl _ _, rfl⟩
        · intro o ho a' w' hb hfr hdep
          obtain rfl := Option.some.inj ho
          have g5 : a'.tmps[5]?.getD undef = .int .i64 (k : Int) := by have h := hfr 5 (by kernel_rfl); simpa using h
          have g41 : a'.tmps[41]?.getD undef = .bool false := by have h := hdep 24 _ rfl (by kernel_rfl); simpa using h
          have q41 := opt_bool g41
          clear ho hfr hdep
          refine unguard_any (by simp [Region.wanted, yielded, q41]) ?_
          go_wp2_with fail
          exact ⟨rfl, _, rfl, Below.refl _ _, rfl⟩
        · intro o ho a' w' hb hfr hdep
          obtain rfl := Option.some.inj ho
          have g42 : a'.tmps[42]?.getD undef = .slice (some ⟨b1, o1, none⟩) n c := by have h := hdep 25 _ rfl (by kernel_rfl); simpa using h
          have g43 : a'.tmps[43]?.getD undef = .int .i64 (k : Int) := by have h := hdep 26 _ rfl (by kernel_rfl); simpa using h
          have g41 : a'.tmps[41]?.getD undef = .bool false := by have h := hdep 24 _ rfl (by kernel_rfl); simpa using h
          have q41 := opt_bool g41
          clear ho hfr hdep
          refine unguard_any (by simp [Region.wanted, yielded, q41]) ?_
          go_wp2_with fail
          exact ⟨rfl, _, rfl, Below.refl _ _, rfl⟩
        · intro o ho a' w' hb hfr hdep
          obtain rfl := Option.some.inj ho
          have g44 : a'.tmps[44]?.getD undef = .pointer (some ⟨b1, o1 + k * 6, none⟩) := by have h := hdep 27 _ rfl (by kernel_rfl); simpa using h
          have g41 : a'.tmps[41]?.getD undef = .bool false := by have h := hdep 24 _ rfl (by kernel_rfl); simpa using h
          have q41 := opt_bool g41
          clear ho hfr hdep
          refine unguard_any (by simp [Region.wanted, yielded, q41]) ?_
          go_wp2_with fail
          exact ⟨rfl, _, rfl, Below.refl _ _, rfl⟩
        · intro o ho a' w' hb hfr hdep
          obtain rfl := Option.some.inj ho
          have g45 : a'.tmps[45]?.getD undef = .pointer (some ⟨b1, o1 + k * 6 + 5, none⟩) := by have h := hdep 28 _ rfl (by kernel_rfl); simpa using h
          have g41 : a'.tmps[41]?.getD undef = .bool false := by have h := hdep 24 _ rfl (by kernel_rfl); simpa using h
          have q41 := opt_bool g41
          clear ho hfr hdep
          refine unguard_any (by simp [Region.wanted, yielded, q41]) ?_
          have hcl := cell_below x5 hb
          go_wp2_with fail
          exact ⟨rfl, _, rfl, Below.refl _ _, rfl⟩
        · intro o ho a' w' hb hfr hdep
          obtain rfl := Option.some.inj ho
          have g1 : a'.tmps[1]?.getD undef = .slice (some ⟨b2, o2, none⟩) n c2 := by have h := hfr 1 (by kernel_rfl); simpa using h
          have g41 : a'.tmps[41]?.getD undef = .bool false := by have h := hdep 24 _ rfl (by kernel_rfl); simpa using h
          have q41 := opt_bool g41
          clear ho hfr hdep
          refine unguard_any (by simp [Region.wanted, yielded, q41]) ?_
          go_wp2_with fail
          exact ⟨rfl, _, rfl, Below.refl _ _, rfl⟩
        · intro o ho a' w' hb hfr hdep
          obtain rfl := Option.some.inj ho
          have g5 : a'.tmps[5]?.getD undef = .int .i64 (k : Int) := by have h := hfr 5 (by kernel_rfl); simpa using h
          have g41 : a'.tmps[41]?.getD undef = .bool false := by have h := hdep 24 _ rfl (by kernel_rfl); simpa using h
          have q41 := opt_bool g41
          clear ho hfr hdep
          refine unguard_any (by simp [Region.wanted, yielded, q41]) ?_
          go_wp2_with fail
          exact ⟨rfl, _, rfl, Below.refl _ _, rfl⟩
        · intro o ho a' w' hb hfr hdep
          obtain rfl := Option.some.inj ho
          have g47 : a'.tmps[47]?.getD undef = .slice (some ⟨b2, o2, none⟩) n c2 := by have h := hdep 30 _ rfl (by kernel_rfl); simpa using h
          have g48 : a'.tmps[48]?.getD undef = .int .i64 (k : Int) := by have h := hdep 31 _ rfl (by kernel_rfl); simpa using h
          have g41 : a'.tmps[41]?.getD undef = .bool false := by have h := hdep 24 _ rfl (by kernel_rfl); simpa using h
          have q41 := opt_bool g41
          clear ho hfr hdep
          refine unguard_any (by simp [Region.wanted, yielded, q41]) ?_
          go_wp2_with fail
          exact ⟨rfl, _, rfl, Below.refl _ _, rfl⟩
        · intro o ho a' w' hb hfr hdep
          obtain rfl := Option.some.inj ho
          have g49 : a'.tmps[49]?.getD undef = .pointer (some ⟨b2, o2 + k * 6, none⟩) := by have h := hdep 32 _ rfl (by kernel_rfl); simpa using h
          have g41 : a'.tmps[41]?.getD undef = .bool false := by have h := hdep 24 _ rfl (by kernel_rfl); simpa using h
          have q41 := opt_bool g41
          clear ho hfr hdep
          refine unguard_any (by simp [Region.wanted, yielded, q41]) ?_
          go_wp2_with fail
          exact ⟨rfl, _, rfl, Below.refl _ _, rfl⟩
        · intro o ho a' w' hb hfr hdep
          obtain rfl := Option.some.inj ho
          have g50 : a'.tmps[50]?.getD undef = .pointer (some ⟨b2, o2 + k * 6 + 5, none⟩) := by have h := hdep 33 _ rfl (by kernel_rfl); simpa using h
          have g41 : a'.tmps[41]?.getD undef = .bool false := by have h := hdep 24 _ rfl (by kernel_rfl); simpa using h
          have q41 := opt_bool g41
          clear ho hfr hdep
          refine unguard_any (by simp [Region.wanted, yielded, q41]) ?_
          have hcl := cell_below y5 hb
          go_wp2_with fail
          exact ⟨rfl, _, rfl, Below.refl _ _, rfl⟩
        · intro o ho a' w' hb hfr hdep
          obtain rfl := Option.some.inj ho
          have g46 : a'.tmps[46]?.getD undef = .int .i64 p.1.rule := by have h := hdep 29 _ rfl (by kernel_rfl); simpa using h
          have g51 : a'.tmps[51]?.getD undef = .int .i64 p.1.rule := by have h := hdep 34 _ rfl (by kernel_rfl); simpa using h
          have g41 : a'.tmps[41]?.getD undef = .bool false := by have h := hdep 24 _ rfl (by kernel_rfl); simpa using h
          have q41 := opt_bool g41
          clear ho hfr hdep
          refine unguard_any (by simp [Region.wanted, yielded, q41]) ?_
          go_wp2_with fail
          exact ⟨rfl, _, rfl, Below.refl _ _, rfl⟩
        · intro o ho a' w' hb hfr hdep
          obtain rfl := Option.some.inj ho
          have g41 : a'.tmps[41]?.getD undef = .bool false := by have h := hdep 24 _ rfl (by kernel_rfl); simpa using h
          have g52 : a'.tmps[52]?.getD undef = .bool false := by have h := hdep 35 _ rfl (by kernel_rfl); simpa using h
          clear ho hfr hdep
          go_wp2_with fail
          exact ⟨rfl, _, rfl, Below.refl _ _, rfl⟩
        · intro o ho a' w' hb hfr hdep
          obtain rfl := Option.some.inj ho
          have g53 : a'.tmps[53]?.getD undef = .bool false := by have h := hdep 36 _ rfl (by kernel_rfl); simpa using h
          clear ho hfr hdep
          go_wp2_with fail
          exact ⟨rfl, _, rfl, Below.refl _ _, rfl⟩
        · intro o ho a' w' hb hfr hdep
          obtain rfl := Option.some.inj ho
          have g0 : a'.tmps[0]?.getD undef = .slice (some ⟨b1, o1, none⟩) n c := by have h := hfr 0 (by kernel_rfl); simpa using h
          have g54 : a'.tmps[54]?.getD undef = .bool false := by have h := hdep 37 _ rfl (by kernel_rfl); simpa using h
          have q54 := opt_bool g54
          clear ho hfr hdep
          refine unguard_any (by simp [Region.wanted, yielded, q54]) ?_
          go_wp2_with fail
          exact ⟨rfl, _, rfl, Below.refl _ _, rfl⟩
        · intro o ho a' w' hb hfr hdep
          obtain rfl := Option.some.inj ho
          have g5 : a'.tmps[5]?.getD undef = .int .i64 (k : Int) := by have h := hfr 5 (by kernel_rfl); simpa using h
          have g54 : a'.tmps[54]?.getD undef = .bool false := by have h := hdep 37 _ rfl (by kernel_rfl); simpa using h
          have q54 := opt_bool g54
          clear ho hfr hdep
          refine unguard_any (by simp [Region.wanted, yielded, q54]) ?_
          go_wp2_with fail
          exact ⟨rfl, _, rfl, Below.refl _ _, rfl⟩
        · intro o ho a' w' hb hfr hdep
          obtain rfl := Option.some.inj ho
          have g55 : a'.tmps[55]?.getD undef = .slice (some ⟨b1, o1, none⟩) n c := by have h := hdep 38 _ rfl (by kernel_rfl); simpa using h
          have g56 : a'.tmps[56]?.getD undef = .int .i64 (k : Int) := by have h := hdep 39 _ rfl (by kernel_rfl); simpa using h
          have g54 : a'.tmps[54]?.getD undef = .bool false := by have h := hdep 37 _ rfl (by kernel_rfl); simpa using h
          have q54 := opt_bool g54
          clear ho hfr hdep
          refine unguard_any (by simp [Region.wanted, yielded, q54]) ?_
          go_wp2_with fail
          exact ⟨rfl, _, rfl, Below.refl _ _, rfl⟩
        · intro o ho a' w' hb hfr hdep
          obtain rfl := Option.some.inj ho
          have g57 : a'.tmps[57]?.getD undef = .pointer (some ⟨b1, o1 + k * 6, none⟩) := by have h := hdep 40 _ rfl (by kernel_rfl); simpa using h
          have g54 : a'.tmps[54]?.getD undef = .bool false := by have h := hdep 37 _ rfl (by kernel_rfl); simpa using h
          have q54 := opt_bool g54
          clear ho hfr hdep
          refine unguard_any (by simp [Region.wanted, yielded, q54]) ?_
          go_wp2_with fail
          exact ⟨rfl, _, rfl, Below.refl _ _, rfl⟩
        · intro o ho a' w' hb hfr hdep
          obtain rfl := Option.some.inj ho
          have g58 : a'.tmps[58]?.getD undef = .pointer (some ⟨b1, o1 + k * 6 + 4, none⟩) := by have h := hdep 41 _ rfl (by kernel_rfl); simpa using h
          have g54 : a'.tmps[54]?.getD undef = .bool false := by have h := hdep 37 _ rfl (by kernel_rfl); simpa using h
          have q54 := opt_bool g54
          clear ho hfr hdep
          refine unguard_any (by simp [Region.wanted, yielded, q54]) ?_
          have hcl := cell_below x4 hb
          go_wp2_with fail
          exact ⟨rfl, _, rfl, Below.refl _ _, rfl⟩
        · intro o ho a' w' hb hfr hdep
          obtain rfl := Option.some.inj ho
          have g1 : a'.tmps[1]?.getD undef = .slice (some ⟨b2, o2, none⟩) n c2 := by have h := hfr 1 (by kernel_rfl); simpa using h
          have g54 : a'.tmps[54]?.getD undef = .bool false := by have h := hdep 37 _ rfl (by kernel_rfl); simpa using h
          have q54 := opt_bool g54
          clear ho hfr hdep
          refine unguard_any (by simp [Region.wanted, yielded, q54]) ?_
          go_wp2_with fail
          exact ⟨rfl, _, rfl, Below.refl _ _, rfl⟩
        · intro o ho a' w' hb hfr hdep
          obtain rfl := Option.some.inj ho
          have g5 : a'.tmps[5]?.getD undef = .int .i64 (k : Int) := by have h := hfr 5 (by kernel_rfl); simpa using h
          have g54 : a'.tmps[54]?.getD undef = .bool false := by have h := hdep 37 _ rfl (by kernel_rfl); simpa using h
          have q54 := opt_bool g54
          clear ho hfr hdep
          refine unguard_any (by simp [Region.wanted, yielded, q54]) ?_
          go_wp2_with fail
          exact ⟨rfl, _, rfl, Below.refl _ _, rfl⟩
        · intro o ho a' w' hb hfr hdep
          obtain rfl := Option.some.inj ho
          have g60 : a'.tmps[60]?.getD undef = .slice (some ⟨b2, o2, none⟩) n c2 := by have h := hdep 43 _ rfl (by kernel_rfl); simpa using h
          have g61 : a'.tmps[61]?.getD undef = .int .i64 (k : Int) := by have h := hdep 44 _ rfl (by kernel_rfl); simpa using h
          have g54 : a'.tmps[54]?.getD undef = .bool false := by have h := hdep 37 _ rfl (by kernel_rfl); simpa using h
          have q54 := opt_bool g54
          clear ho hfr hdep
          refine unguard_any (by simp [Region.wanted, yielded, q54]) ?_
          go_wp2_with fail
          exact ⟨rfl, _, rfl, Below.refl _ _, rfl⟩
        · intro o ho a' w' hb hfr hdep
          obtain rfl := Option.some.inj ho
          have g62 : a'.tmps[62]?.getD undef = .pointer (some ⟨b2, o2 + k * 6, none⟩) := by have h := hdep 45 _ rfl (by kernel_rfl); simpa using h
          have g54 : a'.tmps[54]?.getD undef = .bool false := by have h := hdep 37 _ rfl (by kernel_rfl); simpa using h
          have q54 := opt_bool g54
          clear ho hfr hdep
          refine unguard_any (by simp [Region.wanted, yielded, q54]) ?_
          go_wp2_with fail
          exact ⟨rfl, _, rfl, Below.refl _ _, rfl⟩
        · intro o ho a' w' hb hfr hdep
          obtain rfl := Option.some.inj ho
          have g63 : a'.tmps[63]?.getD undef = .pointer (some ⟨b2, o2 + k * 6 + 4, none⟩) := by have h := hdep 46 _ rfl (by kernel_rfl); simpa using h
          have g54 : a'.tmps[54]?.getD undef = .bool false := by have h := hdep 37 _ rfl (by kernel_rfl); simpa using h
          have q54 := opt_bool g54
          clear ho hfr hdep
          refine unguard_any (by simp [Region.wanted, yielded, q54]) ?_
          have hcl := cell_below y4 hb
          go_wp2_with fail
          exact ⟨rfl, _, rfl, Below.refl _ _, rfl⟩
        · intro o ho a' w' hb hfr hdep
          obtain rfl := Option.some.inj ho
          have g59 : a'.tmps[59]?.getD undef = .slice p.2.1 p.2.2.1 p.2.2.2 := by have h := hdep 42 _ rfl (by kernel_rfl); simpa using h
          have g64 : a'.tmps[64]?.getD undef = .slice q.2.1 q.2.2.1 q.2.2.2 := by have h := hdep 47 _ rfl (by kernel_rfl); simpa using h
          have g54 : a'.tmps[54]?.getD undef = .bool false := by have h := hdep 37 _ rfl (by kernel_rfl); simpa using h
          have q54 := opt_bool g54
          clear ho hfr hdep
          refine unguard_any (by simp [Region.wanted, yielded, q54]) ?_
          go_wp2_with fail
          refine (same_at hc1 (hp1.below hb) (hp2.below hb)).mono ?_
          rintro e w2 ⟨rfl, h2⟩
          go_wp2_with fail
          exact ⟨rfl, _, rfl, h2, rfl⟩
        · intro o ho a' w' hb hfr hdep
          obtain rfl := Option.some.inj ho
          have g65 : a'.tmps[65]?.getD undef = .bool true := by have h := hdep 48 _ rfl (by kernel_rfl); simpa using h
          have g54 : a'.tmps[54]?.getD undef = .bool false := by have h := hdep 37 _ rfl (by kernel_rfl); simpa using h
          have q54 := opt_bool g54
          clear ho hfr hdep
          refine unguard_any (by simp [Region.wanted, yielded, q54]) ?_
          go_wp2_with fail
          exact ⟨rfl, _, rfl, Below.refl _ _, rfl⟩
      · intro g w3 hb3 hp3
        have p54 := hp3 37 _ rfl
        have p66 := hp3 49 _ rfl
        clear hp3
        simp at p54 p66
        simp only [List.drop_succ_cons, List.drop_zero, List.map_cons, List.map_nil, putAll, Act.put, List.setIfInBounds_toArray, List.set_cons_succ, List.set_cons_zero, List.cons_append, List.nil_append, p54, p66]
        clear p54 p66
        have hbz := hb.trans (hb3.mono hb.size)
        go_wp2_with fail
        go_roundg (n - (k + 1))
        case measure => have := HG.out; omega
        case rel => exact ⟨k + 1, by omega, rfl, by go_num, hbz⟩
    · obtain rfl : k = n := by omega
      go_wp2_with fail
      go_ret
      exact ⟨rfl, hb⟩
end Go.Proofs.Ytkjcbneanaeleaa
end

/- the text B37 -/
section
/- Chapter 06: what TableLocal compares, in plain Lean; appends of characters. -/
namespace Go.Dx
open Go.RowKit
/-- the places from f up to g hold the word of the place i -/
structure Win (S : List Sy) (x : Sy) (i f g : Nat) : Prop where
  fi : f ≤ i
  ig : i < g
  gl : g ≤ S.length
  word : isL x.c = true → ∀ (j : Nat) (y : Sy), f ≤ j → j < g → S[j]? = some y → y.lang = x.lang ∧ isL y.c = true
  left : isL x.c = true → ∀ y : Sy, 0 < f → S[f - 1]? = some y → noL x.lang y
  right : isL x.c = true → ∀ y : Sy, S[g]? = some y → noL x.lang y
theorem Win.next {t : Ta} (ht : validE t = 0) {s : St} (hs : s.lang = 0 ∨ s.lang = 1) {S K M : List Sy} {x : Sy} {i f g : Nat} (h : Win S x i f g) (hx : S[i]? = some x) (hS : goodS S = true) (hu : Int) {O : List Sy}
    (hO : O = ((K ++ [⟨hu, 32⟩] ++ (S.drop f).take (g - f)) ++ [⟨hu, 32⟩]) ++ M) (hg : goodS O = true) :
    stepsL t s S (i : Int) = stepsL t s O ((K.length + 1 + i - f : Nat) : Int) := by
  have hA : ((S.drop f).take (g - f))[i - f]? = some x := by
    rw [List.getElem?_take_of_lt (by have := h.fi; have := h.ig; omega), List.getElem?_drop, show f + (i - f) = i by have := h.fi; omega, hx]
  have hAl : ((S.drop f).take (g - f)).length = g - f := by
    rw [List.length_take, List.length_drop]; have := h.gl; have := h.fi; have := h.ig; omega
  have e1 : S = S.take f ++ ((S.drop f).take (g - f) ++ S.drop g) := by
    have e : S.drop g = (S.drop f).drop (g - f) := by rw [List.drop_drop]; congr 1; have := h.fi; have := h.ig; omega
    rw [e, List.take_append_drop, List.take_append_drop]
  have e2 : O = (K ++ [⟨hu, 32⟩]) ++ ((S.drop f).take (g - f) ++ (⟨hu, 32⟩ :: M)) := by rw [hO]; simp
  have l1 : (S.take f).length = f := by rw [List.length_take]; have := h.fi; have := h.ig; have := h.gl; omega
  have l2 : (K ++ [(⟨hu, 32⟩ : Sy)]).length = K.length + 1 := by simp
  have hw : isL x.c = true → wordA x.lang ((S.drop f).take (g - f)) := by
    intro hl y hy
    obtain ⟨j, hj⟩ := List.mem_iff_getElem?.1 hy
    have hjl := (List.getElem?_eq_some_iff.1 hj).1
    rw [hAl] at hjl
    rw [List.getElem?_take_of_lt hjl, List.getElem?_drop] at hj
    exact h.word hl (f + j) y (by omega) (by omega) hj
  have hP : isL x.c = true → stopP x.lang (S.take f) := by
    intro hl y hy
    rw [l1] at hy
    by_cases h0 : f = 0
    · subst h0; simp at hy
    · rw [List.getElem?_take_of_lt (by omega)] at hy
      exact h.left hl y (by omega) hy
  have hB : isL x.c = true → stopB x.lang (S.drop g) := by
    intro hl y hy
    rw [List.getElem?_drop, Nat.add_zero] at hy
    exact h.right hl y hy
  have hx1 : S[i]? = some x := hx
  have hx2 : O[K.length + 1 + i - f]? = some x := by
    rw [e2, List.getElem?_append_right (by rw [l2]; have := h.fi; omega), l2, show K.length + 1 + i - f - (K.length + 1) = i - f by have := h.fi; omega, List.getElem?_append_left (by rw [hAl]; have := h.fi; have := h.ig; omega)]
    exact hA
  rw [steps_at ht hs hS hx1, steps_at ht hs hg hx2]
  have key := local_next (s := s) ht (P := S.take f) (A := (S.drop f).take (g - f)) (B := S.drop g) (P' := K ++ [⟨hu, 32⟩]) (B' := ⟨hu, 32⟩ :: M) (x := x) (j := i - f) hA (fun hl => ⟨hP hl, hw hl, hB hl⟩) (fun hl => ⟨stop_blankP _ _ _, hw hl, stop_blank _ _ _⟩)
  rw [← e1, ← e2, l1, l2, show f + (i - f) = i by have := h.fi; omega, show K.length + 1 + (i - f) = K.length + 1 + i - f by have := h.fi; omega] at key
  exact key
theorem rule_few (t : Ta) (s : St) (x : Sy) (l : List Sy) (i : Nat) : ∀ (rs : List Ru) (k : Nat), (ruleSteps t s x l i k rs).length ≤ rs.length := by
  intro rs
  induction rs with
  | nil => intro k; exact Nat.le_refl _
  | cons r rs ih =>
    intro k
    have := ih (k + 1)
    unfold ruleSteps
    rw [List.length_append, List.length_cons]
    split <;> simp <;> omega
theorem steps_few (t : Ta) (s : St) (l : List Sy) (i : Int) : (stepsL t s l i).length ≤ 1000 := by
  unfold stepsL
  split
  · rename_i h
    cases l[i.toNat]? with
    | none => simp
    | some x =>
      have key : (nextL t s l i.toNat x).length ≤ 1000 := by
        unfold nextL
        split
        · simp
        split
        · simp
        · refine Nat.le_trans (rule_few _ _ _ _ _ _ _) ?_
          have h1 := (valid_parts h.1).1
          have h2 := (valid_parts h.1).2.1
          unfold langOf
          split <;> omega
      exact key
  · simp
section
variable {P : Program} {w : World} {ops : Array Oper} {rest : List Oper} {act : Act} {Q : Exit → Act → World → Prop} {ty : TypeId} {pos : String} {after : Array Edge}
/-- 'xs[l:u]', whatever the world is -/
theorem cut_any (d : Nat) (t : TypeId) (x lo hi : Operand) (e : TypeId) (ht : P.underlying t = some (.slice e)) (sz : Nat) (hsz : (P.info? e).map (·.size) = some sz)
    (a : Option Addr) (n c : Nat) (hx : act.eval x = .slice a n c) (kl ku : IntKind) (l u : Nat) (hl : act.eval lo = .int kl (l : Int)) (hu : act.eval hi = .int ku (u : Int)) (hlu : l ≤ u) (hun : u ≤ c)
    (hK : wpList P ops Q rest (act.put (some d) (.slice (if c = l then a else a.map (·.add (l * sz))) (u - l) (c - l))) w) :
    wpList P ops Q ({ dst := some d, op := .slice t x (some lo) (some hi) none, type := ty, pos := pos, after := after, guard := none } :: rest) act w := by
  refine wpList_plain rfl fun K hK' => ?_
  obtain ⟨i0, hi0, hs0⟩ := Option.map_eq_some_iff.1 hsz
  have hrun : (Instr.sliceAt t (.slice a n c) (some (.int kl (l : Int))) (some (.int ku (u : Int))) none).run P w = .ok (.slice (if c = l then a else a.map (·.add (l * sz))) (u - l) (c - l)) w := by
    have h2 : (0 : Int) ≤ l ∧ (l : Int) ≤ u := by omega
    have h3 : (0 : Int) ≤ u ∧ (u : Int) ≤ c := by omega
    simp [Instr.sliceAt, Instr.slice, Instr.sliceBounds, Instr.sliceBound, asIntOf, run_underlying ht, sizeOf, typeInfo, hi0, hs0, h2, h3, show u ≤ c by omega, hlu]
  unfold Oper.wp
  simp only [execOp, Option.map_some, Option.map_none, hx, hl, hu, Sem.run_bind, hrun, Result.andThen, Sem.run_pure]
  exact hK' _ _ hK
end
/-- how far 'append(append(other, blank), text[from:to]...)' is -/
def GY (w0 : World) (B : Nat) (E : TypeId) (ao : Option Addr) (n co m : Nat) (xs bl ys : List Value) : Nat → List Value → World → Prop
  | 0, _, w => Own w B E 2 ao n co xs ∧ Below B w0 w ∧ B ≤ w.heap.size
  | 1, vs, w => (∃ b, vs.getD 0 undef = .slice b 1 1 ∧ Sl w 2 b 1 1 bl) ∧ Own w B E 2 ao n co xs ∧ Below B w0 w ∧ B ≤ w.heap.size
  | 2, vs, w => (∃ a c, vs.getD 1 undef = .slice a (n + 1) c ∧ Own w B E 2 a (n + 1) c (xs ++ bl)) ∧ Below B w0 w ∧ B ≤ w.heap.size
  | _ + 3, vs, w => (∃ a c, vs.getD 2 undef = .slice a (n + 1 + m) c ∧ Own w B E 2 a (n + 1 + m) c (xs ++ bl ++ ys)) ∧ Below B w0 w ∧ B ≤ w.heap.size
theorem GY.bel {w0 w : World} {B : Nat} {E : TypeId} {ao : Option Addr} {n co m : Nat} {xs bl ys : List Value} {vs : List Value} : ∀ {j}, GY w0 B E ao n co m xs bl ys j vs w → Below B w0 w ∧ B ≤ w.heap.size := by
  intro j h
  match j, h with
  | 0, h => exact h.2
  | 1, h => exact h.2.2
  | 2, h => exact h.2
  | _ + 3, h => exact h.2
theorem GY.mono {w0 : World} {B : Nat} {E : TypeId} {ao : Option Addr} {n co m : Nat} {xs bl ys : List Value} : ∀ j vs w w', Below w.heap.size w w' → GY w0 B E ao n co m xs bl ys j vs w → GY w0 B E ao n co m xs bl ys j vs w' := by
  intro j vs w w' hb h
  have hz := hb.size
  match j, h with
  | 0, ⟨h1, h2, h3⟩ => exact ⟨h1.below hb, h2.trans (hb.mono h3), Nat.le_trans h3 hz⟩
  | 1, ⟨⟨b, h1, h2⟩, h3, h4, h5⟩ => exact ⟨⟨b, h1, h2.below hb⟩, h3.below hb, h4.trans (hb.mono h5), Nat.le_trans h5 hz⟩
  | 2, ⟨⟨a, c, h1, h2⟩, h4, h5⟩ => exact ⟨⟨a, c, h1, h2.below hb⟩, h4.trans (hb.mono h5), Nat.le_trans h5 hz⟩
  | _ + 3, ⟨⟨a, c, h1, h2⟩, h4, h5⟩ => exact ⟨⟨a, c, h1, h2.below hb⟩, h4.trans (hb.mono h5), Nat.le_trans h5 hz⟩
theorem sy_ones (L : List Sy) : ∀ u ∈ L.flatMap sc, u.oneCell' = true := by
  intro u hu
  obtain ⟨x, _, hx⟩ := List.mem_flatMap.1 hu
  exact sc_one x u hx
end Go.Dx
namespace Go.Proofs.Ytkjcbneanaeleaa
open Go.RowKit Go.Dx
section
variable {w : World} {ops : Array Oper} {rest : List Oper} {o : Oper} {act : Act} {Q : Exit → Act → World → Prop}
/-- 'append(l, m...)' in []api.Sym -/
theorem app_sys (hg : o.guard = none) (s x : Operand) (hop : o.op = Op.call { callee := Callee.builtin Builtin.append, args := #[s, x], argTypes := #[37, 37] })
    (w0 : World) (B : Nat) (a : Option Addr) (n c : Nat) (xs : List Value) (hs : act.eval s = .slice a n c) (hown : Own w B 55 2 a n c xs)
    (a2 : Option Addr) (m c2 : Nat) (ys : List Value) (h1 : ∀ u ∈ ys, u.oneCell' = true) (hx : act.eval x = .slice a2 m c2) (hy : Sl w 2 a2 m c2 ys)
    (hn : n + m ≤ 1000000) (hB : B ≤ w.heap.size) (hbel : Below B w0 w)
    (hK : ∀ a' c' w', Own w' B 55 2 a' (n + m) c' (xs ++ ys) → B ≤ w'.heap.size → Below B w0 w' → wpList Try.prog ops Q rest (act.put o.dst (.slice a' (n + m) c')) w') :
    wpList Try.prog ops Q (o :: rest) act w := by
  refine append_own hg s x 37 hop 55 zeroSym 2 16 Try.underlying37 info_sym rfl w0 B a n c xs hs hown a2 m c2 ys hx hy h1 (by omega) (by unfold maxLen; omega) hB hbel ?_
  intro a' c' w' ho hgr hb
  exact hK a' c' w' ho (Nat.le_trans hB hgr.size) hb
end
end Go.Proofs.Ytkjcbneanaeleaa
end

/- the text BL2 -/
section
/- Chapter 06: the walk of TableLocal. -/
namespace Go.Dx
theorem blank_plain {g : Int} (h : g = 0 ∨ g = 1) : plainSy ⟨g, 32⟩ = true := by
  rcases h with rfl | rfl <;> decide
end Go.Dx
namespace Go.Proofs.Ytkjcbneanaeleaa
open Go.RowKit Go.Dx
set_option maxRecDepth 100000 in
set_option maxHeartbeats 4000000 in
theorem walk_TableLocal (n : Int) (l kk mm : List Int) (a : Option Addr) (ln lc : Nat) (ak : Option Addr) (kn kc : Nat) (am : Option Addr) (mn mc : Nat) (at_ : Int) (num : Bool) (w : World) (hs : Sl w 1 a ln lc (l.map I64)) (hl : ∀ x ∈ l, -9223372036854775808 ≤ x ∧ x ≤ 9223372036854775807)
    (hsk : Sl w 1 ak kn kc (kk.map I64)) (hkb : ∀ x ∈ kk, -9223372036854775808 ≤ x ∧ x ≤ 9223372036854775807) (hsm : Sl w 1 am mn mc (mm.map I64)) (hmb : ∀ x ∈ mm, -9223372036854775808 ≤ x ∧ x ≤ 9223372036854775807)
    (hn : -9223372036854775808 ≤ n ∧ n ≤ 9223372036854775807) (hat : -9223372036854775808 ≤ at_ ∧ at_ ≤ 9223372036854775807) :
    Calls Try.prog 6 #[.int .i64 n, .slice a ln lc, .slice ak kn kc, .slice am mn mc, .int .i64 at_, .bool num] w fun e w' => e = .returned (.bool true) ∧ Below w.heap.size w w' := by
  obtain ⟨S, HSS⟩ : ∃ S, Hid (symsL l = S) := ⟨_, hide rfl⟩
  obtain ⟨SK, HSK⟩ : ∃ S, Hid (symsL kk = S) := ⟨_, hide rfl⟩
  obtain ⟨SM, HSM⟩ : ∃ S, Hid (symsL mm = S) := ⟨_, hide rfl⟩
  have hSok := symsL_ok l
  have hKok := symsL_ok kk
  have hMok := symsL_ok mm
  rw [HSS.out] at hSok
  rw [HSK.out] at hKok
  rw [HSM.out] at hMok
  have hS24 := hSok.2
  have hK24 := hKok.2
  have hM24 := hMok.2
  have HSP := hide hSok.1
  have HSKP := hide hKok.1
  have HSMP := hide hMok.1
  have hS24' : S.length ≤ 1000000 := by omega
  clear hSok hKok hMok
  go_enter Try.func6, Try.ntmps6
  go_wp2_with fail
  refine (ref_Tables n hn.1 hn.2 w).mono ?_
  rintro e w1 ⟨H, t, rfl, hT, hG, hb1⟩
  have HG := hide hG
  clear hG
  have Hm := hide hT
  clear hT
  obtain ⟨⟨a0, n0, c0⟩, ⟨a1, n1, c1⟩, ps0, ps1, ⟨ad, nd, cd⟩, ⟨ac, nc, cc⟩, ⟨an, nn, cn⟩, ⟨af, nf, cf⟩, ⟨aw, nw, cw⟩⟩ := H
  unfold TH.v
  simp only [hdv]
  have Y1 := Box.new w1 28 #[.slice a0 n0 c0, .slice a1 n1 c1, .slice ad nd cd, .slice ac nc cc, .slice an nn cn, .slice af nf cf, .slice aw nw cw]
  have hbY := blo w1 (.cells #[.slice a0 n0 c0, .slice a1 n1 c1, .slice ad nd cd, .slice ac nc cc, .slice an nn cn, .slice af nf cf, .slice aw nw cw] 28)
  go_wp2_with fail
  generalize w1.alloc (.cells _ 28) = w2 at *
  obtain ⟨H, hH⟩ : ∃ H : TH, H = ⟨(a0, n0, c0), (a1, n1, c1), ps0, ps1, (ad, nd, cd), (ac, nc, cc), (an, nn, cn), (af, nf, cf), (aw, nw, cw)⟩ := ⟨_, rfl⟩
  have hX2 : Box w2 w1.heap.size 28 (tcells H) := by rw [hH]; exact Y1
  have hT2 : TaIs w2 H t := by rw [hH]; exact Hm.out.below hbY
  have hB2 := hb1.trans (hbY.mono hb1.size)
  clear hH Hm hbY hb1
  generalize w1.heap.size = gt at *
  refine (ref_Syms l hl a ln lc w2 (hs.below hB2)).mono ?_
  rintro e w3 ⟨a3, c3, rfl, hO3, hb3⟩
  rw [HSS.out] at hO3 ⊢
  have hX3 := hX2.under hb3
  have hT3 := hT2.below hb3
  have hB3 := hB2.trans (hb3.mono hB2.size)
  have hS3 := hO3.sl
  clear hO3 hX2 hT2 hB2 hb3 hs hn hl
  by_cases hS0 : S.length = 0
  · have e0 : ((S.length : Int) == 0) = true := by rw [hS0]; rfl
    go_wp2_with fail
    refine (law06_lives _).mono ?_
    rintro e w18 ⟨rfl, hb18⟩
    go_wp2_with fail
    go_ret
    exact ⟨rfl, hB3.trans (hb18.mono hB3.size)⟩
  have e0 : ((S.length : Int) == 0) = false := beq_eq_false_iff_ne.2 (by omega)
  obtain ⟨r2, hr2, hA⟩ := around_any at_ (S.length : Int) S.length w rfl hat.1 hat.2 (by omega) (by omega)
  have HA := hide hA
  clear hA hat
  obtain ⟨x, hx⟩ : ∃ x, S[r2]? = some x := ⟨_, List.getElem?_eq_getElem hr2⟩
  obtain ⟨bS, oS, hab, hbS, xl, xc⟩ := sy_cells hS3 hx
  subst hab
  have HXX := hide hx
  have hpx := HSP.out x (List.mem_of_getElem? hx)
  have hlx : x.lang = 0 ∨ x.lang = 1 := by
    unfold plainSy symOk at hpx
    simp only [Bool.and_eq_true, Bool.or_eq_true, decide_eq_true_eq] at hpx
    exact hpx.1.1
  have HLX := hide hlx
  obtain ⟨bx, hbx⟩ : ∃ b, isL x.c = b := ⟨_, rfl⟩
  have HIS : Hid (∀ w', Calls Try.prog 21 #[.int .u8 (x.c.toNat : Int)] w' fun e w'' => e = .returned (.bool bx) ∧ w' = w'') := hide (fun w' => hbx ▸ ref_Is x.c w')
  have HBX := hide hbx
  clear hbx
  clear hx hpx hlx hS0
  go_upto_if 43 with (first
    | (go_at_call 20; refine (HA.out _).mono ?_; rintro e wz ⟨rfl, rfl⟩)
    | (go_at_call 21; refine (HIS.out _).mono ?_; rintro e wz ⟨rfl, rfl⟩))
  go_cut [16, 17] (fun p q w' => ∃ f g : Nat, p = .int .i64 (f : Int) ∧ q = .int .i64 (g : Int) ∧ Win S x r2 f g ∧ Below w3.heap.size w3 w')
  case first =>
    cases bx
    · go_wp2_with fail
      have hix := HBX.out
      go_meet
      exact ⟨r2, r2 + 1, rfl, by go_num, ⟨Nat.le_refl _, by omega, by omega, fun h => absurd (hix.symm.trans h) Bool.false_ne_true, fun h => absurd (hix.symm.trans h) Bool.false_ne_true, fun h => absurd (hix.symm.trans h) Bool.false_ne_true⟩, Below.refl _ _⟩
    · have HIX := HBX
      go_upto_block 0 with fail
      go_cut [16] (fun p w' => ∃ f : Nat, p = .int .i64 (f : Int) ∧ f ≤ r2 ∧ Hid (∀ (j : Nat) (y : Sy), f ≤ j → j ≤ r2 → S[j]? = some y → y.lang = x.lang ∧ isL y.c = true) ∧ Hid (∀ y : Sy, 0 < f → S[f - 1]? = some y → noL x.lang y) ∧ Below w3.heap.size w3 w')
      case first =>
        go_wp2_with fail
        go_loopg [16] r2 (fun gh v w' => ∃ f : Nat, f ≤ r2 ∧ gh = f ∧ v = .int .i64 (f : Int) ∧ Hid (∀ (j : Nat) (y : Sy), f ≤ j → j ≤ r2 → S[j]? = some y → y.lang = x.lang ∧ isL y.c = true) ∧ Below w3.heap.size w3 w')
        case atStart =>
          refine ⟨r2, Nat.le_refl _, rfl, rfl, hide fun j y h1 h2 h3 => ?_, Below.refl _ _⟩
          obtain rfl : j = r2 := by omega
          rw [HXX.out] at h3
          cases h3
          exact ⟨rfl, HIX.out⟩
        case round =>
          obtain ⟨f, hf, hgf, rfl, HW, hb⟩ := hrel
          have HGF := hide hgf
          clear hgf
          have hbN : ∀ m, Below w3.heap.size w3 (wr.drewN m) := fun m => belowN hb m
          have xl := cell_below xl hb
          rcases f with _ | f
          · have HN : Hid (∀ y : Sy, 0 < 0 → S[0 - 1]? = some y → noL x.lang y) := hide (fun y h => absurd h (by decide))
            go_wp2
            go_quiet (fail)
            go_wp2
            go_meet
            exact ⟨0, rfl, hf, HW, HN, hbN _⟩
          · obtain ⟨y, hy⟩ : ∃ y, S[f]? = some y := ⟨_, List.getElem?_eq_getElem (by omega)⟩
            obtain ⟨b2, o2, hab, _, yl, yc⟩ := sy_cells (hS3.below hb) hy
            cases hab
            have HY := hide hy
            have e1 : decide ((0 : Int) < (f : Int) + 1) = true := decide_eq_true (by omega)
            clear hy
            have h1 := fun w' => ref_Is y.c w'
            cases hiy : isL y.c
            · have HN : Hid (∀ z : Sy, 0 < f + 1 → S[f + 1 - 1]? = some z → noL x.lang z) := hide (fun z _ h => by rw [Nat.add_sub_cancel, HY.out] at h; cases h; intro h2; rw [hiy] at h2; exact absurd h2.2 (by simp))
              rw [hiy] at h1
              clear hiy
              go_wp2
              go_quiet ((go_at_call 21; exact quiet_left (h1 _)))
              go_wp2
              go_meet
              exact ⟨f + 1, by go_num, hf, HW, HN, hbN _⟩
            · by_cases hyl : y.lang = x.lang
              · have HW2 : Hid (∀ (j : Nat) (z : Sy), f ≤ j → j ≤ r2 → S[j]? = some z → z.lang = x.lang ∧ isL z.c = true) := hide (fun j z h2 h3 h4 => by
                  by_cases hj : j = f
                  · rw [hj, HY.out] at h4; cases h4; exact ⟨hyl, hiy⟩
                  · exact HW.out j z (by omega) h3 h4)
                rw [hiy] at h1
                rw [hyl] at yl
                clear hiy hyl
                go_wp2
                go_quiet ((go_at_call 21; exact quiet_left (h1 _)))
                go_wp2
                go_roundg f
                case measure => have := HGF.out; omega
                case rel => exact ⟨f, by omega, rfl, by go_num, HW2, hbN _⟩
              · have HN : Hid (∀ z : Sy, 0 < f + 1 → S[f + 1 - 1]? = some z → noL x.lang z) := hide (fun z _ h => by rw [Nat.add_sub_cancel, HY.out] at h; cases h; intro h2; exact hyl h2.1)
                have e2 : (y.lang == x.lang) = false := beq_eq_false_iff_ne.2 hyl
                rw [hiy] at h1
                clear hiy hyl
                go_wp2
                go_quiet ((go_at_call 21; exact quiet_left (h1 _)))
                go_wp2
                go_meet
                exact ⟨f + 1, by go_num, hf, HW, HN, hbN _⟩
      case rest =>
        obtain ⟨f, rfl, hf, HW, HN, hb⟩ := hcut
        obtain ⟨w4, rfl⟩ : ∃ w4 : World, w4 = wc := ⟨_, rfl⟩
        go_wp2_with fail
        go_loopg [17] (S.length - (r2 + 1)) (fun gh v w' => ∃ g : Nat, r2 < g ∧ g ≤ S.length ∧ gh = S.length - g ∧ v = .int .i64 (g : Int) ∧ Hid (∀ (j : Nat) (y : Sy), r2 ≤ j → j < g → S[j]? = some y → y.lang = x.lang ∧ isL y.c = true) ∧ Below w3.heap.size w3 w')
        case atStart =>
          refine ⟨r2 + 1, by omega, by omega, rfl, by go_num, hide fun j y h1 h2 h3 => ?_, hb⟩
          obtain rfl : j = r2 := by omega
          rw [HXX.out] at h3
          cases h3
          exact ⟨rfl, HIX.out⟩
        case round =>
          obtain ⟨g, hrg, hgl, hgg, rfl, HV, hb⟩ := hrel
          have HGG := hide hgg
          clear hgg
          have hbN : ∀ m, Below w3.heap.size w3 (wr.drewN m) := fun m => belowN hb m
          have xl := cell_below xl hb
          have HWIN : Hid ((∀ y : Sy, S[g]? = some y → noL x.lang y) → Win S x r2 f g) := hide (fun h => ⟨hf, hrg, hgl, fun _ j y h1 h2 h3 => (by
            by_cases hj : j ≤ r2
            · exact HW.out j y h1 hj h3
            · exact HV.out j y (by omega) h2 h3), fun _ => HN.out, fun _ => h⟩)
          by_cases hgS : g < S.length
          · obtain ⟨y, hy⟩ : ∃ y, S[g]? = some y := ⟨_, List.getElem?_eq_getElem hgS⟩
            obtain ⟨b2, o2, hab, _, yl, yc⟩ := sy_cells (hS3.below hb) hy
            cases hab
            have HY := hide hy
            have e1 : decide (g < S.length) = true := decide_eq_true hgS
            have e1' : decide ((g : Int) < (S.length : Int)) = true := decide_eq_true (by omega)
            clear hy
            have h1 := fun w' => ref_Is y.c w'
            cases hiy : isL y.c
            · have hwin := HWIN.out (fun z h => by rw [HY.out] at h; cases h; intro h2; rw [hiy] at h2; exact absurd h2.2 (by simp))
              rw [hiy] at h1
              clear hiy
              go_wp2
              go_quiet ((go_at_call 21; exact quiet_left (h1 _)))
              go_wp2
              go_meet
              exact ⟨f, g, rfl, rfl, hwin, hbN _⟩
            · by_cases hyl : y.lang = x.lang
              · have HV2 : Hid (∀ (j : Nat) (z : Sy), r2 ≤ j → j < g + 1 → S[j]? = some z → z.lang = x.lang ∧ isL z.c = true) := hide (fun j z h2 h3 h4 => by
                  by_cases hj : j = g
                  · rw [hj, HY.out] at h4; cases h4; exact ⟨hyl, hiy⟩
                  · exact HV.out j z h2 (by omega) h4)
                rw [hiy] at h1
                rw [hyl] at yl
                clear hiy hyl
                go_wp2
                go_quiet ((go_at_call 21; exact quiet_left (h1 _)))
                go_wp2
                go_roundg (S.length - (g + 1))
                case measure => have := HGG.out; omega
                case rel => exact ⟨g + 1, by omega, by omega, rfl, by go_num, HV2, hbN _⟩
              · have hwin := HWIN.out (fun z h => by rw [HY.out] at h; cases h; intro h2; exact hyl h2.1)
                have e2 : (y.lang == x.lang) = false := beq_eq_false_iff_ne.2 hyl
                rw [hiy] at h1
                clear hiy hyl
                go_wp2
                go_quiet ((go_at_call 21; exact quiet_left (h1 _)))
                go_wp2
                go_meet
                exact ⟨f, g, rfl, rfl, hwin, hbN _⟩
          · obtain rfl : g = S.length := by omega
            have hwin := HWIN.out (fun z h => by rw [List.getElem?_eq_none (Nat.le_refl _)] at h; cases h)
            have e1 : decide (S.length < S.length) = false := decide_eq_false (by omega)
            have e1' : decide ((S.length : Int) < (S.length : Int)) = false := decide_eq_false (by omega)
            go_wp2
            go_quiet (fail)
            go_wp2
            go_meet
            exact ⟨f, S.length, rfl, rfl, hwin, hbN _⟩
  case rest =>
    obtain ⟨f, g, rfl, rfl, hsl, hb4⟩ := hcut
    obtain ⟨w4, rfl⟩ : ∃ w4 : World, w4 = wc := ⟨_, rfl⟩
    have xl := cell_below xl hb4
    have hY0 := Box.new w4 55 #[.int .i64 x.lang, .int .u8 32]
    have al := blo w4 (.cells #[.int .i64 x.lang, .int .u8 32] 55)
    have hb5 := hb4.trans (al.mono hb4.size)
    have hY5 : Box (w4.alloc (.cells #[.int .i64 x.lang, .int .u8 32] 55)) w4.heap.size 55 [.int .i64 x.lang, .int .u8 32] := hY0
    clear hY0 al
    go_wp2_with fail
    generalize w4.alloc (.cells _ 55) = w5 at *
    generalize w4.heap.size = gb at *
    have hX5 := hX3.under hb5
    have hT5 := hT3.below hb5
    have hS5 := hS3.below hb5
    have hB5 := hB3.trans (hb5.mono hB3.size)
    have hsk5 := hsk.below hB5
    have hsm5 := hsm.below hB5
    have hfg := Nat.le_trans hsl.fi (Nat.le_of_lt hsl.ig)
    have hgS := hsl.gl
    have hgc : g ≤ c3 := Nat.le_trans hgS hS3.le
    obtain ⟨aW, HAW⟩ : ∃ aW, Hid ((if c3 = f then (some ⟨bS, oS, none⟩ : Option Addr) else (some ⟨bS, oS, none⟩ : Option Addr).map (·.add (f * 2))) = aW) := ⟨_, hide rfl⟩
    have HSW : Hid (Sl w5 2 aW (g - f) (c3 - f) (((S.drop f).take (g - f)).flatMap sc)) := hide (by
      have h := hS5.cut f g hfg hgS
      rw [HAW.out, flat_drop sc_len, flat_take sc_len] at h
      exact h)
    clear hX3 hT3 hS3 hB3 hb5 hb4 hsk hsm xl xc
    refine (ref_Syms kk hkb ak kn kc _ hsk5).mono ?_
    rintro e w6 ⟨a6, c6, rfl, hO6, hb6⟩
    rw [HSK.out] at hO6 ⊢
    have hS6 := hO6.sl
    clear hO6
    go_wp2_with (at_builtin; refine app_sys rfl _ _ rfl w5 w5.heap.size _ 0 0 _ rfl (Own.nil _ _ _ _) a6 SK.length c6 _ (sy_ones _) rfl hS6 (by omega) hb6.size hb6 ?_; intro a7 c7 w7 ho7 hz7 hb7; rw [Nat.zero_add, List.nil_append] at ho7; rw [Nat.zero_add])
    have hY7 := hY5
    clear hS6 hb6
    refine wp_region_chain4 9 (fun _ _ => True) (GY w5 w5.heap.size 55 a7 SK.length c7 (g - f) (SK.flatMap sc) [.int .i64 x.lang, .int .u8 32] (((S.drop f).take (g - f)).flatMap sc)) [⟨2, 110, [], fun _ _ => True⟩, ⟨3, 111, [], fun _ _ => True⟩, ⟨8, 116, [], fun _ _ => True⟩] [⟨0, 108, [108], fun vs _ => vs = [.slice a7 SK.length c7]⟩, ⟨1, 109, [109], fun vs _ => vs = [.agg #[.int .i64 x.lang, .int .u8 32]]⟩, ⟨4, 112, [112], fun vs _ => vs = [.slice (some ⟨bS, oS, none⟩) S.length c3]⟩, ⟨5, 113, [113], fun vs _ => vs = [.int .i64 (f : Int)]⟩, ⟨6, 114, [114], fun vs _ => vs = [.int .i64 (g : Int)]⟩, ⟨7, 115, [115], fun vs _ => vs = [.slice aW (g - f) (c3 - f)]⟩] (by kernel_rfl) (by kernel_rfl) ?_ (fun _ _ _ => trivial) GY.mono ?_ ?_ ?_ ?_
    · exact ⟨ho7.below (Still.below 1 : Below w7.heap.size w7 (w7.drewN 1)), hb7.trans ((Still.below 1 : Below w7.heap.size w7 (w7.drewN 1)).mono hz7), hz7⟩
    · simp only [All]
      refine ⟨(fun _ _ _ _ h => h), (fun _ _ _ _ h => h), (fun _ _ _ _ h => h), (fun _ _ _ _ h => h), (fun _ _ _ _ h => h), (fun _ _ _ _ h => h), trivial⟩
    · intro m c hc o ho a w' hG hfr hdep
      rcases m with _ | _ | _ | m
      · cases hc
        obtain rfl := Option.some.inj ho
        obtain ⟨hOw, hB, hz⟩ := hG
        have g109 : a.tmps.getD 109 undef = .agg #[.int .i64 x.lang, .int .u8 32] := by have h := hdep 1 _ rfl (by kernel_rfl); simpa using h
        have g109' : a.tmps[109]?.getD undef = .agg #[.int .i64 x.lang, .int .u8 32] := by simpa using g109
        clear hfr hdep
        have hbl := blo w' (.cells #[.int .i64 x.lang, .int .u8 32] 55)
        go_wp2_with fail
        exact ⟨rfl, _, rfl, ⟨_, rfl, Sl.fresh _ _ 2 1 [.int .i64 x.lang, .int .u8 32] rfl (by decide)⟩, hOw.below hbl, hB.trans (hbl.mono hz), Nat.le_trans hz hbl.size⟩
      · cases hc
        obtain rfl := Option.some.inj ho
        obtain ⟨⟨b, g110, hsl⟩, hOw, hB, hz⟩ := hG
        replace g110 : a.tmps.getD 110 undef = .slice b 1 1 := g110
        have g108 : a.tmps.getD 108 undef = .slice a7 SK.length c7 := by have h := hdep 0 _ rfl (by kernel_rfl); simpa using h
        clear hfr hdep
        refine app_sys rfl _ _ rfl w5 w5.heap.size a7 SK.length c7 _ g108 hOw b 1 1 [.int .i64 x.lang, .int .u8 32] (by simp [Value.oneCell']) g110 hsl (by omega) hz hB ?_
        intro a3' c3' w3' ho3 hz3 hb3
        go_wp2
        exact ⟨rfl, _, rfl, ⟨a3', c3', rfl, ho3⟩, hb3, hz3⟩
      · cases hc
        obtain rfl := Option.some.inj ho
        obtain ⟨⟨a8, c8, g111, ho8⟩, hB, hz⟩ := hG
        replace g111 : a.tmps.getD 111 undef = .slice a8 (SK.length + 1) c8 := g111
        have g115 : a.tmps.getD 115 undef = .slice aW (g - f) (c3 - f) := by have h := hdep 5 _ rfl (by kernel_rfl); simpa using h
        clear hfr hdep
        refine app_sys rfl _ _ rfl w5 w5.heap.size a8 (SK.length + 1) c8 _ g111 ho8 aW (g - f) (c3 - f) _ (sy_ones _) g115 (HSW.out.below hB) (by omega) hz hB ?_
        intro a3' c3' w3' ho3 hz3 hb3
        go_wp2
        exact ⟨rfl, _, rfl, ⟨a3', c3', rfl, ho3⟩, hb3, hz3⟩
      · cases hc
    · simp only [All]
      refine ⟨?_, ?_, ?_, ?_, ?_, ?_, trivial⟩
      · intro o ho a' w' hfr hdep hst
        obtain rfl := Option.some.inj ho
        have g19 : a'.tmps[19]?.getD undef = .slice a7 SK.length c7 := by have h := hfr 19 (by kernel_rfl); simpa using h
        clear ho hfr hdep hst
        go_wp2_with fail
        exact ⟨rfl, _, rfl, Below.refl _ _, rfl⟩
      · intro o ho a' w' hfr hdep hst
        obtain rfl := Option.some.inj ho
        have g18 : a'.tmps[18]?.getD undef = .pointer (some ⟨gb, 0, none⟩) := by have h := hfr 18 (by kernel_rfl); simpa using h
        obtain ⟨j, _, _, hG⟩ := hst
        clear ho hfr hdep
        have hB := hG.bel
        clear hG
        refine load_struct 109 55 _ 2 size_sym _ Try.underlying55 ⟨gb, 0, none⟩ (by show a'.tmps.getD 18 undef = _; simpa using g18) [.int .i64 x.lang, .int .u8 32] rfl (fun j u hj => by rw [Addr.add_lit, Nat.zero_add]; exact (hY7.under hB.1).at_ hj) ?_
        exact ⟨rfl, _, rfl, Below.refl _ _, rfl⟩
      · intro o ho a' w' hfr hdep hst
        obtain rfl := Option.some.inj ho
        have g14 : a'.tmps[14]?.getD undef = .slice (some ⟨bS, oS, none⟩) S.length c3 := by have h := hfr 14 (by kernel_rfl); simpa using h
        clear ho hfr hdep hst
        go_wp2_with fail
        exact ⟨rfl, _, rfl, Below.refl _ _, rfl⟩
      · intro o ho a' w' hfr hdep hst
        obtain rfl := Option.some.inj ho
        have g16 : a'.tmps[16]?.getD undef = .int .i64 (f : Int) := by have h := hfr 16 (by kernel_rfl); simpa using h
        clear ho hfr hdep hst
        go_wp2_with fail
        exact ⟨rfl, _, rfl, Below.refl _ _, rfl⟩
      · intro o ho a' w' hfr hdep hst
        obtain rfl := Option.some.inj ho
        have g17 : a'.tmps[17]?.getD undef = .int .i64 (g : Int) := by have h := hfr 17 (by kernel_rfl); simpa using h
        clear ho hfr hdep hst
        go_wp2_with fail
        exact ⟨rfl, _, rfl, Below.refl _ _, rfl⟩
      · intro o ho a' w' hfr hdep hst
        obtain rfl := Option.some.inj ho
        have g112 : a'.tmps[112]?.getD undef = .slice (some ⟨bS, oS, none⟩) S.length c3 := by have h := hdep 2 _ rfl (by kernel_rfl); simpa using h
        have g113 : a'.tmps[113]?.getD undef = .int .i64 (f : Int) := by have h := hdep 3 _ rfl (by kernel_rfl); simpa using h
        have g114 : a'.tmps[114]?.getD undef = .int .i64 (g : Int) := by have h := hdep 4 _ rfl (by kernel_rfl); simpa using h
        clear ho hfr hdep hst
        refine cut_any 115 37 _ _ _ 55 Try.underlying37 2 size_sym (some ⟨bS, oS, none⟩) S.length c3 (by show a'.tmps.getD 112 undef = _; simpa using g112) .i64 .i64 f g (by show a'.tmps.getD 113 undef = _; simpa using g113) (by show a'.tmps.getD 114 undef = _; simpa using g114) hfg hgc ?_
        rw [HAW.out]
        go_wp2_with fail
        exact ⟨rfl, _, rfl, Below.refl _ _, rfl⟩
    · intro gg w8 hG hp
      obtain ⟨⟨a8, c8, g116, ho8⟩, hB8, hz8⟩ := hG
      replace g116 : gg 116 = .slice a8 (SK.length + 1 + (g - f)) c8 := g116
      clear hp
      simp only [List.drop_succ_cons, List.drop_zero, List.map_cons, List.map_nil, List.cons_append, List.nil_append, putAll, Act.put, List.setIfInBounds_toArray, List.set_cons_succ, List.set_cons_zero, g116]
      clear g116
      have hX8 := hX5.under hB8
      have hT8 := hT5.below hB8
      have hY8 := hY5.under hB8
      have al := blo w8 (.cells #[.int .i64 x.lang, .int .u8 32] 55)
      have hsl8 : Sl (w8.alloc (.cells #[.int .i64 x.lang, .int .u8 32] 55)) 2 (some ⟨w8.heap.size, 0, none⟩) 1 1 [.int .i64 x.lang, .int .u8 32] := Sl.fresh _ _ 2 1 _ rfl (by decide)
      have ho8 := ho8.below al
      have hb58 := hB8.trans (al.mono hz8)
      have hz58 := Nat.le_trans hz8 al.size
      clear al
      go_wp2_with (first
        | (with_reducible refine load_struct 118 55 _ 2 size_sym _ Try.underlying55 ⟨gb, 0, none⟩ rfl [.int .i64 x.lang, .int .u8 32] rfl (fun j u hj => by rw [Addr.add_lit, Nat.zero_add]; exact hY8.at_ hj) ?_)
        | (at_builtin; refine hold ?_))
      refine hide ?_
      generalize w8.alloc (.cells _ 55) = w8b at *
      refine app_sys rfl _ _ rfl w5 w5.heap.size _ _ _ _ rfl ho8 _ 1 1 [.int .i64 x.lang, .int .u8 32] (by simp [Value.oneCell']) rfl hsl8 (by omega) hz58 hb58 ?_
      intro a9 c9 w9 ho9 hz9 hb9
      go_wp2_with fail
      refine (ref_Syms mm hmb am mn mc _ (hsm5.below hb9)).mono ?_
      rintro e w10 ⟨a10, c10, rfl, hO10, hb10⟩
      rw [HSM.out] at hO10 ⊢
      have hb510 := hb9.trans (hb10.mono hz9)
      have ho10 := ho9.below hb10
      have hS10 := hO10.sl
      clear ho8 ho9 hO10 hX8 hT8 hY8
      go_wp2_with (at_builtin; refine app_sys rfl _ _ rfl w5 w5.heap.size _ _ _ _ rfl ho10 a10 SM.length c10 _ (sy_ones _) rfl hS10 (by omega) hb510.size hb510 ?_; intro a11 c11 w11 ho11 hz11 hb11)
      refine (ref_Syms kk hkb ak kn kc _ (hsk5.below hb11)).mono ?_
      rintro e w12 ⟨a12, c12, rfl, _, hb12⟩
      rw [HSK.out]
      have hb512 := hb11.trans (hb12.mono hz11)
      have hoO := (ho11.below hb12).sl
      clear ho10 ho11 hS10
      have hX12 := hX5.under hb512
      have hT12 := hT5.below hb512
      have hS12 := hS5.below hb512
      have hB12 := hB5.trans (hb512.mono hB5.size)
      obtain ⟨O, hO⟩ : ∃ O, O = ((SK ++ [(⟨x.lang, 32⟩ : Sy)] ++ (S.drop f).take (g - f)) ++ [⟨x.lang, 32⟩]) ++ SM := ⟨_, rfl⟩
      obtain ⟨NO, hNO⟩ : ∃ NO, NO = SK.length + 1 + (g - f) + 1 + SM.length := ⟨_, rfl⟩
      have hwl := hsl.gl
      have hOl : O.length = NO := by
        rw [hO, hNO]
        simp only [List.length_append, List.length_singleton, List.length_take, List.length_drop]
        omega
      have hO1000 : O.length ≤ 1000000 := by omega
      have hOc : SK.flatMap sc ++ [.int .i64 x.lang, .int .u8 32] ++ ((S.drop f).take (g - f)).flatMap sc ++ [.int .i64 x.lang, .int .u8 32] ++ SM.flatMap sc = O.flatMap sc := by
        rw [hO, List.flatMap_append, List.flatMap_append, List.flatMap_append, List.flatMap_append, List.flatMap_singleton]
        rfl
      rw [hOc, ← hNO] at hoO
      rw [← hNO]
      have hlx := HLX.out
      have hgO : goodS O = true := plain_good (l := O) (by
        intro y hy
        rw [hO] at hy
        rcases List.mem_append.1 hy with hy | hy
        · rcases List.mem_append.1 hy with hy | hy
          · rcases List.mem_append.1 hy with hy | hy
            · rcases List.mem_append.1 hy with hy | hy
              · exact HSKP.out y hy
              · rw [List.mem_singleton.1 hy]; exact blank_plain hlx
            · exact HSP.out y (List.mem_of_mem_drop (List.mem_of_mem_take hy))
          · rw [List.mem_singleton.1 hy]; exact blank_plain hlx
        · exact HSMP.out y hy)
      obtain ⟨pl, hpl⟩ : ∃ pl : Nat, pl = SK.length + 1 + r2 - f := ⟨_, rfl⟩
      have hpl2 : (SK.length : Int) + 1 + (r2 : Int) - (f : Int) = (pl : Int) := by have := hsl.fi; omega
      have HKEY : Hid (∀ s : St, (s.lang = 0 ∨ s.lang = 1) → stepsL t s S (r2 : Int) = stepsL t s O (pl : Int)) := hide (fun s hs => by rw [hpl]; exact hsl.next HG.out.ok hs HXX.out (plain_good HSP.out) x.lang hO hgO)
      have HPL := hide hpl
      clear hpl hO hOl hOc hgO hwl hlx hNO
      go_wp2_with fail
      go_loopg [21] 2 (fun gh v w' => ∃ k : Nat, k ≤ 2 ∧ gh = 2 - k ∧ v = .int .i64 (k : Int) ∧ Below w12.heap.size w12 w')
      case atStart => exact ⟨0, by omega, by omega, rfl, Below.refl _ _⟩
      case round =>
        obtain ⟨k, hk, hgk, rfl, hbk⟩ := hrel
        have HGK := hide hgk
        clear hgk
        by_cases hk2 : k < 2
        · have e1 : decide (k < 2) = true := decide_eq_true hk2
          have e1' : decide ((k : Int) < 2) = true := decide_eq_true (by omega)
          obtain ⟨s, hsd⟩ : ∃ s : St, s = ⟨(k : Int), num, false⟩ := ⟨_, rfl⟩
          have hkey := HKEY.out s (by rw [hsd]; show (k : Int) = 0 ∨ (k : Int) = 1; omega)
          obtain ⟨L, HL⟩ : ∃ L, Hid (stepsL t s S (r2 : Int) = L) := ⟨_, hide rfl⟩
          have HL2 : Hid (stepsL t s O (pl : Int) = L) := hide (by rw [← hkey]; exact HL.out)
          have hL1000 : L.length ≤ 1000 := by rw [← HL.out]; exact steps_few _ _ _ _
          have HSD := hide hsd
          clear hkey hsd
          have hY : Box (wr.alloc (.cells #[.int .i64 (k : Int), .bool num, .bool false] 47)) wr.heap.size 47 (scells s) := by rw [HSD.out]; exact Box.new wr 47 #[.int .i64 (k : Int), .bool num, .bool false]
          have al := blo wr (.cells #[.int .i64 (k : Int), .bool num, .bool false] 47)
          have hbw := hbk.trans (al.mono hbk.size)
          clear al
          go_wp2_with fail
          generalize wr.alloc (.cells _ 47) = w4 at *
          generalize wr.heap.size = gs at *
          have hXr := hX12.under hbw
          have hTr := hT12.below hbw
          have hSr := hS12.below hbw
          have hOr := hoO.below hbw
          refine wp_region_free 13 [⟨0, 139, [139], fun vs _ => vs = [H.v]⟩, ⟨1, 140, [140], fun vs _ => vs = [sv s]⟩, ⟨2, 141, [141], fun vs _ => vs = [.slice (some ⟨bS, oS, none⟩) S.length c3]⟩, ⟨3, 142, [142], fun vs _ => vs = [.int .i64 (r2 : Int)]⟩, ⟨4, 143, [143], FStn L.length L⟩, ⟨5, 144, [144], FStn L.length L⟩, ⟨6, 145, [145], fun vs _ => vs = [H.v]⟩, ⟨7, 146, [146], fun vs _ => vs = [sv s]⟩, ⟨8, 147, [147], fun vs _ => vs = [.slice a11 NO c11]⟩, ⟨9, 148, [148], fun vs _ => vs = [.int .i64 (pl : Int)]⟩, ⟨10, 149, [149], FStn L.length L⟩, ⟨11, 150, [150], FStn L.length L⟩, ⟨12, 151, [151], fun vs _ => vs = [.bool true]⟩] (by kernel_rfl) (by kernel_rfl) ?_ ?_ ?_
          · simp only [All]
            refine ⟨fun _ _ _ _ h => h, fun _ _ _ _ h => h, fun _ _ _ _ h => h, fun _ _ _ _ h => h, ?_, ?_, fun _ _ _ _ h => h, fun _ _ _ _ h => h, fun _ _ _ _ h => h, fun _ _ _ _ h => h, ?_, ?_, fun _ _ _ _ h => h, trivial⟩
            · exact fun _ _ _ hb h => h.below hb
            · exact fun _ _ _ hb h => h.below hb
            · exact fun _ _ _ hb h => h.below hb
            · exact fun _ _ _ hb h => h.below hb
          · simp only [All]
            refine ⟨?_, ?_, ?_, ?_, ?_, ?_, ?_, ?_, ?_, ?_, ?_, ?_, ?_, trivial⟩
            · intro o ho a' w' hb hfr hdep
              obtain rfl := Option.some.inj ho
              have g13 : a'.tmps[13]?.getD undef = .pointer (some ⟨gt, 0, none⟩) := by have h := hfr 13 (by kernel_rfl); simpa using h
              clear ho hfr hdep
              refine load_struct 139 28 _ 7 size_tables _ Try.underlying28 ⟨gt, 0, none⟩ (by show a'.tmps.getD 13 undef = _; simpa using g13) (tcells H) rfl (fun j u hj => by rw [Addr.add_lit, Nat.zero_add]; exact (hXr.under hb).at_ hj) ?_
              exact ⟨rfl, _, rfl, Below.refl _ _, rfl⟩
            · intro o ho a' w' hb hfr hdep
              obtain rfl := Option.some.inj ho
              have g22 : a'.tmps[22]?.getD undef = .pointer (some ⟨gs, 0, none⟩) := by have h := hfr 22 (by kernel_rfl); simpa using h
              clear ho hfr hdep
              refine load_struct 140 47 _ 3 size_state _ Try.underlying47 ⟨gs, 0, none⟩ (by show a'.tmps.getD 22 undef = _; simpa using g22) (scells s) rfl (fun j u hj => by rw [Addr.add_lit, Nat.zero_add]; exact (hY.under hb).at_ hj) ?_
              exact ⟨rfl, _, rfl, Below.refl _ _, rfl⟩
            · intro o ho a' w' hb hfr hdep
              obtain rfl := Option.some.inj ho
              have g14 : a'.tmps[14]?.getD undef = .slice (some ⟨bS, oS, none⟩) S.length c3 := by have h := hfr 14 (by kernel_rfl); simpa using h
              clear ho hfr hdep
              go_wp2_with fail
              exact ⟨rfl, _, rfl, Below.refl _ _, rfl⟩
            · intro o ho a' w' hb hfr hdep
              obtain rfl := Option.some.inj ho
              have g15 : a'.tmps[15]?.getD undef = .int .i64 (r2 : Int) := by have h := hfr 15 (by kernel_rfl); simpa using h
              clear ho hfr hdep
              go_wp2_with fail
              exact ⟨rfl, _, rfl, Below.refl _ _, rfl⟩
            · intro o ho a' w' hb hfr hdep
              obtain rfl := Option.some.inj ho
              have g139 : a'.tmps[139]?.getD undef = H.v := by have h := hdep 0 _ rfl (by kernel_rfl); simpa using h
              have g140 : a'.tmps[140]?.getD undef = sv s := by have h := hdep 1 _ rfl (by kernel_rfl); simpa using h
              have g141 : a'.tmps[141]?.getD undef = .slice (some ⟨bS, oS, none⟩) S.length c3 := by have h := hdep 2 _ rfl (by kernel_rfl); simpa using h
              have g142 : a'.tmps[142]?.getD undef = .int .i64 (r2 : Int) := by have h := hdep 3 _ rfl (by kernel_rfl); simpa using h
              clear ho hfr hdep
              go_wp2_with fail
              refine (steps_of H t s S (r2 : Int) HL.out _ _ _ hS24' _ (hTr.below hb) (hSr.below hb)).mono ?_
              rintro e w2 ⟨a, c, ps, rfl, h1, h2⟩
              go_wp2_with fail
              exact ⟨rfl, _, rfl, h2, a, c, ps, rfl, h1⟩
            · intro o ho a' w' hb hfr hdep
              obtain rfl := Option.some.inj ho
              obtain ⟨a143, c143, ps143, g143, hs143⟩ := hdep 4 _ rfl (by kernel_rfl)
              replace g143 : a'.tmps[143]?.getD undef = .slice a143 L.length c143 := by simpa using g143
              clear ho hfr hdep
              go_wp2_with fail
              refine (law_plain L ps143 a143 L.length c143 hL1000 _ hs143).mono ?_
              rintro e w2 ⟨a, c, ps, rfl, h1, h2⟩
              go_wp2_with fail
              exact ⟨rfl, _, rfl, h2, a, c, ps, rfl, h1⟩
            · intro o ho a' w' hb hfr hdep
              obtain rfl := Option.some.inj ho
              have g13 : a'.tmps[13]?.getD undef = .pointer (some ⟨gt, 0, none⟩) := by have h := hfr 13 (by kernel_rfl); simpa using h
              clear ho hfr hdep
              refine load_struct 145 28 _ 7 size_tables _ Try.underlying28 ⟨gt, 0, none⟩ (by show a'.tmps.getD 13 undef = _; simpa using g13) (tcells H) rfl (fun j u hj => by rw [Addr.add_lit, Nat.zero_add]; exact (hXr.under hb).at_ hj) ?_
              exact ⟨rfl, _, rfl, Below.refl _ _, rfl⟩
            · intro o ho a' w' hb hfr hdep
              obtain rfl := Option.some.inj ho
              have g22 : a'.tmps[22]?.getD undef = .pointer (some ⟨gs, 0, none⟩) := by have h := hfr 22 (by kernel_rfl); simpa using h
              clear ho hfr hdep
              refine load_struct 146 47 _ 3 size_state _ Try.underlying47 ⟨gs, 0, none⟩ (by show a'.tmps.getD 22 undef = _; simpa using g22) (scells s) rfl (fun j u hj => by rw [Addr.add_lit, Nat.zero_add]; exact (hY.under hb).at_ hj) ?_
              exact ⟨rfl, _, rfl, Below.refl _ _, rfl⟩
            · intro o ho a' w' hb hfr hdep
              obtain rfl := Option.some.inj ho
              have g19 : a'.tmps[19]?.getD undef = .slice a11 NO c11 := by have h := hfr 19 (by kernel_rfl); simpa using h
              clear ho hfr hdep
              go_wp2_with fail
              exact ⟨rfl, _, rfl, Below.refl _ _, rfl⟩
            · intro o ho a' w' hb hfr hdep
              obtain rfl := Option.some.inj ho
              have g20 : a'.tmps[20]?.getD undef = .int .i64 (pl : Int) := by have h := hfr 20 (by kernel_rfl); simpa using h
              clear ho hfr hdep
              go_wp2_with fail
              exact ⟨rfl, _, rfl, Below.refl _ _, rfl⟩
            · intro o ho a' w' hb hfr hdep
              obtain rfl := Option.some.inj ho
              have g145 : a'.tmps[145]?.getD undef = H.v := by have h := hdep 6 _ rfl (by kernel_rfl); simpa using h
              have g146 : a'.tmps[146]?.getD undef = sv s := by have h := hdep 7 _ rfl (by kernel_rfl); simpa using h
              have g147 : a'.tmps[147]?.getD undef = .slice a11 NO c11 := by have h := hdep 8 _ rfl (by kernel_rfl); simpa using h
              have g148 : a'.tmps[148]?.getD undef = .int .i64 (pl : Int) := by have h := hdep 9 _ rfl (by kernel_rfl); simpa using h
              clear ho hfr hdep
              go_wp2_with fail
              refine (steps_of H t s O (pl : Int) HL2.out _ _ _ hO1000 _ (hTr.below hb) (hOr.below hb)).mono ?_
              rintro e w2 ⟨a, c, ps, rfl, h1, h2⟩
              go_wp2_with fail
              exact ⟨rfl, _, rfl, h2, a, c, ps, rfl, h1⟩
            · intro o ho a' w' hb hfr hdep
              obtain rfl := Option.some.inj ho
              obtain ⟨a149, c149, ps149, g149, hs149⟩ := hdep 10 _ rfl (by kernel_rfl)
              replace g149 : a'.tmps[149]?.getD undef = .slice a149 L.length c149 := by simpa using g149
              clear ho hfr hdep
              go_wp2_with fail
              refine (law_plain L ps149 a149 L.length c149 hL1000 _ hs149).mono ?_
              rintro e w2 ⟨a, c, ps, rfl, h1, h2⟩
              go_wp2_with fail
              exact ⟨rfl, _, rfl, h2, a, c, ps, rfl, h1⟩
            · intro o ho a' w' hb hfr hdep
              obtain rfl := Option.some.inj ho
              obtain ⟨a144, c144, ps144, g144, hs144⟩ := hdep 5 _ rfl (by kernel_rfl)
              replace g144 : a'.tmps[144]?.getD undef = .slice a144 L.length c144 := by simpa using g144
              obtain ⟨a150, c150, ps150, g150, hs150⟩ := hdep 11 _ rfl (by kernel_rfl)
              replace g150 : a'.tmps[150]?.getD undef = .slice a150 L.length c150 := by simpa using g150
              clear ho hfr hdep
              go_wp2_with fail
              refine (ref_SameSteps L ps144 ps150 a144 a150 L.length c144 c150 hL1000 _ hs144 hs150).mono ?_
              rintro e w2 ⟨rfl, h2⟩
              go_wp2_with fail
              exact ⟨rfl, _, rfl, h2, rfl⟩
          · intro gg w15 hb15 hp15
            have p151 := hp15 12 _ rfl
            clear hp15
            simp at p151
            simp only [List.drop_succ_cons, List.drop_zero, List.map_cons, List.map_nil, putAll, Act.put, List.setIfInBounds_toArray, List.set_cons_succ, List.set_cons_zero, List.cons_append, List.nil_append, p151]
            clear p151
            have hbz := hbw.trans (hb15.mono hbw.size)
            go_wp2_with fail
            go_roundg (2 - (k + 1))
            case measure => have := HGK.out; omega
            case rel => exact ⟨k + 1, by omega, rfl, by go_num, hbz⟩
        · obtain rfl : k = 2 := by omega
          go_wp2_with fail
          refine (law06_lives _).mono ?_
          rintro e w18 ⟨rfl, hb18⟩
          go_wp2_with fail
          go_ret
          have hbz := hB12.trans (hbk.mono hB12.size)
          exact ⟨rfl, hbz.trans (hb18.mono hbz.size)⟩
end Go.Proofs.Ytkjcbneanaeleaa
end
