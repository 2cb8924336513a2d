/- The contracts of the functions that the law reaches, joined into one text. -/
import Derived.Test.YtkjcbneanaeleaaBaseB35E
import Derived.OpenShut
import Derived.Deep.Slices
import Derived.Deep.Strs
import Derived.SizedLaws
set_option linter.unusedVariables false
set_option linter.unusedSimpArgs false

/- the text Row2 -/
section
/- How the arguments of a law read: slices of integers, of strings, of arrays of integers, with the form's own reach. No program. -/
namespace Go.Dx
open Go.RowKit Go.WideShapes Go.ChangeShapes Go.Deep

/-- no part is longer than the form lets it be -/
def Sized {H : Type} (P : Program) (t : TypeId) (d : DataW H) : Prop := ∀ n ∈ d.weights P t, n ≤ reachBytes
section
variable {H : Type} {enc : TypeId × Value → H} {P : Program} {w : World}
theorem sized_at {ts : List TypeId} {ds : List (DataW H)} (hwt : (DataW.weightsEach P ts ds).all (· ≤ reachBytes) = true) (j : Nat) {t : TypeId} {d : DataW H} (ht : ts[j]? = some t) (hd : ds[j]? = some d) : Sized P t d :=
  fun n hn => by simpa using List.all_eq_true.1 hwt _ (DataW.weights_mem_each ht hd n hn)
theorem sized_all {e : TypeId} : ∀ {l : List (DataW H)} {d : DataW H}, d ∈ l → ∀ n ∈ d.weights P e, n ∈ DataW.weightsAll P e l
  | x :: l, d, hd, n, hn => by
    simp only [DataW.weightsAll, List.mem_append]
    rcases List.mem_cons.1 hd with rfl | h
    · exact .inl hn
    · exact .inr (sized_all h n hn)
theorem Sized.slice {t e : TypeId} {elems spare : List (DataW H)} (h : Sized P t (.slice elems spare)) (hu : P.underlying t = some (.slice e)) :
    (elems.length + spare.length) * P.bytesOf e ≤ reachBytes ∧ (∀ d ∈ elems, Sized P e d) :=
  ⟨h _ (by simp [DataW.weights, hu]), fun d hd n hn => h n (by simp only [DataW.weights, hu, List.mem_cons, List.mem_append]; exact .inr (.inl (sized_all hd n hn)))⟩
theorem Sized.string {t : TypeId} {b : List UInt8} (h : Sized P t (DataW.lit (H := H) (.string b))) : b.length ≤ reachBytes := h _ (by simp [DataW.weights])

theorem add_cells {a : Addr} {n : Nat} : a.add n = a.add n := rfl

theorem trod_ints {t e : TypeId} {k : IntKind} (ht : P.underlying t = some (.slice e)) (he : P.underlying e = some (.int k)) (hc : P.cellsOf e = 1) (hb : 0 < P.bytesOf e) {a : Option Addr} {len cap : Nat} {d : DataW H} {p : List MemPlace}
    (hs : Sized P t d) (h : DataW.Trod enc P w 0 (fun _ => true) true t (.slice a len cap) d p) :
    ∃ zs : List Int, Sl w 1 a len cap (zs.map (Value.int k)) ∧ (∀ n ∈ zs, (Lit.int k n).wf = true) ∧ len ≤ reachBytes := by
  obtain ⟨fuel, hf⟩ := h
  rcases open_ints ht he hc hf with ⟨hcs, _⟩ | ⟨x, l, c, zs, hcs, _, hl, hm, hz, hx, hcell, hwz⟩
  · simp [Value.cells] at hcs
    obtain ⟨rfl, rfl, rfl⟩ := hcs
    exact ⟨[], Sl.empty w 1, by simp, Nat.zero_le _⟩
  · simp [Value.cells] at hcs
    obtain ⟨rfl, rfl, rfl⟩ := hcs
    have hz2 : zs.length = cap := by simpa using hz
    have hd := congrArg Prod.fst hx
    simp only at hd
    subst hd
    refine ⟨zs.take len, ⟨by simp; omega, hl, hm, (fun h => by cases h), ?_⟩, fun n hn => hwz n (List.mem_of_mem_take hn), ?_⟩
    · intro q hq j u hj
      cases hq
      rw [List.getElem?_map, List.getElem?_take] at hj
      by_cases hlt : j < len
      · rw [if_pos hlt] at hj
        have hjz : j < zs.length := by omega
        rw [List.getElem?_eq_getElem hjz] at hj
        simp at hj
        rw [hcell j hjz, ← hj, List.getD_eq_getElem?_getD, List.getElem?_eq_getElem hjz]
        rfl
      · rw [if_neg hlt] at hj; cases hj
    · have hsz := (hs.slice ht).1
      rw [show ∀ (k : IntKind) (l : List Int), (lits (H := H) k l).length = l.length from fun k l => by simp [lits], List.length_take, show min len zs.length = len by omega] at hsz
      exact Nat.le_trans (Nat.le_trans (Nat.le_add_right _ _) (Nat.le_mul_of_pos_right _ hb)) hsz

theorem trod_bytes {t e : TypeId} (ht : P.underlying t = some (.slice e)) (he : P.underlying e = some (.int .u8)) (hc : P.cellsOf e = 1) (hb : 0 < P.bytesOf e) {a : Option Addr} {len cap : Nat} {d : DataW H} {p : List MemPlace}
    (hs : Sized P t d) (h : DataW.Trod enc P w 0 (fun _ => true) true t (.slice a len cap) d p) :
    ∃ l : List UInt8, Sl w 1 a len cap (l.map B8) ∧ len ≤ reachBytes := by
  obtain ⟨zs, h1, h2, h3⟩ := trod_ints ht he hc hb hs h
  refine ⟨zs.map fun n => UInt8.ofNat n.toNat, ?_, h3⟩
  have e : (zs.map fun n => UInt8.ofNat n.toNat).map B8 = zs.map (Value.int .u8) := by
    rw [List.map_map]
    apply List.map_congr_left
    intro n hn
    have hb : 0 ≤ n ∧ n ≤ 255 := bounds_u8 (h2 n hn)
    show Value.int .u8 ((UInt8.ofNat n.toNat).toNat : Int) = _
    rw [UInt8.toNat_ofNat']
    congr 1
    omega
  rw [e]
  exact h1
theorem trod_i64s {t e : TypeId} (ht : P.underlying t = some (.slice e)) (he : P.underlying e = some (.int .i64)) (hc : P.cellsOf e = 1) (hb : 0 < P.bytesOf e) {a : Option Addr} {len cap : Nat} {d : DataW H} {p : List MemPlace}
    (hs : Sized P t d) (h : DataW.Trod enc P w 0 (fun _ => true) true t (.slice a len cap) d p) :
    ∃ l : List Int, Sl w 1 a len cap (l.map I64) ∧ (∀ n ∈ l, -9223372036854775808 ≤ n ∧ n ≤ 9223372036854775807) ∧ len ≤ reachBytes := by
  obtain ⟨zs, h1, h2, h3⟩ := trod_ints ht he hc hb hs h
  exact ⟨zs, h1, fun n hn => bounds_i64 (h2 n hn), h3⟩

theorem trod_strs {t e : TypeId} (ht : P.underlying t = some (.slice e)) (he : P.underlying e = some .string) (hc : P.cellsOf e = 1) (hb : 0 < P.bytesOf e) {a : Option Addr} {len cap : Nat} {d : DataW H} {p : List MemPlace}
    (hs : Sized P t d) (h : DataW.Trod enc P w 0 (fun _ => true) true t (.slice a len cap) d p) :
    ∃ l : List ByteArray, Sl w 1 a len cap (l.map Value.string) ∧ (∀ s ∈ l, s.size ≤ reachBytes) ∧ len ≤ reachBytes ∧ (l = [] ∨ ∃ sp, d = .slice (l.map fun s => .lit (.string s.data.toList)) sp) := by
  obtain ⟨fuel, hf⟩ := h
  rcases open_strs ht he hc hf with ⟨hcs, _⟩ | ⟨x, l, c, m, Sx, hcs, _, hl, hm, hmm, hx, hcell⟩
  · simp [Value.cells] at hcs
    obtain ⟨rfl, rfl, rfl⟩ := hcs
    exact ⟨[], Sl.empty w 1, by simp, Nat.zero_le _, .inl rfl⟩
  · simp [Value.cells] at hcs
    obtain ⟨rfl, rfl, rfl⟩ := hcs
    simp only [if_true] at hmm
    subst hmm
    have hd := congrArg Prod.fst hx
    simp only at hd
    subst hd
    obtain ⟨z1, z2⟩ := hs.slice ht
    refine ⟨(List.range len).map Sx, ⟨by simp, hl, hm, (fun h => by cases h), ?_⟩, ?_, ?_, .inr ⟨_, by rw [List.map_map]; rfl⟩⟩
    · intro q hq j u hj
      cases hq
      have hlt : j < len := by have := (List.getElem?_eq_some_iff.1 hj).1; simpa using this
      rw [(hcell j (by omega)).1]
      simp [hlt] at hj
      rw [hj]
    · intro s hs
      obtain ⟨i, hi, rfl⟩ := List.mem_map.1 hs
      have := Sized.string (z2 _ (List.mem_map.2 ⟨i, hi, rfl⟩))
      rwa [show (Sx i).data.toList.length = (Sx i).size from Array.length_toList] at this
    · simp only [List.length_map, List.length_range] at z1
      exact Nat.le_trans (Nat.le_trans (Nat.le_add_right _ _) (Nat.le_mul_of_pos_right _ hb)) z1

theorem trod_arr {t e n : Nat} {k : IntKind} {base : Nat} {spare : Nat → Bool} {held : Bool} {fuel : Nat} {cs : List Value} {x : DataW H × List MemPlace} (ht : P.underlying t = some (.array n e)) (he : P.underlying e = some (.int k)) (hc : P.cellsOf e = 1) (hct : P.cellsOf t = n)
    (h : DataW.trod enc P w base spare held fuel t cs = some x) : cs.length = n ∧ ∀ i, i < n → ∃ z, cs[i]? = some (.int k z) ∧ (Lit.int k z).wf = true := by
  obtain ⟨xs, m, _, _, hl, hxl, hi⟩ := DataW.trod_array ht h
  rw [hct] at hl
  refine ⟨hl, fun i hin => ?_⟩
  have h1 := hi i hin
  rw [hc, Nat.mul_one, List.getElem?_eq_getElem (by omega)] at h1
  obtain ⟨z, hz, _, hw⟩ := DataW.trod_int he h1
  refine ⟨z, ?_, hw⟩
  have := congrArg (·[0]?) hz
  simpa [List.getElem?_take, List.getElem?_drop] using this

theorem trod_arrs {t e q n : Nat} {k : IntKind} (ht : P.underlying t = some (.slice e)) (he : P.underlying e = some (.array n q)) (hq : P.underlying q = some (.int k)) (hc : P.cellsOf q = 1) (hce : P.cellsOf e = n) (hb : 0 < P.bytesOf e) (hn0 : 0 < n)
    {a : Option Addr} {len cap : Nat} {d : DataW H} {p : List MemPlace} (hs : Sized P t d) (h : DataW.Trod enc P w 0 (fun _ => true) true t (.slice a len cap) d p) :
    ∃ zs : List Int, Sl w n a len cap (zs.map (Value.int k)) ∧ (∀ n ∈ zs, (Lit.int k n).wf = true) ∧ len ≤ reachBytes := by
  obtain ⟨fuel, hf⟩ := h
  rcases open_slice ht hf with ⟨hcs, _⟩ | ⟨x, l, c, m, g, D, Pl, hcs, _, hl, hm, hmm, hx, hel⟩
  · simp [Value.cells] at hcs
    obtain ⟨rfl, rfl, rfl⟩ := hcs
    exact ⟨[], Sl.empty w n, by simp, Nat.zero_le _⟩
  · simp [Value.cells] at hcs
    obtain ⟨rfl, rfl, rfl⟩ := hcs
    simp only [if_true] at hmm
    subst hmm
    have hd := congrArg Prod.fst hx
    simp only at hd
    subst hd
    obtain ⟨z1, z2⟩ := hs.slice ht
    have each : ∀ j, j < len * n → ∃ z, w.cell? (x.add j) = some (.int k z) ∧ (Lit.int k z).wf = true := by
      intro j hj
      have hi : j / n < len := (Nat.div_lt_iff_lt_mul hn0).2 hj
      obtain ⟨cs', h1, h2⟩ := hel (j / n) (by omega)
      rw [hce] at h1
      obtain ⟨_, hcl, hat⟩ := World.cells?_some h1
      have hr : j % n < n := Nat.mod_lt _ hn0
      obtain ⟨z, hz, hwz⟩ := (trod_arr he hq hc hce h2).2 (j % n) hr
      refine ⟨z, ?_, hwz⟩
      have := hat (j % n) hr
      rw [sl_add, Nat.div_add_mod'] at this
      rw [this, hz]
    obtain ⟨Z, hZ⟩ := choose_lt each
    refine ⟨(List.range (len * n)).map Z, ⟨by simp, hl, hm, (fun h => by cases h), ?_⟩, ?_, ?_⟩
    · intro q hq j u hj
      cases hq
      have hlt : j < len * n := by have := (List.getElem?_eq_some_iff.1 hj).1; simpa using this
      rw [(hZ j hlt).1]
      simp [hlt] at hj
      rw [hj]
    · intro z hz
      obtain ⟨i, hi, rfl⟩ := List.mem_map.1 hz
      exact (hZ i (List.mem_range.1 hi)).2
    · simp only [List.length_map, List.length_range] at z1
      exact Nat.le_trans (Nat.le_trans (Nat.le_add_right _ _) (Nat.le_mul_of_pos_right _ hb)) z1
theorem bytes_of_wf {zs : List Int} (h : ∀ n ∈ zs, (Lit.int .u8 n).wf = true) : ∃ l : List UInt8, l.map B8 = zs.map (Value.int .u8) := by
  refine ⟨zs.map fun n => UInt8.ofNat n.toNat, ?_⟩
  rw [List.map_map]
  apply List.map_congr_left
  intro n hn
  have hb : 0 ≤ n ∧ n ≤ 255 := bounds_u8 (h n hn)
  show Value.int .u8 ((UInt8.ofNat n.toNat).toNat : Int) = _
  rw [UInt8.toNat_ofNat']
  congr 1
  omega
end
end Go.Dx
end

/- the text BL1 -/
section
/- Chapter 06: the walk of TableAlways. -/
namespace Go.Proofs.Ytkjcbneanaeleaa
open Go.RowKit Go.Dx
set_option maxRecDepth 100000 in
set_option maxHeartbeats 4000000 in
theorem walk_TableAlways (n : Int) (l : List Int) (a : Option Addr) (ln lc : Nat) (lang : Int) (num : Bool) (w : World) (hs : Sl w 1 a ln lc (l.map I64)) (hl : ∀ x ∈ l, -9223372036854775808 ≤ x ∧ x ≤ 9223372036854775807)
    (hn : -9223372036854775808 ≤ n ∧ n ≤ 9223372036854775807) (hlang : -9223372036854775808 ≤ lang ∧ lang ≤ 9223372036854775807) :
    Calls Try.prog 5 #[.int .i64 n, .slice a ln lc, .int .i64 lang, .bool num] w fun e w' => e = .returned (.bool true) ∧ Below w.heap.size w w' := by
  obtain ⟨r2, hr2, hA⟩ := around_any lang 2 2 w rfl hlang.1 hlang.2 (by decide) (by decide)
  obtain ⟨S, HSS⟩ : ∃ S, Hid (symsL l = S) := ⟨_, hide rfl⟩
  have hSok := symsL_ok l
  rw [HSS.out] at hSok
  have hS24 := hSok.2
  have HSP := hide hSok.1
  have hS24' : S.length ≤ 1000000 := by omega
  have HA := hide hA
  clear hSok hA hlang
  go_enter Try.func5, Try.ntmps5
  go_wp2_with fail
  refine (ref_Tables n hn.1 hn.2 w).mono ?_
  rintro e w1 ⟨H, t, rfl, hT, hG, hb1⟩
  have HG := hide hG
  clear hG
  have Hm := hide hT
  clear hT
  obtain ⟨⟨a0, n0, c0⟩, ⟨a1, n1, c1⟩, ps0, ps1, ⟨ad, nd, cd⟩, ⟨ac, nc, cc⟩, ⟨an, nn, cn⟩, ⟨af, nf, cf⟩, ⟨aw, nw, cw⟩⟩ := H
  unfold TH.v
  simp only [hdv]
  have Y1 := Box.new w1 28 #[.slice a0 n0 c0, .slice a1 n1 c1, .slice ad nd cd, .slice ac nc cc, .slice an nn cn, .slice af nf cf, .slice aw nw cw]
  have hbY := blo w1 (.cells #[.slice a0 n0 c0, .slice a1 n1 c1, .slice ad nd cd, .slice ac nc cc, .slice an nn cn, .slice af nf cf, .slice aw nw cw] 28)
  go_wp2_with fail
  generalize w1.alloc (.cells _ 28) = w2 at *
  obtain ⟨H, hH⟩ : ∃ H : TH, H = ⟨(a0, n0, c0), (a1, n1, c1), ps0, ps1, (ad, nd, cd), (ac, nc, cc), (an, nn, cn), (af, nf, cf), (aw, nw, cw)⟩ := ⟨_, rfl⟩
  have hX2 : Box w2 w1.heap.size 28 (tcells H) := by rw [hH]; exact Y1
  have hT2 : TaIs w2 H t := by rw [hH]; exact Hm.out.below hbY
  have hB2 := hb1.trans (hbY.mono hb1.size)
  clear hH Hm hbY hb1
  generalize w1.heap.size = gt at *
  refine (ref_Syms l hl a ln lc w2 (hs.below hB2)).mono ?_
  rintro e w3 ⟨a3, c3, rfl, hO3, hb3⟩
  rw [HSS.out] at hO3 ⊢
  have hX3 := hX2.under hb3
  have hT3 := hT2.below hb3
  have hB3 := hB2.trans (hb3.mono hB2.size)
  have hS3 := hO3.sl
  clear hO3 hX2 hT2 hB2 hb3 hs hn hl
  go_wp2_with fail
  go_loopg [11] S.length (fun gh v w' => ∃ i : Nat, i ≤ S.length ∧ gh = S.length - i ∧ v = .int .i64 (i : Int) ∧ Below w3.heap.size w3 w')
  case atStart => exact ⟨0, by omega, by omega, rfl, Below.refl _ _⟩
  case round =>
    obtain ⟨i, hi, hgi, rfl, hb⟩ := hrel
    have HGI := hide hgi
    clear hgi
    by_cases hil : i < S.length
    · obtain ⟨x, hx⟩ : ∃ x, S[i]? = some x := ⟨_, List.getElem?_eq_getElem hil⟩
      obtain ⟨bS, oS, hab, hbS, xl, xc⟩ := sy_cells hS3 hx
      subst hab
      obtain ⟨s, hsd⟩ : ∃ s : St, s = ⟨(r2 : Int), num, false⟩ := ⟨_, rfl⟩
      have hrl : s.lang = 0 ∨ s.lang = 1 := by rw [hsd]; show (r2 : Int) = 0 ∨ (r2 : Int) = 1; omega
      have hpx := HSP.out x (List.mem_of_getElem? hx)
      have HST : ∀ s' : St, (s'.lang = 0 ∨ s'.lang = 1) → Hid (stepsL t s' S (i : Int) = nextL t s' S i x) := fun s' h => hide (Go.Dx.steps_at HG.out.ok h (plain_good HSP.out) hx)
      obtain ⟨L, HL⟩ : ∃ L, Hid (nextL t s S i x = L) := ⟨_, hide rfl⟩
      have hL0 : L.length ≠ 0 := by rw [← HL.out]; exact fun e => next_some HG.out s hx hpx (List.length_eq_zero_iff.1 e)
      have HOK : Hid (∀ st ∈ L, StepOk t S i x st) := hide (by rw [← HL.out]; exact next_ok HG.out s hx hpx)
      have HLs : Hid (stepsL t s S (i : Int) = L) := hide (by rw [(HST s hrl).out, HL.out])
      have HSTH := hide HST
      have HXL := hide xl
      have HRL := hide hrl
      have HXX := hide hx
      have hlx : x.lang = 0 ∨ x.lang = 1 := by
        unfold plainSy symOk at hpx
        simp only [Bool.and_eq_true, Bool.or_eq_true, decide_eq_true_eq] at hpx
        exact hpx.1.1
      have HLX := hide hlx
      have HPX := hide hpx
      clear HST xl hrl hx hlx hpx
      have d1 : decide (i < S.length) = true := decide_eq_true hil
      have d1' : decide ((i : Int) < (S.length : Int)) = true := decide_eq_true (by omega)
      have hXr := hX3.under hb
      have hTr := hT3.below hb
      have hSr := hS3.below hb
      have hY := Box.new wr 47 #[.int .i64 (r2 : Int), .bool num, .bool false]
      have al := blo wr (.cells #[.int .i64 (r2 : Int), .bool num, .bool false] 47)
      have HSD := hide hsd
      clear hsd
      have hXw := hXr.under al
      have hTw := hTr.below al
      have hSw := hSr.below al
      have hY : Box (wr.alloc (.cells #[.int .i64 (r2 : Int), .bool num, .bool false] 47)) wr.heap.size 47 (scells s) := by rw [HSD.out]; exact hY
      have hbw := hb.trans (al.mono hb.size)
      clear al hXr hTr hSr hb
      go_wp2_with (first
        | (go_at_call 20; refine (HA.out _).mono ?_; rintro e wz ⟨rfl, rfl⟩)
        | (with_reducible refine load_struct 31 28 _ 7 size_tables _ Try.underlying28 ⟨gt, 0, none⟩ rfl (tcells H) rfl (fun j u hj => by rw [Addr.add_lit, Nat.zero_add]; exact hXw.at_ hj) ?_)
        | (with_reducible refine load_struct 32 47 _ 3 size_state _ Try.underlying47 ⟨wr.heap.size, 0, none⟩ rfl (scells s) rfl (fun j u hj => by rw [Addr.add_lit, Nat.zero_add]; exact hY.at_ hj) ?_))
      generalize wr.alloc (.cells _ 47) = w4 at *
      refine (steps_of H t s S (i : Int) HLs.out _ _ _ hS24' _ hTw hSw).mono ?_
      rintro e w5 ⟨aP0, cP, psP, rfl, hP, hb5⟩
      have hX5 := hXw.under hb5
      have hT5 := hTw.below hb5
      have hS5 := hSw.below hb5
      have hb35 := hbw.trans (hb5.mono hbw.size)
      clear hXw hTw hSw hbw hY hb5
      have hLm := Nat.le_trans hP.top.le hP.top.cap
      unfold maxLen at hLm
      have dL : ((L.length : Int) == 0) = false := beq_eq_false_iff_ne.2 (by omega)
      have dL2 : decide ((L.length : Int) = 0) = false := decide_eq_false (by omega)
      go_wp2_with fail
      go_loopg [14] L.length (fun gh v w' => ∃ k : Nat, k ≤ L.length ∧ gh = L.length - k ∧ v = .int .i64 (k : Int) ∧ Below w5.heap.size w5 w')
      case atStart => exact ⟨0, by omega, by omega, rfl, Below.refl _ _⟩
      case round =>
        obtain ⟨k, hk, hgk, rfl, hbk⟩ := hrel
        have HGK := hide hgk
        clear hgk
        have hb3r := hb35.trans (hbk.mono hb35.size)
        by_cases hkl : k < L.length
        · obtain ⟨st, hst⟩ : ∃ st, L[k]? = some st := ⟨_, List.getElem?_eq_getElem hkl⟩
          obtain ⟨p, hp, hpst⟩ := st_get hP.eq hst
          have hok := HOK.out st (List.mem_of_getElem? hst)
          have hPr := hP.below hbk
          have hrow := hPr.row p (List.mem_of_getElem? hp)
          obtain ⟨bP, oP, hab, hbP, x0, x1, x2, x3, x4, x5⟩ := st_cells hPr hp
          subst hab
          subst hpst
          have HDST : Hid (∀ (j : Nat) (u : Value), (scells p.1.dst)[j]? = some u → wr.cell? ⟨bP, oP + k * 6 + j, none⟩ = some u) := hide (by
            intro j u hj
            rcases j with _ | _ | _ | j
            · cases hj; exact x0
            · cases hj; exact x1
            · cases hj; exact x2
            · cases hj)
          obtain ⟨m, hm⟩ : ∃ m : Nat, p.1.len = (m : Int) := ⟨p.1.len.toNat, by have := hok.pos; omega⟩
          rw [hm] at x3
          have hml : i + m ≤ S.length := by have := hok.le; rw [hm] at this; omega
          have hcl : p.2.2.1 ≠ 0 := by
            have h1 := hrow.n_eq
            intro e
            rw [e] at h1
            exact hok.cells (List.length_eq_zero_iff.1 h1.symm)
          have HZ := hide hok.zero
          have HMM := hide hm
          clear hm hok hst hp hrow x1 x2
          have e1 : decide (k < L.length) = true := decide_eq_true hkl
          have e1' : decide ((k : Int) < (L.length : Int)) = true := decide_eq_true (by omega)
          have e2 : decide ((m : Int) < 0) = false := decide_eq_false (by omega)
          have e3 : decide ((S.length : Int) < (i : Int) + (m : Int)) = false := decide_eq_false (by omega)
          have e4 : ((p.2.2.1 : Int) == 0) = false := beq_eq_false_iff_ne.2 (by omega)
          by_cases hm0 : m = 0
          · obtain ⟨z1, z2, z3⟩ := HZ.out (by rw [HMM.out, hm0]; rfl)
            obtain ⟨L2, HN2⟩ : ∃ L2, Hid (nextL t p.1.dst S i x = L2) := ⟨_, hide rfl⟩
            have HL2 : Hid (stepsL t p.1.dst S (i : Int) = L2) := hide (by rw [(HSTH.out p.1.dst (by rw [z1]; exact HLX.out)).out, HN2.out])
            rw [HN2.out] at z2 z3
            have hL20 : L2.length ≠ 0 := fun e => z2 (List.length_eq_zero_iff.1 e)
            have HQ2 := hide z3
            have z1' : p.1.dst.lang = x.lang := z1
            have HZ1 := hide z1
            subst hm0
            have hXr := hX5.under hbk
            have hTr := hT5.below hbk
            have hSr := hS5.below hbk
            clear z1 z1' z2 z3
            go_wp2_with fail
            refine wp_region_free 9 [⟨0, 94, [94], fun vs _ => vs = [H.v]⟩, ⟨1, 95, [95], fun vs _ => vs = [.slice (some ⟨bP, oP, none⟩) L.length cP]⟩, ⟨2, 96, [96], fun vs _ => vs = [.int .i64 (k : Int)]⟩, ⟨3, 97, [97], fun vs _ => vs = [.pointer (some ⟨bP, oP + k * 6, none⟩)]⟩, ⟨4, 98, [98], fun vs _ => vs = [.pointer (some ⟨bP, oP + k * 6, none⟩)]⟩, ⟨5, 99, [99], fun vs _ => vs = [sv p.1.dst]⟩, ⟨6, 100, [100], fun vs _ => vs = [.slice (some ⟨bS, oS, none⟩) S.length c3]⟩, ⟨7, 101, [101], fun vs _ => vs = [.int .i64 (i : Int)]⟩, ⟨8, 102, [102], FStn L2.length L2⟩] (by kernel_rfl) (by kernel_rfl) ?_ ?_ ?_
            · simp only [All]
              refine ⟨fun _ _ _ _ h => h, fun _ _ _ _ h => h, fun _ _ _ _ h => h, fun _ _ _ _ h => h, fun _ _ _ _ h => h, fun _ _ _ _ h => h, fun _ _ _ _ h => h, fun _ _ _ _ h => h, ?_, trivial⟩
              · exact fun _ _ _ hb h => h.below hb
            · simp only [All]
              refine ⟨?_, ?_, ?_, ?_, ?_, ?_, ?_, ?_, ?_, trivial⟩
              · intro o ho a' w' hb hfr hdep
                obtain rfl := Option.some.inj ho
                have g9 : a'.tmps[9]?.getD undef = .pointer (some ⟨gt, 0, none⟩) := by have h := hfr 9 (by kernel_rfl); simpa using h
                clear ho hfr hdep
                refine load_struct 94 28 _ 7 size_tables _ Try.underlying28 ⟨gt, 0, none⟩ (by show a'.tmps.getD 9 undef = _; simpa using g9) (tcells H) rfl (fun j u hj => by rw [Addr.add_lit, Nat.zero_add]; exact (hXr.under hb).at_ hj) ?_
                exact ⟨rfl, _, rfl, Below.refl _ _, rfl⟩
              · intro o ho a' w' hb hfr hdep
                obtain rfl := Option.some.inj ho
                have g13 : a'.tmps[13]?.getD undef = .slice (some ⟨bP, oP, none⟩) L.length cP := by have h := hfr 13 (by kernel_rfl); simpa using h
                clear ho hfr hdep
                go_wp2_with fail
                exact ⟨rfl, _, rfl, Below.refl _ _, rfl⟩
              · intro o ho a' w' hb hfr hdep
                obtain rfl := Option.some.inj ho
                have g14 : a'.tmps[14]?.getD undef = .int .i64 (k : Int) := by have h := hfr 14 (by kernel_rfl); simpa using h
                clear ho hfr hdep
                go_wp2_with fail
                exact ⟨rfl, _, rfl, Below.refl _ _, rfl⟩
              · intro o ho a' w' hb hfr hdep
                obtain rfl := Option.some.inj ho
                have g95 : a'.tmps[95]?.getD undef = .slice (some ⟨bP, oP, none⟩) L.length cP := by have h := hdep 1 _ rfl (by kernel_rfl); simpa using h
                have g96 : a'.tmps[96]?.getD undef = .int .i64 (k : Int) := by have h := hdep 2 _ rfl (by kernel_rfl); simpa using h
                clear ho hfr hdep
                go_wp2_with fail
                exact ⟨rfl, _, rfl, Below.refl _ _, rfl⟩
              · intro o ho a' w' hb hfr hdep
                obtain rfl := Option.some.inj ho
                have g97 : a'.tmps[97]?.getD undef = .pointer (some ⟨bP, oP + k * 6, none⟩) := by have h := hdep 3 _ rfl (by kernel_rfl); simpa using h
                clear ho hfr hdep
                go_wp2_with fail
                exact ⟨rfl, _, rfl, Below.refl _ _, rfl⟩
              · intro o ho a' w' hb hfr hdep
                obtain rfl := Option.some.inj ho
                have g98 : a'.tmps[98]?.getD undef = .pointer (some ⟨bP, oP + k * 6, none⟩) := by have h := hdep 4 _ rfl (by kernel_rfl); simpa using h
                clear ho hfr hdep
                refine load_struct 99 47 _ 3 size_state _ Try.underlying47 ⟨bP, oP + k * 6, none⟩ (by show a'.tmps.getD 98 undef = _; simpa using g98) (scells p.1.dst) rfl (fun j u hj => by rw [Addr.add_lit]; exact cell_below (HDST.out j u hj) hb) ?_
                exact ⟨rfl, _, rfl, Below.refl _ _, rfl⟩
              · intro o ho a' w' hb hfr hdep
                obtain rfl := Option.some.inj ho
                have g10 : a'.tmps[10]?.getD undef = .slice (some ⟨bS, oS, none⟩) S.length c3 := by have h := hfr 10 (by kernel_rfl); simpa using h
                clear ho hfr hdep
                go_wp2_with fail
                exact ⟨rfl, _, rfl, Below.refl _ _, rfl⟩
              · intro o ho a' w' hb hfr hdep
                obtain rfl := Option.some.inj ho
                have g11 : a'.tmps[11]?.getD undef = .int .i64 (i : Int) := by have h := hfr 11 (by kernel_rfl); simpa using h
                clear ho hfr hdep
                go_wp2_with fail
                exact ⟨rfl, _, rfl, Below.refl _ _, rfl⟩
              · intro o ho a' w' hb hfr hdep
                obtain rfl := Option.some.inj ho
                have g94 : a'.tmps[94]?.getD undef = H.v := by have h := hdep 0 _ rfl (by kernel_rfl); simpa using h
                have g99 : a'.tmps[99]?.getD undef = sv p.1.dst := by have h := hdep 5 _ rfl (by kernel_rfl); simpa using h
                have g100 : a'.tmps[100]?.getD undef = .slice (some ⟨bS, oS, none⟩) S.length c3 := by have h := hdep 6 _ rfl (by kernel_rfl); simpa using h
                have g101 : a'.tmps[101]?.getD undef = .int .i64 (i : Int) := by have h := hdep 7 _ rfl (by kernel_rfl); simpa using h
                clear ho hfr hdep
                go_wp2_with fail
                refine (steps_of H t p.1.dst S (i : Int) HL2.out _ _ _ hS24' _ (hTr.below hb) (hSr.below hb)).mono ?_
                rintro e w2 ⟨a, c, ps, rfl, h1, h2⟩
                go_wp2_with fail
                exact ⟨rfl, _, rfl, h2, a, c, ps, rfl, h1⟩
            · intro g w9 hb9 hp9
              obtain ⟨aF, cF, psF, p102, hF⟩ := hp9 8 _ rfl
              clear hp9
              simp at p102
              simp only [List.drop_succ_cons, List.drop_zero, List.map_cons, List.map_nil, putAll, Act.put, List.setIfInBounds_toArray, List.set_cons_succ, List.set_cons_zero, List.cons_append, List.nil_append, p102]
              clear p102
              have hbk9 := hbk.trans (hb9.mono hbk.size)
              have hb39 := hb3r.trans (hb9.mono hb3r.size)
              have HF := hide hF
              have x0 := cell_below x0 hb9
              have xl := cell_below HXL.out hb39
              have z1' := HZ1.out
              have f1 : (x.lang != x.lang) = false := by simp
              have f2 : ((L2.length : Int) == 0) = false := beq_eq_false_iff_ne.2 (by omega)
              rw [z1'] at x0
              clear z1'
              go_wp2_with fail
              go_quiet (fail)
              go_wp2_with fail
              have hLm2 := Nat.le_trans hF.top.le hF.top.cap
              unfold maxLen at hLm2
              go_loopg [16] L2.length (fun gh v w' => ∃ j : Nat, j ≤ L2.length ∧ gh = L2.length - j ∧ v = .int .i64 (j : Int) ∧ Below w9.heap.size w9 w')
              case atStart => exact ⟨0, by omega, by omega, rfl, belowN (Below.refl _ _) _⟩
              case round =>
                obtain ⟨j, hj, hgj, rfl, hbj⟩ := hrel
                have HGJ := hide hgj
                clear hgj
                by_cases hjl : j < L2.length
                · obtain ⟨s2, hs2⟩ : ∃ s2, L2[j]? = some s2 := ⟨_, List.getElem?_eq_getElem hjl⟩
                  obtain ⟨p2, hp2, hp2s⟩ := st_get HF.out.eq hs2
                  have hFr := HF.out.below hbj
                  obtain ⟨b2, o2, hab2, hb2, _, _, _, y3, _, _⟩ := st_cells hFr hp2
                  subst hab2
                  have hne : p2.1.len ≠ 0 := by rw [hp2s]; exact HQ2.out s2 (List.mem_of_getElem? hs2)
                  have g1 : (p2.1.len == 0) = false := beq_eq_false_iff_ne.2 hne
                  have g2 : decide (j < L2.length) = true := decide_eq_true hjl
                  have g2' : decide ((j : Int) < (L2.length : Int)) = true := decide_eq_true (by omega)
                  clear hs2 hp2 hp2s hne hFr
                  go_wp2_with fail
                  go_roundg (L2.length - (j + 1))
                  case measure => have := HGJ.out; omega
                  case rel => exact ⟨j + 1, by omega, rfl, by go_num, hbj⟩
                · obtain rfl : j = L2.length := by omega
                  have hbz := hbk9.trans (hbj.mono hbk9.size)
                  go_wp2_with fail
                  go_roundg (L.length - (k + 1))
                  case measure => have := HGK.out; omega
                  case rel => exact ⟨k + 1, by omega, rfl, by go_num, hbz⟩
          · have e5 : decide ((0 : Int) < (m : Int)) = true := decide_eq_true (by omega)
            go_wp2_with fail
            go_roundg (L.length - (k + 1))
            case measure => have := HGK.out; omega
            case rel => exact ⟨k + 1, by omega, rfl, by go_num, hbk⟩
        · obtain rfl : k = L.length := by omega
          go_wp2_with fail
          go_roundg (S.length - (i + 1))
          case measure => have := HGI.out; omega
          case rel => exact ⟨i + 1, by omega, rfl, by go_num, hb3r⟩
    · obtain rfl : i = S.length := by omega
      go_wp2_with fail
      refine (law06_lives wr).mono ?_
      rintro e w18 ⟨rfl, hb18⟩
      go_wp2_with fail
      go_ret
      have hbz := hB3.trans (hb.mono hB3.size)
      exact ⟨rfl, hbz.trans (hb18.mono hbz.size)⟩
end Go.Proofs.Ytkjcbneanaeleaa
end
