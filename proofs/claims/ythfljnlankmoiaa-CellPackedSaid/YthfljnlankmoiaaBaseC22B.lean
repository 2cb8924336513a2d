/- The contracts of the functions that the law reaches, joined into one text. -/
import Derived.Test.YthfljnlankmoiaaBaseC22A
import Derived.IntWalk
import Derived.StillTailTactics
import Derived.Laws.CopyRow
import Derived.Deep.OwnRows
import Derived.StillTail
import Derived.Deep.Quiet

/- the text C5 -/
section
namespace Go.Proofs.Ythfljnlankmoiaa
open Go.RowKit Go.Dx

theorem bitN_le {x : Int} (h : 1 ≤ x ∧ x ≤ 6) : bitN x ≤ 32 := by
  unfold bitN
  exact Nat.pow_le_pow_right (n := 2) (j := 5) (by omega) (by omega)

set_option maxHeartbeats 400000 in
theorem ref_Of (l : List Int) (a : Option Addr) (n c : Nat) (w : World) (hs : Sl w 1 a n c (l.map I64)) :
    Calls Try.prog 10 #[.slice a n c] w fun e w' => e = .returned (ROf (ofL l)) ∧ ∃ n, w' = w.drewN n := by
  obtain rfl := hs.n_eq
  have hm1 := Nat.le_trans hs.le hs.cap
  unfold maxLen at hm1
  cases hd : l.any noDot
  · have HD := hide hd
    clear hd
    go_enter Try.func10, Try.ntmps10
    go_wp2_with fail
    go_loopg [4] l.length (fun g i w' => ∃ k : Nat, k ≤ l.length ∧ g = l.length - k ∧ i = .int .i64 k ∧ w = w')
    case atStart => exact ⟨0, by omega, by omega, rfl, rfl⟩
    case round =>
      obtain ⟨k, hk, hg, rfl, rfl⟩ := hrel
      have HG := hide hg
      clear hg
      by_cases hkl : k < l.length
      · obtain ⟨x, hx⟩ : ∃ x, l[k]? = some x := ⟨l[k], by simp [hkl]⟩
        have HH := hide hx
        have hx1 := any_no HD.out x (List.mem_of_getElem? hx)
        obtain ⟨hx2, hx3⟩ := hx1
        obtain ⟨b1, o1, rfl, hb1, hc1⟩ := hs.ex (by simp; omega)
        have hcl : w.cell? ⟨b1, o1 + k, none⟩ = some (.int .i64 x) := hc1 k _ (by rw [List.getElem?_map, hx]; rfl)
        clear hx hc1
        go_wp2_with (fail)
        go_roundg (l.length - (k + 1))
        case measure => have := HG.out; omega
        case rel => exact ⟨k + 1, by omega, rfl, by go_num, rfl⟩
      · obtain rfl : k = l.length := by omega
        go_wp2
        go_loopg [5, 6] l.length (fun g s i w' => ∃ (k m n : Nat), k ≤ l.length ∧ g = l.length - k ∧ (l.take k).Nodup ∧ m = sumB (l.take k) ∧ s = .int .i64 m ∧ i = .int .i64 k ∧ w' = w.drewN n)
        case atStart => exact ⟨0, 0, 0, by omega, by omega, by simp, rfl, rfl, rfl, rfl⟩
        case round =>
          obtain ⟨k, m, nq, hk, hg, ht, hm, rfl, rfl, rfl⟩ := hrel
          have hm2 : m < 64 := by rw [hm]; exact (sumB_ok (l.take k) (fun y hy => any_no HD.out y (List.mem_of_mem_take hy)) ht).1
          have HG := hide hg
          have HT := hide ht
          have HM := hide hm
          clear hg ht hm
          by_cases hkl : k < l.length
          · obtain ⟨x, hx⟩ : ∃ x, l[k]? = some x := ⟨l[k], by simp [hkl]⟩
            have HH := hide hx
            have hx1 := any_no HD.out x (List.mem_of_getElem? hx)
            have hbl := bitN_le hx1
            have hbit := fun w => ref_bit x hx1 w
            obtain ⟨B, hB⟩ : ∃ B : Nat, Hid (bitN x = B) := ⟨_, rfl⟩
            rw [hB.out] at hbit hbl
            obtain ⟨b1, o1, rfl, hb1, hc1⟩ := hs.ex (by simp; omega)
            have hcl : w.cell? ⟨b1, o1 + k, none⟩ = some (.int .i64 x) := hc1 k _ (by rw [List.getElem?_map, hx]; rfl)
            have HC := hide hc1
            clear hx hc1
            go_wp2_with fail
            go_loopg [7] k (fun g i w' => ∃ (j n : Nat), j ≤ k ∧ g = k - j ∧ x ∉ l.take j ∧ i = .int .i64 j ∧ w' = w.drewN n)
            case atStart => exact ⟨0, nq, by omega, by omega, by simp, rfl, rfl⟩
            case round =>
              obtain ⟨j, nr, hj, hg2, ht2, rfl, rfl⟩ := hrel
              have HG2 := hide hg2
              have HT2 := hide ht2
              clear hg2 ht2
              by_cases hjk : j < k
              · obtain ⟨y, hy⟩ : ∃ y, l[j]? = some y := ⟨l[j], by simp⟩
                have hcy : w.cell? ⟨b1, o1 + j, none⟩ = some (.int .i64 y) := HC.out j _ (by rw [List.getElem?_map, hy]; rfl)
                have HY := hide hy
                have hjl : j < l.length := by omega
                clear hy
                by_cases hxy : y = x
                · subst hxy
                  have hq : (y == y) = true := by simp
                  have HN : Hid (¬ l.Nodup) := by
                    intro h
                    have h1 := h.sublist (List.take_sublist (k + 1) l)
                    rw [take_snoc HH.out] at h1
                    exact (nodup_snoc.1 h1).2 (List.mem_of_getElem? (i := j) (by rw [List.getElem?_take_of_lt hjk]; exact HY.out))
                  go_wp2
                  go_quiet (fail)
                  go_wp2
                  go_ret2
                  exact ⟨by rw [ofL_twice HD.out HN.out]; rfl, _, by first | rfl | exact World.drewN_drewN _ _ _⟩
                · have hq : (y == x) = false := beq_eq_false_iff_ne.2 hxy
                  have HN : Hid (x ∉ l.take (j + 1)) := by
                    show ¬ _
                    rw [take_snoc HY.out, List.mem_append, List.mem_singleton]
                    rintro (h | h)
                    · exact HT2.out h
                    · exact hxy h.symm
                  clear hxy
                  go_wp2
                  go_quiet (fail)
                  go_wp2
                  go_roundg (k - (j + 1))
                  case measure => have := HG2.out; omega
                  case rel => exact ⟨j + 1, _, by omega, rfl, HN.out, by go_num, by first | rfl | exact World.drewN_drewN _ _ _⟩
              · obtain rfl : j = k := by omega
                have HN : Hid ((l.take (j + 1)).Nodup) := by
                  show List.Nodup _
                  rw [take_snoc HH.out]
                  exact nodup_snoc.2 ⟨HT.out, HT2.out⟩
                have HS : Hid (m + B = sumB (l.take (j + 1))) := by
                  show _ = _
                  rw [take_snoc HH.out, sumB_snoc, HM.out, hB.out]
                go_wp2_with (go_at_call 50; refine (hbit _).mono ?_; rintro e w2 ⟨rfl, rfl⟩)
                go_roundg (l.length - (j + 1))
                case measure => have := HG.out; omega
                case rel => exact ⟨j + 1, m + B, _, by omega, rfl, HN.out, HS.out, by go_num, by go_num, rfl⟩
          · obtain rfl : k = l.length := by omega
            go_wp2
            go_ret2
            have h := HM.out
            have h2 := HT.out
            rw [List.take_length] at h h2
            exact ⟨by rw [ofL_ok HD.out h2, ← h]; first | rfl | go_num, _, rfl⟩
  · have HD := hide hd
    clear hd
    go_enter Try.func10, Try.ntmps10
    go_wp2_with fail
    go_loopg [4] l.length (fun g i w' => ∃ k : Nat, k ≤ l.length ∧ g = l.length - k ∧ (l.take k).any noDot = false ∧ i = .int .i64 k ∧ w = w')
    case atStart => exact ⟨0, by omega, by omega, rfl, rfl, rfl⟩
    case round =>
      obtain ⟨k, hk, hg, ht, rfl, rfl⟩ := hrel
      have HG := hide hg
      have HT := hide ht
      clear hg ht
      by_cases hkl : k < l.length
      · obtain ⟨x, hx⟩ : ∃ x, l[k]? = some x := ⟨l[k], by simp [hkl]⟩
        have HH := hide hx
        obtain ⟨b1, o1, rfl, hb1, hc1⟩ := hs.ex (by simp; omega)
        have hcl : w.cell? ⟨b1, o1 + k, none⟩ = some (.int .i64 x) := hc1 k _ (by rw [List.getElem?_map, hx]; rfl)
        clear hx hc1
        have hsp : x < 1 ∨ (¬ x < 1 ∧ 6 < x) ∨ (¬ x < 1 ∧ ¬ 6 < x) := by omega
        rcases hsp with h1 | ⟨h1, h2⟩ | ⟨h1, h2⟩
        · go_wp2_with (fail)
          go_ret2
          exact ⟨by rw [ofL_arg HD.out]; rfl, 0, rfl⟩
        · go_wp2_with (fail)
          go_ret2
          exact ⟨by rw [ofL_arg HD.out]; rfl, 0, rfl⟩
        · have HN := hide (any_take_no HH.out HT.out ((noDot_iff x).2 ⟨by omega, by omega⟩))
          go_wp2_with (fail)
          go_roundg (l.length - (k + 1))
          case measure => have := HG.out; omega
          case rel => exact ⟨k + 1, by omega, rfl, HN.out, by go_num, rfl⟩
      · exfalso
        have h1 := HT.out
        rw [List.take_of_length_le (by omega), HD.out] at h1
        cases h1
end Go.Proofs.Ythfljnlankmoiaa
end

/- the text C6 -/
section
namespace Go.Proofs.Ythfljnlankmoiaa
open Go.RowKit Go.Dx

def flipD (x : Int) : Int := if x ≤ 3 then x + 3 else x - 3
theorem flip_lo {x : Int} (h : x ≤ 3) : flipD x = x + 3 := if_pos h
theorem flip_hi {x : Int} (h : ¬ x ≤ 3) : flipD x = x - 3 := if_neg h
theorem dots_mem {u : UInt8} {k : Nat} {x : Int} (h : x ∈ dotsTo u k) : 1 ≤ x ∧ x ≤ k := by
  unfold dotsTo at h
  obtain ⟨j, hj, rfl⟩ := List.mem_map.1 h
  have := List.mem_range.1 (List.mem_filter.1 hj).1
  omega
theorem back_of_fin : ∀ n : Fin 256, ofL ((dotsL (UInt8.ofNat n.val)).map flipD) = ((backC (UInt8.ofNat n.val)).toNat, 0) := by decide +kernel
theorem of_u8 (u : UInt8) : UInt8.ofNat u.toNat = u := by simp
theorem back_of (u : UInt8) : ofL ((dotsL u).map flipD) = ((backC u).toNat, 0) := by
  have h := back_of_fin ⟨u.toNat, u.toNat_lt⟩
  rw [of_u8] at h; exact h

set_option maxHeartbeats 400000 in
theorem ref_Back (u : UInt8) (w : World) : Calls Try.prog 15 #[.int .u8 (u.toNat : Int)] w fun e w' => e = .returned (.int .u8 ((backC u).toNat : Int)) ∧ Below w.heap.size w w' := by
  have HB := hide (back_of u)
  have hd := ref_Dots u w
  obtain ⟨l, HL⟩ : ∃ l, Hid (dotsL u = l) := ⟨_, rfl⟩
  rw [HL.out] at hd
  have hmem : ∀ x ∈ l, 1 ≤ x ∧ x ≤ 6 := by rw [← HL.out]; exact fun x h => dots_mem h
  have hl6 : l.length ≤ 6 := by rw [← HL.out]; exact dotsTo_len _ _
  have HBL : Hid (ofL (l.map flipD) = ((backC u).toNat, 0)) := by rw [← HL.out]; exact HB
  clear HB
  go_enter Try.func15, Try.ntmps15
  go_wp2_with (go_at_call 13; refine hd.mono ?_; rintro e w1 ⟨a1, c1, rfl, ho1, hb1⟩)
  have hs1 := ho1.sl
  go_loopg [3, 5] l.length (fun g x i w' => ∃ (k : Nat) (a : Option Addr) (c : Nat) (xs : List Int), k ≤ l.length ∧ g = l.length - k ∧ xs.length = k ∧ xs = (l.take k).map flipD ∧ i = .int .i64 k ∧ x = .slice a xs.length c ∧ Own w' w1.heap.size 3 1 a xs.length c (xs.map I64) ∧ Below w1.heap.size w1 w')
  case atStart => exact ⟨0, none, 0, [], by omega, by omega, rfl, rfl, rfl, rfl, Own.nil _ _ _ _, Below.refl _ _⟩
  case round =>
    obtain ⟨k, a2, c2, xs, hk, hg, hxl, hxs, rfl, rfl, hown, hb⟩ := hrel
    have HG := hide hg
    have HX := hide hxs
    have hle : xs.length ≤ 6 := by omega
    have HXL := hide hxl
    clear hg hxs hxl
    by_cases hkl : k < l.length
    · obtain ⟨x, hx⟩ : ∃ x, l[k]? = some x := ⟨l[k], by simp [hkl]⟩
      have HH := hide hx
      obtain ⟨hx1, hx6⟩ := hmem x (List.mem_of_getElem? hx)
      have HS : Hid ((l.take (k + 1)).map flipD = xs ++ [flipD x]) := by show _ = _; rw [take_snoc hx, List.map_append, HX.out]; rfl
      have hs2 := hs1.below hb
      clear hx
      by_cases h3 : x ≤ 3
      · have HF := hide (flip_lo h3)
        go_wp2_with (first
          | (with_reducible refine idx_i 18 _ _ _ _ _ l rfl hs2 _ _ k rfl rfl x HH.out ?_; intro b o hcell hbo)
          | (with_reducible refine idx_i 24 _ _ _ _ _ l rfl hs2 _ _ k rfl rfl x HH.out ?_; intro b2 o2 hcell2 hbo2)
          | (at_builtin; refine app_i rfl _ _ rfl w1 w1.heap.size _ _ _ _ rfl hown _ rfl (by omega) hb.size hb ?_; intro a' c' w' ho' hgr' hb'))
        go_roundg (l.length - (k + 1))
        case measure => have := HG.out; omega
        case rel => exact ⟨k + 1, a', c', xs ++ [x + 3], by omega, rfl, by rw [List.length_append, HXL.out]; rfl, by rw [HS.out, HF.out], by go_num, by rw [List.length_append]; rfl, by rw [List.length_append, List.map_append]; exact ho', hb'⟩
      · have HF := hide (flip_hi h3)
        go_wp2_with (first
          | (with_reducible refine idx_i 18 _ _ _ _ _ l rfl hs2 _ _ k rfl rfl x HH.out ?_; intro b o hcell hbo)
          | (with_reducible refine idx_i 32 _ _ _ _ _ l rfl hs2 _ _ k rfl rfl x HH.out ?_; intro b2 o2 hcell2 hbo2)
          | (at_builtin; refine app_i rfl _ _ rfl w1 w1.heap.size _ _ _ _ rfl hown _ rfl (by omega) hb.size hb ?_; intro a' c' w' ho' hgr' hb'))
        go_roundg (l.length - (k + 1))
        case measure => have := HG.out; omega
        case rel => exact ⟨k + 1, a', c', xs ++ [x - 3], by omega, rfl, by rw [List.length_append, HXL.out]; rfl, by rw [HS.out, HF.out], by go_num, by rw [List.length_append]; rfl, by rw [List.length_append, List.map_append]; exact ho', hb'⟩
    · obtain rfl : k = l.length := by omega
      have hof := ref_Of xs _ _ _ _ hown.sl
      have e : ofL xs = ((backC u).toNat, 0) := by rw [HX.out, List.take_length]; exact HBL.out
      rw [e] at hof
      clear e
      go_wp2_with (go_at_call 10; refine hof.mono ?_; rintro e w3 ⟨rfl, n3, rfl⟩)
      go_ret
      exact ⟨rfl, hb1.trans ((hb.mono hb1.size).trans ((Still.below n3).mono (Nat.le_trans hb1.size hb.size)))⟩
end Go.Proofs.Ythfljnlankmoiaa
end

/- the text C7 -/
section
namespace Go.Proofs.Ythfljnlankmoiaa
open Go.RowKit Go.Dx

set_option maxHeartbeats 400000 in
theorem ref_Few (l : List UInt8) (m : Nat) (a : Option Addr) (n c : Nat) (w : World) (hs : Sl w 1 a n c (l.map B8)) (hm : m ≤ 1000000) :
    Calls Try.prog 54 #[.slice a n c, .int .i64 m] w (Gives 5 1 (l.take m).length ((l.take m).map B8) w) := by
  obtain rfl := hs.n_eq
  have hcap := Nat.le_trans hs.le hs.cap
  unfold maxLen at hcap
  by_cases h : l.length ≤ m
  · have HE : Hid (l.take l.length = l.take m) := by show _ = _; rw [List.take_of_length_le h, List.take_length]
    have HL : Hid (l.length = (l.take m).length) := by show _ = _; rw [List.length_take]; omega
    go_enter Try.func54, Try.ntmps54
    go_wp2_with (first
      | (with_reducible refine cuthi_b 12 _ _ _ _ _ l rfl hs _ _ l.length rfl rfl (by omega) ?_; intro hcut)
      | (at_builtin; refine app_bs rfl _ _ rfl w w.heap.size _ _ _ _ rfl (Own.nil _ _ _ _) _ _ _ (l.take l.length) rfl hcut (by omega) (Nat.le_refl _) (Below.refl _ _) ?_; intro a' c' w' ho' hgr' hb'))
    go_ret
    rw [← HL.out]
    rw [HE.out] at ho'
    refine ⟨a', c', rfl, ?_, hb'⟩
    rw [Nat.zero_add, List.nil_append] at ho'
    exact ho'
  · have HL : Hid (m = (l.take m).length) := by show _ = _; rw [List.length_take]; omega
    go_enter Try.func54, Try.ntmps54
    go_wp2_with (first
      | (with_reducible refine cuthi_b 12 _ _ _ _ _ l rfl hs _ _ m rfl rfl (by omega) ?_; intro hcut)
      | (at_builtin; refine app_bs rfl _ _ rfl w w.heap.size _ _ _ _ rfl (Own.nil _ _ _ _) _ _ _ (l.take m) rfl hcut (by omega) (Nat.le_refl _) (Below.refl _ _) ?_; intro a' c' w' ho' hgr' hb'))
    go_ret
    rw [← HL.out]
    refine ⟨a', c', rfl, ?_, hb'⟩
    rw [Nat.zero_add, List.nil_append] at ho'
    exact ho'

set_option maxHeartbeats 400000 in
theorem law4_few (l : List UInt8) (m : Nat) (a : Option Addr) (n c : Nat) (w : World) (hs : Sl w 1 a n c (l.map B8)) (hm : m ≤ 1000000) :
    Calls Try.prog 17 #[.slice a n c, .int .i64 m] w (Gives 5 1 (l.take m).length ((l.take m).map B8) w) := by
  have h := ref_Few l m a n c w hs hm
  generalize l.take m = t at h ⊢
  go_enter Try.func17, Try.ntmps17
  go_wp2_with (go_at_call 54; refine h.mono ?_; rintro e w1 ⟨a1, c1, rfl, ho1, hb1⟩)
  go_ret
  exact ⟨a1, c1, rfl, ho1, hb1⟩
end Go.Proofs.Ythfljnlankmoiaa
end

/- the text C8 -/
section
namespace Go.Proofs.Ythfljnlankmoiaa
open Go.RowKit Go.Dx

abbrev Hd := Option Addr × Nat × Nat
def hv (h : Hd) : Value := .slice h.1 h.2.1 h.2.2
/-- A page: the slice of its lines, and each line. -/
structure Pg (w : World) (a : Option Addr) (n c : Nat) (hs : List Hd) (p : List (List UInt8)) : Prop where
  top : Sl w 1 a n c (hs.map hv)
  len : hs.length = p.length
  row : ∀ (i : Nat) (h : Hd) (r : List UInt8), hs[i]? = some h → p[i]? = some r → Sl w 1 h.1 h.2.1 h.2.2 (r.map B8)
theorem Pg.below {w w' : World} {a : Option Addr} {n c : Nat} {hs : List Hd} {p : List (List UInt8)} (h : Pg w a n c hs p) (hb : Below w.heap.size w w') : Pg w' a n c hs p :=
  ⟨h.top.below hb, h.len, fun i x r h1 h2 => (h.row i x r h1 h2).below hb⟩
theorem Pg.drew {w : World} {a : Option Addr} {n c : Nat} {hs : List Hd} {p : List (List UInt8)} (h : Pg w a n c hs p) : Pg w.drew a n c hs p :=
  ⟨h.top.drew, h.len, fun i x r h1 h2 => (h.row i x r h1 h2).drew⟩
theorem Pg.n_eq {w : World} {a : Option Addr} {n c : Nat} {hs : List Hd} {p : List (List UInt8)} (h : Pg w a n c hs p) : n = p.length := by rw [h.top.n_eq, h.len]
theorem Pg.get {w : World} {a : Option Addr} {n c : Nat} {hs : List Hd} {p : List (List UInt8)} (h : Pg w a n c hs p) {i : Nat} {r : List UInt8} (hr : p[i]? = some r) :
    ∃ a' c', (hs.map hv)[i]? = some (.slice a' r.length c') ∧ Sl w 1 a' r.length c' (r.map B8) := by
  have hi : i < hs.length := by rw [h.len]; exact (List.getElem?_eq_some_iff.1 hr).1
  have hx : hs[i]? = some hs[i] := by simp [hi]
  have h1 := h.row i _ r hx hr
  have h2 := h1.n_eq
  refine ⟨hs[i].1, hs[i].2.2, ?_, ?_⟩
  · rw [List.getElem?_map, hx]; unfold hv; rw [← h2]; rfl
  · rw [← h2]; exact h1

theorem size_row : (Try.prog.info? 23).map (·.size) = some 1 := by kernel_rfl
section
variable {w : World} {ops : Array Oper} {rest : List Oper} {act : Act} {Q : Exit → Act → World → Prop} {ty : TypeId} {pos : String} {after : Array Edge}
theorem idx_p (d : Nat) (x y : Operand) (a : Option Addr) (n c : Nat) (hs : List Hd) (hx : act.eval x = .slice a n c) (ht : Sl w 1 a n c (hs.map hv)) (k : IntKind) (iv : Int) (i : Nat) (hy : act.eval y = .int k iv) (hiv : iv = (i : Int))
    (u : Value) (hu : (hs.map hv)[i]? = some u)
    (hK : ∀ b o, w.cell? ⟨b, o, none⟩ = some u → b < w.heap.size → wpList Try.prog ops Q rest (act.put (some d) (.pointer (some ⟨b, o, none⟩))) w) :
    wpList Try.prog ops Q ({ dst := some d, op := .indexAddr 41 x y, type := ty, pos := pos, after := after, guard := none } :: rest) act w :=
  index_sl d 41 x y 23 Try.underlying41 size_row a n c _ hx ht k iv i hy hiv u hu hK
end

/-- cells that are not 0; dots -/
def cN (s : List UInt8) : Nat := (s.filter (· != 0)).length
def cM (s : List UInt8) : Nat := (s.map fun c => (dotsL c).length).sum
theorem cN_le (s : List UInt8) : cN s ≤ s.length := List.length_filter_le _ _
theorem cM_le (s : List UInt8) : cM s ≤ 6 * s.length := by
  unfold cM
  induction s with
  | nil => simp
  | cons c s ih => have := dotsTo_len c 6; simp only [List.map_cons, List.sum_cons, List.length_cons]; unfold dotsL at *; omega
theorem cN_snoc (s : List UInt8) (c : UInt8) : cN (s ++ [c]) = cN s + (if c = 0 then 0 else 1) := by
  unfold cN; rw [List.filter_append, List.length_append]
  by_cases h : c = 0 <;> simp [h]
theorem cM_snoc (s : List UInt8) (c : UInt8) : cM (s ++ [c]) = cM s + (dotsL c).length := by
  unfold cM; rw [List.map_append, List.sum_append]; simp
theorem seen_next {p : List (List UInt8)} {k : Nat} {r : List UInt8} (h : p[k]? = some r) : (p.take (k + 1)).flatten = (p.take k).flatten ++ r := by rw [take_snoc h, List.flatten_append]; simp
theorem seen_le {p : List (List UInt8)} {k : Nat} {r : List UInt8} (h : p[k]? = some r) (j : Nat) : ((p.take k).flatten ++ r.take j).length ≤ p.flatten.length := by
  have e : p.flatten = (p.take (k + 1)).flatten ++ (p.drop (k + 1)).flatten := by rw [← List.flatten_append, List.take_append_drop]
  rw [e, seen_next h]
  simp only [List.length_append, List.length_take]
  omega
theorem u8_ne {c : UInt8} (h : c ≠ 0) : ((c.toNat : Int) != 0) = true := by
  have : c.toNat ≠ 0 := fun e => h (UInt8.toNat_inj.1 e)
  simp; exact this

set_option maxHeartbeats 400000 in
theorem cell_Count (p : List (List UInt8)) (hs : List Hd) (a : Option Addr) (n c : Nat) (w : World) (hp : Pg w a n c hs p) (hT : p.flatten.length ≤ 1000000) :
    Calls Try.prog 37 #[.slice a n c] w fun e w' => e = .returned (.tuple #[.int .i64 (cN p.flatten : Nat), .int .i64 (cM p.flatten : Nat)]) ∧ Below w.heap.size w w' := by
  obtain rfl := hp.n_eq
  have hm1 := Nat.le_trans hp.top.le hp.top.cap
  unfold maxLen at hm1
  go_enter Try.func37, Try.ntmps37
  go_wp2_with fail
  go_loopg [4, 5, 12] p.length (fun g x y i w' => ∃ (k N M : Nat), k ≤ p.length ∧ g = p.length - k ∧ N = cN (p.take k).flatten ∧ M = cM (p.take k).flatten ∧ x = .int .i64 N ∧ y = .int .i64 M ∧ i = .int .i64 k ∧ Below w.heap.size w w')
  case atStart => exact ⟨0, 0, 0, by omega, by omega, rfl, rfl, rfl, rfl, rfl, Below.refl _ _⟩
  case round =>
    obtain ⟨k, N, M, hk, hg, hN, hM, rfl, rfl, rfl, hb⟩ := hrel
    have HG := hide hg
    have HN := hide hN
    have HM := hide hM
    clear hg hN hM
    by_cases hkl : k < p.length
    · obtain ⟨r, hr⟩ : ∃ r, p[k]? = some r := ⟨p[k], by simp [hkl]⟩
      obtain ⟨a1, c1, hu, hsr⟩ := hp.get hr
      have HU := hide hu
      have HR := hide hr
      have hrl := Nat.le_trans hsr.le hsr.cap
      unfold maxLen at hrl
      clear hu hr
      go_wp2_with (with_reducible refine idx_p 14 _ _ _ _ _ hs rfl (hp.top.below hb) _ _ k rfl rfl _ HU.out ?_; intro b o hcell hbo)
      go_loopg [4, 5, 18] r.length (fun g x y i w' => ∃ (j N M : Nat) (s : List UInt8), j ≤ r.length ∧ g = r.length - j ∧ s = (p.take k).flatten ++ r.take j ∧ N = cN s ∧ M = cM s ∧ x = .int .i64 N ∧ y = .int .i64 M ∧ i = .int .i64 j ∧ Below w.heap.size w w')
      case atStart => exact ⟨0, N, M, (p.take k).flatten, by omega, by omega, by simp, HN.out, HM.out, rfl, rfl, rfl, hb⟩
      case round =>
        obtain ⟨j, N1, M1, s, hj, hg1, hs1, hN1, hM1, rfl, rfl, rfl, hb1⟩ := hrel
        have hsl : s.length ≤ 1000000 := by rw [hs1]; exact Nat.le_trans (seen_le HR.out j) hT
        have hNl : N1 ≤ 1000000 := by rw [hN1]; exact Nat.le_trans (cN_le s) hsl
        have hMl : M1 ≤ 6000000 := by rw [hM1]; exact Nat.le_trans (cM_le s) (by omega)
        have HG1 := hide hg1
        have HS1 := hide hs1
        have HN1 := hide hN1
        have HM1 := hide hM1
        clear hg1 hs1 hN1 hM1
        by_cases hjl : j < r.length
        · obtain ⟨x, hx⟩ : ∃ x, r[j]? = some x := ⟨r[j], by simp [hjl]⟩
          have HX := hide hx
          have HS2 : Hid (s ++ [x] = (p.take k).flatten ++ r.take (j + 1)) := by show _ = _; rw [take_snoc hx, HS1.out, List.append_assoc]
          have hdl : (dotsL x).length ≤ 6 := dotsTo_len x 6
          have hd := fun w => cell_Dots x w
          have HM2 := hide (cM_snoc s x)
          have HN2 := hide (cN_snoc s x)
          clear hx
          generalize dotsL x = ds at hd HM2 hdl
          by_cases h0 : x = 0
          · rw [if_pos h0] at HN2
            subst h0
            go_wp2_with (first
              | (with_reducible refine idx_b 20 _ _ _ _ _ r rfl (hsr.below hb1) _ _ j rfl rfl 0 HX.out ?_; intro b2 o2 hcell2 hbo2)
              | (go_at_call 12; refine (hd _).mono ?_; rintro e w2 ⟨a3, c3, rfl, ho3, hb3⟩))
            go_roundg (r.length - (j + 1))
            case measure => have := HG1.out; omega
            case rel => exact ⟨j + 1, N1, M1 + ds.length, s ++ [0], by omega, rfl, HS2.out, by rw [HN2.out, HN1.out]; rfl, by rw [HM2.out, HM1.out], rfl, by go_num, by go_num, hb1.trans (hb3.mono hb1.size)⟩
          · rw [if_neg h0] at HN2
            have h1 := u8_ne h0
            clear h0
            go_wp2_with (first
              | (with_reducible refine idx_b 20 _ _ _ _ _ r rfl (hsr.below hb1) _ _ j rfl rfl x HX.out ?_; intro b2 o2 hcell2 hbo2)
              | (go_at_call 12; refine (hd _).mono ?_; rintro e w2 ⟨a3, c3, rfl, ho3, hb3⟩))
            go_roundg (r.length - (j + 1))
            case measure => have := HG1.out; omega
            case rel => exact ⟨j + 1, N1 + 1, M1 + ds.length, s ++ [x], by omega, rfl, HS2.out, by rw [HN2.out, HN1.out], by rw [HM2.out, HM1.out], by go_num, by go_num, by go_num, hb1.trans (hb3.mono hb1.size)⟩
        · obtain rfl : j = r.length := by omega
          have HE : Hid (s = (p.take (k + 1)).flatten) := by show _ = _; rw [HS1.out, seen_next HR.out, List.take_length]
          go_wp2
          go_roundg (p.length - (k + 1))
          case measure => have := HG.out; omega
          case rel => exact ⟨k + 1, N1, M1, by omega, rfl, by rw [← HE.out, HN1.out], by rw [← HE.out, HM1.out], rfl, rfl, by go_num, hb1⟩
    · obtain rfl : k = p.length := by omega
      go_wp2
      go_ret2
      have h1 := HN.out
      have h2 := HM.out
      rw [List.take_length] at h1 h2
      rw [← h1, ← h2]
      exact ⟨rfl, hb⟩
end Go.Proofs.Ythfljnlankmoiaa
end

/- the text C9 -/
section
namespace Go.Proofs.Ythfljnlankmoiaa
open Go.RowKit Go.Dx

theorem Sl.drewN {w : World} {sz : Nat} {a : Option Addr} {n c : Nat} {cs : List Value} (h : Sl w sz a n c cs) (m : Nat) : Sl (w.drewN m) sz a n c cs := ⟨h.len, h.le, h.cap, h.nil, h.cell⟩

theorem quiet_more {P : Program} {f : FuncId} {args : Array Value} {w : World} {a n : Nat} {v : Value} (h : Calls P f args ((w.drewN a).drewN n) (Still v ((w.drewN a).drewN n))) :
    Calls P f args ((w.drewN a).drewN n) fun e w'' => e = .returned v ∧ ∃ m, w'' = (w.drewN a).drewN m :=
  h.mono fun _ _ ⟨he, m, hm⟩ => ⟨he, n + m, by rw [hm, World.drewN_drewN]⟩
theorem quiet_flat {P : Program} {f : FuncId} {args : Array Value} {w : World} {a n : Nat} {v : Value} (h : Calls P f args (w.drewN (a + n)) (Still v (w.drewN (a + n)))) :
    Calls P f args (w.drewN (a + n)) fun e w'' => e = .returned v ∧ ∃ m, w'' = w.drewN (a + m) :=
  h.mono fun _ _ ⟨he, m, hm⟩ => ⟨he, n + m, by rw [hm, World.drewN_drewN, Nat.add_assoc]⟩
set_option maxHeartbeats 400000 in
theorem ref4_Count (p : List (List UInt8)) (hs : List Hd) (a : Option Addr) (n c : Nat) (w : World) (hp : Pg w a n c hs p) (hT : p.flatten.length ≤ 1000000) :
    Calls Try.prog 39 #[.slice a n c] w fun e w' => e = .returned (.tuple #[.int .i64 (cN p.flatten : Nat), .int .i64 (cM p.flatten : Nat)]) ∧ Below w.heap.size w w' := by
  obtain rfl := hp.n_eq
  have hm1 := Nat.le_trans hp.top.le hp.top.cap
  unfold maxLen at hm1
  go_enter Try.func39, Try.ntmps39
  go_wp2_with fail
  go_loopg [4, 5, 6] p.length (fun g x y i w' => ∃ (k N M : Nat), k ≤ p.length ∧ g = p.length - k ∧ N = cN (p.take k).flatten ∧ M = cM (p.take k).flatten ∧ x = .int .i64 N ∧ y = .int .i64 M ∧ i = .int .i64 k ∧ Below w.heap.size w w')
  case atStart => exact ⟨0, 0, 0, by omega, by omega, rfl, rfl, rfl, rfl, rfl, Below.refl _ _⟩
  case round =>
    obtain ⟨k, N, M, hk, hg, hN, hM, rfl, rfl, rfl, hb⟩ := hrel
    have HG := hide hg
    have HN := hide hN
    have HM := hide hM
    clear hg hN hM
    by_cases hkl : k < p.length
    · obtain ⟨r, hr⟩ : ∃ r, p[k]? = some r := ⟨p[k], by simp [hkl]⟩
      obtain ⟨a1, c1, hu, hsr⟩ := hp.get hr
      have HU := hide hu
      have HR := hide hr
      have hrl := Nat.le_trans hsr.le hsr.cap
      unfold maxLen at hrl
      clear hu hr
      go_wp2
      go_loopg [4, 5, 7] r.length (fun g x y i w' => ∃ (j N M : Nat) (s : List UInt8), j ≤ r.length ∧ g = r.length - j ∧ s = (p.take k).flatten ++ r.take j ∧ N = cN s ∧ M = cM s ∧ x = .int .i64 N ∧ y = .int .i64 M ∧ i = .int .i64 j ∧ Below w.heap.size w w')
      case atStart => exact ⟨0, N, M, (p.take k).flatten, by omega, by omega, by simp, HN.out, HM.out, rfl, rfl, rfl, hb⟩
      case round =>
        obtain ⟨j, N1, M1, s, hj, hg1, hs1, hN1, hM1, rfl, rfl, rfl, hb1⟩ := hrel
        have hsl : s.length ≤ 1000000 := by rw [hs1]; exact Nat.le_trans (seen_le HR.out j) hT
        have hNl : N1 ≤ 1000000 := by rw [hN1]; exact Nat.le_trans (cN_le s) hsl
        have hMl : M1 ≤ 6000000 := by rw [hM1]; exact Nat.le_trans (cM_le s) (by omega)
        have HG1 := hide hg1
        have HS1 := hide hs1
        have HN1 := hide hN1
        have HM1 := hide hM1
        clear hg1 hs1 hN1 hM1
        by_cases hjl : j < r.length
        · obtain ⟨x, hx⟩ : ∃ x, r[j]? = some x := ⟨r[j], by simp [hjl]⟩
          have HX := hide hx
          have HS2 : Hid (s ++ [x] = (p.take k).flatten ++ r.take (j + 1)) := by show _ = _; rw [take_snoc hx, HS1.out, List.append_assoc]
          have hdl : (dotsL x).length ≤ 6 := dotsTo_len x 6
          have hd := fun w => ref_Dots x w
          have HM2 := hide (cM_snoc s x)
          have HN2 := hide (cN_snoc s x)
          clear hx
          generalize dotsL x = ds at hd HM2 hdl
          by_cases h0 : x = 0
          · rw [if_pos h0] at HN2
            subst h0
            go_wp2_with (first
              | (with_reducible refine idx_p 17 _ _ _ _ _ hs rfl (hp.top.below hb1) _ _ k rfl rfl _ HU.out ?_; intro b o hcell hbo)
              | (with_reducible refine idx_p 25 _ _ _ _ _ hs rfl (hp.top.below hb1) _ _ k rfl rfl _ HU.out ?_; intro b3 o3 hcell3 hbo3)
              | (with_reducible refine idx_p 36 _ _ _ _ _ hs rfl (hp.top.below hb1) _ _ k rfl rfl _ HU.out ?_; intro b4 o4 hcell4 hbo4)
              | (with_reducible refine idx_b 28 _ _ _ _ _ r rfl (hsr.below hb1) _ _ j rfl rfl 0 HX.out ?_; intro b2 o2 hcell2 hbo2)
              | (with_reducible refine idx_b 39 _ _ _ _ _ r rfl (hsr.below hb1) _ _ j rfl rfl 0 HX.out ?_; intro b5 o5 hcell5 hbo5)
              | (go_at_call 13; refine (hd _).mono ?_; rintro e w2 ⟨a3, c3, rfl, ho3, hb3⟩))
            go_roundg (r.length - (j + 1))
            case measure => have := HG1.out; omega
            case rel => exact ⟨j + 1, N1, M1 + ds.length, s ++ [0], by omega, rfl, HS2.out, by rw [HN2.out, HN1.out]; rfl, by rw [HM2.out, HM1.out], rfl, by go_num, by go_num, hb1.trans (hb3.mono hb1.size)⟩
          · rw [if_neg h0] at HN2
            have h1 := u8_ne h0
            clear h0
            go_wp2_with (first
              | (with_reducible refine idx_p 17 _ _ _ _ _ hs rfl (hp.top.below hb1) _ _ k rfl rfl _ HU.out ?_; intro b o hcell hbo)
              | (with_reducible refine idx_p 25 _ _ _ _ _ hs rfl (hp.top.below hb1) _ _ k rfl rfl _ HU.out ?_; intro b3 o3 hcell3 hbo3)
              | (with_reducible refine idx_p 36 _ _ _ _ _ hs rfl (hp.top.below hb1) _ _ k rfl rfl _ HU.out ?_; intro b4 o4 hcell4 hbo4)
              | (with_reducible refine idx_b 28 _ _ _ _ _ r rfl (hsr.below hb1) _ _ j rfl rfl x HX.out ?_; intro b2 o2 hcell2 hbo2)
              | (with_reducible refine idx_b 39 _ _ _ _ _ r rfl (hsr.below hb1) _ _ j rfl rfl x HX.out ?_; intro b5 o5 hcell5 hbo5)
              | (go_at_call 13; refine (hd _).mono ?_; rintro e w2 ⟨a3, c3, rfl, ho3, hb3⟩))
            go_roundg (r.length - (j + 1))
            case measure => have := HG1.out; omega
            case rel => exact ⟨j + 1, N1 + 1, M1 + ds.length, s ++ [x], by omega, rfl, HS2.out, by rw [HN2.out, HN1.out], by rw [HM2.out, HM1.out], by go_num, by go_num, by go_num, hb1.trans (hb3.mono hb1.size)⟩
        · obtain rfl : j = r.length := by omega
          have HE : Hid (s = (p.take (k + 1)).flatten) := by show _ = _; rw [HS1.out, seen_next HR.out, List.take_length]
          go_wp2_with (with_reducible refine idx_p 17 _ _ _ _ _ hs rfl (hp.top.below hb1) _ _ k rfl rfl _ HU.out ?_; intro b o hcell hbo)
          go_roundg (p.length - (k + 1))
          case measure => have := HG.out; omega
          case rel => exact ⟨k + 1, N1, M1, by omega, rfl, by rw [← HE.out, HN1.out], by rw [← HE.out, HM1.out], rfl, rfl, by go_num, hb1⟩
    · obtain rfl : k = p.length := by omega
      go_wp2
      go_ret2
      have h1 := HN.out
      have h2 := HM.out
      rw [List.take_length] at h1 h2
      rw [← h1, ← h2]
      exact ⟨rfl, hb⟩

set_option maxHeartbeats 400000 in
theorem ref_Equal (p q : List (List UInt8)) (h1 h2 : List Hd) (a1 a2 : Option Addr) (n1 n2 c1 c2 : Nat) (w : World) (hp : Pg w a1 n1 c1 h1 p) (hq : Pg w a2 n2 c2 h2 q) :
    Calls Try.prog 24 #[.slice a1 n1 c1, .slice a2 n2 c2] w (Still (.bool (decide (p = q))) w) := by
  obtain rfl := hp.n_eq
  obtain rfl := hq.n_eq
  have hm1 := Nat.le_trans hp.top.le hp.top.cap
  have hm2 := Nat.le_trans hq.top.le hq.top.cap
  unfold maxLen at hm1 hm2
  by_cases hlen : p.length = q.length
  · have hb := eq_nat hlen
    have hle1 : p.length ≤ q.length := by omega
    have hle2 : q.length ≤ p.length := by omega
    have HL := hide hlen
    clear hlen
    go_enter Try.func24, Try.ntmps24
    go_wp2
    go_loopg [5] p.length (fun g i w' => ∃ (k n : Nat), k ≤ p.length ∧ g = p.length - k ∧ p.take k = q.take k ∧ i = .int .i64 k ∧ w' = w.drewN n)
    case atStart => exact ⟨0, 0, by omega, by omega, rfl, rfl, rfl⟩
    case round =>
      obtain ⟨k, nq, hk, hg, ht, rfl, rfl⟩ := hrel
      have HG := hide hg
      have HT := hide ht
      clear hg ht
      by_cases hkl : k < p.length
      · obtain ⟨b1, o1, rfl, hb1, hc1⟩ := hp.top.ex (by rw [List.length_map, hp.len]; omega)
        obtain ⟨b2, o2, rfl, hb2, hc2⟩ := hq.top.ex (by rw [List.length_map, hq.len]; omega)
        obtain ⟨x, hx⟩ : ∃ x, p[k]? = some x := ⟨p[k], by simp [hkl]⟩
        obtain ⟨y, hy⟩ : ∃ y, q[k]? = some y := ⟨q[k]'(by omega), by simp⟩
        obtain ⟨ax, cx, hux, hsx⟩ := hp.get hx
        obtain ⟨ay, cy, huy, hsy⟩ := hq.get hy
        have hx1 : w.cell? ⟨b1, o1 + k, none⟩ = some (.slice ax x.length cx) := hc1 k _ hux
        have hy1 : w.cell? ⟨b2, o2 + k, none⟩ = some (.slice ay y.length cy) := hc2 k _ huy
        have HX := hide (same_step' hx hy HT.out)
        have hcall := fun m => ref_Same x y _ _ _ _ _ _ (w.drewN m) (Sl.drewN hsx m) (Sl.drewN hsy m)
        clear hc1 hc2 hx hy hux huy
        by_cases hxy : x = y
        · have HE := hide (HX.out.1 hxy)
          rw [decide_eq_true hxy] at hcall
          clear hxy
          go_wp2
          go_quiet ((go_at_call 34; first | exact quiet_more (hcall _) | exact quiet_flat (hcall _)))
          go_wp2
          go_roundg (p.length - (k + 1))
          case measure => have := HG.out; omega
          case rel => exact ⟨k + 1, _, by omega, rfl, HE.out, by go_num, by first | rfl | exact World.drewN_drewN _ _ _⟩
        · have HE := hide (ne_of_take' (fun e => hxy (HX.out.2 e)))
          have hne : Value.bool (decide (p = q)) = .bool false := by rw [decide_eq_false HE.out]
          have HN := hide hne
          rw [decide_eq_false hxy] at hcall
          clear hne hxy
          go_wp2
          go_quiet ((go_at_call 34; first | exact quiet_more (hcall _) | exact quiet_flat (hcall _)))
          go_wp2
          go_ret
          exact ⟨by rw [HN.out]; rfl, _, World.drewN_drewN _ _ _⟩
      · obtain rfl : k = p.length := by omega
        go_wp2
        go_ret
        have : p = q := by have := HT.out; rw [List.take_length, List.take_of_length_le (by omega)] at this; exact this
        exact ⟨by rw [decide_eq_true this]; rfl, _, rfl⟩
  · have hb := neq_nat hlen
    have HN := hide (decide_eq_false (fun e : p = q => hlen (by rw [e])))
    clear hlen
    go_enter Try.func24, Try.ntmps24
    go_wp2
    go_ret
    exact ⟨by rw [HN.out]; rfl, 0, rfl⟩
end Go.Proofs.Ythfljnlankmoiaa
end

/- the text C10 -/
section
namespace Go.Proofs.Ythfljnlankmoiaa
open Go.RowKit Go.Dx

/-- a raster as a value -/
abbrev RV (W H : Int) (a : Option Addr) (n c : Nat) : Value := .agg #[.int .i64 W, .int .i64 H, .slice a n c]

theorem bl2 (w : World) (o1 o2 : Obj) : Below w.heap.size w ((w.alloc o1).alloc o2) := ((Below.refl _ w).alloc (Nat.le_refl _) _).alloc (by simp) _
theorem bl2d (w : World) (o1 o2 : Obj) (n : Nat) : Below w.heap.size w (((w.alloc o1).alloc o2).drewN n) := (bl2 w o1 o2).trans ((Still.below n).mono (by simp; omega))
set_option maxHeartbeats 400000 in
theorem ref_SameRaster (W1 H1 W2 H2 : Int) (l1 l2 : List Bool) (a1 a2 : Option Addr) (n1 n2 c1 c2 : Nat) (w : World) (h1 : Sl w 1 a1 n1 c1 (l1.map Value.bool)) (h2 : Sl w 1 a2 n2 c2 (l2.map Value.bool)) :
    Calls Try.prog 29 #[RV W1 H1 a1 n1 c1, RV W2 H2 a2 n2 c2] w fun e w' => e = .returned (.bool (decide (W1 = W2 ∧ H1 = H2 ∧ l1 = l2))) ∧ Below w.heap.size w w' := by
  obtain rfl := h1.n_eq
  obtain rfl := h2.n_eq
  have hm1 := Nat.le_trans h1.le h1.cap
  have hm2 := Nat.le_trans h2.le h2.cap
  unfold maxLen at hm1 hm2
  obtain ⟨R, HR⟩ : ∃ R, Hid (decide (W1 = W2 ∧ H1 = H2 ∧ l1 = l2) = R) := ⟨_, rfl⟩
  rw [HR.out]
  by_cases hW : W1 = W2
  · subst hW
    have hw : (W1 != W1) = false := by simp
    by_cases hH : H1 = H2
    · subst hH
      have hh : (H1 != H1) = false := by simp
      by_cases hlen : l1.length = l2.length
      · have hb := eq_nat hlen
        have hle1 : l1.length ≤ l2.length := by omega
        have hle2 : l2.length ≤ l1.length := by omega
        have HL := hide hlen
        clear hlen
        go_enter Try.func29, Try.ntmps29
        go_wp2
        go_loopg [5] l1.length (fun g i w' => ∃ (k n : Nat), k ≤ l1.length ∧ g = l1.length - k ∧ l1.take k = l2.take k ∧ i = .int .i64 k ∧ w' = ((w.alloc (.cells #[.int .i64 W1, .int .i64 H1, .slice a1 l1.length c1] 36)).alloc (.cells #[.int .i64 W1, .int .i64 H1, .slice a2 l2.length c2] 36)).drewN n)
        case atStart => exact ⟨0, 0, by omega, by omega, rfl, rfl, rfl⟩
        case round =>
          obtain ⟨k, nq, hk, hg, ht, rfl, rfl⟩ := hrel
          have HG := hide hg
          have HT := hide ht
          clear hg ht
          by_cases hkl : k < l1.length
          · have h1' := (h1.alloc (.cells #[.int .i64 W1, .int .i64 H1, .slice a1 l1.length c1] 36)).alloc (.cells #[.int .i64 W1, .int .i64 H1, .slice a2 l2.length c2] 36)
            have h2' := (h2.alloc (.cells #[.int .i64 W1, .int .i64 H1, .slice a1 l1.length c1] 36)).alloc (.cells #[.int .i64 W1, .int .i64 H1, .slice a2 l2.length c2] 36)
            obtain ⟨b1, o1, rfl, hb1, hc1⟩ := h1'.ex (by simp; omega)
            obtain ⟨b2, o2, rfl, hb2, hc2⟩ := h2'.ex (by simp; omega)
            obtain ⟨x, hx⟩ : ∃ x, l1[k]? = some x := ⟨l1[k], by simp [hkl]⟩
            obtain ⟨y, hy⟩ : ∃ y, l2[k]? = some y := ⟨l2[k]'(by omega), by simp⟩
            have hx1 := hc1 k (.bool x) (by rw [List.getElem?_map, hx]; rfl)
            have hy1 := hc2 k (.bool y) (by rw [List.getElem?_map, hy]; rfl)
            have HX := hide (same_step' hx hy HT.out)
            clear hc1 hc2 hx hy
            by_cases hxy : x = y
            · have HE := hide (HX.out.1 hxy)
              subst hxy
              have hn : (x != x) = false := by simp
              go_wp2
              go_quiet (fail)
              go_wp2
              go_roundg (l1.length - (k + 1))
              case measure => have := HG.out; omega
              case rel => exact ⟨k + 1, _, by omega, rfl, HE.out, by go_num, by first | rfl | exact World.drewN_drewN _ _ _⟩
            · have hn : (x == y) = false := beq_eq_false_iff_ne.2 hxy
              have HE := hide (ne_of_take' (fun e => hxy (HX.out.2 e)))
              have HN : Hid (R = false) := by show _ = _; rw [← HR.out]; exact decide_eq_false (fun e => HE.out e.2.2)
              clear hxy
              go_wp2
              go_quiet (fail)
              go_wp2
              go_ret
              exact ⟨by rw [HN.out]; rfl, by first | exact bl2d _ _ _ _ | (rw [World.drewN_drewN]; exact bl2d _ _ _ _)⟩
          · obtain rfl : k = l1.length := by omega
            go_wp2
            go_ret
            have : l1 = l2 := by have := HT.out; rw [List.take_length, List.take_of_length_le (by omega)] at this; exact this
            have HN : Hid (R = true) := by show _ = _; rw [← HR.out]; simp [this]
            exact ⟨by rw [HN.out]; rfl, bl2d _ _ _ _⟩
      · have hb := neq_nat hlen
        have HN : Hid (R = false) := by show _ = _; rw [← HR.out]; exact decide_eq_false (fun e => hlen (by rw [e.2.2]))
        clear hlen
        go_enter Try.func29, Try.ntmps29
        go_wp2
        go_ret
        exact ⟨by rw [HN.out]; rfl, bl2 _ _ _⟩
    · have HN : Hid (R = false) := by show _ = _; rw [← HR.out]; exact decide_eq_false (fun e => hH e.2.1)
      have hh := neq_int hH
      clear hH
      go_enter Try.func29, Try.ntmps29
      go_wp2
      go_ret
      exact ⟨by rw [HN.out]; rfl, bl2 _ _ _⟩
  · have HN : Hid (R = false) := by show _ = _; rw [← HR.out]; exact decide_eq_false (fun e => hW e.1)
    have hb := neq_int hW
    clear hW
    go_enter Try.func29, Try.ntmps29
    go_wp2
    go_ret
    exact ⟨by rw [HN.out]; rfl, bl2 _ _ _⟩
end Go.Proofs.Ythfljnlankmoiaa
end

/- the text CP3 -/
section
/- Plain laws on packed rasters: no program in sight. -/
namespace Go.Proofs.Ythfljnlankmoiaa
open Go.RowKit Go.Dx

/-- six dots as a number -/
def bt (b : Bool) (n : Nat) : Nat := if b then n else 0
def six (p : Nat → Bool) : Nat := bt (p 0) 1 + bt (p 1) 2 + bt (p 2) 4 + bt (p 3) 8 + bt (p 4) 16 + bt (p 5) 32
theorem bt_le (b : Bool) (n : Nat) : bt b n ≤ n := by unfold bt; split <;> omega
theorem six_lt (p : Nat → Bool) : six p < 64 := by
  have h0 := bt_le (p 0) 1
  have h1 := bt_le (p 1) 2
  have h2 := bt_le (p 2) 4
  have h3 := bt_le (p 3) 8
  have h4 := bt_le (p 4) 16
  have h5 := bt_le (p 5) 32
  unfold six; omega
theorem six_congr {p q : Nat → Bool} (h : ∀ d, d < 6 → p d = q d) : six p = six q := by
  unfold six; rw [h 0 (by omega), h 1 (by omega), h 2 (by omega), h 3 (by omega), h 4 (by omega), h 5 (by omega)]
theorem six_none {p : Nat → Bool} (h : ∀ d, d < 6 → p d = false) : six p = 0 := by
  rw [six_congr (q := fun _ => false) h]; rfl
theorem six_fin : ∀ b0 b1 b2 b3 b4 b5 : Bool, ∀ d : Fin 6, ((bt b0 1 + bt b1 2 + bt b2 4 + bt b3 8 + bt b4 16 + bt b5 32) / 2 ^ d.val % 2 == 1) = (match d.val with | 0 => b0 | 1 => b1 | 2 => b2 | 3 => b3 | 4 => b4 | _ => b5) := by decide +kernel
theorem six_get (p : Nat → Bool) (d : Nat) (hd : d < 6) : (six p / 2 ^ d % 2 == 1) = p d := by
  have h := six_fin (p 0) (p 1) (p 2) (p 3) (p 4) (p 5) ⟨d, hd⟩
  unfold six
  rw [h]
  have : d = 0 ∨ d = 1 ∨ d = 2 ∨ d = 3 ∨ d = 4 ∨ d = 5 := by omega
  rcases this with rfl | rfl | rfl | rfl | rfl | rfl <;> rfl
/-- one more dot -/
theorem six_or {p q : Nat → Bool} {d : Nat} (hd : d < 6) (h0 : p d = false) (h : ∀ e, e < 6 → q e = (p e || decide (e = d))) :
    bits BinOp.or IntKind.u8 ((six p : Nat) : Int) ((2 ^ d : Nat) : Int) = ((six q : Nat) : Int) := by
  have h1 := six_get p d hd
  rw [h0] at h1
  have h1' : ¬ (six p / 2 ^ d % 2 = 1) := by simpa using h1
  have h2 : six p / 2 ^ d % 2 = 0 := by omega
  rw [(and_fin ⟨six p, six_lt p⟩ ⟨d, hd⟩).2 h2]
  congr 1
  have e : six q = six fun e => p e || decide (e = d) := six_congr h
  rw [e]
  unfold six
  have : d = 0 ∨ d = 1 ∨ d = 2 ∨ d = 3 ∨ d = 4 ∨ d = 5 := by omega
  rcases this with rfl | rfl | rfl | rfl | rfl | rfl <;> simp [h0, bt] <;> omega

/-- the dots as a list, and Of -/
def sixDots (p : Nat → Bool) (k : Nat) : List Int := List.map (fun j : Nat => (j : Int) + 1) ((List.range k).filter p)
theorem sixDots_yes {p : Nat → Bool} {k : Nat} (h : p k = true) : sixDots p (k + 1) = sixDots p k ++ [(k : Int) + 1] := by
  unfold sixDots; rw [List.range_succ, List.filter_append]; simp [h]
theorem sixDots_no {p : Nat → Bool} {k : Nat} (h : p k = false) : sixDots p (k + 1) = sixDots p k := by
  unfold sixDots; rw [List.range_succ, List.filter_append]; simp [h]
theorem sixDots_len (p : Nat → Bool) (k : Nat) : (sixDots p k).length ≤ k := by
  unfold sixDots; rw [List.length_map]; exact Nat.le_trans (List.length_filter_le _ _) (by simp)
theorem filter_congr' {p q : Nat → Bool} : ∀ (l : List Nat), (∀ x, x ∈ l → p x = q x) → l.filter p = l.filter q
  | [], _ => rfl
  | x :: l, h => by
    rw [List.filter_cons, List.filter_cons, h x (by simp), filter_congr' l (fun y hy => h y (by simp [hy]))]
theorem sixOf_fin : ∀ b0 b1 b2 b3 b4 b5 : Bool, ofL (sixDots (fun d => match d with | 0 => b0 | 1 => b1 | 2 => b2 | 3 => b3 | 4 => b4 | _ => b5) 6) = (bt b0 1 + bt b1 2 + bt b2 4 + bt b3 8 + bt b4 16 + bt b5 32, 0) := by decide +kernel
theorem sixOf (p : Nat → Bool) : ofL (sixDots p 6) = (six p, 0) := by
  have h := sixOf_fin (p 0) (p 1) (p 2) (p 3) (p 4) (p 5)
  have e : sixDots p 6 = sixDots (fun d => match d with | 0 => p 0 | 1 => p 1 | 2 => p 2 | 3 => p 3 | 4 => p 4 | _ => p 5) 6 := by
    unfold sixDots
    rw [filter_congr' (List.range 6)]
    intro x hx
    have : x < 6 := List.mem_range.1 hx
    have : x = 0 ∨ x = 1 ∨ x = 2 ∨ x = 3 ∨ x = 4 ∨ x = 5 := by omega
    rcases this with rfl | rfl | rfl | rfl | rfl | rfl <;> rfl
  rw [e, h]; rfl

/-- A raster's dot; the dots before the place k. -/
def dotAt (W H : Nat) (b : List Bool) (x y : Nat) : Bool := decide (x < W) && decide (y < H) && b.getD (y * W + x) false
def dotTo (W H : Nat) (b : List Bool) (k x y : Nat) : Bool := dotAt W H b x y && decide (y * W + x < k)
def cellTo (W H : Nat) (b : List Bool) (k Y X : Nat) : Nat := six fun d => dotTo W H b k (2 * X + d / 3) (3 * Y + d % 3)
def cellAt (W H : Nat) (b : List Bool) (Y X : Nat) : Nat := six fun d => dotAt W H b (2 * X + d / 3) (3 * Y + d % 3)
theorem cellTo_zero (W H : Nat) (b : List Bool) (Y X : Nat) : cellTo W H b 0 Y X = 0 := six_none fun d _ => by simp [dotTo]
theorem idx_lt {W H x y : Nat} (hx : x < W) (hy : y < H) : y * W + x < W * H := by
  have : (y + 1) * W ≤ H * W := Nat.mul_le_mul_right _ hy
  rw [Nat.add_mul, Nat.one_mul] at this
  rw [Nat.mul_comm W H]; omega
theorem cellTo_all {W H : Nat} {b : List Bool} {k : Nat} (hk : W * H ≤ k) (Y X : Nat) : cellTo W H b k Y X = cellAt W H b Y X := six_congr fun d _ => by
  unfold dotTo
  cases h : dotAt W H b (2 * X + d / 3) (3 * Y + d % 3)
  · rfl
  · unfold dotAt at h
    simp only [Bool.and_eq_true, decide_eq_true_eq] at h
    have := idx_lt h.1.1 h.1.2
    simp; omega
theorem divmod {W x y k : Nat} (hW : 0 < W) (hx : x < W) : y * W + x = k ↔ x = k % W ∧ y = k / W := by
  constructor
  · rintro rfl
    refine ⟨?_, ?_⟩
    · rw [Nat.mul_comm, Nat.mul_add_mod, Nat.mod_eq_of_lt hx]
    · rw [Nat.mul_comm, Nat.mul_add_div hW, Nat.div_eq_of_lt hx, Nat.add_zero]
  · rintro ⟨rfl, rfl⟩
    have := Nat.div_add_mod k W
    rw [Nat.mul_comm] at this; exact this
/-- a dot that is not set changes nothing -/
theorem cellTo_no {W H : Nat} {b : List Bool} {k : Nat} (h : b.getD k false = false) (Y X : Nat) : cellTo W H b (k + 1) Y X = cellTo W H b k Y X := six_congr fun d _ => by
  unfold dotTo
  cases hd : dotAt W H b (2 * X + d / 3) (3 * Y + d % 3)
  · rfl
  · have hne : (3 * Y + d % 3) * W + (2 * X + d / 3) ≠ k := by
      intro e
      unfold dotAt at hd
      rw [e, h] at hd
      simp at hd
    have : ((3 * Y + d % 3) * W + (2 * X + d / 3) < k + 1) = ((3 * Y + d % 3) * W + (2 * X + d / 3) < k) := propext ⟨fun h => by omega, fun h => by omega⟩
    simp only [this]
/-- a dot that is set: another cell stays -/
theorem cellTo_other {W H : Nat} {b : List Bool} {k : Nat} (hW : 0 < W) (Y X : Nat) (h : ¬ (Y = k / W / 3 ∧ X = k % W / 2)) : cellTo W H b (k + 1) Y X = cellTo W H b k Y X := six_congr fun d hd6 => by
  unfold dotTo
  cases hd : dotAt W H b (2 * X + d / 3) (3 * Y + d % 3)
  · rfl
  · have hne : (3 * Y + d % 3) * W + (2 * X + d / 3) ≠ k := by
      intro e
      unfold dotAt at hd
      simp only [Bool.and_eq_true, decide_eq_true_eq] at hd
      obtain ⟨e1, e2⟩ := (divmod hW hd.1.1).1 e
      exact h ⟨by omega, by omega⟩
    have : ((3 * Y + d % 3) * W + (2 * X + d / 3) < k + 1) = ((3 * Y + d % 3) * W + (2 * X + d / 3) < k) := propext ⟨fun h => by omega, fun h => by omega⟩
    simp only [this]
/-- .. and its own cell gets it -/
theorem cellTo_own {W H : Nat} {b : List Bool} {k : Nat} (hW : 0 < W) (hk : k < W * H) (h : b.getD k false = true) :
    bits BinOp.or IntKind.u8 ((cellTo W H b k (k / W / 3) (k % W / 2) : Nat) : Int) ((2 ^ (k / W % 3 + 3 * (k % W % 2)) : Nat) : Int) = ((cellTo W H b (k + 1) (k / W / 3) (k % W / 2) : Nat) : Int) := by
  have hxW : k % W < W := Nat.mod_lt _ hW
  have hyH : k / W < H := Nat.div_lt_of_lt_mul hk
  have hm : k % W % 2 < 2 := Nat.mod_lt _ (by omega)
  have hm3 : k / W % 3 < 3 := Nat.mod_lt _ (by omega)
  have hdk := Nat.div_add_mod k W
  rw [Nat.mul_comm] at hdk
  unfold cellTo
  have e1 : 2 * (k % W / 2) + (k / W % 3 + 3 * (k % W % 2)) / 3 = k % W := by omega
  have e2 : 3 * (k / W / 3) + (k / W % 3 + 3 * (k % W % 2)) % 3 = k / W := by omega
  refine six_or (by omega) ?_ ?_
  · show dotTo W H b k (2 * (k % W / 2) + (k / W % 3 + 3 * (k % W % 2)) / 3) (3 * (k / W / 3) + (k / W % 3 + 3 * (k % W % 2)) % 3) = false
    rw [e1, e2]
    unfold dotTo
    rw [hdk]; simp
  · intro d hd6
    show dotTo W H b (k + 1) (2 * (k % W / 2) + d / 3) (3 * (k / W / 3) + d % 3) = (dotTo W H b k (2 * (k % W / 2) + d / 3) (3 * (k / W / 3) + d % 3) || decide (d = k / W % 3 + 3 * (k % W % 2)))
    by_cases hd : d = k / W % 3 + 3 * (k % W % 2)
    · subst hd
      rw [e1, e2]
      unfold dotTo dotAt
      rw [hdk, h]
      simp [hxW, hyH]
    · rw [decide_eq_false hd, Bool.or_false]
      unfold dotTo
      cases hda : dotAt W H b (2 * (k % W / 2) + d / 3) (3 * (k / W / 3) + d % 3)
      · rfl
      · have hne : (3 * (k / W / 3) + d % 3) * W + (2 * (k % W / 2) + d / 3) ≠ k := by
          intro e
          unfold dotAt at hda
          simp only [Bool.and_eq_true, decide_eq_true_eq] at hda
          obtain ⟨f1, f2⟩ := (divmod hW hda.1.1).1 e
          exact hd (by omega)
        have : ((3 * (k / W / 3) + d % 3) * W + (2 * (k % W / 2) + d / 3) < k + 1) = ((3 * (k / W / 3) + d % 3) * W + (2 * (k % W / 2) + d / 3) < k) := propext ⟨fun h => by omega, fun h => by omega⟩
        simp only [this]
/-- the packed page -/
def packRow (W H : Nat) (b : List Bool) (Y : Nat) : List UInt8 := (List.range ((W + 1) / 2)).map fun X => UInt8.ofNat (cellAt W H b Y X)
def packL (W H : Nat) (b : List Bool) : List (List UInt8) := (List.range ((H + 2) / 3)).map (packRow W H b)
theorem u8_six (n : Nat) (h : n < 64) : (UInt8.ofNat n).toNat = n := by rw [UInt8.toNat_ofNat']; omega
end Go.Proofs.Ythfljnlankmoiaa
end

/- the text CP4 -/
section
/- Plain laws on unpacked pages: no program in sight. -/
namespace Go.Proofs.Ythfljnlankmoiaa
open Go.RowKit Go.Dx

def wideL (p : List (List UInt8)) : Nat := p.foldl (fun m l => max m l.length) 0
theorem wideL_snoc (p : List (List UInt8)) (l : List UInt8) : wideL (p ++ [l]) = max (wideL p) l.length := by unfold wideL; rw [List.foldl_append]; rfl
theorem fold_ge (p : List (List UInt8)) : ∀ m, m ≤ p.foldl (fun m l => max m l.length) m ∧ ∀ l ∈ p, l.length ≤ p.foldl (fun m l => max m l.length) m := by
  induction p with
  | nil => intro m; simp
  | cons x p ih =>
    intro m
    have h := ih (max m x.length)
    refine ⟨by have := h.1; simp only [List.foldl_cons]; omega, ?_⟩
    intro l hl
    rcases List.mem_cons.1 hl with rfl | hl
    · have := h.1; simp only [List.foldl_cons]; omega
    · exact h.2 l hl
theorem wideL_ge {p : List (List UInt8)} {l : List UInt8} (h : l ∈ p) : l.length ≤ wideL p := (fold_ge p 0).2 l h
theorem fold_le {p : List (List UInt8)} {b : Nat} (h : ∀ l ∈ p, l.length ≤ b) : ∀ m, m ≤ b → p.foldl (fun m l => max m l.length) m ≤ b := by
  induction p with
  | nil => intro m hm; exact hm
  | cons x p ih =>
    intro m hm
    simp only [List.foldl_cons]
    refine ih (fun l hl => h l (by simp [hl])) _ ?_
    have := h x (by simp); omega
theorem wideL_le {p : List (List UInt8)} {b : Nat} (h : ∀ l ∈ p, l.length ≤ b) : wideL p ≤ b := fold_le h 0 (Nat.zero_le _)

/-- a cell of a page, 0 where there is none -/
def pcell (p : List (List UInt8)) (Y X : Nat) : UInt8 := (p.getD Y []).getD X 0
/-- the dot of a raster of width W at the index i -/
def rdot (p : List (List UInt8)) (W i : Nat) : Bool := dot (pcell p (i / W / 3) (i % W / 2)) (i / W % 3 + 3 * (i % W % 2))
def rbits (p : List (List UInt8)) (W k : Nat) : List Bool := (List.range k).map (rdot p W)
theorem rbits_succ (p : List (List UInt8)) (W k : Nat) : rbits p W (k + 1) = rbits p W k ++ [rdot p W k] := by unfold rbits; rw [List.range_succ, List.map_append]; rfl
theorem rbits_len (p : List (List UInt8)) (W k : Nat) : (rbits p W k).length = k := by unfold rbits; simp
theorem dot_zero (d : Nat) : dot 0 d = false := by
  unfold dot
  have : (0 : UInt8).toNat = 0 := rfl
  rw [this, Nat.zero_div]; rfl

/-- what is set when the rows before Y0, its cells before X0, and of this one the dots ds are set -/
def upTo (p : List (List UInt8)) (W Y0 X0 : Nat) (ds : List Int) (i : Nat) : Bool :=
  rdot p W i && (decide (i / W / 3 < Y0) || (decide (i / W / 3 = Y0) && (decide (i % W / 2 < X0) || (decide (i % W / 2 = X0) && decide (((i / W % 3 + 3 * (i % W % 2) : Nat) : Int) + 1 ∈ ds)))))
theorem upTo_zero (p : List (List UInt8)) (W i : Nat) : upTo p W 0 0 [] i = false := by unfold upTo; simp
theorem mem_dots {c : UInt8} {d : Nat} (hd : d < 6) : ((d : Int) + 1 ∈ dotsL c) ↔ dot c d = true := by
  unfold dotsL dotsTo
  rw [List.mem_map]
  constructor
  · rintro ⟨j, hj, e⟩
    obtain rfl : j = d := by omega
    exact (List.mem_filter.1 hj).2
  · intro h
    exact ⟨d, List.mem_filter.2 ⟨List.mem_range.2 hd, h⟩, rfl⟩
theorem six_idx (i W : Nat) : i / W % 3 + 3 * (i % W % 2) < 6 := by omega
theorem upTo_cell (p : List (List UInt8)) (W Y0 X0 i : Nat) : upTo p W Y0 X0 (dotsL (pcell p Y0 X0)) i = upTo p W Y0 (X0 + 1) [] i := by
  unfold upTo
  cases h : rdot p W i
  · rfl
  · congr 1
    by_cases hY : i / W / 3 = Y0
    · by_cases hX : i % W / 2 = X0
      · have hm : ((i / W % 3 + 3 * (i % W % 2) : Nat) : Int) + 1 ∈ dotsL (pcell p Y0 X0) := (mem_dots (six_idx i W)).2 (by unfold rdot at h; rw [hY, hX] at h; exact h)
        rw [decide_eq_true hm]
        simp [hY, hX]
      · have : (i % W / 2 < X0 + 1) = (i % W / 2 < X0) := propext ⟨fun h => by omega, fun h => by omega⟩
        simp [hY, hX, this]
    · simp [hY]
theorem pcell_out {p : List (List UInt8)} {r : List UInt8} {Y X : Nat} (hr : p[Y]? = some r) (hX : r.length ≤ X) : pcell p Y X = 0 := by
  unfold pcell
  rw [List.getD_eq_getElem?_getD, List.getD_eq_getElem?_getD, hr]
  simp only [Option.getD_some]
  rw [List.getElem?_eq_none hX]; rfl
theorem upTo_row {p : List (List UInt8)} {r : List UInt8} {Y0 : Nat} (hr : p[Y0]? = some r) (W i : Nat) : upTo p W Y0 r.length [] i = upTo p W (Y0 + 1) 0 [] i := by
  unfold upTo
  cases h : rdot p W i
  · rfl
  · congr 1
    by_cases hY : i / W / 3 = Y0
    · have hX : i % W / 2 < r.length := by
        rcases Nat.lt_or_ge (i % W / 2) r.length with h1 | h1
        · exact h1
        · exfalso
          unfold rdot at h
          rw [hY, pcell_out hr h1, dot_zero] at h
          cases h
      simp [hY, hX]
    · have : (i / W / 3 < Y0 + 1) = (i / W / 3 < Y0) := propext ⟨fun h => by omega, fun h => by omega⟩
      simp [hY, this]
theorem upTo_all {p : List (List UInt8)} {W i : Nat} (hi : i < W * (3 * p.length)) : upTo p W p.length 0 [] i = rdot p W i := by
  unfold upTo
  have h1 : i / W < 3 * p.length := Nat.div_lt_of_lt_mul hi
  have : i / W / 3 < p.length := by omega
  simp [this]
/-- one more dot -/
theorem upTo_dot {p : List (List UInt8)} {W Y0 X0 : Nat} {ds : List Int} {d : Nat} (hd : d < 6) (hW : 2 * X0 + 1 < W) (hdot : dot (pcell p Y0 X0) d = true) (i : Nat) :
    upTo p W Y0 X0 (ds ++ [(d : Int) + 1]) i = if i = (3 * Y0 + d % 3) * W + (2 * X0 + d / 3) then true else upTo p W Y0 X0 ds i := by
  have hx : 2 * X0 + d / 3 < W := by omega
  by_cases h : i = (3 * Y0 + d % 3) * W + (2 * X0 + d / 3)
  · rw [if_pos h]
    obtain ⟨e1, e2⟩ := (divmod (by omega) hx).1 h.symm
    have e3 : i / W / 3 = Y0 := by omega
    have e4 : i % W / 2 = X0 := by omega
    have e5 : i / W % 3 + 3 * (i % W % 2) = d := by omega
    unfold upTo rdot
    rw [e3, e4, e5, hdot]
    simp
  · rw [if_neg h]
    unfold upTo
    by_cases hY : i / W / 3 = Y0
    · by_cases hX : i % W / 2 = X0
      · have hne : ((i / W % 3 + 3 * (i % W % 2) : Nat) : Int) + 1 ≠ (d : Int) + 1 := by
          intro e
          have e5 : i / W % 3 + 3 * (i % W % 2) = d := by omega
          exact h ((divmod (by omega) hx).2 ⟨by omega, by omega⟩).symm
        simp only [List.mem_append, List.mem_singleton, hne, or_false]
      · simp [hX]
    · simp [hY]
theorem dotsTo_take (c : UInt8) (j : Nat) (x : Int) (h : (dotsL c)[j]? = some x) : ∃ d : Nat, d < 6 ∧ x = (d : Int) + 1 ∧ dot c d = true := by
  have hm := List.mem_of_getElem? h
  unfold dotsL dotsTo at hm
  obtain ⟨d, hd, rfl⟩ := List.mem_map.1 hm
  obtain ⟨h1, h2⟩ := List.mem_filter.1 hd
  exact ⟨d, List.mem_range.1 h1, rfl, h2⟩

/-- Unpack: width, height, dots, error -/
def unpackL (p : List (List UInt8)) : Nat × Nat × List Bool × Int :=
  if p.any (fun l => !validB l) then (0, 0, [], 1)
  else if 65536 < 2 * wideL p ∨ 65536 < 3 * p.length ∨ 65536 < 2 * wideL p * (3 * p.length) then (0, 0, [], 4)
  else (2 * wideL p, 3 * p.length, rbits p (2 * wideL p) (2 * wideL p * (3 * p.length)), 0)
end Go.Proofs.Ythfljnlankmoiaa
end

/- the text C13 -/
section
namespace Go.Proofs.Ythfljnlankmoiaa
open Go.RowKit Go.Dx

/-- a valid raster: width, height, number of dots -/
def properB (W H n : Int) : Bool := decide (0 ≤ W ∧ 0 ≤ H ∧ W ≤ 65536 ∧ H ≤ 65536 ∧ W * H ≤ 65536 ∧ n = W * H)
theorem bl1 (w : World) (o : Obj) : Below w.heap.size w (w.alloc o) := (Below.refl _ w).alloc (Nat.le_refl _) _
theorem mul_wrap {W H : Int} (h1 : 0 ≤ W) (h2 : 0 ≤ H) (h3 : W ≤ 65536) (h4 : H ≤ 65536) : 0 ≤ W * H ∧ W * H ≤ 4294967296 := by
  refine ⟨Int.mul_nonneg h1 h2, ?_⟩
  calc W * H ≤ 65536 * H := Int.mul_le_mul_of_nonneg_right h3 h2
    _ ≤ 65536 * 65536 := Int.mul_le_mul_of_nonneg_left h4 (by omega)
    _ = 4294967296 := by decide
theorem proper_no {W H n : Int} (h : ¬ (0 ≤ W ∧ 0 ≤ H ∧ W ≤ 65536 ∧ H ≤ 65536 ∧ W * H ≤ 65536 ∧ n = W * H)) : properB W H n = false := decide_eq_false h
theorem proper_yes {W H n : Int} (h : 0 ≤ W ∧ 0 ≤ H ∧ W ≤ 65536 ∧ H ≤ 65536 ∧ W * H ≤ 65536 ∧ n = W * H) : properB W H n = true := decide_eq_true h

set_option maxHeartbeats 1000000 in
theorem cell_valid (W H : Int) (a : Option Addr) (n c : Nat) (w : World) :
    Calls Try.prog 56 #[RV W H a n c] w fun e w' => e = .returned (.bool (properB W H n)) ∧ Below w.heap.size w w' := by
  obtain ⟨R, HR⟩ : ∃ R, Hid (properB W H n = R) := ⟨_, rfl⟩
  rw [HR.out]
  by_cases h1 : 0 ≤ W
  · have d1 : decide (0 ≤ W) = true := decide_eq_true h1
    by_cases h2 : 0 ≤ H
    · have d2 : decide (0 ≤ H) = true := decide_eq_true h2
      by_cases h3 : W ≤ 65536
      · have d3 : decide (W ≤ 65536) = true := decide_eq_true h3
        by_cases h4 : H ≤ 65536
        · have d4 : decide (H ≤ 65536) = true := decide_eq_true h4
          obtain ⟨m1, m2⟩ := mul_wrap h1 h2 h3 h4
          obtain ⟨M, HM⟩ : ∃ M, Hid (W * H = M) := ⟨_, rfl⟩
          rw [HM.out] at m1 m2
          have hw : IntKind.i64.wrap (W * H) = M := by rw [HM.out]; exact IntWalk.i64_in _ (by omega)
          by_cases h5 : M ≤ 65536
          · have d5 : decide (M ≤ 65536) = true := decide_eq_true h5
            by_cases h6 : (n : Int) = M
            · have d6 : ((n : Int) == M) = true := beq_iff_eq.2 h6
              have HE : Hid (R = true) := by show _ = _; rw [← HR.out]; exact proper_yes ⟨h1, h2, h3, h4, by rw [HM.out]; exact h5, by rw [HM.out]; exact h6⟩
              clear h6
              go_enter Try.func56, Try.ntmps56
              go_wp2
              go_ret
              rw [HE.out]
              exact ⟨rfl, bl1 _ _⟩
            · have d6 : ((n : Int) == M) = false := beq_eq_false_iff_ne.2 h6
              have HE : Hid (R = false) := by show _ = _; rw [← HR.out]; exact proper_no (fun e => h6 (by rw [← HM.out]; exact e.2.2.2.2.2))
              clear h6
              go_enter Try.func56, Try.ntmps56
              go_wp2
              go_ret
              rw [HE.out]
              exact ⟨rfl, bl1 _ _⟩
          · have d5 : decide (M ≤ 65536) = false := decide_eq_false h5
            have HE : Hid (R = false) := by show _ = _; rw [← HR.out]; exact proper_no (fun e => h5 (by rw [← HM.out]; exact e.2.2.2.2.1))
            go_enter Try.func56, Try.ntmps56
            go_wp2
            go_ret
            rw [HE.out]
            exact ⟨rfl, bl1 _ _⟩
        · have d4 : decide (H ≤ 65536) = false := decide_eq_false h4
          have HE : Hid (R = false) := by show _ = _; rw [← HR.out]; exact proper_no (fun e => h4 e.2.2.2.1)
          go_enter Try.func56, Try.ntmps56
          go_wp2
          go_ret
          rw [HE.out]
          exact ⟨rfl, bl1 _ _⟩
      · have d3 : decide (W ≤ 65536) = false := decide_eq_false h3
        have HE : Hid (R = false) := by show _ = _; rw [← HR.out]; exact proper_no (fun e => h3 e.2.2.1)
        go_enter Try.func56, Try.ntmps56
        go_wp2
        go_ret
        rw [HE.out]
        exact ⟨rfl, bl1 _ _⟩
    · have d2 : decide (0 ≤ H) = false := decide_eq_false h2
      have HE : Hid (R = false) := by show _ = _; rw [← HR.out]; exact proper_no (fun e => h2 e.2.1)
      go_enter Try.func56, Try.ntmps56
      go_wp2
      go_ret
      rw [HE.out]
      exact ⟨rfl, bl1 _ _⟩
  · have d1 : decide (0 ≤ W) = false := decide_eq_false h1
    have HE : Hid (R = false) := by show _ = _; rw [← HR.out]; exact proper_no (fun e => h1 e.1)
    go_enter Try.func56, Try.ntmps56
    go_wp2
    go_ret
    rw [HE.out]
    exact ⟨rfl, bl1 _ _⟩
set_option maxHeartbeats 1000000 in
theorem ref_Proper (W H : Int) (a : Option Addr) (n c : Nat) (w : World) :
    Calls Try.prog 57 #[RV W H a n c] w fun e w' => e = .returned (.bool (properB W H n)) ∧ Below w.heap.size w w' := by
  obtain ⟨R, HR⟩ : ∃ R, Hid (properB W H n = R) := ⟨_, rfl⟩
  rw [HR.out]
  by_cases h1 : 0 ≤ W
  · have d1 : decide (W < 0) = false := decide_eq_false (by omega)
    by_cases h2 : 0 ≤ H
    · have d2 : decide (H < 0) = false := decide_eq_false (by omega)
      by_cases h3 : W ≤ 65536
      · have d3 : decide (65536 < W) = false := decide_eq_false (by omega)
        by_cases h4 : H ≤ 65536
        · have d4 : decide (65536 < H) = false := decide_eq_false (by omega)
          obtain ⟨m1, m2⟩ := mul_wrap h1 h2 h3 h4
          obtain ⟨M, HM⟩ : ∃ M, Hid (W * H = M) := ⟨_, rfl⟩
          rw [HM.out] at m1 m2
          have hw : IntKind.i64.wrap (W * H) = M := by rw [HM.out]; exact IntWalk.i64_in _ (by omega)
          by_cases h5 : M ≤ 65536
          · have d5 : decide (M ≤ 65536) = true := decide_eq_true h5
            by_cases h6 : (n : Int) = M
            · have d6 : ((n : Int) == M) = true := beq_iff_eq.2 h6
              have HE : Hid (R = true) := by show _ = _; rw [← HR.out]; exact proper_yes ⟨h1, h2, h3, h4, by rw [HM.out]; exact h5, by rw [HM.out]; exact h6⟩
              clear h6
              go_enter Try.func57, Try.ntmps57
              go_wp2
              go_ret
              rw [HE.out]
              exact ⟨rfl, bl1 _ _⟩
            · have d6 : ((n : Int) == M) = false := beq_eq_false_iff_ne.2 h6
              have HE : Hid (R = false) := by show _ = _; rw [← HR.out]; exact proper_no (fun e => h6 (by rw [← HM.out]; exact e.2.2.2.2.2))
              clear h6
              go_enter Try.func57, Try.ntmps57
              go_wp2
              go_ret
              rw [HE.out]
              exact ⟨rfl, bl1 _ _⟩
          · have d5 : decide (M ≤ 65536) = false := decide_eq_false h5
            have HE : Hid (R = false) := by show _ = _; rw [← HR.out]; exact proper_no (fun e => h5 (by rw [← HM.out]; exact e.2.2.2.2.1))
            go_enter Try.func57, Try.ntmps57
            go_wp2
            go_ret
            rw [HE.out]
            exact ⟨rfl, bl1 _ _⟩
        · have d4 : decide (65536 < H) = true := decide_eq_true (by omega)
          have HE : Hid (R = false) := by show _ = _; rw [← HR.out]; exact proper_no (fun e => h4 e.2.2.2.1)
          go_enter Try.func57, Try.ntmps57
          go_wp2
          go_ret
          rw [HE.out]
          exact ⟨rfl, bl1 _ _⟩
      · have d3 : decide (65536 < W) = true := decide_eq_true (by omega)
        have HE : Hid (R = false) := by show _ = _; rw [← HR.out]; exact proper_no (fun e => h3 e.2.2.1)
        go_enter Try.func57, Try.ntmps57
        go_wp2
        go_ret
        rw [HE.out]
        exact ⟨rfl, bl1 _ _⟩
    · have d2 : decide (H < 0) = true := decide_eq_true (by omega)
      have HE : Hid (R = false) := by show _ = _; rw [← HR.out]; exact proper_no (fun e => h2 e.2.1)
      go_enter Try.func57, Try.ntmps57
      go_wp2
      go_ret
      rw [HE.out]
      exact ⟨rfl, bl1 _ _⟩
  · have d1 : decide (W < 0) = true := decide_eq_true (by omega)
    have HE : Hid (R = false) := by show _ = _; rw [← HR.out]; exact proper_no (fun e => h1 e.1)
    go_enter Try.func57, Try.ntmps57
    go_wp2
    go_ret
    rw [HE.out]
    exact ⟨rfl, bl1 _ _⟩
end Go.Proofs.Ythfljnlankmoiaa
end

/- the text C14 -/
section
namespace Go.Proofs.Ythfljnlankmoiaa
open Go.RowKit Go.Dx

theorem dotAt_x {W H x y : Nat} {b : List Bool} (h : ¬ x < W) : dotAt W H b x y = false := by unfold dotAt; simp [h]
theorem dotAt_y {W H x y : Nat} {b : List Bool} (h : ¬ y < H) : dotAt W H b x y = false := by unfold dotAt; simp [h]
theorem dotAt_in {W H x y : Nat} {b : List Bool} {v : Bool} (hx : x < W) (hy : y < H) (h : b[y * W + x]? = some v) : dotAt W H b x y = v := by
  unfold dotAt; rw [List.getD_eq_getElem?_getD, h]; simp [hx, hy]

set_option maxHeartbeats 1000000 in
theorem ref_Dot (W H x y : Nat) (b : List Bool) (a : Option Addr) (n c : Nat) (w : World) (hs : Sl w 1 a n c (b.map Value.bool)) (hb : b.length = W * H) (hWH : W * H ≤ 65536) (hx : x ≤ 1000000) (hy : y ≤ 1000000) :
    Calls Try.prog 36 #[RV W H a n c, .int .i64 x, .int .i64 y] w fun e w' => e = .returned (.bool (dotAt W H b x y)) ∧ Below w.heap.size w w' := by
  obtain ⟨R, HR⟩ : ∃ R, Hid (dotAt W H b x y = R) := ⟨_, rfl⟩
  rw [HR.out]
  have dx : decide (0 ≤ (x : Int)) = true := decide_eq_true (by omega)
  have dy : decide (0 ≤ (y : Int)) = true := decide_eq_true (by omega)
  have HB := hide hb
  clear hb
  by_cases h1 : x < W
  · have d1 : decide ((x : Int) < (W : Int)) = true := decide_eq_true (by omega)
    have d1' : decide (x < W) = true := decide_eq_true h1
    by_cases h2 : y < H
    · have d2 : decide ((y : Int) < (H : Int)) = true := decide_eq_true (by omega)
      have d2' : decide (y < H) = true := decide_eq_true h2
      have hidx := idx_lt h1 h2
      obtain ⟨v, hv⟩ : ∃ v, b[y * W + x]? = some v := ⟨b[y * W + x]'(by rw [HB.out]; exact hidx), by simp⟩
      have HE : Hid (R = v) := by show _ = _; rw [← HR.out]; exact dotAt_in h1 h2 hv
      obtain ⟨M, HM⟩ : ∃ M, Hid (y * W = M) := ⟨_, rfl⟩
      rw [HM.out] at hv hidx
      have hw : IntKind.i64.wrap ((y : Int) * (W : Int)) = (M : Int) := by
        rw [← HM.out]
        have : ((y * W : Nat) : Int) = (y : Int) * (W : Int) := Int.natCast_mul _ _
        rw [this]
        exact IntWalk.i64_in _ (by rw [← this, HM.out]; omega)
      have hs' := hs.alloc (.cells #[.int .i64 W, .int .i64 H, .slice a n c] 36)
      obtain ⟨b1, o1, rfl, hb1, hc1⟩ := hs'.ex (by rw [List.length_map, HB.out]; omega)
      have hcl := hc1 (M + x) (.bool v) (by rw [List.getElem?_map, hv]; rfl)
      have hn := hs.n_eq
      rw [HB.out] at hn
      have hm1 := Nat.le_trans hs.le hs.cap
      unfold maxLen at hm1
      have hlt : (M + x : Int) < n := by omega
      have hlt2 : M + x < n := by omega
      clear hc1 hs' hn hv
      go_enter Try.func36, Try.ntmps36
      go_wp2
      go_ret
      rw [HE.out]
      exact ⟨rfl, bl1 _ _⟩
    · have d2 : decide ((y : Int) < (H : Int)) = false := decide_eq_false (by omega)
      have d2' : decide (y < H) = false := decide_eq_false h2
      have HE : Hid (R = false) := by show _ = _; rw [← HR.out]; exact dotAt_y h2
      clear h2
      go_enter Try.func36, Try.ntmps36
      go_wp2
      go_ret
      rw [HE.out]
      exact ⟨rfl, bl1 _ _⟩
  · have d1 : decide ((x : Int) < (W : Int)) = false := decide_eq_false (by omega)
    have d1' : decide (x < W) = false := decide_eq_false h1
    have HE : Hid (R = false) := by show _ = _; rw [← HR.out]; exact dotAt_x h1
    clear h1
    go_enter Try.func36, Try.ntmps36
    go_wp2
    go_ret
    rw [HE.out]
    exact ⟨rfl, bl1 _ _⟩

theorem pcell_row {p : List (List UInt8)} {Y X : Nat} {r : List UInt8} {u : UInt8} (h1 : p[Y]? = some r) (h2 : r[X]? = some u) : pcell p Y X = u := by
  unfold pcell; rw [List.getD_eq_getElem?_getD, List.getD_eq_getElem?_getD, h1]; simp [h2]
theorem pcell_none {p : List (List UInt8)} {Y X : Nat} (h : p.length ≤ Y) : pcell p Y X = 0 := by
  unfold pcell; rw [List.getD_eq_getElem?_getD, List.getD_eq_getElem?_getD, List.getElem?_eq_none h]; rfl
set_option maxHeartbeats 1000000 in
theorem ref_Cell (p : List (List UInt8)) (hs : List Hd) (a : Option Addr) (n c : Nat) (Y X : Nat) (w : World) (hp : Pg w a n c hs p) (hY : Y ≤ 1000000) (hX : X ≤ 1000000) :
    Calls Try.prog 59 #[.slice a n c, .int .i64 Y, .int .i64 X] w fun e w' => e = .returned (.int .u8 ((pcell p Y X).toNat : Int)) ∧ w = w' := by
  obtain rfl := hp.n_eq
  obtain ⟨R, HR⟩ : ∃ R, Hid (pcell p Y X = R) := ⟨_, rfl⟩
  rw [HR.out]
  have hm1 := Nat.le_trans hp.top.le hp.top.cap
  unfold maxLen at hm1
  have dY : decide ((Y : Int) < 0) = false := decide_eq_false (by omega)
  have dX : decide ((X : Int) < 0) = false := decide_eq_false (by omega)
  by_cases h1 : Y < p.length
  · have d1 : decide ((p.length : Int) ≤ (Y : Int)) = false := decide_eq_false (by omega)
    have d1' : decide (p.length ≤ Y) = false := decide_eq_false (by omega)
    obtain ⟨r, hr⟩ : ∃ r, p[Y]? = some r := ⟨p[Y], by simp [h1]⟩
    obtain ⟨a1, c1, hu, hsr⟩ := hp.get hr
    have HU := hide hu
    have hrl := Nat.le_trans hsr.le hsr.cap
    unfold maxLen at hrl
    clear hu
    by_cases h2 : X < r.length
    · have d2 : decide ((r.length : Int) ≤ (X : Int)) = false := decide_eq_false (by omega)
      have d2' : decide (r.length ≤ X) = false := decide_eq_false (by omega)
      obtain ⟨u, hu⟩ : ∃ u, r[X]? = some u := ⟨r[X], by simp [h2]⟩
      have HE : Hid (R = u) := by show _ = _; rw [← HR.out]; exact pcell_row hr hu
      have HX := hide hu
      clear hu hr
      go_enter Try.func59, Try.ntmps59
      go_wp2_with (first
        | (with_reducible refine idx_p 22 _ _ _ _ _ hs rfl hp.top _ _ Y rfl rfl _ HU.out ?_; intro b o hcell hbo)
        | (with_reducible refine idx_b 30 _ _ _ _ _ r rfl hsr _ _ X rfl rfl u HX.out ?_; intro b2 o2 hcell2 hbo2))
      go_ret
      rw [HE.out]
      exact ⟨rfl, rfl⟩
    · have d2 : decide ((r.length : Int) ≤ (X : Int)) = true := decide_eq_true (by omega)
      have d2' : decide (r.length ≤ X) = true := decide_eq_true (by omega)
      have HE : Hid (R = 0) := by show _ = _; rw [← HR.out]; exact pcell_out hr (by omega)
      clear hr
      go_enter Try.func59, Try.ntmps59
      go_wp2_with (with_reducible refine idx_p 22 _ _ _ _ _ hs rfl hp.top _ _ Y rfl rfl _ HU.out ?_; intro b o hcell hbo)
      go_ret
      rw [HE.out]
      exact ⟨rfl, rfl⟩
  · have d1 : decide ((p.length : Int) ≤ (Y : Int)) = true := decide_eq_true (by omega)
    have d1' : decide (p.length ≤ Y) = true := decide_eq_true (by omega)
    have HE : Hid (R = 0) := by show _ = _; rw [← HR.out]; exact pcell_none (by omega)
    go_enter Try.func59, Try.ntmps59
    go_wp2
    go_ret
    rw [HE.out]
    exact ⟨rfl, rfl⟩
end Go.Proofs.Ythfljnlankmoiaa
end

/- the text Ops4 -/
section
/- Regions that draw their order and whose callees make memory of their own: walked once, at the class 'whatever came on top'. No program in sight. -/
set_option linter.unusedVariables false
namespace Go.Dx
open Go.RowKit

/-- the worlds on top of w -/
structure OnTop (w : World) where
  v : World
  h : Below w.heap.size w v
theorem wp_region_below {P : Program} {id : Nat} {Q : Exit → Act → World → Prop} {a : Act} {w : World} {l : List Oper} (hm : P.follows .mixedOrders = true) (hB : Region.lexB .any l.toArray = true)
    (h : wpQuiet P l.toArray (fun w' => ∃ p : OnTop w, w' = p.v) (fun a' => ∀ w', (∃ p : OnTop w, w' = p.v) → Q .normal a' w') l a) : (Code.region id l.toArray true).wp P Q a w :=
  wp_region_quiet (C := fun w' => ∃ p : OnTop w, w' = p.v) hm hB ⟨⟨w.drewN 1, Still.below 1⟩, rfl⟩ (by simpa using h)
theorem onTop_call {P : Program} {f : FuncId} {args : Array Value} {w : World} {p : OnTop w} {v : Value}
    (h : Calls P f args p.v fun e w' => e = .returned v ∧ Below p.v.heap.size p.v w') : Calls P f args p.v fun e w'' => e = .returned v ∧ ∃ q : OnTop w, w'' = q.v :=
  h.mono fun _ w'' ⟨he, hb⟩ => ⟨he, ⟨w'', p.h.trans (hb.mono p.h.size)⟩, rfl⟩
section
variable {P : Program} {C : World → Prop} {ops : Array Oper} {rest : List Oper} {act : Act} {Q : Act → Prop}
/-- an operation of a quiet walk whose value is known, at whatever class of worlds, guarded or not -/
theorem quiet_at {o : Oper} (v : Value) (hw : Region.wanted o (yielded ops act.tmps) = true) (h : ∀ w, (execOp act.eval o).run P w = .ok (.value v) w)
    (hK : wpQuiet P ops C Q rest (act.put o.dst v)) : wpQuiet P ops C Q (o :: rest) act := by
  refine wpQuiet_step fun K hK' => ?_
  rw [if_pos hw]
  refine ⟨v, ?_, hK' _ hK⟩
  intro w' _
  unfold Oper.quietAt
  rw [h w']
  exact ⟨rfl, rfl⟩
end
end Go.Dx
end

/- the text Box -/
section
/- Blocks that are known whole: local arrays and structs. Laws of the walk on whole loads and stores, cuts of arrays, results that lie in memory. No program in sight. -/
set_option linter.unusedVariables false
set_option linter.unusedSimpArgs false
namespace Go.Dx
open Go.RowKit

/-- block g is just the cells cs of element type t -/
def Box (w : World) (g : Nat) (t : TypeId) (cs : List Value) : Prop := w.heap[g]? = some (.cells cs.toArray t (0, 0))
section
variable {w w' : World} {g : Nat} {t : TypeId} {cs : List Value}
theorem Box.lt (h : Box w g t cs) : g < w.heap.size := (Array.getElem?_eq_some_iff.1 h).1
theorem Box.cell (h : Box w g t cs) (j : Nat) : w.cell? ⟨g, j, none⟩ = cs[j]? := by rw [cell_of_row w g j cs.toArray t (0, 0) h]; simp
theorem Box.at_ (h : Box w g t cs) {j : Nat} {u : Value} (hu : cs[j]? = some u) : w.cell? ⟨g, j, none⟩ = some u := by rw [h.cell, hu]
theorem Box.free (h : Box w g t cs) (j : Nat) : w.frozen? ⟨g, j, none⟩ = false := by unfold Box at h; simp [World.frozen?, h]
theorem Box.new (w : World) (t : TypeId) (us : Array Value) : Box (w.alloc (.cells us t)) w.heap.size t us.toList := heap_alloc_new w _
theorem Box.drew (h : Box w g t cs) : Box w.drew g t cs := h
theorem Box.drewN (h : Box w g t cs) (n : Nat) : Box (w.drewN n) g t cs := h
theorem Box.alloc (h : Box w g t cs) (o : Obj) : Box (w.alloc o) g t cs := (Below.heap_alloc w o g h.lt).trans h
theorem Box.put (h : Box w g t cs) (j : Nat) (u : Value) : Box (w.setCell ⟨g, j, none⟩ u) g t (cs.set j u) := by
  unfold Box at h ⊢
  simp [World.setCell, Array.getElem?_modify, h]
theorem Box.far (h : Box w g t cs) {p : Addr} (hp : g ≠ p.block) (u : Value) : Box (w.setCell p u) g t cs := (Below.heap_setCell w p u g hp).trans h
theorem Box.below {B : Nat} (h : Box w g t cs) (hb : Below B w w') (hg : g < B) : Box w' g t cs := (hb.block g hg).trans h
theorem Box.under (h : Box w g t cs) (hb : Below w.heap.size w w') : Box w' g t cs := h.below hb h.lt
theorem Box.grown {row : Option Nat} (h : Box w g t cs) (hb : w.grownBy w' row) (hg : some g ≠ row) : Box w' g t cs := (hb.block g h.lt hg).trans h
theorem Box.sl (h : Box w g t cs) (off n c sz : Nat) (l : List Value) (hl : l.length = n * sz) (hc : n ≤ c) (hm : c ≤ maxLen) (he : ∀ j u, l[j]? = some u → cs[off + j]? = some u) : Sl w sz (some ⟨g, off, none⟩) n c l :=
  ⟨hl, hc, hm, (fun h => by cases h), fun p hp j u hj => by cases hp; rw [Addr.add_lit]; exact h.at_ (he j u hj)⟩
end

theorem belowN {B : Nat} {a w : World} (h : Below B a w) (n : Nat) : Below B a (w.drewN n) := ⟨h.os, h.tape, h.output, h.size, h.block⟩
section run
variable {P : Program} {w : World}
def IsAgg (P : Program) (t : TypeId) : Prop := (∃ n e, P.underlying t = some (.array n e)) ∨ ∃ fs, P.underlying t = some (.struct fs)
theorem run_isAgg {t : TypeId} (h : IsAgg P t) : (isAgg t).run P w = .ok true w := by
  rcases h with ⟨n, e, h⟩ | ⟨fs, h⟩ <;> simp [isAgg, run_underlying h]
theorem run_loadVar_box {t e : TypeId} {g off : Nat} {old cs : List Value} (hag : IsAgg P t) (hsz : (P.info? t).map (·.size) = some cs.length) (hb : Box w g e old) (hc : ∀ j u, cs[j]? = some u → old[off + j]? = some u) :
    (loadVar t ⟨g, off, none⟩).run P w = .ok (.agg cs.toArray) w := by
  obtain ⟨i, hi, hs0⟩ := Option.map_eq_some_iff.1 hsz
  have hl := run_loadCells_list (P := P) w ⟨g, off, none⟩ cs (fun j u hj => by rw [Addr.add_lit]; exact hb.at_ (hc j u hj))
  simp [loadVar, run_isAgg hag, sizeOf, typeInfo, hi, hs0, hl]
theorem run_results_cell {fn : Func} {tmps : Array Value} {t : Tmp} {ty e : TypeId} {g : Nat} {cs : List Value} (hr : fn.results = #[.cell t ty]) (ht : tmps.getD t undef = .pointer (some ⟨g, 0, none⟩)) (hag : IsAgg P ty) (hsz : (P.info? ty).map (·.size) = some cs.length)
    (hb : Box w g e cs) : (results fn tmps).run P w = .ok (.agg cs.toArray) w := by
  have hl := run_loadVar_box (P := P) (off := 0) hag hsz hb (fun j u hj => by rw [Nat.zero_add]; exact hj)
  have ht2 : tmps[t]?.getD undef = .pointer (some ⟨g, 0, none⟩) := by rw [← ht]; simp
  simp only [results, hr]
  simp [ht2, asAddr, hl]
end run

section ops
variable {P : Program} {w : World} {ops : Array Oper} {rest : List Oper} {act : Act} {Q : Exit → Act → World → Prop}
  {ty : TypeId} {pos : String} {after : Array Edge}
/-- a whole array or struct is loaded -/
theorem load_box (d : Nat) (t : TypeId) (x : Operand) (e : TypeId) (g off : Nat) (old cs : List Value) (hag : IsAgg P t) (hsz : (P.info? t).map (·.size) = some cs.length) (hb : Box w g e old) (hx : act.eval x = .pointer (some ⟨g, off, none⟩))
    (hc : ∀ j u, cs[j]? = some u → old[off + j]? = some u) (hK : wpList P ops Q rest (act.put (some d) (.agg cs.toArray)) w) :
    wpList P ops Q ({ dst := some d, op := .load t x, type := ty, pos := pos, after := after, guard := none } :: rest) act w := by
  refine wpList_plain rfl fun K hK' => ?_
  have hrun : (Instr.loadAt t (.pointer (some ⟨g, off, none⟩))).run P w = .ok (.agg cs.toArray) w := by
    simp [Instr.loadAt, Instr.sureAddr, run_loadVar_box hag hsz hb hc]
  unfold Oper.wp
  simp [execOp, hx, hrun, Result.andThen]
  exact hK' _ _ hK
/-- a whole array or struct is stored -/
theorem store_box (t : TypeId) (x y : Operand) (e : TypeId) (g off : Nat) (old cs : List Value) (v : Value) (hsz : (P.info? t).map (·.size) = some cs.length) (hb : Box w g e old) (hx : act.eval x = .pointer (some ⟨g, off, none⟩))
    (hy : act.eval y = v) (hv : v.cells = cs.toArray) (hl : off + cs.length ≤ old.length) (h1 : ∀ u ∈ cs, u.oneCell' = true)
    (hK : ∀ w', Box w' g e (old.take off ++ cs ++ old.drop (off + cs.length)) → w.grownBy w' (some g) → w'.heap.size = w.heap.size → wpList P ops Q rest act w') :
    wpList P ops Q ({ dst := none, op := .store t x y, type := ty, pos := pos, after := after, guard := none } :: rest) act w := by
  refine wpList_plain rfl fun K hK' => ?_
  obtain ⟨i, hi, hs0⟩ := Option.map_eq_some_iff.1 hsz
  have hst := run_storeCells_at P g off e cs 0 old.toArray w hb (by simpa using hl) h1
  simp only [Nat.add_zero, List.toList_toArray] at hst
  have hrun : (Instr.storeAt t (.pointer (some ⟨g, off, none⟩)) v).run P w = .ok () (w.setRow g (old.take off ++ cs ++ old.drop (off + cs.length)).toArray) := by
    simp [Instr.storeAt, Instr.sureAddr, storeVar, sizeOf, typeInfo, hi, hs0, hv, hst]
  unfold Oper.wp
  simp [execOp, hx, hy, hrun, Result.andThen]
  refine hK' _ _ (hK _ ?_ ⟨rfl, rfl, rfl, by simp [World.setRow], fun k _ hk => setRow_other w g k _ (fun e => hk (by rw [e]))⟩ (by simp [World.setRow]))
  have := setRow_heap w g old.toArray (old.take off ++ cs ++ old.drop (off + cs.length)).toArray e (0, 0) hb
  simpa [Box] using this
/-- the whole block is stored anew -/
theorem store_all (t : TypeId) (x y : Operand) (e : TypeId) (g : Nat) (old cs : List Value) (v : Value) (hsz : (P.info? t).map (·.size) = some cs.length) (hb : Box w g e old) (hx : act.eval x = .pointer (some ⟨g, 0, none⟩))
    (hy : act.eval y = v) (hv : v.cells = cs.toArray) (hl : cs.length = old.length) (h1 : ∀ u ∈ cs, u.oneCell' = true)
    (hK : ∀ w', Box w' g e cs → w.grownBy w' (some g) → w'.heap.size = w.heap.size → wpList P ops Q rest act w') :
    wpList P ops Q ({ dst := none, op := .store t x y, type := ty, pos := pos, after := after, guard := none } :: rest) act w :=
  store_box t x y e g 0 old cs v hsz hb hx hy hv (by omega) h1 (fun w' hb' hg hs => hK w' (by
    have e1 : old.drop (0 + cs.length) = [] := List.drop_eq_nil_of_le (by omega)
    rw [e1, List.take_zero, List.nil_append, List.append_nil] at hb'
    exact hb') hg hs)
/-- an operation whose value is known -/
theorem val_at {o : Oper} (hg : o.guard = none) (v : Value) (h : (execOp act.eval o).run P w = .ok (.value v) w) (hK : wpList P ops Q rest (act.put o.dst v) w) : wpList P ops Q (o :: rest) act w := by
  refine wpList_plain hg fun K hK' => ?_
  unfold Oper.wp
  rw [h]
  exact hK' _ _ hK
/-- the walk stops ahead of an operation 'build' -/
theorem hold_build {dst : Option Tmp} {t ty : TypeId} {ps : Array (Nat × Operand)} {pos : String} {after : Array Edge} {g : Option (Nat × Bool)}
    (h : Hid (wpList P ops Q ({ dst := dst, op := .build t ps, type := ty, pos := pos, after := after, guard := g } :: rest) act w)) : wpList P ops Q ({ dst := dst, op := .build t ps, type := ty, pos := pos, after := after, guard := g } :: rest) act w := h
/-- one cell of a block is stored -/
theorem store_cell (t : TypeId) (x y : Operand) (e : TypeId) (g j : Nat) (old : List Value) (v : Value) (hsz : (P.info? t).map (·.size) = some 1) (hb : Box w g e old) (hx : act.eval x = .pointer (some ⟨g, j, none⟩))
    (hy : act.eval y = v) (h1 : v.oneCell' = true) (hv : v.cells = #[v]) (hj : j < old.length)
    (hK : ∀ w', Box w' g e (old.set j v) → w.grownBy w' (some g) → w'.heap.size = w.heap.size → wpList P ops Q rest act w') :
    wpList P ops Q ({ dst := none, op := .store t x y, type := ty, pos := pos, after := after, guard := none } :: rest) act w :=
  store_box t x y e g j old [v] v hsz hb hx hy hv (by simp; omega) (by simpa using h1) (fun w' hb' hg hs => hK w' (by
    have e : old.take j ++ [v] ++ old.drop (j + [v].length) = old.set j v := by
      rw [List.set_eq_take_append_cons_drop, if_pos hj]
      simp
    rw [e] at hb'
    exact hb') hg hs)
/-- 'arr[lo:hi]' of an array in memory; lo, hi may lack -/
theorem cut_arr (d : Nat) (t arr e : TypeId) (n : Nat) (x : Operand) (lo hi : Option Operand) (ht : P.underlying t = some (.pointer arr)) (ha : P.underlying arr = some (.array n e)) (hsz : (P.info? e).map (·.size) = some 1)
    (g off : Nat) (hx : act.eval x = .pointer (some ⟨g, off, none⟩)) (l u : Nat)
    (hl : lo.map act.eval = none ∧ l = 0 ∨ ∃ k, lo.map act.eval = some (.int k (l : Int))) (hu : hi.map act.eval = none ∧ u = n ∨ ∃ k, hi.map act.eval = some (.int k (u : Int))) (hlu : l ≤ u) (hun : u ≤ n)
    (hK : ∀ a', (a' = some ⟨g, off + l, none⟩ ∨ (n = l ∧ a' = some ⟨g, off, none⟩)) → wpList P ops Q rest (act.put (some d) (.slice a' (u - l) (n - l))) w) :
    wpList P ops Q ({ dst := some d, op := .slice t x lo hi none, type := ty, pos := pos, after := after, guard := none } :: rest) act w := by
  refine wpList_plain rfl fun K hK' => ?_
  obtain ⟨i0, hi0, hs0⟩ := Option.map_eq_some_iff.1 hsz
  have h2 : (0 : Int) ≤ l ∧ (l : Int) ≤ u := by omega
  have h3 : (0 : Int) ≤ u ∧ (u : Int) ≤ n := by omega
  have e2 : (if n = l then (⟨g, off, none⟩ : Addr) else (⟨g, off, none⟩ : Addr).add (l * 1)) = (if n = l then ⟨g, off, none⟩ else ⟨g, off + l, none⟩) := by
    split
    · rfl
    · rw [Nat.mul_one, Addr.add_lit]
  have hrun : (Instr.sliceAt t (.pointer (some ⟨g, off, none⟩)) (lo.map act.eval) (hi.map act.eval) none).run P w = .ok (.slice (some (if n = l then ⟨g, off, none⟩ else ⟨g, off + l, none⟩)) (u - l) (n - l)) w := by
    rcases hl with ⟨hl, rfl⟩ | ⟨k1, hl⟩ <;> rcases hu with ⟨hu, rfl⟩ | ⟨k2, hu⟩ <;>
      simp [hl, hu, Instr.sliceAt, Instr.slice, Instr.sliceBounds, Instr.sliceBound, asIntOf, asAddr, run_underlying ht, run_underlying ha, sizeOf, typeInfo, hi0, hs0, h2, h3, Addr.add_lit, hlu, hun] <;> (try (split <;> simp_all [Addr.add])) <;> (try (intro _; simp_all [Addr.add]))
  unfold Oper.wp
  simp only [execOp, Option.map_none, hx, Sem.run_bind, hrun, Result.andThen, Sem.run_pure]
  refine hK' _ _ (hK _ ?_)
  by_cases hn : n = l
  · rw [if_pos hn]; exact .inr ⟨hn, rfl⟩
  · rw [if_neg hn]; exact .inl rfl
/-- 'v[i]' of an array that is a value, its elements of one cell -/
theorem index_val (d : Nat) (t e n : TypeId) (x y : Operand) (ht : P.underlying t = some (.array n e)) (hsz : (P.info? e).map (·.size) = some 1) (hna : ∀ w, (isAgg e).run P w = .ok false w) (cs : List Value) (hx : act.eval x = .agg cs.toArray) (k : IntKind) (i : Nat) (hy : act.eval y = .int k (i : Int)) (hi : i < n)
    (u : Value) (hu : cs[i]? = some u) (hK : wpList P ops Q rest (act.put (some d) u) w) :
    wpList P ops Q ({ dst := some d, op := .index t x y, type := ty, pos := pos, after := after, guard := none } :: rest) act w := by
  refine wpList_plain rfl fun K hK' => ?_
  obtain ⟨i0, hi0, hs0⟩ := Option.map_eq_some_iff.1 hsz
  have h3 : (0 : Int) ≤ i ∧ (i : Int) < n := by omega
  have hrun : (Instr.index t (.agg cs.toArray) (.int k (i : Int))).run P w = .ok u w := by
    simp [Instr.index, asIntOf, run_underlying ht, sizeOf, typeInfo, hi0, hs0, h3, part, hna, hu, hi]
  unfold Oper.wp
  simp [execOp, hx, hy, hrun, Result.andThen]
  exact hK' _ _ hK
end ops
section still
variable {P : Program} {w : World} {ops : Array Oper} {rest : List Oper} {act : Act} {Q : Act → Prop}
/-- an operation of a still head whose value is known -/
theorem still_at {o : Oper} (v : Value) (hw : Region.wanted o (yielded ops act.tmps) = true) (h : (execOp act.eval o).run P w = .ok (.value v) w)
    (hK : wpStill P ops w Q rest (act.put o.dst v)) : wpStill P ops w Q (o :: rest) act := by
  refine wpStill_step fun K hK' => ?_
  rw [if_pos hw]
  unfold Oper.still
  rw [h]
  exact ⟨rfl, hK' _ hK⟩
end still
theorem one_w {α : Type} {f : α → Value} (hf : ∀ x, (f x).oneCell' = true) (l : List α) : ∀ u ∈ l.map f, u.oneCell' = true := one_map f hf l
end Go.Dx
end

/- the text Make -/
section
/- make with a variable length, as a law of the walk that hands on an unnamed world. No program in sight. -/
set_option linter.unusedVariables false
namespace Go.Dx
open Go.RowKit

section
variable {P : Program} {w : World} {ops : Array Oper} {rest : List Oper} {act : Act} {Q : Exit → Act → World → Prop}
  {ty : TypeId} {pos : String} {after : Array Edge}
/-- 'make([]T, n)', T of one cell -/
theorem make_row (d : Nat) (t : TypeId) (l c : Operand) (e : TypeId) (z : Value) (bytes : Nat) (ht : P.underlying t = some (.slice e)) (hi : (P.info? e).map (fun i => (i.zero, i.size, i.bytes)) = some (some z, 1, bytes)) (hz1 : z.cells = #[z])
    (kl kc : IntKind) (v1 v2 : Int) (n : Nat) (hl : act.eval l = .int kl v1) (hc : act.eval c = .int kc v2) (h1 : v1 = (n : Int)) (h2 : v2 = (n : Int)) (hbytes : bytes * n ≤ 281474976710656) (h63 : n ≤ 9223372036854775807)
    (hK : ∀ w', w'.rowIs w.heap.size e n (fun _ => z) → Below w.heap.size w w' → w'.heap.size = w.heap.size + 1 → wpList P ops Q rest (act.put (some d) (.slice (some ⟨w.heap.size, 0, none⟩) n n)) w') :
    wpList P ops Q ({ dst := some d, op := .makeSlice t l c, type := ty, pos := pos, after := after, guard := none } :: rest) act w := by
  subst h1 h2
  obtain ⟨i, hi0, hz0, hz, hz2⟩ := info_parts hi
  refine wpList_make_row w rfl l c t rfl e i z ht hi0 hz0 hz hz1 kl kc n hl hc (by rw [hz2]; exact hbytes) h63 ?_
  exact hK _ (World.rowIs_made w z n e) ((Below.refl _ _).alloc (Nat.le_refl _) _) (by simp)
end

/-- a row of bytes, of truths, read as a slice -/
theorem row_sl' {w : World} {b : Nat} {t : TypeId} {n : Nat} {f : Nat → Value} (h : w.rowIs b t n f) (hm : n ≤ maxLen) (cs : List Value) (hl : cs.length = n) (he : ∀ j u, cs[j]? = some u → u = f j) : Sl w 1 (some ⟨b, 0, none⟩) n n cs :=
  ⟨by omega, Nat.le_refl _, hm, (fun h => by cases h), fun p hp j u hj => by
    cases hp
    have hj' : j < n := by rw [← hl]; exact (List.getElem?_eq_some_iff.1 hj).1
    rw [Addr.add_lit, Nat.zero_add, h.cell hj', he j u hj]⟩
theorem rowIs_below {w w' : World} {B b : Nat} {t : TypeId} {n : Nat} {f : Nat → Value} (h : w.rowIs b t n f) (hb : Below B w w') (hlt : b < B) : w'.rowIs b t n f := h.of_block (hb.block b hlt)
theorem rowIs_drewN {w : World} {b : Nat} {t : TypeId} {n : Nat} {f : Nat → Value} (h : w.rowIs b t n f) (m : Nat) : (w.drewN m).rowIs b t n f := h
end Go.Dx
end

/- the text Pg -/
section
/- Pages that a call builds by append: the slice of rows, and each row, owned. -/
namespace Go.Proofs.Ythfljnlankmoiaa
open Go.RowKit Go.Dx

theorem info_row : (Try.prog.info? 23).map (fun i => (i.zero, i.size, i.bytes)) = some (some (.slice none 0 0), 1, 24) := by kernel_rfl
theorem own_ne {w : World} {B B' : Nat} {e e' : TypeId} {sz sz' : Nat} {p q : Addr} {n n' c c' : Nat} {cs cs' : List Value} (h : Own w B e sz (some p) n c cs) (h' : Own w B' e' sz' (some q) n' c' cs') (he : e ≠ e') : p.block ≠ q.block := by
  intro hb
  rcases h.2 with ⟨h1, _⟩ | ⟨g, cap, cur, h1, _, h2, _⟩
  · cases h1
  · rcases h'.2 with ⟨k1, _⟩ | ⟨g', cap', cur', k1, _, k2, _⟩
    · cases k1
    · injection h1 with h1
      injection k1 with k1
      injection h1 with h1
      injection k1 with k1
      subst h1 k1
      have e : g = g' := hb
      rw [e, k2] at h2
      injection h2 with h2
      injection h2 with _ h2
      exact he h2.symm

/-- A page that the call owns. -/
structure OPage (w : World) (B : Nat) (a : Option Addr) (c : Nat) (hs : List Hd) (p : List (List UInt8)) : Prop where
  top : Own w B 23 1 a p.length c (hs.map hv)
  len : hs.length = p.length
  row : ∀ (i : Nat) (h : Hd) (r : List UInt8), hs[i]? = some h → p[i]? = some r → Own w B 5 1 h.1 h.2.1 h.2.2 (r.map B8)
theorem OPage.nil (w : World) (B : Nat) : OPage w B none 0 [] [] := ⟨Own.nil _ _ _ _, rfl, fun i h r h1 => by cases h1⟩
theorem OPage.below {w w' : World} {B : Nat} {a : Option Addr} {c : Nat} {hs : List Hd} {p : List (List UInt8)} (h : OPage w B a c hs p) (hb : Below w.heap.size w w') : OPage w' B a c hs p :=
  ⟨h.top.below hb, h.len, fun i x r h1 h2 => (h.row i x r h1 h2).below hb⟩
theorem OPage.pg {w : World} {B : Nat} {a : Option Addr} {c : Nat} {hs : List Hd} {p : List (List UInt8)} (h : OPage w B a c hs p) : Pg w a p.length c hs p :=
  ⟨h.top.sl, h.len, fun i x r h1 h2 => (h.row i x r h1 h2).sl⟩
theorem OPage.mono {w : World} {B B' : Nat} {a : Option Addr} {c : Nat} {hs : List Hd} {p : List (List UInt8)} (h : OPage w B a c hs p) (hB : B' ≤ B) : OPage w B' a c hs p :=
  ⟨h.top.mono hB, h.len, fun i x r h1 h2 => (h.row i x r h1 h2).mono hB⟩
theorem OPage.push {w w' : World} {B : Nat} {a a' : Option Addr} {c c' : Nat} {hs : List Hd} {p : List (List UInt8)} {x : Hd} {r : List UInt8} (h : OPage w B a c hs p) (hx : Own w B 5 1 x.1 x.2.1 x.2.2 (r.map B8))
    (ht : Own w' B 23 1 a' (p.length + 1) c' (hs.map hv ++ [hv x])) (hg : w.grownBy w' (a.map (·.block))) : OPage w' B a' c' (hs ++ [x]) (p ++ [r]) := by
  have key : ∀ (y : Hd) (s : List UInt8), Own w B 5 1 y.1 y.2.1 y.2.2 (s.map B8) → Own w' B 5 1 y.1 y.2.1 y.2.2 (s.map B8) := by
    intro y s hy
    refine hy.kept hg fun q hq => ?_
    cases a with
    | none => simp
    | some t =>
      have ho := h.top
      rw [hq] at hy
      have := own_ne hy ho (by decide)
      simpa using this
  refine ⟨by rw [List.length_append, List.map_append]; exact ht, by simp [h.len], ?_⟩
  intro i y s h1 h2
  rw [List.getElem?_append] at h1 h2
  by_cases hi : i < hs.length
  · rw [if_pos hi] at h1
    rw [if_pos (by rw [← h.len]; exact hi)] at h2
    exact key y s (h.row i y s h1 h2)
  · rw [if_neg hi] at h1
    rw [if_neg (by rw [← h.len]; exact hi)] at h2
    have e : i - hs.length = 0 := by
      have := (List.getElem?_eq_some_iff.1 h1).1
      simp at this; omega
    rw [e] at h1
    have e2 : i - p.length = 0 := by rw [← h.len]; exact e
    rw [e2] at h2
    simp at h1 h2
    subst h1 h2
    exact key x r hx
/-- What a call hands back that returns a page and an error. -/
def GivesPg (p : List (List UInt8)) (x : Int) (w : World) (r : Ending) (w' : World) : Prop :=
  ∃ a c h, r = .returned (.tuple #[.slice a p.length c, .int .i64 x]) ∧ Pg w' a p.length c h p ∧ Below w.heap.size w w'
section
variable {w : World} {ops : Array Oper} {rest : List Oper} {o : Oper} {act : Act} {Q : Exit → Act → World → Prop}
/-- 'append(p, l)' on a page -/
theorem app_p (hg : o.guard = none) (s x : Operand) (hop : o.op = Op.call { callee := Callee.builtin Builtin.append, args := #[s, x], argTypes := #[41, 41] })
    (w0 : World) (B : Nat) (a : Option Addr) (n c : Nat) (hs : List Hd) (p : List (List UInt8)) (hn0 : p.length = n) (hes : act.eval s = .slice a n c) (hown : OPage w B a c hs p)
    (y : Hd) (r : List UInt8) (hy : Own w B 5 1 y.1 y.2.1 y.2.2 (r.map B8)) (hx : act.eval x = .slice (some ⟨w.heap.size, 0, none⟩) 1 1)
    (hn : (n + 1) * 24 ≤ 140737488355328) (hB : B ≤ w.heap.size) (hbel : Below B w0 w)
    (hK : ∀ a' c' w', OPage w' B a' c' (hs ++ [y]) (p ++ [r]) → Below B w0 w' → wpList Try.prog ops Q rest (act.put o.dst (.slice a' (n + 1) c')) w') :
    wpList Try.prog ops Q (o :: rest) act (w.alloc (.cells #[hv y] 23)) := by
  subst hn0
  refine append_lit hg s x 41 hop 23 (.slice none 0 0) 1 24 Try.underlying41 info_row rfl w0 B a _ c _ hes hown.top 1 [hv y] hx rfl (by simp [hv, Value.oneCell']) hn (by unfold maxLen; omega) hB hbel ?_
  intro a' c' w' ho hgr hb
  exact hK a' c' w' (hown.push hy ho hgr) hb
end
end Go.Proofs.Ythfljnlankmoiaa
end

/- the text C15 -/
section
namespace Go.Proofs.Ythfljnlankmoiaa
open Go.RowKit Go.Dx

theorem info_bool : (Try.prog.info? 4).map (fun i => (i.zero, i.size, i.bytes)) = some (some (.bool false), 1, 1) := by kernel_rfl
theorem pos_left {W H k : Nat} (h : k < W * H) : 0 < W := by
  rcases Nat.eq_zero_or_pos W with h1 | h1
  · subst h1; simp at h
  · exact h1
theorem packL_len (W H : Nat) (b : List Bool) : (packL W H b).length = (H + 2) / 3 := by unfold packL; simp
theorem packRow_len (W H : Nat) (b : List Bool) (Y : Nat) : (packRow W H b Y).length = (W + 1) / 2 := by unfold packRow; simp
theorem packL_get {W H : Nat} {b : List Bool} {j : Nat} {r : List UInt8} (h : (packL W H b)[j]? = some r) : j < (H + 2) / 3 ∧ r = packRow W H b j := by
  have hl := (List.getElem?_eq_some_iff.1 h).1
  rw [packL_len] at hl
  refine ⟨hl, ?_⟩
  unfold packL at h
  rw [List.getElem?_map, List.getElem?_range hl] at h
  exact (Option.some.inj h).symm
theorem packRow_get {W H : Nat} {b : List Bool} {Y X : Nat} (h : X < (W + 1) / 2) : B8 ((packRow W H b Y).getD X 0) = .int .u8 ((cellAt W H b Y X : Nat) : Int) := by
  have e : (packRow W H b Y).getD X 0 = UInt8.ofNat (cellAt W H b Y X) := by
    unfold packRow
    rw [List.getD_eq_getElem?_getD, List.getElem?_map, List.getElem?_range h]; rfl
  rw [e]
  show Value.int .u8 ((UInt8.ofNat (cellAt W H b Y X)).toNat : Int) = _
  rw [u8_six (cellAt W H b Y X) (six_lt _)]
theorem pg_rows {w : World} {T h m : Nat} {rt ut : TypeId} (hrow : w.rowIs T rt h (fun i => .slice (some ⟨T + 1 + i, 0, none⟩) m m)) (hh : h ≤ maxLen) (hm : m ≤ maxLen) (p : List (List UInt8)) (hl : p.length = h)
    (hf : ∀ j r, p[j]? = some r → r.length = m ∧ w.rowIs (T + 1 + j) ut m (fun X => B8 (r.getD X 0))) :
    Pg w (some ⟨T, 0, none⟩) h h ((List.range h).map fun i => (some ⟨T + 1 + i, 0, none⟩, m, m)) p := by
  refine ⟨row_sl' hrow hh _ (by simp) ?_, by simp [hl], ?_⟩
  · intro j u hj
    rw [List.map_map, List.getElem?_map] at hj
    obtain ⟨i, hi, rfl⟩ := Option.map_eq_some_iff.1 hj
    have hjl : j < h := by have := (List.getElem?_eq_some_iff.1 hi).1; simpa using this
    rw [List.getElem?_range hjl] at hi
    cases hi
    rfl
  · intro i x r hx hr
    obtain ⟨h1, h2⟩ := hf i r hr
    rw [List.getElem?_map] at hx
    obtain ⟨i', hi', rfl⟩ := Option.map_eq_some_iff.1 hx
    have hil : i < h := by have := (List.getElem?_eq_some_iff.1 hi').1; simpa using this
    rw [List.getElem?_range hil] at hi'
    cases hi'
    refine row_sl' h2 hm _ (by rw [List.length_map]; exact h1) ?_
    intro j u hj
    rw [List.getElem?_map] at hj
    obtain ⟨y, hy, rfl⟩ := Option.map_eq_some_iff.1 hj
    rw [List.getD_eq_getElem?_getD, hy]; rfl
theorem two_fin : ∀ s : Fin 6, IntKind.u8.wrap (2 ^ s.val) = ((2 ^ s.val : Nat) : Int) := by decide
theorem two_wrap (s : Nat) (h : s < 6) : IntKind.u8.wrap (2 ^ s) = ((2 ^ s : Nat) : Int) := two_fin ⟨s, h⟩
/-- the rows of a page that is being made -/
def pageF (T m k i : Nat) : Value := if i < k then .slice (some ⟨T + 1 + i, 0, none⟩) m m else .slice none 0 0

set_option maxRecDepth 100000 in
set_option maxHeartbeats 1000000 in
theorem cell_Pack (W H : Nat) (b : List Bool) (a : Option Addr) (n c : Nat) (w : World) (hs : Sl w 1 a n c (b.map Value.bool)) (hb : b.length = W * H) (hW : W ≤ 65536) (hH : H ≤ 65536) (hWH : W * H ≤ 65536) :
    Calls Try.prog 22 #[RV W H a n c] w (GivesPg (packL W H b) 0 w) := by
  have hv := fun w => cell_valid W H a n c w
  have hnl : n = W * H := by rw [hs.n_eq, hb]
  have hp : properB W H n = true := proper_yes ⟨by omega, by omega, by omega, by omega, by rw [← Int.natCast_mul]; omega, by rw [← Int.natCast_mul]; omega⟩
  rw [hp] at hv
  obtain ⟨h3, Hh3⟩ : ∃ h3, Hid (h3 = (H + 2) / 3) := ⟨_, rfl⟩
  obtain ⟨w2, Hw2⟩ : ∃ w2, Hid (w2 = (W + 1) / 2) := ⟨_, rfl⟩
  have h3le : h3 ≤ 65536 := by rw [Hh3.out]; omega
  have w2le : w2 ≤ 65536 := by rw [Hw2.out]; omega
  have HB := hide hb
  have HN := hide hnl
  have hn2 : n ≤ 65536 := by omega
  clear hp hb hnl
  go_enter Try.func22, Try.ntmps22
  go_wp2_with (go_at_call 56; refine (hv _).mono ?_)
  rintro e w1 ⟨rfl, hb1⟩
  have hx1 : Box w1 w.heap.size 36 [.int .i64 W, .int .i64 H, .slice a n c] := (Box.new w _ _).under hb1
  have c0 := hx1.at_ (j := 0) rfl
  have c1 := hx1.at_ (j := 1) rfl
  have c2 := hx1.at_ (j := 2) rfl
  have hlt1 := hx1.lt
  go_wp2_with (with_reducible refine make_row 17 _ _ _ 23 (.slice none 0 0) 24 Try.underlying41 info_row rfl _ _ _ _ h3 rfl rfl (by rw [Hh3.out]; omega) (by rw [Hh3.out]; omega) (by omega) (by omega) ?_; intro w3 hrow3 hb3 hz3)
  go_loopg [20] h3 (fun g i w' => ∃ k : Nat, k ≤ h3 ∧ g = h3 - k ∧ i = .int .i64 k ∧ Below w1.heap.size w1 w' ∧ w'.heap.size = w1.heap.size + 1 + k ∧ w'.rowIs w1.heap.size 23 h3 (pageF w1.heap.size w2 k) ∧ (∀ j, j < k → w'.rowIs (w1.heap.size + 1 + j) 5 w2 (fun _ => .int .u8 0)))
  case atStart => exact ⟨0, by omega, by omega, rfl, hb3, by omega, hrow3.congr (fun i _ => by unfold pageF; rw [if_neg (by omega)]), fun j hj => by omega⟩
  case round =>
    obtain ⟨k, hk, hg, rfl, hbk, hzk, hrk, hfk⟩ := hrel
    have HG := hide hg
    have HF := hide hfk
    have HZ := hide hzk
    clear hg hfk hzk
    have hxk := hx1.below hbk (by simpa using hlt1)
    have d0 := hxk.at_ (j := 0) rfl
    by_cases hkl : k < h3
    · go_wp2_with (with_reducible refine make_row 29 _ _ _ 5 (.int .u8 0) 1 Try.underlying23 info_u8 rfl _ _ _ _ w2 rfl rfl (by rw [Hw2.out]; omega) (by rw [Hw2.out]; omega) (by omega) (by omega) ?_; intro w4 hrow4 hb4 hz4; have hr4 := rowIs_below hrk hb4 (hrk.lt); have e1 := hr4.cell hkl; have e2 := hr4.frozen k)
      go_roundg (h3 - (k + 1))
      case measure => have := HG.out; omega
      case rel =>
        have hz := HZ.out
        have hb5 := hbk.trans (hb4.mono hbk.size)
        refine ⟨k + 1, by omega, rfl, by go_num, hb5.setCell (p := ⟨w1.heap.size, k, none⟩) (Nat.le_refl _) _, by rw [Deep.nblk_setCell, hz4, hz]; omega, (hr4.set k _).congr ?_, ?_⟩
        · intro i hi
          unfold pageF
          by_cases e : i = k
          · subst e
            rw [if_pos rfl, if_pos (by omega), hz]
          · rw [if_neg e]
            by_cases h : i < k
            · rw [if_pos h, if_pos (by omega)]
            · rw [if_neg h, if_neg (by omega)]
        · intro j hj
          refine World.rowIs.setOther ?_ (by simp; omega) _
          by_cases e : j = k
          · subst e
            rw [← hz]; exact hrow4
          · exact rowIs_below (HF.out j (by omega)) hb4 (by have := (HF.out j (by omega)).lt; omega)
    · obtain rfl : h3 = k := by omega
      obtain ⟨wp, rfl⟩ : ∃ wp : World, wp = wr := ⟨_, rfl⟩
      have HP : wp.rowIs w1.heap.size 23 h3 (fun i => .slice (some ⟨w1.heap.size + 1 + i, 0, none⟩) w2 w2) := hrk.congr (fun i hi => by unfold pageF; rw [if_pos hi])
      have d2 := hxk.at_ (j := 2) rfl
      have hsk := hs.below ((bl1 w _).trans (hb1.mono (by simp)))
      have HC : Hid (∀ j, j < h3 → wp.rowIs (w1.heap.size + 1 + j) 5 w2 (fun X => .int .u8 (cellTo W H b 0 j X : Nat))) := fun j hj => (HF.out j hj).congr (fun X _ => by rw [cellTo_zero]; rfl)
      clear hrk HF
      go_wp2
      go_loopg [35] n (fun g i w' => ∃ k : Nat, k ≤ n ∧ g = n - k ∧ i = .int .i64 k ∧ Below w1.heap.size w1 w' ∧ w'.rowIs w1.heap.size 23 h3 (fun i => .slice (some ⟨w1.heap.size + 1 + i, 0, none⟩) w2 w2) ∧ (∀ j, j < h3 → w'.rowIs (w1.heap.size + 1 + j) 5 w2 (fun X => .int .u8 (cellTo W H b k j X : Nat))))
      case atStart => exact ⟨0, by omega, by omega, rfl, hbk, HP, HC.out⟩
      case round =>
        clear HP HC
        obtain ⟨k, hk, hg, rfl, hbk2, hrk, hfk⟩ := hrel
        have HG := hide hg
        have HF := hide hfk
        clear hg hfk
        by_cases hkl : k < n
        · have hxk := hx1.below hbk2 (by simpa using hlt1)
          have e0 := hxk.at_ (j := 0) rfl
          have hWp : 0 < W := pos_left (show k < W * H by have := HN.out; omega)
          obtain ⟨v, hbit⟩ : ∃ v, b[k]? = some v := ⟨b[k]'(by rw [HB.out, ← HN.out]; exact hkl), by simp⟩
          obtain ⟨b1, o1, rfl, hb1', hc1⟩ := (hsk.below (hbk2.mono (Nat.le_refl _))).ex (by rw [List.length_map, HB.out, ← HN.out]; omega)
          have hcl := hc1 k (.bool v) (by rw [List.getElem?_map, hbit]; rfl)
          have HV := hide hbit
          clear hc1 hbit
          have hkWH : k < W * H := by have := HN.out; omega
          have hkk : k ≤ 65536 := by omega
          obtain ⟨x, Hx⟩ : ∃ x, Hid (x = k % W) := ⟨_, rfl⟩
          obtain ⟨y, Hy⟩ : ∃ y, Hid (y = k / W) := ⟨_, rfl⟩
          have xlt : x < W := by rw [Hx.out]; exact Nat.mod_lt _ hWp
          have ylt : y < H := by rw [Hy.out]; exact Nat.div_lt_of_lt_mul hkWH
          have Mx : Hid ((k : Int) % (W : Int) = (x : Int)) := by show _ = _; rw [Hx.out]; exact (Int.natCast_emod k W).symm
          have My : Hid (wrap64 ((k : Int) / (W : Int)) = (y : Int)) := by
            show _ = _
            have e : (k : Int) / (W : Int) = (y : Int) := by rw [Hy.out]; exact (Int.natCast_ediv k W).symm
            rw [e]; exact IntWalk.wrap64_in _ (by omega)
          cases v
          · have HC : Hid (∀ j X, cellTo W H b (k + 1) j X = cellTo W H b k j X) := fun j X => cellTo_no (by rw [List.getD_eq_getElem?_getD, HV.out]; rfl) j X
            go_wp2
            go_quiet (fail)
            go_wp2
            go_roundg (n - (k + 1))
            case measure => have := HG.out; omega
            case rel => exact ⟨k + 1, by omega, rfl, by go_num, belowN hbk2 _, rowIs_drewN hrk _, fun j hj => (rowIs_drewN (HF.out j hj) _).congr (fun X _ => by rw [HC.out])⟩
          · obtain ⟨Y, HY⟩ : ∃ Y, Hid (Y = y / 3) := ⟨_, rfl⟩
            obtain ⟨X, HX⟩ : ∃ X, Hid (X = x / 2) := ⟨_, rfl⟩
            obtain ⟨s, HS⟩ : ∃ s, Hid (s = y % 3 + 3 * (x % 2)) := ⟨_, rfl⟩
            have Ylt : Y < h3 := by rw [HY.out, Hh3.out]; omega
            have Xlt : X < w2 := by rw [HX.out, Hw2.out]; omega
            have slt : s < 6 := by rw [HS.out]; omega
            have MY : Hid ((y : Int) / 3 = (Y : Int)) := by show _ = _; rw [HY.out]; omega
            have MX : Hid ((x : Int) / 2 = (X : Int)) := by show _ = _; rw [HX.out]; omega
            obtain ⟨r, Hr⟩ : ∃ r, Hid (r = y % 3) := ⟨_, rfl⟩
            obtain ⟨q, Hq⟩ : ∃ q, Hid (q = x % 2) := ⟨_, rfl⟩
            obtain ⟨u, Hu⟩ : ∃ u, Hid (u = 3 * q) := ⟨_, rfl⟩
            have ult : u ≤ 3 := by rw [Hu.out, Hq.out]; omega
            have Mr : Hid ((y : Int).tmod 3 = (r : Int)) := by show _ = _; rw [Int.tmod_eq_emod_of_nonneg (by omega), Hr.out]; omega
            have Mq : Hid ((x : Int).tmod 2 = (q : Int)) := by show _ = _; rw [Int.tmod_eq_emod_of_nonneg (by omega), Hq.out]; omega
            have Mu : Hid (3 * (q : Int) = (u : Int)) := by show _ = _; rw [Hu.out]; omega
            have MS : Hid ((r : Int) + (u : Int) = (s : Int)) := by show _ = _; rw [HS.out, Hr.out, Hu.out, Hq.out]; omega
            have zY : IntKind.i64.wrap (Y : Int) = (Y : Int) := IntWalk.i64_in _ (by omega)
            have zX : IntKind.i64.wrap (X : Int) = (X : Int) := IntWalk.i64_in _ (by omega)
            have zu : IntKind.i64.wrap (u : Int) = (u : Int) := IntWalk.i64_in _ (by omega)
            have zs : IntKind.i64.wrap (s : Int) = (s : Int) := IntWalk.i64_in _ (by omega)
            obtain ⟨C, HC⟩ : ∃ C, Hid (cellTo W H b k Y X = C) := ⟨_, rfl⟩
            obtain ⟨E, HEE⟩ : ∃ E, Hid (2 ^ s = E) := ⟨_, hide rfl⟩
            have HE : Hid (IntKind.u8.wrap (2 ^ s) = (E : Int)) := by show _ = _; rw [two_wrap s slt, HEE.out]
            obtain ⟨D, HD⟩ : ∃ D, Hid (cellTo W H b (k + 1) Y X = D) := ⟨_, rfl⟩
            have HO : Hid (bits BinOp.or IntKind.u8 (C : Int) (E : Int) = (D : Int)) := by
              show _ = _
              rw [← HEE.out, ← HC.out, ← HD.out, HY.out, HX.out, HS.out, Hx.out, Hy.out]
              exact cellTo_own hWp hkWH (by rw [List.getD_eq_getElem?_getD, HV.out]; rfl)
            have HOth : Hid (∀ j X', ¬ (j = Y ∧ X' = X) → cellTo W H b (k + 1) j X' = cellTo W H b k j X') := fun j X' hne => cellTo_other hWp j X' (fun e => hne (by rw [HY.out, HX.out, Hy.out, Hx.out]; exact e))
            have q1 := hrk.cell Ylt
            have hfY := HF.out Y Ylt
            have q2 := hfY.cell Xlt
            rw [HC.out] at q2
            have q3 := hfY.frozen X
            have Yi : (Y : Int) < h3 := by omega
            have Xi : (X : Int) < w2 := by omega
            go_wp2
            go_quiet (fail)
            rw [Mx.out, My.out]
            have mY := MY.out
            have mX := MX.out
            have mr := Mr.out
            have mq := Mq.out
            have mu := Mu.out
            have mS := MS.out
            go_wp2
            refine wp_region_still_tail 18 (by kernel_rfl) (by kernel_rfl) ?_
            change wpStill _ _ (World.drew _) _ _ _
            simp only [List.take_succ_cons, List.take_zero, List.drop_succ_cons, List.drop_zero]
            iterate 16 still_step
            rw [HE.out]
            iterate 2 still_step
            rw [HO.out]
            refine wpStill_nil ?_
            change wpList _ _ _ _ _ (World.drew _)
            go_wp2
            go_roundg (n - (k + 1))
            case measure => have := HG.out; omega
            case rel =>
              refine ⟨k + 1, by omega, rfl, by go_num, (belowN hbk2 _).setCell (p := ⟨w1.heap.size + 1 + Y, X, none⟩) (by simp; omega) _, (rowIs_drewN hrk _).setOther (by simp; omega) _, fun j hj => ?_⟩
              by_cases hjY : j = Y
              · subst hjY
                refine ((rowIs_drewN (HF.out j hj) _).set X _).congr fun X' hX' => ?_
                by_cases e : X' = X
                · subst e
                  rw [if_pos rfl, HD.out]
                · rw [if_neg e, HOth.out j X' (fun h => e h.2)]
              · refine ((rowIs_drewN (HF.out j hj) _).setOther (by simp; omega) _).congr fun X' _ => ?_
                rw [HOth.out j X' (fun h => hjY h.1)]
        · obtain rfl : n = k := by omega
          go_wp2
          go_ret2
          have hpl : (packL W H b).length = h3 := by rw [packL_len, Hh3.out]
          refine ⟨some ⟨w1.heap.size, 0, none⟩, h3, (List.range h3).map fun i => (some ⟨w1.heap.size + 1 + i, 0, none⟩, w2, w2), by rw [hpl]; rfl, ?_, ((bl1 w _).trans (hb1.mono (by simp))).trans (hbk2.mono (Nat.le_of_lt hlt1))⟩
          rw [hpl]
          refine pg_rows (ut := 5) hrk (by unfold maxLen; omega) (by unfold maxLen; omega) _ hpl ?_
          intro j r hj
          obtain ⟨hj1, rfl⟩ := packL_get hj
          refine ⟨by rw [packRow_len, Hw2.out], ?_⟩
          refine (HF.out j (by rw [Hh3.out]; exact hj1)).congr fun X hX => ?_
          rw [packRow_get (by rw [← Hw2.out]; exact hX), cellTo_all (by rw [HN.out]; exact Nat.le_refl _)]

set_option maxHeartbeats 400000 in
theorem cell_Pack_no (W H : Int) (a : Option Addr) (n c : Nat) (w : World) (hp : properB W H n = false) :
    Calls Try.prog 22 #[RV W H a n c] w fun e w' => e = .returned (.tuple #[.slice none 0 0, .int .i64 1]) ∧ Below w.heap.size w w' := by
  have hv := fun w => cell_valid W H a n c w
  rw [hp] at hv
  clear hp
  go_enter Try.func22, Try.ntmps22
  go_wp2_with (go_at_call 56; refine (hv _).mono ?_; rintro e w1 ⟨rfl, hb1⟩)
  go_ret2
  exact ⟨rfl, (bl1 w _).trans (hb1.mono (by simp))⟩
end Go.Proofs.Ythfljnlankmoiaa
end

/- the text C16 -/
section
namespace Go.Proofs.Ythfljnlankmoiaa
open Go.RowKit Go.Dx

section
variable {P : Program} {w : World}
theorem run_results_cell2 {fn : Func} {tmps : Array Value} {t t2 : Tmp} {ty e : TypeId} {g : Nat} {cs : List Value} {v2 : Value} (hr : fn.results = #[.cell t ty, .tmp t2]) (ht : tmps.getD t undef = .pointer (some ⟨g, 0, none⟩)) (h2 : tmps.getD t2 undef = v2) (hag : IsAgg P ty) (hsz : (P.info? ty).map (·.size) = some cs.length)
    (hb : Box w g e cs) : (results fn tmps).run P w = .ok (.tuple #[.agg cs.toArray, v2]) w := by
  have hl := run_loadVar_box (P := P) (off := 0) hag hsz hb (fun j u hj => by rw [Nat.zero_add]; exact hj)
  have ht2 : tmps[t]?.getD undef = .pointer (some ⟨g, 0, none⟩) := by rw [← ht]; simp
  have ht3 : tmps[t2]?.getD undef = v2 := by rw [← h2]; simp
  simp only [results, hr]
  simp [ht2, ht3, asAddr, hl]
end
theorem Sl.far {w : World} {sz : Nat} {a : Option Addr} {n c : Nat} {cs : List Value} (h : Sl w sz a n c cs) {p : Addr} (hp : ∀ q, a = some q → q.block ≠ p.block) (u : Value) : Sl (w.setCell p u) sz a n c cs :=
  ⟨h.len, h.le, h.cap, h.nil, fun q hq j v hj => by
    have h1 := h.cell q hq j v hj
    have e : (q.add j).block = q.block := by unfold Addr.add; split <;> rfl
    rw [World.cell?_of_block (w := w) (a := q.add j) (Below.heap_setCell w p u (q.add j).block (by rw [e]; exact hp q hq))]
    exact h1⟩
theorem isAgg_raster : IsAgg Try.prog 36 := .inr ⟨_, Try.underlying36⟩
theorem size_raster (x y z : Value) : (Try.prog.info? 36).map (·.size) = some [x, y, z].length := by kernel_rfl

set_option maxHeartbeats 400000 in
theorem cell_Unpack1 (xv yv : Int) (x y W R g n i : Nat) (f : Nat → Value) (w : World) (hxv : xv = (x : Int)) (hyv : yv = (y : Int)) (hn : n ≤ 65536) (hi : y * W + x = i) (hin : i < n) (c0 : w.cell? ⟨R, 0, none⟩ = some (.int .i64 W)) (c2 : w.cell? ⟨R, 2, none⟩ = some (.slice (some ⟨g, 0, none⟩) n n)) (hg : w.rowIs g 4 n f) :
    Calls Try.prog 58 #[.int .i64 xv, .int .i64 yv, .pointer (some ⟨R, 0, none⟩)] w fun e w' => e = .returned (.tuple #[]) ∧ w' = w.setCell ⟨g, i, none⟩ (.bool true) := by
  subst hxv hyv
  obtain ⟨M, HM⟩ : ∃ M, Hid (y * W = M) := ⟨_, hide rfl⟩
  rw [HM.out] at hi
  have hw : wrap64 ((y : Int) * (W : Int)) = (M : Int) := by
    rw [← Int.natCast_mul, HM.out]; exact IntWalk.wrap64_in _ (by omega)
  have hw2 : IntKind.i64.wrap ((y : Int) * (W : Int)) = (M : Int) := by
    rw [← Int.natCast_mul, HM.out]; exact IntWalk.i64_in _ (by omega)
  have d1 := hg.cell hin
  have d2 := hg.frozen i
  have hlt : (M : Int) + x < n := by omega
  have hM : M ≤ 65536 := by omega
  have hx : x ≤ 65536 := by omega
  have hlt2 : M + x < n := by omega
  subst hi
  go_enter Try.func58, Try.ntmps58
  go_wp2
  go_end0
  exact ⟨rfl, rfl⟩

/-- the memory while the dots are set -/
structure UnW (w w' : World) (W H N : Nat) (f : Nat → Value) : Prop where
  res : Box w' w.heap.size 36 [.int .i64 0, .int .i64 0, .slice none 0 0]
  ras : Box w' (w.heap.size + 1) 36 [.int .i64 W, .int .i64 H, .slice (some ⟨w.heap.size + 2, 0, none⟩) N N]
  row : w'.rowIs (w.heap.size + 2) 4 N f
  bel : Below w.heap.size w w'
theorem UnW.under {w w' w2 : World} {W H N : Nat} {f : Nat → Value} (h : UnW w w' W H N f) (hb : Below w'.heap.size w' w2) : UnW w w2 W H N f :=
  ⟨h.res.under hb, h.ras.under hb, rowIs_below h.row hb h.row.lt, h.bel.trans (hb.mono h.bel.size)⟩
theorem UnW.congr {w w' : World} {W H N : Nat} {f g : Nat → Value} (h : UnW w w' W H N f) (e : ∀ i, i < N → f i = g i) : UnW w w' W H N g := ⟨h.res, h.ras, h.row.congr e, h.bel⟩
theorem UnW.set {w w' : World} {W H N : Nat} {f : Nat → Value} (h : UnW w w' W H N f) (i : Nat) (v : Value) : UnW w (w'.setCell ⟨w.heap.size + 2, i, none⟩ v) W H N (fun j => if j = i then v else f j) :=
  ⟨h.res.far (by simp) _, h.ras.far (by simp) _, h.row.set i v, h.bel.setCell (p := ⟨w.heap.size + 2, i, none⟩) (by simp) _⟩

theorem un_box {w w4 : World} {z : Array Value} {cs : Array Value} {t : TypeId} (hb : Below ((w.alloc (.cells z t)).alloc (.cells cs t)).heap.size ((w.alloc (.cells z t)).alloc (.cells cs t)) w4) : Box w4 (w.heap.size + 1) t cs.toList := by
  have := (Box.new (w.alloc (.cells z t)) t cs).under hb
  simpa using this
theorem un_box0 {w w4 : World} {z : Array Value} {cs : Array Value} {t : TypeId} (hb : Below ((w.alloc (.cells z t)).alloc (.cells cs t)).heap.size ((w.alloc (.cells z t)).alloc (.cells cs t)) w4) : Box w4 w.heap.size t z.toList :=
  ((Box.new w t z).alloc _).under hb

theorem bad_take {p : List (List UInt8)} {k : Nat} {r : List UInt8} (h : p[k]? = some r) (h0 : (p.take k).any (fun l => !validB l) = false) (hr : validB r = true) : (p.take (k + 1)).any (fun l => !validB l) = false :=
  any_take_no h h0 (by simp [hr])
theorem wide_next {p : List (List UInt8)} {k : Nat} {r : List UInt8} (h : p[k]? = some r) : wideL (p.take (k + 1)) = max (wideL (p.take k)) r.length := by rw [take_snoc h, wideL_snoc]
theorem wide_take_le (p : List (List UInt8)) (k : Nat) : wideL (p.take k) ≤ wideL p := by
  refine wideL_le fun l hl => wideL_ge (List.mem_of_mem_take hl)

set_option maxRecDepth 100000 in
set_option maxHeartbeats 1000000 in
theorem cell_Unpack_yes (p : List (List UInt8)) (hs : List Hd) (a : Option Addr) (n c : Nat) (w : World) (hp : Pg w a n c hs p) (hv : p.any (fun l => !validB l) = false) (h1 : 2 * wideL p ≤ 65536) (h2 : 3 * p.length ≤ 65536) (h3 : 2 * wideL p * (3 * p.length) ≤ 65536) :
    Calls Try.prog 27 #[.slice a n c] w fun e w' => ∃ a' n' c', e = .returned (.tuple #[RV (2 * wideL p : Nat) (3 * p.length : Nat) a' n' c', .int .i64 0]) ∧ Sl w' 1 a' n' c' ((rbits p (2 * wideL p) (2 * wideL p * (3 * p.length))).map Value.bool) ∧ Below w.heap.size w w' := by
  obtain rfl := hp.n_eq
  have hm1 := Nat.le_trans hp.top.le hp.top.cap
  unfold maxLen at hm1
  obtain ⟨wd, Hwd⟩ : ∃ wd, Hid (wideL p = wd) := ⟨_, hide rfl⟩
  obtain ⟨W, HW⟩ : ∃ W, Hid (2 * wd = W) := ⟨_, hide rfl⟩
  obtain ⟨H, HH⟩ : ∃ H, Hid (3 * p.length = H) := ⟨_, hide rfl⟩
  obtain ⟨N, HN⟩ : ∃ N, Hid (W * H = N) := ⟨_, hide rfl⟩
  rw [Hwd.out, HW.out, HH.out, HN.out] at h3
  rw [Hwd.out, HW.out] at h1
  rw [HH.out] at h2
  rw [Hwd.out, HW.out, HH.out, HN.out]
  have HV := hide hv
  clear hv
  go_enter Try.func27, Try.ntmps27
  go_wp2_with fail
  go_loopg [4, 17] p.length (fun g x i w' => ∃ (k m : Nat), k ≤ p.length ∧ g = p.length - k ∧ m = wideL (p.take k) ∧ x = .int .i64 m ∧ i = .int .i64 k ∧ w' = w.alloc (.cells #[.int .i64 0, .int .i64 0, .slice none 0 0] 36))
  case atStart => exact ⟨0, 0, by omega, by omega, rfl, rfl, rfl, rfl⟩
  case round =>
    obtain ⟨k, m, hk, hg, hm, rfl, rfl, rfl⟩ := hrel
    have HG := hide hg
    have HM := hide hm
    have hml : m ≤ 65536 := by rw [hm]; have := wide_take_le p k; rw [Hwd.out] at this; have := HW.out; omega
    clear hg hm
    by_cases hkl : k < p.length
    · obtain ⟨r, hr⟩ : ∃ r, p[k]? = some r := ⟨p[k], by simp [hkl]⟩
      obtain ⟨a1, c1, hu, hsr⟩ := (hp.below (bl1 w (.cells #[.int .i64 0, .int .i64 0, .slice none 0 0] 36))).get hr
      have HU := hide hu
      have hrl := Nat.le_trans hsr.le hsr.cap
      unfold maxLen at hrl
      have hval := cell_Valid r a1 _ c1 _ hsr
      have hvr : validB r = true := by
        have := List.any_eq_false.1 HV.out r (List.mem_of_getElem? hr)
        simpa using this
      rw [hvr] at hval
      have HM2 := hide (wide_next hr)
      clear hu hr hvr
      by_cases hmr : m < r.length
      · go_wp2_with (first
          | (with_reducible refine idx_p 19 _ _ _ _ _ hs rfl (hp.below (bl1 w _)).top _ _ k rfl rfl _ HU.out ?_; intro b o hcell hbo)
          | (go_at_call 16; refine hval.mono ?_; rintro e w2 ⟨rfl, rfl⟩))
        go_roundg (p.length - (k + 1))
        case measure => have := HG.out; omega
        case rel => exact ⟨k + 1, r.length, by omega, rfl, by rw [HM2.out, ← HM.out]; omega, by go_num, by go_num, rfl⟩
      · go_wp2_with (first
          | (with_reducible refine idx_p 19 _ _ _ _ _ hs rfl (hp.below (bl1 w _)).top _ _ k rfl rfl _ HU.out ?_; intro b o hcell hbo)
          | (go_at_call 16; refine hval.mono ?_; rintro e w2 ⟨rfl, rfl⟩))
        go_roundg (p.length - (k + 1))
        case measure => have := HG.out; omega
        case rel => exact ⟨k + 1, m, by omega, rfl, by rw [HM2.out, ← HM.out]; omega, by go_num, by go_num, rfl⟩
    · obtain rfl : k = p.length := by omega
      have hmw : m = wd := by rw [HM.out, List.take_length, Hwd.out]
      clear HM
      subst hmw
      have hpl : p.length ≤ 21846 := by have := HH.out; omega
      have d1 : decide (65536 < (W : Int)) = false := decide_eq_false (by omega)
      have d2 : decide (65536 < (H : Int)) = false := decide_eq_false (by omega)
      have d3 : decide (65536 < (N : Int)) = false := decide_eq_false (by omega)
      have MN : Hid (wrap64 ((W : Int) * (H : Int)) = (N : Int)) := by
        show _ = _
        rw [← Int.natCast_mul, HN.out]; exact IntWalk.wrap64_in _ (by omega)
      have mW : 2 * (m : Int) = (W : Int) := by have := HW.out; omega
      have mH : 3 * (p.length : Int) = (H : Int) := by have := HH.out; omega
      have mN := MN.out
      go_wp2_with (with_reducible refine make_row 58 _ _ _ 4 (.bool false) 1 Try.underlying34 info_bool rfl _ _ _ _ N rfl rfl MN.out MN.out (by omega) (by omega) ?_; intro w4 hrow4 hb4 hz4; have hr4 := un_box hb4; have e2 := hr4.at_ (j := 2) rfl; have e3 := hr4.free 2)
      have hU0 : UnW w (w4.setCell ⟨w.heap.size + 1, 2, none⟩ (.slice (some ⟨w.heap.size + 1 + 1, 0, none⟩) N N)) W H N (fun i => .bool (upTo p W 0 0 [] i)) := by
        refine ⟨(un_box0 hb4).far (by simp) _, by simpa using hr4.put 2 (.slice (some ⟨w.heap.size + 1 + 1, 0, none⟩) N N), ?_, ((bl2 w _ _).trans (hb4.mono (by simp; omega))).setCell (by simp) _⟩
        have h5 := hrow4.setOther (a := ⟨w.heap.size + 1, 2, none⟩) (by simp) (.slice (some ⟨w.heap.size + 1 + 1, 0, none⟩) N N)
        refine World.rowIs.congr (f := fun _ => .bool false) (by simpa using h5) ?_
        intro i _
        rw [upTo_zero]
      clear mN mW mH d1 d2 d3
      have HWL : Hid (∀ r ∈ p, 2 * r.length ≤ W) := fun r hr => by have := wideL_ge hr; rw [Hwd.out] at this; have := HW.out; omega
      go_loopg [63] p.length (fun g i w' => ∃ k : Nat, k ≤ p.length ∧ g = p.length - k ∧ i = .int .i64 k ∧ UnW w w' W H N (fun i => .bool (upTo p W k 0 [] i)))
      case atStart => exact ⟨0, by omega, by omega, rfl, hU0⟩
      case round =>
        clear hU0 hr4 e2 e3
        obtain ⟨k, hk, hg, rfl, hU⟩ := hrel
        have HG := hide hg
        clear hg
        by_cases hkl : k < p.length
        · obtain ⟨r, hr⟩ : ∃ r, p[k]? = some r := ⟨p[k], by simp [hkl]⟩
          obtain ⟨a1, c1, hu, hsr⟩ := hp.get hr
          have HU := hide hu
          have HR := hide hr
          have hrW := HWL.out r (List.mem_of_getElem? hr)
          clear hu hr
          go_wp2_with (with_reducible refine idx_p 66 _ _ _ _ _ hs rfl (hp.below hU.bel).top _ _ k rfl rfl _ HU.out ?_; intro b o hcell hbo)
          go_loopg [70] r.length (fun g i w' => ∃ j : Nat, j ≤ r.length ∧ g = r.length - j ∧ i = .int .i64 j ∧ UnW w w' W H N (fun i => .bool (upTo p W k j [] i)))
          case atStart => exact ⟨0, by omega, by omega, rfl, hU⟩
          case round =>
            obtain ⟨j, hj, hg1, rfl, hU1⟩ := hrel
            have HG1 := hide hg1
            clear hg1
            by_cases hjl : j < r.length
            · obtain ⟨x, hx⟩ : ∃ x, r[j]? = some x := ⟨r[j], by simp [hjl]⟩
              have HX := hide hx
              have HPX := hide (pcell_row HR.out hx)
              have hd := fun w => cell_Dots x w
              obtain ⟨ds, HDS⟩ : ∃ ds, Hid (dotsL x = ds) := ⟨_, hide rfl⟩
              have hds6 : ds.length ≤ 6 := by rw [← HDS.out]; exact dotsTo_len x 6
              rw [HDS.out] at hd
              clear hx
              have hlt := hU1.row.lt
              go_wp2_with (first
                | (with_reducible refine idx_b 73 _ _ _ _ _ r rfl (hsr.below hU1.bel) _ _ j rfl rfl x HX.out ?_; intro b2 o2 hcell2 hbo2)
                | (go_at_call 12; refine (hd _).mono ?_; rintro e w5 ⟨a3, c3, rfl, ho3, hb3⟩))
              have hne : ∀ q, a3 = some q → q.block ≠ w.heap.size + 2 := fun q hq => by
                subst hq
                have := ho3.base.1
                omega
              go_loopg [78] ds.length (fun g i w' => ∃ d : Nat, d ≤ ds.length ∧ g = ds.length - d ∧ i = .int .i64 d ∧ UnW w w' W H N (fun i => .bool (upTo p W k j (ds.take d) i)) ∧ Sl w' 1 a3 ds.length c3 (ds.map I64))
              case atStart => exact ⟨0, by omega, by omega, rfl, hU1.under hb3, ho3.sl⟩
              case round =>
                obtain ⟨d, hd1, hg2, rfl, hU2, hsd⟩ := hrel
                have HG2 := hide hg2
                clear hg2
                by_cases hdl : d < ds.length
                · obtain ⟨z, hz⟩ : ∃ z, ds[d]? = some z := ⟨ds[d], by simp [hdl]⟩
                  obtain ⟨e, he6, hze, hdot⟩ := dotsTo_take x d z (by rw [HDS.out]; exact hz)
                  have HZ := hide hz
                  have HDOT := hide hdot
                  have HZE := hide hze
                  clear hz hdot hze
                  have hXlt : 2 * j + e / 3 < W := by omega
                  have hYlt : 3 * k + e % 3 < H := by have := HH.out; omega
                  have hin : (3 * k + e % 3) * W + (2 * j + e / 3) < N := by have := idx_lt hXlt hYlt; rw [HN.out] at this; exact this
                  have hz1 : 1 ≤ z := by rw [HZE.out]; omega
                  have hz6 : z ≤ 6 := by rw [HZE.out]; omega
                  have c0 := hU2.ras.at_ (j := 0) rfl
                  have c2 := hU2.ras.at_ (j := 2) rfl
                  have ex : 2 * (j : Int) + (z - 1) / 3 = ((2 * j + e / 3 : Nat) : Int) := by rw [HZE.out]; omega
                  have ey : 3 * (k : Int) + (z - 1) % 3 = ((3 * k + e % 3 : Nat) : Int) := by rw [HZE.out]; omega
                  have EX := hide ex
                  have EY := hide ey
                  clear ex ey
                  go_wp2_with (first
                    | (with_reducible refine idx_i 80 _ _ _ _ _ ds rfl hsd _ _ d rfl rfl z HZ.out ?_; intro b3 o3 hcell3 hbo3)
                    | (go_at_call 58; refine (cell_Unpack1 _ _ (2 * j + e / 3) (3 * k + e % 3) W (w.heap.size + 1) (w.heap.size + 2) N _ _ _ EX.out EY.out (by omega) rfl hin c0 c2 hU2.row).mono ?_; rintro e w6 ⟨rfl, rfl⟩))
                  go_roundg (ds.length - (d + 1))
                  case measure => have := HG2.out; omega
                  case rel =>
                    refine ⟨d + 1, by omega, rfl, by go_num, (hU2.set _ _).congr ?_, Sl.far hsd hne _⟩
                    intro i _
                    rw [take_snoc HZ.out, HZE.out, upTo_dot he6 (by omega) (by rw [HPX.out]; exact HDOT.out)]
                    split <;> rfl
                · obtain rfl : ds.length = d := by omega
                  go_wp2
                  go_roundg (r.length - (j + 1))
                  case measure => have := HG1.out; omega
                  case rel =>
                    refine ⟨j + 1, by omega, rfl, by go_num, hU2.congr ?_⟩
                    intro i _
                    rw [List.take_length, ← upTo_cell, HPX.out, HDS.out]
            · obtain rfl : r.length = j := by omega
              go_wp2
              go_roundg (p.length - (k + 1))
              case measure => have := HG.out; omega
              case rel =>
                refine ⟨k + 1, by omega, rfl, by go_num, hU1.congr ?_⟩
                intro i _
                rw [upTo_row HR.out]
        · obtain rfl : p.length = k := by omega
          have hF : wr.rowIs (w.heap.size + 2) 4 N (fun i => .bool (rdot p W i)) := hU.row.congr fun i hi => by
            rw [upTo_all (by rw [HH.out, HN.out]; exact hi)]
          go_wp2_with (first
            | (with_reducible refine load_box 99 36 _ 36 _ 0 _ [.int .i64 W, .int .i64 H, .slice (some ⟨w.heap.size + 2, 0, none⟩) N N] isAgg_raster (size_raster _ _ _) hU.ras rfl (fun j u hj => by rw [Nat.zero_add]; exact hj) ?_)
            | (with_reducible refine store_all 36 _ _ 36 _ _ [.int .i64 W, .int .i64 H, .slice (some ⟨w.heap.size + 2, 0, none⟩) N N] _ (size_raster _ _ _) hU.res rfl rfl rfl (Eq.refl 3) (by simp [Value.oneCell']) ?_; intro w7 hx7 hg7 hs7))
          have hF7 := hF.of_block (hg7.block _ hF.lt (by simp))
          refine bodyPost_ret (run_results_cell2 rfl rfl rfl isAgg_raster (size_raster _ _ _) hx7) rfl ⟨_, N, N, rfl, row_sl' hF7 (by unfold maxLen; omega) _ (by rw [List.length_map, rbits_len]) ?_, hU.bel.grown hg7 hU.bel.size (fun k hk => by cases hk; exact Nat.le_refl _)⟩
          intro j u hj
          unfold rbits at hj
          rw [List.map_map, List.getElem?_map] at hj
          obtain ⟨i, hi, rfl⟩ := Option.map_eq_some_iff.1 hj
          have hjl : j < N := by have := (List.getElem?_eq_some_iff.1 hi).1; simpa using this
          rw [List.getElem?_range hjl] at hi
          cases hi
          rfl
end Go.Proofs.Ythfljnlankmoiaa
end

/- the text C17 -/
section
namespace Go.Proofs.Ythfljnlankmoiaa
open Go.RowKit Go.Dx

theorem zero_box (w : World) : Box (w.alloc (.cells #[.int .i64 0, .int .i64 0, .slice none 0 0] 36)) w.heap.size 36 [.int .i64 0, .int .i64 0, .slice none 0 0] := Box.new w _ _
set_option maxRecDepth 100000 in
set_option maxHeartbeats 1000000 in
theorem cell_Unpack_bad (p : List (List UInt8)) (hs : List Hd) (a : Option Addr) (n c : Nat) (w : World) (hp : Pg w a n c hs p) (hv : p.any (fun l => !validB l) = true) :
    Calls Try.prog 27 #[.slice a n c] w fun e w' => e = .returned (.tuple #[RV 0 0 none 0 0, .int .i64 1]) ∧ Below w.heap.size w w' := by
  obtain rfl := hp.n_eq
  have hm1 := Nat.le_trans hp.top.le hp.top.cap
  unfold maxLen at hm1
  have HV := hide hv
  clear hv
  go_enter Try.func27, Try.ntmps27
  go_wp2_with fail
  go_loopg [4, 17] p.length (fun g x i w' => ∃ (k m : Nat), k ≤ p.length ∧ g = p.length - k ∧ (p.take k).any (fun l => !validB l) = false ∧ x = .int .i64 m ∧ i = .int .i64 k ∧ w' = w.alloc (.cells #[.int .i64 0, .int .i64 0, .slice none 0 0] 36))
  case atStart => exact ⟨0, 0, by omega, by omega, rfl, rfl, rfl, rfl⟩
  case round =>
    obtain ⟨k, m, hk, hg, hm, rfl, rfl, rfl⟩ := hrel
    have HG := hide hg
    have HM := hide hm
    clear hg hm
    by_cases hkl : k < p.length
    · obtain ⟨r, hr⟩ : ∃ r, p[k]? = some r := ⟨p[k], by simp [hkl]⟩
      obtain ⟨a1, c1, hu, hsr⟩ := (hp.below (bl1 w (.cells #[.int .i64 0, .int .i64 0, .slice none 0 0] 36))).get hr
      have HU := hide hu
      have hrl := Nat.le_trans hsr.le hsr.cap
      unfold maxLen at hrl
      have hval := cell_Valid r a1 _ c1 _ hsr
      have HR := hide hr
      clear hu hr
      cases hvr : validB r
      · rw [hvr] at hval
        clear hvr
        go_wp2_with (first
          | (with_reducible refine idx_p 19 _ _ _ _ _ hs rfl (hp.below (bl1 w _)).top _ _ k rfl rfl _ HU.out ?_; intro b o hcell hbo)
          | (go_at_call 16; refine hval.mono ?_; rintro e w2 ⟨rfl, rfl⟩)
          | (with_reducible refine store_all 36 _ _ 36 _ _ [.int .i64 0, .int .i64 0, .slice none 0 0] _ (size_raster _ _ _) (zero_box w) rfl rfl rfl (Eq.refl 3) (by simp [Value.oneCell']) ?_; intro w7 hx7 hg7 hs7))
        exact bodyPost_ret (run_results_cell2 rfl rfl rfl isAgg_raster (size_raster _ _ _) hx7) rfl ⟨rfl, (bl1 w _).grown hg7 (by simp) (fun k hk => by cases hk; exact Nat.le_refl _)⟩
      · rw [hvr] at hval
        have HN := hide (bad_take HR.out HM.out hvr)
        clear hvr
        by_cases hmr : m < r.length
        · go_wp2_with (first
            | (with_reducible refine idx_p 19 _ _ _ _ _ hs rfl (hp.below (bl1 w _)).top _ _ k rfl rfl _ HU.out ?_; intro b o hcell hbo)
            | (go_at_call 16; refine hval.mono ?_; rintro e w2 ⟨rfl, rfl⟩))
          go_roundg (p.length - (k + 1))
          case measure => have := HG.out; omega
          case rel => exact ⟨k + 1, r.length, by omega, rfl, HN.out, by go_num, by go_num, rfl⟩
        · go_wp2_with (first
            | (with_reducible refine idx_p 19 _ _ _ _ _ hs rfl (hp.below (bl1 w _)).top _ _ k rfl rfl _ HU.out ?_; intro b o hcell hbo)
            | (go_at_call 16; refine hval.mono ?_; rintro e w2 ⟨rfl, rfl⟩))
          go_roundg (p.length - (k + 1))
          case measure => have := HG.out; omega
          case rel => exact ⟨k + 1, m, by omega, rfl, HN.out, by go_num, by go_num, rfl⟩
    · exfalso
      have h1 := HM.out
      rw [List.take_of_length_le (by omega), HV.out] at h1
      cases h1

set_option maxRecDepth 100000 in
set_option maxHeartbeats 1000000 in
theorem cell_Unpack_limit (p : List (List UInt8)) (hs : List Hd) (a : Option Addr) (n c : Nat) (w : World) (hp : Pg w a n c hs p) (hv : p.any (fun l => !validB l) = false) (hbig : wideL p ≤ 1000000) (hbig2 : p.length ≤ 1000000) (h1 : 65536 < 2 * wideL p ∨ 65536 < 3 * p.length ∨ 65536 < 2 * wideL p * (3 * p.length)) :
    Calls Try.prog 27 #[.slice a n c] w fun e w' => e = .returned (.tuple #[RV 0 0 none 0 0, .int .i64 4]) ∧ Below w.heap.size w w' := by
  obtain rfl := hp.n_eq
  have hm1 := Nat.le_trans hp.top.le hp.top.cap
  unfold maxLen at hm1
  obtain ⟨wd, Hwd⟩ : ∃ wd, Hid (wideL p = wd) := ⟨_, hide rfl⟩
  obtain ⟨W, HW⟩ : ∃ W, Hid (2 * wd = W) := ⟨_, hide rfl⟩
  obtain ⟨H, HH⟩ : ∃ H, Hid (3 * p.length = H) := ⟨_, hide rfl⟩
  obtain ⟨N, HN⟩ : ∃ N, Hid (W * H = N) := ⟨_, hide rfl⟩
  rw [Hwd.out, HW.out, HH.out, HN.out] at h1
  rw [Hwd.out] at hbig
  have HV := hide hv
  have H1 := hide h1
  clear hv h1
  go_enter Try.func27, Try.ntmps27
  go_wp2_with fail
  go_loopg [4, 17] p.length (fun g x i w' => ∃ (k m : Nat), k ≤ p.length ∧ g = p.length - k ∧ m = wideL (p.take k) ∧ x = .int .i64 m ∧ i = .int .i64 k ∧ w' = w.alloc (.cells #[.int .i64 0, .int .i64 0, .slice none 0 0] 36))
  case atStart => exact ⟨0, 0, by omega, by omega, rfl, rfl, rfl, rfl⟩
  case round =>
    obtain ⟨k, m, hk, hg, hm, rfl, rfl, rfl⟩ := hrel
    have HG := hide hg
    have HM := hide hm
    have hml : m ≤ 1000000 := by rw [hm]; have := wide_take_le p k; rw [Hwd.out] at this; omega
    clear hg hm
    by_cases hkl : k < p.length
    · obtain ⟨r, hr⟩ : ∃ r, p[k]? = some r := ⟨p[k], by simp [hkl]⟩
      obtain ⟨a1, c1, hu, hsr⟩ := (hp.below (bl1 w (.cells #[.int .i64 0, .int .i64 0, .slice none 0 0] 36))).get hr
      have HU := hide hu
      have hrl := Nat.le_trans hsr.le hsr.cap
      unfold maxLen at hrl
      have hval := cell_Valid r a1 _ c1 _ hsr
      have hvr : validB r = true := by
        have := List.any_eq_false.1 HV.out r (List.mem_of_getElem? hr)
        simpa using this
      rw [hvr] at hval
      have HM2 := hide (wide_next hr)
      clear hu hr hvr
      by_cases hmr : m < r.length
      · go_wp2_with (first
          | (with_reducible refine idx_p 19 _ _ _ _ _ hs rfl (hp.below (bl1 w _)).top _ _ k rfl rfl _ HU.out ?_; intro b o hcell hbo)
          | (go_at_call 16; refine hval.mono ?_; rintro e w2 ⟨rfl, rfl⟩))
        go_roundg (p.length - (k + 1))
        case measure => have := HG.out; omega
        case rel => exact ⟨k + 1, r.length, by omega, rfl, by rw [HM2.out, ← HM.out]; omega, by go_num, by go_num, rfl⟩
      · go_wp2_with (first
          | (with_reducible refine idx_p 19 _ _ _ _ _ hs rfl (hp.below (bl1 w _)).top _ _ k rfl rfl _ HU.out ?_; intro b o hcell hbo)
          | (go_at_call 16; refine hval.mono ?_; rintro e w2 ⟨rfl, rfl⟩))
        go_roundg (p.length - (k + 1))
        case measure => have := HG.out; omega
        case rel => exact ⟨k + 1, m, by omega, rfl, by rw [HM2.out, ← HM.out]; omega, by go_num, by go_num, rfl⟩
    · obtain rfl : k = p.length := by omega
      have hmw : m = wd := by rw [HM.out, List.take_length, Hwd.out]
      clear HM
      subst hmw
      have hWle : W ≤ 2000000 := by have := HW.out; omega
      have hHle : H ≤ 3000000 := by have := HH.out; omega
      have hsp : decide (65536 < (W : Int)) = true ∨ (decide (65536 < (W : Int)) = false ∧ decide (65536 < (H : Int)) = true) ∨ (decide (65536 < (W : Int)) = false ∧ decide (65536 < (H : Int)) = false ∧ decide (65536 < (N : Int)) = true ∧ wrap64 ((W : Int) * (H : Int)) = (N : Int)) := by
        have h0 := H1.out
        by_cases e1 : 65536 < W
        · exact .inl (decide_eq_true (by omega))
        · by_cases e2 : 65536 < H
          · exact .inr (.inl ⟨decide_eq_false (by omega), decide_eq_true (by omega)⟩)
          · refine .inr (.inr ⟨decide_eq_false (by omega), decide_eq_false (by omega), decide_eq_true (by omega), ?_⟩)
            have hN : N ≤ 65536 * 65536 := by rw [← HN.out]; exact Nat.mul_le_mul (by omega) (by omega)
            rw [← Int.natCast_mul, HN.out]; exact IntWalk.wrap64_in _ (by omega)
      have mW : 2 * (m : Int) = (W : Int) := by have := HW.out; omega
      have mH : 3 * (p.length : Int) = (H : Int) := by have := HH.out; omega
      rcases hsp with d1 | ⟨d1, d2⟩ | ⟨d1, d2, d3, mN⟩
      all_goals
        go_wp2_with (with_reducible refine store_all 36 _ _ 36 _ _ [.int .i64 0, .int .i64 0, .slice none 0 0] _ (size_raster _ _ _) ((zero_box w).alloc _) rfl rfl rfl (Eq.refl 3) (by simp [Value.oneCell']) ?_; intro w7 hx7 hg7 hs7)
        exact bodyPost_ret (run_results_cell2 rfl rfl rfl isAgg_raster (size_raster _ _ _) hx7) rfl ⟨rfl, (bl2 w _ _).grown hg7 (by simp; omega) (fun k hk => by cases hk; exact Nat.le_refl _)⟩
end Go.Proofs.Ythfljnlankmoiaa
end

/- the text C18 -/
section
namespace Go.Proofs.Ythfljnlankmoiaa
open Go.RowKit Go.Dx

theorem ref_Dot_at (xv yv : Int) (W H x y : Nat) (b : List Bool) (a : Option Addr) (n c : Nat) (w : World) (v : Bool) (hxv : xv = (x : Int)) (hyv : yv = (y : Int)) (hs : Sl w 1 a n c (b.map Value.bool)) (hb : b.length = W * H) (hWH : W * H ≤ 65536) (hx : x ≤ 1000000) (hy : y ≤ 1000000) (hv : dotAt W H b x y = v) :
    Calls Try.prog 36 #[RV W H a n c, .int .i64 xv, .int .i64 yv] w fun e w' => e = .returned (.bool v) ∧ Below w.heap.size w w' := by
  subst hxv hyv hv
  exact ref_Dot W H x y b a n c w hs hb hWH hx hy
theorem ref_Of_at (l : List Int) (m : Nat) (h : ofL l = (m, 0)) (a : Option Addr) (n c : Nat) (w : World) (hs : Sl w 1 a n c (l.map I64)) :
    Calls Try.prog 10 #[.slice a n c] w fun e w' => e = .returned (.tuple #[.int .u8 (m : Int), .int .i64 0]) ∧ ∃ n, w' = w.drewN n := by
  have := ref_Of l a n c w hs
  rw [h] at this
  exact this

set_option maxHeartbeats 400000 in
theorem ref_Pack_no (W H : Int) (a : Option Addr) (n c : Nat) (w : World) (hp : properB W H n = false) :
    Calls Try.prog 23 #[RV W H a n c] w fun e w' => e = .returned (.tuple #[.slice none 0 0, .int .i64 1]) ∧ Below w.heap.size w w' := by
  have hv := fun w => ref_Proper W H a n c w
  rw [hp] at hv
  clear hp
  go_enter Try.func23, Try.ntmps23
  go_wp2_with (go_at_call 57; refine (hv _).mono ?_; rintro e w1 ⟨rfl, hb1⟩)
  go_ret2
  exact ⟨rfl, (bl1 w _).trans (hb1.mono (by simp))⟩

set_option maxRecDepth 100000 in
set_option maxHeartbeats 1000000 in
theorem ref_Pack (W H : Nat) (b : List Bool) (a : Option Addr) (n c : Nat) (w : World) (hs : Sl w 1 a n c (b.map Value.bool)) (hb : b.length = W * H) (hW : W ≤ 65536) (hH : H ≤ 65536) (hWH : W * H ≤ 65536) :
    Calls Try.prog 23 #[RV W H a n c] w (GivesPg (packL W H b) 0 w) := by
  have hv := fun w => ref_Proper W H a n c w
  have hnl : n = W * H := by rw [hs.n_eq, hb]
  have hp : properB W H n = true := proper_yes ⟨by omega, by omega, by omega, by omega, by rw [← Int.natCast_mul]; omega, by rw [← Int.natCast_mul]; omega⟩
  rw [hp] at hv
  obtain ⟨h3, Hh3⟩ : ∃ h3, Hid (h3 = (H + 2) / 3) := ⟨_, rfl⟩
  obtain ⟨w2, Hw2⟩ : ∃ w2, Hid (w2 = (W + 1) / 2) := ⟨_, rfl⟩
  have h3le : h3 ≤ 65536 := by rw [Hh3.out]; omega
  have w2le : w2 ≤ 65536 := by rw [Hw2.out]; omega
  have HB := hide hb
  have HN := hide hnl
  clear hp hb hnl
  obtain ⟨PL, HPL⟩ : ∃ PL, Hid (packL W H b = PL) := ⟨_, hide rfl⟩
  have hpl : PL.length = h3 := by rw [← HPL.out, packL_len, Hh3.out]
  rw [HPL.out]
  have HPLL := hide hpl
  clear hpl
  go_enter Try.func23, Try.ntmps23
  go_wp2_with (go_at_call 57; refine (hv _).mono ?_; rintro e w1 ⟨rfl, hb1⟩)
  have hx1 : Box w1 w.heap.size 36 [.int .i64 W, .int .i64 H, .slice a n c] := (Box.new w _ _).under hb1
  have hlt1 := hx1.lt
  have hs1 := hs.below ((bl1 w _).trans (hb1.mono (by simp)))
  have HBW : Hid (Below w.heap.size w w1) := (bl1 w _).trans (hb1.mono (by simp))
  clear hb1 hv
  go_loopg [4, 5] h3 (fun g x i w' => ∃ (k : Nat) (a : Option Addr) (c : Nat) (hs : List Hd) (p : List (List UInt8)), k ≤ h3 ∧ g = h3 - k ∧ p.length = k ∧ p = PL.take k ∧ i = .int .i64 (3 * (k : Int)) ∧ x = .slice a k c ∧ OPage w' w1.heap.size a c hs p ∧ Below w1.heap.size w1 w')
  case atStart => exact ⟨0, none, 0, [], [], by omega, by omega, rfl, rfl, rfl, rfl, OPage.nil _ _, Below.refl _ _⟩
  case round =>
    obtain ⟨k, a2, c2, hs2, p, hk, hg, hpk, hp, rfl, rfl, hop, hbk⟩ := hrel
    have HG := hide hg
    have HP := hide hp
    have HPK := hide hpk
    clear hg hp hpk
    have hxk := hx1.below hbk hlt1
    have e1 := hxk.at_ (j := 1) rfl
    by_cases hkl : k < h3
    · have hkH : 3 * (k : Int) < H := by have := Hh3.out; omega
      obtain ⟨wy, rfl⟩ : ∃ wy : World, wy = wr := ⟨_, rfl⟩
      obtain ⟨row, HROW⟩ : ∃ row, Hid (packRow W H b k = row) := ⟨_, hide rfl⟩
      have HRL : Hid (row.length = w2) := by show _ = _; rw [← HROW.out, packRow_len, Hw2.out]
      go_wp2
      go_loopg [6, 7] w2 (fun g x i w' => ∃ (j : Nat) (a : Option Addr) (c : Nat) (xs : List UInt8), j ≤ w2 ∧ g = w2 - j ∧ xs.length = j ∧ xs = row.take j ∧ i = .int .i64 (2 * (j : Int)) ∧ x = .slice a j c ∧ Own w' wy.heap.size 5 1 a j c (xs.map B8) ∧ Below wy.heap.size wy w')
      case atStart => exact ⟨0, none, 0, [], by omega, by omega, rfl, rfl, rfl, rfl, Own.nil _ _ _ _, Below.refl _ _⟩
      case round =>
        obtain ⟨j, a3, c3, xs, hj, hg1, hxl, hxs, rfl, rfl, hox, hbj⟩ := hrel
        have HG1 := hide hg1
        have HX := hide hxs
        have HXL := hide hxl
        clear hg1 hxs hxl
        have hxj := hxk.below hbj hxk.lt
        have e0 := hxj.at_ (j := 0) rfl
        by_cases hjl : j < w2
        · have hjW : 2 * (j : Int) < W := by have := Hw2.out; omega
          obtain ⟨wx, rfl⟩ : ∃ wx : World, wx = wr := ⟨_, rfl⟩
          go_wp2
          go_loopg [8, 9] 6 (fun g x i w' => ∃ (d : Nat) (a : Option Addr) (c : Nat) (ds : List Int), d ≤ 6 ∧ g = 6 - d ∧ ds = sixDots (fun d => dotAt W H b (2 * j + d / 3) (3 * k + d % 3)) d ∧ i = .int .i64 (d : Int) ∧ x = .slice a ds.length c ∧ Own w' wx.heap.size 3 1 a ds.length c (ds.map I64) ∧ Below wx.heap.size wx w')
          case atStart => exact ⟨0, none, 0, [], by omega, by omega, rfl, rfl, rfl, Own.nil _ _ _ _, Below.refl _ _⟩
          case round =>
            obtain ⟨d, a4, c4, ds, hd, hg2, hds, rfl, rfl, hod, hbd⟩ := hrel
            have hdl6 : ds.length ≤ 6 := by rw [hds]; exact Nat.le_trans (sixDots_len _ _) hd
            have HG2 := hide hg2
            have HD := hide hds
            clear hg2 hds
            have hxd := hxj.below hbd hxj.lt
            have hsd := hs1.below ((hbk.trans (hbj.mono hbk.size)).trans (hbd.mono (Nat.le_trans hbk.size hbj.size)))
            by_cases hdl : d < 6
            · have ex : 2 * (j : Int) + (d : Int) / 3 = ((2 * j + d / 3 : Nat) : Int) := by omega
              have ey : 3 * (k : Int) + (d : Int) % 3 = ((3 * k + d % 3 : Nat) : Int) := by omega
              have EX := hide ex
              have EY := hide ey
              clear ex ey
              cases hdot : dotAt W H b (2 * j + d / 3) (3 * k + d % 3)
              · have HDOT := hide hdot
                clear hdot
                go_wp2_with (first
                  | (with_reducible refine load_box 31 36 _ 36 _ 0 _ [.int .i64 W, .int .i64 H, .slice a n c] isAgg_raster (size_raster _ _ _) hxd rfl (fun j u hj => by rw [Nat.zero_add]; exact hj) ?_)
                  | (go_at_call 36; refine (ref_Dot_at _ _ W H (2 * j + d / 3) (3 * k + d % 3) b a n c _ false EX.out EY.out hsd HB.out hWH (by omega) (by omega) HDOT.out).mono ?_; rintro e w5 ⟨rfl, hb5⟩))
                go_roundg (6 - (d + 1))
                case measure => have := HG2.out; omega
                case rel => exact ⟨d + 1, a4, c4, ds, by omega, rfl, by rw [sixDots_no (p := fun d => dotAt W H b (2 * j + d / 3) (3 * k + d % 3)) HDOT.out, HD.out], by go_num, rfl, hod.below hb5, hbd.trans (hb5.mono hbd.size)⟩
              · have HDOT := hide hdot
                clear hdot
                go_wp2_with (first
                  | (with_reducible refine load_box 31 36 _ 36 _ 0 _ [.int .i64 W, .int .i64 H, .slice a n c] isAgg_raster (size_raster _ _ _) hxd rfl (fun j u hj => by rw [Nat.zero_add]; exact hj) ?_)
                  | (go_at_call 36; refine (ref_Dot_at _ _ W H (2 * j + d / 3) (3 * k + d % 3) b a n c _ true EX.out EY.out hsd HB.out hWH (by omega) (by omega) HDOT.out).mono ?_; rintro e w5 ⟨rfl, hb5⟩)
                  | (at_builtin; refine app_i rfl _ _ rfl wx wx.heap.size _ _ _ _ rfl (hod.below hb5) _ rfl (by omega) (Nat.le_trans hbd.size hb5.size) (hbd.trans (hb5.mono hbd.size)) ?_; intro a' c' w' ho' hgr' hb'))
                go_roundg (6 - (d + 1))
                case measure => have := HG2.out; omega
                case rel => exact ⟨d + 1, a', c', ds ++ [(d : Int) + 1], by omega, rfl, by rw [sixDots_yes (p := fun d => dotAt W H b (2 * j + d / 3) (3 * k + d % 3)) HDOT.out, HD.out], by go_num, by rw [List.length_append]; rfl, by rw [List.length_append, List.map_append]; exact ho', hb'⟩
            · obtain rfl : d = 6 := by omega
              have HOF : Hid (ofL ds = (cellAt W H b k j, 0)) := by show _ = _; rw [HD.out, sixOf]; rfl
              have HNX : Hid (row.take (j + 1) = xs ++ [UInt8.ofNat (cellAt W H b k j)]) := by
                show _ = _
                rw [take_snoc (x := UInt8.ofNat (cellAt W H b k j)) ?_, HX.out]
                rw [← HROW.out]
                unfold packRow
                rw [List.getElem?_map, List.getElem?_range (by rw [← Hw2.out]; exact hjl)]; rfl
              have hc64 : cellAt W H b k j < 64 := six_lt _
              obtain ⟨C, HC⟩ : ∃ C, Hid (cellAt W H b k j = C) := ⟨_, hide rfl⟩
              rw [HC.out] at HOF HNX hc64
              go_wp2_with (first
                | (go_at_call 10; refine (ref_Of_at ds C HOF.out _ _ _ _ hod.sl).mono ?_; rintro e w5 ⟨rfl, n5, rfl⟩)
                | (at_builtin; refine app_b rfl _ _ rfl wy wy.heap.size _ _ _ _ rfl ((hox.below hbd).below (Still.below n5)) _ rfl (by omega) (Nat.le_trans hbj.size (by simpa using hbd.size)) (belowN (hbj.trans (hbd.mono hbj.size)) _) ?_; intro a' c' w' ho' hgr' hb'))
              go_roundg (w2 - (j + 1))
              case measure => have := HG1.out; omega
              case rel => exact ⟨j + 1, a', c', xs ++ [UInt8.ofNat C], by omega, rfl, by rw [List.length_append, HXL.out]; rfl, HNX.out.symm, by go_num, rfl, by rw [List.map_append]; have e : (B8 (UInt8.ofNat C)) = .int .u8 (C : Int) := (by show Value.int .u8 ((UInt8.ofNat C).toNat : Int) = _; rw [u8_six C hc64]); show Own _ _ _ _ _ _ _ (xs.map B8 ++ [B8 (UInt8.ofNat C)]); rw [e]; exact ho', hb'⟩
        · obtain rfl : w2 = j := by omega
          have HXR : Hid (xs = row) := by show _ = _; rw [HX.out, List.take_of_length_le (by rw [HRL.out]; exact Nat.le_refl _)]
          have HPN : Hid (PL.take (k + 1) = p ++ [xs]) := by
            show _ = _
            rw [take_snoc (x := row) ?_, HP.out, HXR.out]
            rw [← HPL.out, ← HROW.out]
            unfold packL
            rw [List.getElem?_map, List.getElem?_range (by rw [← Hh3.out]; exact hkl)]; rfl
          have hjW : ¬ 2 * (w2 : Int) < W := by have := Hw2.out; omega
          go_wp2_with (at_builtin; refine app_p rfl _ _ rfl w1 w1.heap.size _ _ _ hs2 p HPK.out rfl (hop.below hbj) (a3, w2, c3) xs (hox.mono hbk.size) rfl (by omega) (Nat.le_trans hbk.size hbj.size) (hbk.trans (hbj.mono hbk.size)) ?_; intro a' c' w' ho' hb')
          go_roundg (h3 - (k + 1))
          case measure => have := HG.out; omega
          case rel => exact ⟨k + 1, a', c', hs2 ++ [(a3, w2, c3)], p ++ [xs], by omega, rfl, by rw [List.length_append, HPK.out]; rfl, HPN.out.symm, by go_num, rfl, ho', hb'⟩
    · obtain rfl : h3 = k := by omega
      have hkH : ¬ 3 * (h3 : Int) < H := by have := Hh3.out; omega
      go_wp2
      go_ret2
      have e : p = PL := by rw [HP.out, List.take_of_length_le (by rw [HPLL.out]; exact Nat.le_refl _)]
      have hpg := hop.pg
      rw [HPK.out] at hpg
      exact ⟨a2, c2, hs2, by rw [HPLL.out]; rfl, by rw [HPLL.out, ← e]; exact hpg, HBW.out.trans (hbk.mono (Nat.le_of_lt hlt1))⟩
end Go.Proofs.Ythfljnlankmoiaa
end

/- the text QTail -/
section
/- A region that draws its order: a head of quiet operations (reads, and calls that keep a class of worlds), and a tail that waits for the whole head: walked once. No program in sight. -/
set_option linter.unusedVariables false
namespace Go.Dx
section
variable {P : Program} {ops : Array Oper} {md : Region.Mode} {C : World → Prop}

def headQ (P : Program) (md : Region.Mode) (ops : Array Oper) (C : World → Prop) (n : Nat) (L : Array Bool → Act → Prop) : Nat → Array Bool → Act → Prop
  | 0, listed, a => L listed a
  | f + 1, listed, a => Region.ready md ops listed ≠ [] ∧ ∀ i ∈ Region.ready md ops listed, i < n ∧ qOp P ops C i (headQ P md ops C n L f (listed.setIfInBounds i true)) a

theorem wpAny_of_headQ {n g : Nat} {L : Array Bool → Act → Prop} {Q' : Exit → Act → World → Prop} (hL : ∀ listed a w, C w → L listed a → wpAny P md ops Q' g listed a w) :
    ∀ (f : Nat) (listed : Array Bool) (a : Act) (w : World), C w → headQ P md ops C n L f listed a → wpAny P md ops Q' (f + g) listed a w
  | 0, listed, a, w, hw, h => by rw [Nat.zero_add]; exact hL _ _ _ hw h
  | f + 1, listed, a, w, hw, h => by
    rw [show f + 1 + g = (f + g) + 1 by omega]
    exact ⟨fun h0 => absurd h0 h.1, fun i hi => wpOp_of_qOp hw (fun a' w' hw' h' => wpAny_of_headQ hL f _ a' w' hw' h') (h.2 i hi).2⟩

theorem headQ_first {n i : Nat} {oi : Oper} {v : Value} {L : Array Bool → Act → Prop} (hi : ops[i]? = some oi) (hsel : ∀ (j : Nat) (o : Oper) cs b, ops[j]? = some o → o.op ≠ .select cs b)
    (hs : Region.sinkB md ops n = true) (hc : Region.chainB md ops n = true) (hn : n < ops.size) (hin : i < n)
    (hdone : ∀ listed a, L listed a → ∀ j ∈ Region.ready md ops listed, n ≤ j) :
    ∀ (f : Nat) (listed : Array Bool) (a : Act), HeadInv md ops n listed →
      (∀ j oj, ops[j]? = some oj → j ≠ i → listed.getD j true = false → (∀ e ∈ oj.after, Region.binds md e = true → e.on ≠ i) → oi.apart ops oj = true) →
      i ∈ Region.ready md ops listed → YieldsIn P ops C oi v a →
      headQ P md ops C n L f (listed.setIfInBounds i true) (a.put oi.dst v) → headQ P md ops C n L (f + 1) listed a := by
  intro f
  induction f with
  | zero =>
    intro listed a inv _ hr hy H
    have hun := (mem_ready.1 hr).1
    refine ⟨fun h => (by rw [h] at hr; cases hr), fun j hj => ?_⟩
    have hjn : j < n := by
      rcases Nat.lt_or_ge j n with h | h
      · exact h
      · exact absurd hj (tail_waits hs hc hn inv _ i rfl hin hun j h)
    refine ⟨hjn, ?_⟩
    by_cases hji : j = i
    · subst hji; exact hy.qOp hi H
    · have := hdone _ _ H j (ready_mono hj hji)
      omega
  | succ f ih =>
    intro listed a inv hfree hr hy H
    have hun := (mem_ready.1 hr).1
    refine ⟨fun h => (by rw [h] at hr; cases hr), fun j hj => ?_⟩
    have hjn : j < n := by
      rcases Nat.lt_or_ge j n with h | h
      · exact h
      · exact absurd hj (tail_waits hs hc hn inv _ i rfl hin hun j h)
    refine ⟨hjn, ?_⟩
    by_cases hji : j = i
    · subst hji; exact hy.qOp hi H
    · have h1 := (H.2 j (ready_mono hj hji)).2
      obtain ⟨hjun, oj, hoj, hall⟩ := mem_ready.1 hj
      have hnot : ∀ e ∈ oj.after, Region.binds md e = true → e.on ≠ i := fun e he hb heq => by
        have h1 := hall e he hb
        rw [heq, getD_both hun] at h1
        cases h1
      have h2 := qOp_put hoj (hfree j oj hoj hji hjun hnot) (fun cs b => hsel i oi cs b hi) (fun cs b => hsel j oj cs b hoj) hy h1
      have hfree' : ∀ k ok, ops[k]? = some ok → k ≠ i → (listed.setIfInBounds j true).getD k true = false →
          (∀ e ∈ ok.after, Region.binds md e = true → e.on ≠ i) → oi.apart ops ok = true := fun k ok hk hki hun hno => by
        refine hfree k ok hk hki ?_ hno
        by_cases hjk : j = k
        · subst hjk; exact hjun
        · rw [getD_set_ne true hjk] at hun; exact hun
      refine qOp_mono (fun a' h3 => ih (listed.setIfInBounds j true) a' (inv.set hj hjn) hfree' (ready_mono hr (Ne.symm hji)) h3.1 ?_) h2
      rw [Array.setIfInBounds_comm _ _ hji]
      exact h3.2

theorem headQ_lex {n g : Nat} {Lq : Act → Prop} (hsel : Region.noSelect ops = true) (hs : Region.sinkB md ops n = true) (hc : Region.chainB md ops n = true) (hn : n < ops.size) :
    ∀ (l : List Oper) (k : Nat) (listed : Array Bool) (a : Act), (∀ j, j < l.length → l[j]? = ops[k + j]?) → k + l.length = n → HeadInv md ops n listed →
    Region.lexHead md ops g l.length k listed = true → wpQuiet P ops C Lq l a →
    headQ P md ops C n (fun listed' a' => Region.seqB md ops g n listed' = true ∧ Lq a') l.length listed a
  | [], k, listed, a, _, hk, _, hB, h => by
    have : k = n := by simpa using hk
    subst this
    exact ⟨by simpa [Region.lexHead] using hB, h⟩
  | o :: l, k, listed, a, hl, hk, inv, hB, h => by
    have h0 : ops[k]? = some o := by simpa using (hl 0 (by simp)).symm
    simp only [List.length_cons, Region.lexHead, Bool.and_eq_true] at hB
    obtain ⟨⟨hr, hf⟩, hB'⟩ := hB
    have hkn : k < n := by simp only [List.length_cons] at hk; omega
    have hr' : k ∈ Region.ready md ops listed := by simpa using hr
    have hst : qOp P ops C k (wpQuiet P ops C Lq l) a := by unfold qOp; simp only [h0]; exact h
    obtain ⟨v, hy, hK⟩ := yieldsIn_of_qOp h0 hst
    exact headQ_first h0 (Region.noSelect_spec hsel) hs hc hn hkn (fun listed' a' hL => seqB_ready hL.1) l.length listed a inv (Region.free_spec h0 hf) hr' hy
      (headQ_lex hsel hs hc hn l (k + 1) _ _ (fun j hj => by have := hl (j + 1) (by simp; omega); simpa [Nat.add_assoc, Nat.add_comm 1 j] using this) (by simp only [List.length_cons] at hk; omega) (inv.set hr' hkn) hB' hK)

theorem wp_region_quiet_tail {id : Nat} {Q : Exit → Act → World → Prop} {a : Act} {w : World} {l : List Oper} (n : Nat) (hm : P.follows .mixedOrders = true) (hB : Region.lexTailB .any l.toArray n = true) (hC : C w.drew)
    (h : wpQuiet P l.toArray C (fun a' => ∀ w', C w' → wpList P l.toArray Q (l.drop n) a' w') (l.take n) a) : (Code.region id l.toArray true).wp P Q a w := by
  simp only [Region.lexTailB, Bool.and_eq_true, decide_eq_true_eq] at hB
  obtain ⟨⟨⟨⟨hsel, hn⟩, hs⟩, hc⟩, hlex⟩ := hB
  have hn' : n < l.length := by simpa using hn
  have htl : (l.take n).length = n := by simp; omega
  have hdl : (l.drop n).length = l.toArray.size - n := by simp
  have inv0 : HeadInv .any l.toArray n (Array.replicate l.toArray.size false) :=
    ⟨by simp, fun j oj _ hl => (by rw [getD_replicate_false] at hl; cases hl), fun t _ ht => getD_in (by simpa using ht) (getD_replicate_false _ _)⟩
  have H := headQ_lex (md := .any) (g := l.toArray.size - n) hsel hs hc hn (l.take n) 0 _ a (fun j hj => by
    have hj' : j < n := by rw [htl] at hj; exact hj
    simp [hj']) (by simpa using htl) inv0 (by rw [htl]; exact hlex) h
  refine wp_region_any hm ?_
  have := wpAny_of_headQ (Q' := Q) (g := l.toArray.size - n) (fun listed a' w' hw' hL => by
    have := wpAny_of_seq (md := .any) (Q' := Q) (l.drop n) n listed a' w' (fun j => by simp [List.getElem?_drop]) (by rw [hdl]; exact hL.1) (hL.2 w' hw')
    rwa [hdl] at this) _ _ _ _ hC H
  rw [htl, show n + (l.toArray.size - n) = l.toArray.size by omega] at this
  exact this
/-- the same at the class 'whatever came on top of w' -/
theorem wp_region_below_tail {id : Nat} {Q : Exit → Act → World → Prop} {a : Act} {w : World} {l : List Oper} (n : Nat) (hm : P.follows .mixedOrders = true) (hB : Region.lexTailB .any l.toArray n = true)
    (h : wpQuiet P l.toArray (fun w' => ∃ p : OnTop w, w' = p.v) (fun a' => ∀ w', (∃ p : OnTop w, w' = p.v) → wpList P l.toArray Q (l.drop n) a' w') (l.take n) a) : (Code.region id l.toArray true).wp P Q a w :=
  wp_region_quiet_tail (C := fun w' => ∃ p : OnTop w, w' = p.v) n hm hB ⟨⟨w.drewN 1, Still.below 1⟩, rfl⟩ h
end
end Go.Dx
end

/- the text Free -/
section
/- A region that draws its order and whose operations make memory: shown operation by operation, whatever the order. Each operation of the head leaves a value in its slot and a fact on it that stays true when memory grows; the tail waits for the whole head. No program in sight. -/
set_option linter.unusedVariables false
namespace Go.Dx
open Go.RowKit

theorem wp_both {P : Program} {o : Oper} {a : Act} {w : World} {K K' : Act → World → Prop} {Q Q' : Exit → Act → World → Prop} (h : ∀ a w, K a w → K' a w) (hp : ∀ e a w, e ≠ .normal → Q e a w → Q' e a w)
    (hh : o.wp P a w K Q) : o.wp P a w K' Q' := by
  unfold Oper.wp at *
  generalize (execOp a.eval o).run P w = r at *
  cases r with
  | ok n w' =>
    cases n <;> simp only [Oper.upon] at hh ⊢ <;>
      first
        | exact h _ _ hh
        | exact Calls.mono hh (fun e w'' he => by
            cases e <;> first
              | exact h _ _ he
              | exact hp _ _ _ (by simp) he
              | (obtain ⟨a1, w1, h1⟩ := he; exact ⟨a1, w1, hp _ _ _ (by simp) h1⟩))
        | exact Rows.mono hh (fun _ _ he => h _ _ he)
  | halt x w' => cases x <;> simp only [Oper.upon] at hh ⊢ <;> first | exact hp _ _ _ (by simp) hh | exact hh

theorem opt_bool {x : Option Value} {b : Bool} (h : x.getD undef = .bool b) : x = some (.bool b) := by
  cases x with
  | none => simp [undef] at h
  | some v => rw [← h]; rfl
/-- one operation of the head: its number, its slot, the slots that its fact speaks of, the fact -/
structure HOp where
  i : Nat
  d : Nat
  s : List Nat
  p : List Value → World → Prop

def HOp.fact (t : HOp) (a : Act) (w : World) : Prop := t.p (t.s.map fun k => a.tmps.getD k undef) w
/-- what an operation leaves -/
def OneDone (d : Nat) (a : Act) (w : World) (R : Value → World → Prop) (e : Exit) (a' : Act) (w' : World) : Prop := e = .normal ∧ ∃ v, a' = a.put (some d) v ∧ Below w.heap.size w w' ∧ R v w'

section
variable {P : Program}

def putAll (a : Act) : List (Nat × Value) → Act
  | [] => a
  | (d, v) :: l => putAll (a.put (some d) v) l
theorem putAll_defers (a : Act) : ∀ l, (putAll a l).defers = a.defers := by
  intro l
  induction l generalizing a with
  | nil => rfl
  | cons x l ih => obtain ⟨d, v⟩ := x; rw [putAll, ih]; rfl
theorem putAll_size (a : Act) : ∀ l, (putAll a l).tmps.size = a.tmps.size := by
  intro l
  induction l generalizing a with
  | nil => rfl
  | cons x l ih => obtain ⟨d, v⟩ := x; rw [putAll, ih]; simp [Act.put]
theorem put_get (a : Act) (d k : Nat) (v : Value) : (a.put (some d) v).tmps.getD k undef = if d = k ∧ d < a.tmps.size then v else a.tmps.getD k undef := by
  unfold Act.put
  simp only [Array.getD_eq_getD_getElem?, Array.getElem?_setIfInBounds]
  by_cases h : d = k
  · subst h
    by_cases h2 : d < a.tmps.size
    · simp [h2]
    · simp [h2]
  · simp [h]
theorem putAll_get (g : Nat → Value) : ∀ (L : List Nat) (a : Act) (k : Nat), (∀ d ∈ L, d < a.tmps.size) → (putAll a (L.map fun d => (d, g d))).tmps.getD k undef = if k ∈ L then g k else a.tmps.getD k undef := by
  intro L
  induction L with
  | nil => intro a k _; simp [putAll]
  | cons d L ih =>
    intro a k hs
    have hd := hs d List.mem_cons_self
    rw [List.map_cons, putAll, ih _ _ (fun e he => by simp [Act.put]; exact hs e (List.mem_cons_of_mem _ he)), put_get]
    by_cases h1 : k ∈ L
    · rw [if_pos h1, if_pos (List.mem_cons_of_mem _ h1)]
    · rw [if_neg h1]
      by_cases h2 : d = k
      · subst h2; rw [if_pos ⟨rfl, hd⟩, if_pos List.mem_cons_self]
      · rw [if_neg (fun h => h2 h.1), if_neg (fun h => by rcases List.mem_cons.1 h with h | h; exact h2 h.symm; exact h1 h)]
theorem act_ext {a b : Act} (h1 : a.defers = b.defers) (h2 : a.tmps.size = b.tmps.size) (h3 : ∀ k, a.tmps.getD k undef = b.tmps.getD k undef) : a = b := by
  obtain ⟨x, d⟩ := a
  obtain ⟨y, e⟩ := b
  simp only at h1 h2 h3
  subst h1
  congr 1
  apply Array.ext h2
  intro k hk1 hk2
  have := h3 k
  simpa [Array.getD, hk1, hk2] using this

theorem inj_nodup {α : Type} (f : α → Nat) : ∀ (T : List α), (T.map f).Nodup → ∀ t ∈ T, ∀ u ∈ T, f t = f u → t = u := by
  intro T
  induction T with
  | nil => intro _ t ht; cases ht
  | cons x T ih =>
    intro h t ht u hu e
    rw [List.map_cons, List.nodup_cons] at h
    rcases List.mem_cons.1 ht with h1 | h1 <;> rcases List.mem_cons.1 hu with h2 | h2
    · rw [h1, h2]
    · exact absurd (show f x ∈ T.map f from List.mem_map.2 ⟨u, h2, by rw [← e, h1]⟩) h.1
    · exact absurd (show f x ∈ T.map f from List.mem_map.2 ⟨t, h1, by rw [e, h2]⟩) h.1
    · exact ih h.2 t h1 u h2 e
/-- a property of each element of a list, written out -/
def All {α : Type} (R : α → Prop) : List α → Prop
  | [] => True
  | x :: l => R x ∧ All R l
theorem All.mem {α : Type} {R : α → Prop} : ∀ {l : List α}, All R l → ∀ x ∈ l, R x
  | y :: l, h, x, hx => by
    rcases List.mem_cons.1 hx with rfl | hx
    · exact h.1
    · exact All.mem h.2 x hx
/-- the conditions on the text alone -/
def headOk (l : List Oper) (n : Nat) (T : List (Nat × Nat × List Nat)) (size : Nat) : Bool :=
  let ops := l.toArray
  decide ((T.map (·.1)).Nodup) && decide (n < l.length) && Region.sinkB .any ops n && Region.chainB .any ops n && Region.seqB .any ops (l.length - n) n ((List.replicate n true ++ List.replicate (l.length - n) false).toArray) &&
  (List.range n).all (fun j => T.any fun t => t.1 == j) &&
  T.all (fun t => decide (t.1 < n) && decide (t.2.1 < size) && (match l[t.1]? with | some o => o.dst == some t.2.1 && (o.after.all fun e => !Region.binds .any e || decide (e.on < t.1)) | none => false)) &&
  T.all (fun t => T.all fun u => t.1 == u.1 || (t.2.1 != u.2.1 && (!u.2.2.contains t.2.1 || Region.waitsFor .any ops u.1 t.1)))

structure FreeInv (l : List Oper) (n : Nat) (T : List HOp) (a0 : Act) (w0 : World) (listed : Array Bool) (a : Act) (w : World) : Prop where
  inv : HeadInv .any l.toArray n listed
  defers : a.defers = a0.defers
  size : a.tmps.size = a0.tmps.size
  frame : ∀ k, (∀ t ∈ T, t.d ≠ k) → a.tmps.getD k undef = a0.tmps.getD k undef
  bel : Below w0.heap.size w0 w
  facts : ∀ t ∈ T, listed.getD t.i false = true → t.fact a w

def todo (listed : Array Bool) (n : Nat) : Nat := ((List.range n).filter fun j => !listed.getD j true).length
theorem todo_set {listed : Array Bool} {n i : Nat} (hi : i < n) (hl : listed.getD i true = false) : todo (listed.setIfInBounds i true) n + 1 = todo listed n := by
  unfold todo
  have hlt : i < listed.size := by
    rcases Nat.lt_or_ge i listed.size with h | h
    · exact h
    · simp [Array.getElem?_eq_none h] at hl
  have key : ∀ m, ((List.range m).filter fun j => !(listed.setIfInBounds i true).getD j true).length + (if i < m then 1 else 0) = ((List.range m).filter fun j => !listed.getD j true).length := by
    intro m
    induction m with
    | zero => simp
    | succ m ih =>
      rw [List.range_succ, List.filter_append, List.filter_append, List.length_append, List.length_append]
      by_cases him : i = m
      · subst him
        have e1 : (listed.setIfInBounds i true).getD i true = true := by simp [hlt]
        rw [if_neg (Nat.lt_irrefl _)] at ih
        rw [if_pos (Nat.lt_succ_self _), ← ih]
        simp only [List.filter_cons, List.filter_nil, e1, hl, Bool.not_true, Bool.not_false, Bool.false_eq_true, if_false, if_true, List.length_nil, List.length_singleton]
      · have e2 : (List.filter (fun j => !(listed.setIfInBounds i true).getD j true) [m]) = List.filter (fun j => !listed.getD j true) [m] := by simp only [List.filter_cons, List.filter_nil, getD_set_ne true him]
        rw [e2]
        by_cases h : i < m
        · rw [if_pos h] at ih; rw [if_pos (by omega)]; omega
        · rw [if_neg h] at ih; rw [if_neg (by omega)]; omega
  have := key n
  rw [if_pos hi] at this
  exact this

theorem wp_region_free {id : Nat} {Q : Exit → Act → World → Prop} {a0 : Act} {w0 : World} {l : List Oper} (n : Nat) (T : List HOp) (hm : P.follows .mixedOrders = true)
    (hB : headOk l n (T.map fun t => (t.i, t.d, t.s)) a0.tmps.size = true)
    (hmono : All (fun t : HOp => ∀ vs w w', Below w.heap.size w w' → t.p vs w → t.p vs w') T)
    (hop : All (fun t : HOp => ∀ o, l[t.i]? = some o → ∀ (a : Act) (w : World), Below w0.heap.size w0 w →
      (∀ k, (T.map (·.d)).contains k = false → a.tmps.getD k undef = a0.tmps.getD k undef) →
      (∀ (k : Nat) (u : HOp), T[k]? = some u → Region.waitsFor .any l.toArray t.i u.i = true → u.p (u.s.map fun k => a.tmps.getD k undef) w) →
      wpList P l.toArray (OneDone t.d a w fun v w' => t.p (t.s.map fun k => if t.d = k then v else a.tmps.getD k undef) w') [o] a w) T)
    (hend : ∀ (g : Nat → Value) (w : World), Below w0.heap.size w0 w → (∀ (k : Nat) (u : HOp), T[k]? = some u → u.p (u.s.map fun k => if k ∈ T.map (·.d) then g k else a0.tmps.getD k undef) w) →
      wpList P l.toArray Q (l.drop n) (putAll a0 ((T.map (·.d)).map fun d => (d, g d))) w) : (Code.region id l.toArray true).wp P Q a0 w0 := by
  simp only [headOk, Bool.and_eq_true, decide_eq_true_eq] at hB
  obtain ⟨⟨⟨⟨⟨⟨⟨hnd, hn⟩, hs⟩, hc⟩, hseq⟩, hcov⟩, hT⟩, hpair⟩ := hB
  have hnodup : ∀ t ∈ T, ∀ u ∈ T, t.i = u.i → t = u := inj_nodup (·.i) T (by rw [List.map_map] at hnd; exact hnd)
  have hn' : n < l.toArray.size := by simpa using hn
  have cover : ∀ j, j < n → ∃ t ∈ T, t.i = j := by
    intro j hj
    have h := List.all_eq_true.1 hcov j (List.mem_range.2 hj)
    obtain ⟨x, hx, he⟩ := List.any_eq_true.1 h
    obtain ⟨t, ht, rfl⟩ := List.mem_map.1 hx
    exact ⟨t, ht, by simpa using he⟩
  have own : ∀ t ∈ T, t.i < n ∧ t.d < a0.tmps.size ∧ ∃ o, l[t.i]? = some o ∧ o.dst = some t.d ∧ ∀ e ∈ o.after, Region.binds .any e = true → e.on < t.i := by
    intro t ht
    have h := List.all_eq_true.1 hT _ (List.mem_map.2 ⟨t, ht, rfl⟩)
    simp only [Bool.and_eq_true, decide_eq_true_eq] at h
    obtain ⟨⟨h1, h2⟩, h3⟩ := h
    refine ⟨h1, h2, ?_⟩
    cases ho : l[t.i]? with
    | none => rw [ho] at h3; cases h3
    | some o =>
      rw [ho] at h3
      simp only [Bool.and_eq_true, beq_iff_eq] at h3
      refine ⟨o, rfl, h3.1, fun e he hb => ?_⟩
      have := Array.all_eq_true_iff_forall_mem.1 h3.2 e he
      simpa [hb] using this
  have pair : ∀ t ∈ T, ∀ u ∈ T, t.i ≠ u.i → t.d ≠ u.d ∧ (t.d ∈ u.s → Region.waitsFor .any l.toArray u.i t.i = true) := by
    intro t ht u hu hne
    have h := List.all_eq_true.1 (List.all_eq_true.1 hpair _ (List.mem_map.2 ⟨t, ht, rfl⟩)) _ (List.mem_map.2 ⟨u, hu, rfl⟩)
    simp only [Bool.or_eq_true, beq_iff_eq, hne, false_or, Bool.and_eq_true, bne_iff_ne, ne_eq, Bool.not_eq_true'] at h
    refine ⟨h.1, fun hin => ?_⟩
    rcases h.2 with h2 | h2
    · have : u.s.contains t.d = true := by simpa using hin
      rw [this] at h2; cases h2
    · exact h2
  have key : ∀ (f : Nat) (listed : Array Bool) (a : Act) (w : World), FreeInv l n T a0 w0 listed a w → todo listed n = f → wpAny P .any l.toArray Q (f + (l.length - n)) listed a w := by
    intro f
    induction f with
    | zero =>
      intro listed a w I h0
      have hall : ∀ j, j < n → listed.getD j true = true := by
        intro j hj
        cases hb : listed.getD j true with
        | true => rfl
        | false =>
          have : j ∈ (List.range n).filter fun j => !listed.getD j true := List.mem_filter.2 ⟨List.mem_range.2 hj, by rw [hb]; rfl⟩
          unfold todo at h0
          rw [List.eq_nil_of_length_eq_zero h0] at this
          cases this
      have hlist : listed = (List.replicate n true ++ List.replicate (l.length - n) false).toArray := by
        have hsz := I.inv.size
        apply Array.ext
        · simp at hsz ⊢; omega
        · intro j h1 h2
          by_cases hj : j < n
          · have := hall j hj
            simp [Array.getD, h1] at this
            simp [this, List.getElem_append_left, hj]
          · have := I.inv.tail j (by omega) (by rw [← hsz]; exact h1)
            simp [Array.getD, h1] at this
            simp only [this, List.getElem_toArray]
            rw [List.getElem_append_right (by simp; omega)]
            simp
      have ha : a = putAll a0 ((T.map (·.d)).map fun d => (d, a.tmps.getD d undef)) := by
        have hd : ∀ d ∈ T.map (·.d), d < a0.tmps.size := by
          intro d hd
          obtain ⟨t, ht, rfl⟩ := List.mem_map.1 hd
          exact (own t ht).2.1
        refine act_ext (by rw [putAll_defers]; exact I.defers) (by rw [putAll_size]; exact I.size) (fun k => ?_)
        rw [putAll_get (fun d => a.tmps.getD d undef) _ _ _ hd]
        by_cases h : k ∈ T.map (·.d)
        · rw [if_pos h]
        · rw [if_neg h]
          exact I.frame k (fun t ht e => h (List.mem_map.2 ⟨t, ht, e⟩))
      have hfin := hend (fun d => a.tmps.getD d undef) w I.bel (fun k u hu => by
        have hu' := List.mem_of_getElem? hu
        have h1 := I.facts u hu' (by
          have := hall u.i (own u hu').1
          rcases Nat.lt_or_ge u.i listed.size with h' | h'
          · simp [h'] at this ⊢; exact this
          · have := I.inv.size; have := (own u hu').1; omega)
        unfold HOp.fact at h1
        have e : (u.s.map fun k => if k ∈ T.map (·.d) then a.tmps.getD k undef else a0.tmps.getD k undef) = u.s.map fun k => a.tmps.getD k undef := by
          apply List.map_congr_left
          intro k _
          by_cases h : k ∈ T.map (·.d)
          · rw [if_pos h]
          · rw [if_neg h]
            exact (I.frame k (fun t ht e => h (List.mem_map.2 ⟨t, ht, e⟩))).symm
        rw [e]
        exact h1)
      rw [← ha] at hfin
      rw [Nat.zero_add]
      have hseq' : Region.seqB .any l.toArray (l.drop n).length n listed = true := by rw [hlist, List.length_drop]; exact hseq
      have := wpAny_of_seq (md := .any) (Q' := Q) (l.drop n) n listed a w (fun j => by simp [List.getElem?_drop]) hseq' hfin
      rwa [List.length_drop] at this
    | succ f ih =>
      intro listed a w I hf
      have hex : ∃ j, j < n ∧ listed.getD j true = false := by
        cases hL : (List.range n).filter fun j => !listed.getD j true with
        | nil => unfold todo at hf; rw [hL] at hf; cases hf
        | cons j L =>
          have : j ∈ (List.range n).filter fun j => !listed.getD j true := by rw [hL]; exact List.mem_cons_self
          obtain ⟨h1, h2⟩ := List.mem_filter.1 this
          exact ⟨j, List.mem_range.1 h1, by simpa using h2⟩
      have hready : Region.ready .any l.toArray listed ≠ [] := by
        have hmin : ∀ m j, j ≤ m → j < n → listed.getD j true = false → ∃ i, i ∈ Region.ready .any l.toArray listed := by
          intro m
          induction m with
          | zero =>
            intro j hj hjn hjl
            have hj0 : j = 0 := by omega
            subst hj0
            obtain ⟨t, ht, hti⟩ := cover 0 hjn
            obtain ⟨_, _, o, ho, _, hb⟩ := own t ht
            rw [hti] at ho hb
            exact ⟨0, mem_ready.2 ⟨hjl, o, by simpa using ho, fun e he hbe => absurd (hb e he hbe) (by omega)⟩⟩
          | succ m ihm =>
            intro j hj hjn hjl
            obtain ⟨t, ht, hti⟩ := cover j hjn
            obtain ⟨_, _, o, ho, _, hb⟩ := own t ht
            rw [hti] at ho hb
            by_cases hall : ∀ e ∈ o.after, Region.binds .any e = true → listed.getD e.on false = true
            · exact ⟨j, mem_ready.2 ⟨hjl, o, by simpa using ho, hall⟩⟩
            · simp only [Classical.not_forall] at hall
              obtain ⟨e, he, hbe, hne⟩ := hall
              have hlt := hb e he hbe
              have hes : e.on < listed.size := by rw [I.inv.size]; simp; omega
              exact ihm e.on (by omega) (by omega) (getD_in hes (by simpa using hne))
        obtain ⟨j, hj, hjl⟩ := hex
        obtain ⟨i, hi⟩ := hmin j j (Nat.le_refl _) hj hjl
        intro h
        rw [h] at hi
        cases hi
      rw [show f + 1 + (l.length - n) = (f + (l.length - n)) + 1 by omega]
      refine ⟨fun h => absurd h hready, fun i hi => ?_⟩
      have hin : i < n := by
        rcases Nat.lt_or_ge i n with h | h
        · exact h
        · obtain ⟨j, hj, hjl⟩ := hex
          exact absurd hi (tail_waits hs hc hn' I.inv _ j rfl hj hjl i h)
      obtain ⟨t, ht, hti⟩ := cover i hin
      obtain ⟨_, htd, o, ho, hdst, _⟩ := own t ht
      obtain ⟨hil, oi, hoi, hafter⟩ := mem_ready.1 hi
      have hoo : oi = o := by rw [hti] at ho; exact Option.some.inj (hoi.symm.trans (by simpa using ho))
      subst hoo
      have H := hop.mem t ht oi ho a w I.bel (fun k hk => I.frame k (fun u hu e => by
          have : (T.map (·.d)).contains k = true := by simpa using ⟨u, hu, e⟩
          rw [this] at hk; cases hk)) (fun k u hu hw => by
        have hu' := List.mem_of_getElem? hu
        obtain ⟨oj, hoj, e, he, hb, hon⟩ := Region.waitsFor_spec hw
        have : oj = oi := by rw [hti] at hoj; exact Option.some.inj (hoj.symm.trans hoi)
        subst this
        have h1 := hafter e he hb
        rw [hon] at h1
        exact I.facts u hu' h1)
      have step : ∀ (a' : Act) (w' : World), OneDone t.d a w (fun v w' => t.p (t.s.map fun k => if t.d = k then v else a.tmps.getD k undef) w') .normal a' w' → wpAny P .any l.toArray Q (f + (l.length - n)) (listed.setIfInBounds i true) a' w' := by
        intro a' w' h
        obtain ⟨_, v, rfl, hbel, hp⟩ := h
        refine ih _ _ _ ⟨I.inv.set hi hin, I.defers, ?_, ?_, ?_, ?_⟩ ?_
        · rw [← I.size]; simp [Act.put]
        · intro k hk
          rw [put_get, if_neg (fun h => hk t ht h.1)]
          exact I.frame k hk
        · exact I.bel.trans (hbel.mono I.bel.size)
        · intro u hu hul
          by_cases hui : t.i = u.i
          · have hd : u.d = t.d ∨ True := .inr trivial
            unfold HOp.fact
            by_cases hut : u = t
            · subst hut
              have e : (u.s.map fun k => (a.put (some u.d) v).tmps.getD k undef) = u.s.map fun k => if u.d = k then v else a.tmps.getD k undef := by
                apply List.map_congr_left
                intro k _
                rw [put_get, I.size]
                by_cases hk : u.d = k
                · rw [if_pos ⟨hk, htd⟩, if_pos hk]
                · rw [if_neg (fun h => hk h.1), if_neg hk]
              rw [e]
              exact hp
            · exact absurd (hnodup t ht u hu hui).symm hut
          · unfold HOp.fact
            have hul2 : listed.getD u.i false = true := by rw [← getD_set_ne false (i := i) (j := u.i) (by rw [← hti]; exact hui)]; exact hul
            have h1 := hmono.mem u hu _ _ _ hbel (I.facts u hu hul2)
            have hnot : t.d ∉ u.s := by
              intro hin2
              have hw := (pair t ht u hu hui).2 hin2
              obtain ⟨ou, hou, e, he, hb, hon⟩ := Region.waitsFor_spec hw
              have := I.inv.closed u.i ou hou hul2 e he hb
              rw [hon, hti, getD_both hil] at this
              cases this
            have e : (u.s.map fun k => (a.put (some t.d) v).tmps.getD k undef) = u.s.map fun k => a.tmps.getD k undef := by
              apply List.map_congr_left
              intro k hk
              rw [put_get, if_neg (fun (h : t.d = k ∧ t.d < a.tmps.size) => hnot (by rw [h.1]; exact hk))]
            rw [e]
            exact h1
        · have := todo_set hin hil; omega
      unfold wpList at H
      unfold wpOp
      rw [hoi]
      simp only
      by_cases hwant : Region.wanted oi (yielded l.toArray a.tmps) = true
      · rw [if_pos hwant] at H
        rw [if_pos hwant]
        left
        rcases H with H | ⟨_, a1, w1, h1, _⟩
        · exact wp_both (fun a' w' h => step a' w' h) (fun e a' w' he h => absurd h.1 he) H
        · cases h1
      · rw [if_neg hwant] at H
        rw [if_neg hwant]
        exact step _ _ H
  refine wp_region_any hm ?_
  have inv0 : HeadInv .any l.toArray n (Array.replicate l.toArray.size false) :=
    ⟨by simp, fun j oj _ hl => (by rw [getD_replicate_false] at hl; cases hl), fun t _ ht => getD_in (by simpa using ht) (getD_replicate_false _ _)⟩
  have I0 : FreeInv l n T a0 w0 (Array.replicate l.toArray.size false) a0 { w0 with drawn := w0.drawn + 1 } :=
    ⟨inv0, rfl, rfl, fun _ _ => rfl, Still.below 1, fun t _ hl => (by rw [getD_replicate_false] at hl; cases hl)⟩
  have ht0 : todo (Array.replicate l.toArray.size false) n = n := by
    unfold todo
    rw [List.filter_eq_self.2 (fun j hj => by
      have hj' := List.mem_range.1 hj
      have : (Array.replicate l.toArray.size false).getD j true = false := getD_in (by simp; omega) (getD_replicate_false _ _)
      rw [this]; rfl), List.length_range]
  have := key n _ _ _ I0 ht0
  rwa [show n + (l.length - n) = l.toArray.size by simp; omega] at this
end
end Go.Dx
end

/- the text C19 -/
section
namespace Go.Proofs.Ythfljnlankmoiaa
open Go.RowKit Go.Dx

/-- the memory while the dots are appended -/
structure RUW (w w' : World) (W H : Nat) (a : Option Addr) (m c : Nat) (p : List (List UInt8)) : Prop where
  res : Box w' w.heap.size 36 [.int .i64 0, .int .i64 0, .slice none 0 0]
  ras : Box w' (w.heap.size + 1) 36 [.int .i64 W, .int .i64 H, .slice a m c]
  own : Own w' (w.heap.size + 2) 4 1 a m c ((rbits p W m).map Value.bool)
  bel : Below w.heap.size w w'
theorem RUW.under {w w' w2 : World} {W H m c : Nat} {a : Option Addr} {p : List (List UInt8)} (h : RUW w w' W H a m c p) (hb : Below w'.heap.size w' w2) : RUW w w2 W H a m c p :=
  ⟨h.res.under hb, h.ras.under hb, h.own.below hb, h.bel.trans (hb.mono h.bel.size)⟩
theorem RUW.lt {w w' : World} {W H m c : Nat} {a : Option Addr} {p : List (List UInt8)} (h : RUW w w' W H a m c p) : w.heap.size + 2 ≤ w'.heap.size := h.ras.lt
theorem RUW.ne {w w' : World} {W H m c : Nat} {a : Option Addr} {p : List (List UInt8)} (h : RUW w w' W H a m c p) : ∀ b, b < w.heap.size + 2 → some b ≠ a.map (·.block) := by
  intro b hb
  cases a with
  | none => simp
  | some q => have := h.own.base.1; simp; omega
theorem RUW.keep {w w' w2 : World} {W H m c : Nat} {a : Option Addr} {p : List (List UInt8)} (h : RUW w w' W H a m c p) (hg : w'.grownBy w2 (a.map (·.block))) : Box w2 (w.heap.size + 1) 36 [.int .i64 W, .int .i64 H, .slice a m c] :=
  h.ras.grown hg (h.ne _ (by omega))
theorem RUW.put {w w' w2 : World} {W H m c c' : Nat} {a a' : Option Addr} {p : List (List UInt8)} (h : RUW w w' W H a m c p) (ho : Own w2 (w.heap.size + 2) 4 1 a' (m + 1) c' ((rbits p W m).map Value.bool ++ [.bool (rdot p W m)])) (hg : w'.grownBy w2 (a.map (·.block))) :
    RUW w (w2.setCell ⟨w.heap.size + 1, 2, none⟩ (.slice a' (m + 1) c')) W H a' (m + 1) c' p := by
  have hne := h.ne
  refine ⟨(h.res.grown hg (hne _ (by omega))).far (by simp) _, (h.ras.grown hg (hne _ (by omega))).put 2 _, ?_, ?_⟩
  · rw [rbits_succ, List.map_append]
    exact ownsRow_setCell_below ho (by simp) _
  · refine ((h.bel.grown hg h.bel.size ?_).setCell (p := ⟨w.heap.size + 1, 2, none⟩) (by simp) _)
    intro k hk
    cases a with
    | none => cases hk
    | some q => have := h.own.base.1; simp at hk; omega

set_option maxRecDepth 100000 in
set_option maxHeartbeats 1000000 in
theorem ref_Unpack_yes (p : List (List UInt8)) (hs : List Hd) (a : Option Addr) (n c : Nat) (w : World) (hp : Pg w a n c hs p) (hv : p.any (fun l => !validB l) = false) (h1 : 2 * wideL p ≤ 65536) (h2 : 3 * p.length ≤ 65536) (h3 : 2 * wideL p * (3 * p.length) ≤ 65536) :
    Calls Try.prog 28 #[.slice a n c] w fun e w' => ∃ a' n' c', e = .returned (.tuple #[RV (2 * wideL p : Nat) (3 * p.length : Nat) a' n' c', .int .i64 0]) ∧ Sl w' 1 a' n' c' ((rbits p (2 * wideL p) (2 * wideL p * (3 * p.length))).map Value.bool) ∧ Below w.heap.size w w' := by
  obtain rfl := hp.n_eq
  have hm1 := Nat.le_trans hp.top.le hp.top.cap
  unfold maxLen at hm1
  obtain ⟨wd, Hwd⟩ : ∃ wd, Hid (wideL p = wd) := ⟨_, hide rfl⟩
  obtain ⟨W, HW⟩ : ∃ W, Hid (2 * wd = W) := ⟨_, hide rfl⟩
  obtain ⟨H, HH⟩ : ∃ H, Hid (3 * p.length = H) := ⟨_, hide rfl⟩
  obtain ⟨N, HN⟩ : ∃ N, Hid (W * H = N) := ⟨_, hide rfl⟩
  rw [Hwd.out, HW.out, HH.out, HN.out] at h3
  rw [Hwd.out, HW.out] at h1
  rw [HH.out] at h2
  rw [Hwd.out, HW.out, HH.out, HN.out]
  have HV := hide hv
  clear hv
  go_enter Try.func28, Try.ntmps28
  go_wp2_with fail
  go_loopg [4, 5] p.length (fun g x i w' => ∃ (k m : Nat), k ≤ p.length ∧ g = p.length - k ∧ m = wideL (p.take k) ∧ x = .int .i64 m ∧ i = .int .i64 k ∧ w' = w.alloc (.cells #[.int .i64 0, .int .i64 0, .slice none 0 0] 36))
  case atStart => exact ⟨0, 0, by omega, by omega, rfl, rfl, rfl, rfl⟩
  case round =>
    obtain ⟨k, m, hk, hg, hm, rfl, rfl, rfl⟩ := hrel
    have HG := hide hg
    have HM := hide hm
    have hml : m ≤ 65536 := by rw [hm]; have := wide_take_le p k; rw [Hwd.out] at this; have := HW.out; omega
    clear hg hm
    by_cases hkl : k < p.length
    · obtain ⟨r, hr⟩ : ∃ r, p[k]? = some r := ⟨p[k], by simp [hkl]⟩
      obtain ⟨a1, c1, hu, hsr⟩ := (hp.below (bl1 w (.cells #[.int .i64 0, .int .i64 0, .slice none 0 0] 36))).get hr
      have HU := hide hu
      have hrl := Nat.le_trans hsr.le hsr.cap
      unfold maxLen at hrl
      have hval := ref_Valid r a1 _ c1 _ hsr
      have hvr : validB r = true := by
        have := List.any_eq_false.1 HV.out r (List.mem_of_getElem? hr)
        simpa using this
      rw [hvr] at hval
      have HM2 := hide (wide_next hr)
      clear hu hr hvr
      by_cases hmr : m < r.length
      · go_wp2_with (first
          | (with_reducible refine idx_p 17 _ _ _ _ _ hs rfl (hp.below (bl1 w _)).top _ _ k rfl rfl _ HU.out ?_; intro b o hcell hbo)
          | (with_reducible refine idx_p 25 _ _ _ _ _ hs rfl (hp.below (bl1 w _)).top _ _ k rfl rfl _ HU.out ?_; intro b2 o2 hcell2 hbo2)
          | (go_at_call 18; refine hval.mono ?_; rintro e w2 ⟨rfl, rfl⟩))
        go_roundg (p.length - (k + 1))
        case measure => have := HG.out; omega
        case rel => exact ⟨k + 1, r.length, by omega, rfl, by rw [HM2.out, ← HM.out]; omega, by go_num, by go_num, rfl⟩
      · go_wp2_with (first
          | (with_reducible refine idx_p 17 _ _ _ _ _ hs rfl (hp.below (bl1 w _)).top _ _ k rfl rfl _ HU.out ?_; intro b o hcell hbo)
          | (with_reducible refine idx_p 25 _ _ _ _ _ hs rfl (hp.below (bl1 w _)).top _ _ k rfl rfl _ HU.out ?_; intro b2 o2 hcell2 hbo2)
          | (go_at_call 18; refine hval.mono ?_; rintro e w2 ⟨rfl, rfl⟩))
        go_roundg (p.length - (k + 1))
        case measure => have := HG.out; omega
        case rel => exact ⟨k + 1, m, by omega, rfl, by rw [HM2.out, ← HM.out]; omega, by go_num, by go_num, rfl⟩
    · obtain rfl : k = p.length := by omega
      have hmw : m = wd := by rw [HM.out, List.take_length, Hwd.out]
      clear HM
      subst hmw
      have hpl : p.length ≤ 21846 := by have := HH.out; omega
      have d1 : decide (65536 < (W : Int)) = false := decide_eq_false (by omega)
      have d2 : decide (65536 < (H : Int)) = false := decide_eq_false (by omega)
      have d3 : decide (65536 < (N : Int)) = false := decide_eq_false (by omega)
      have MN : Hid (wrap64 ((W : Int) * (H : Int)) = (N : Int)) := by
        show _ = _
        rw [← Int.natCast_mul, HN.out]; exact IntWalk.wrap64_in _ (by omega)
      have mW : 2 * (m : Int) = (W : Int) := by have := HW.out; omega
      have mH : 3 * (p.length : Int) = (H : Int) := by have := HH.out; omega
      have mN := MN.out
      go_wp2
      clear mN mW mH d1 d2 d3
      have hU0 : RUW w ((w.alloc (.cells #[.int .i64 0, .int .i64 0, .slice none 0 0] 36)).alloc (.cells #[.int .i64 W, .int .i64 H, .slice none 0 0] 36)) W H none 0 0 p :=
        ⟨un_box0 (Below.refl _ _), un_box (Below.refl _ _), Own.nil _ _ _ _, bl2 _ _ _⟩
      go_loopg [7] H (fun g i w' => ∃ (y m : Nat) (a2 : Option Addr) (c2 : Nat), y ≤ H ∧ g = H - y ∧ m = y * W ∧ i = .int .i64 y ∧ RUW w w' W H a2 m c2 p)
      case atStart => exact ⟨0, 0, none, 0, by omega, by omega, by simp, rfl, hU0⟩
      case round =>
        clear hU0
        obtain ⟨y, m0, a0, c0, hy, hg, hm0, rfl, hU⟩ := hrel
        have HG := hide hg
        have HM0 := hide hm0
        clear hg hm0
        have e1 := hU.ras.at_ (j := 1) rfl
        by_cases hyl : y < H
        · go_wp2
          go_loopg [8] W (fun g i w' => ∃ (x m : Nat) (a2 : Option Addr) (c2 : Nat), x ≤ W ∧ g = W - x ∧ m = m0 + x ∧ i = .int .i64 x ∧ RUW w w' W H a2 m c2 p)
          case atStart => exact ⟨0, m0, a0, c0, by omega, by omega, by omega, rfl, hU⟩
          case round =>
            obtain ⟨x, m, a2, c2, hx, hg1, hm, rfl, hU1⟩ := hrel
            have HG1 := hide hg1
            have HM := hide hm
            clear hg1 hm
            have e0 := hU1.ras.at_ (j := 0) rfl
            by_cases hxl : x < W
            · have hmN : m < N := by have := idx_lt hxl hyl; rw [HN.out, ← HM0.out, ← HM.out] at this; exact this
              have hdm := (divmod (y := y) (k := m) (by omega) hxl).1 (by rw [← HM0.out, ← HM.out])
              obtain ⟨Y, HY⟩ : ∃ Y, Hid (Y = y / 3) := ⟨_, rfl⟩
              obtain ⟨X, HX⟩ : ∃ X, Hid (X = x / 2) := ⟨_, rfl⟩
              obtain ⟨r, Hr⟩ : ∃ r, Hid (r = y % 3) := ⟨_, rfl⟩
              obtain ⟨q, Hq⟩ : ∃ q, Hid (q = x % 2) := ⟨_, rfl⟩
              obtain ⟨t, Ht⟩ : ∃ t, Hid (t = 3 * q) := ⟨_, rfl⟩
              obtain ⟨s, Hs⟩ : ∃ s, Hid (s = r + t) := ⟨_, rfl⟩
              have hs6 : s < 6 := by rw [Hs.out, Ht.out, Hr.out, Hq.out]; omega
              have hr3 : r < 3 := by rw [Hr.out]; omega
              have ht3 : t ≤ 3 := by rw [Ht.out, Hq.out]; omega
              have hq2 : q < 2 := by rw [Hq.out]; omega
              have hY6 : Y ≤ 65536 := by rw [HY.out]; omega
              have hX6 : X ≤ 65536 := by rw [HX.out]; omega
              have MY : Hid ((y : Int) / 3 = (Y : Int)) := by show _ = _; rw [HY.out]; omega
              have MX : Hid ((x : Int) / 2 = (X : Int)) := by show _ = _; rw [HX.out]; omega
              have Mr : Hid ((y : Int) % 3 = (r : Int)) := by show _ = _; rw [Hr.out]; omega
              have Mq : Hid ((x : Int) % 2 = (q : Int)) := by show _ = _; rw [Hq.out]; omega
              have Mt : Hid (3 * (q : Int) = (t : Int)) := by show _ = _; rw [Ht.out]; omega
              have Ms : Hid (1 + (r : Int) + (t : Int) = (s : Int) + 1) := by show _ = _; rw [Hs.out]; omega
              obtain ⟨u, Hu⟩ : ∃ u, Hid (pcell p Y X = u) := ⟨_, hide rfl⟩
              obtain ⟨v, Hv⟩ : ∃ v, Hid (dot u s = v) := ⟨_, hide rfl⟩
              have HRD : Hid (rdot p W m = v) := by
                show _ = _
                unfold rdot
                rw [← hdm.1, ← hdm.2, ← HY.out, ← HX.out, Hu.out, ← Hv.out, Hs.out, Ht.out, Hr.out, Hq.out]
              have hcell : ∀ w', Below wr.heap.size wr w' → Calls Try.prog 59 #[.slice a p.length c, .int .i64 Y, .int .i64 X] w' fun e w2 => e = .returned (.int .u8 (u.toNat : Int)) ∧ w' = w2 := by
                intro w' hb
                have := ref_Cell p hs a _ c Y X w' ((hp.below hU1.bel).below hb) (by omega) (by omega)
                rw [Hu.out] at this
                exact this
              have hhas : ∀ w', Calls Try.prog 51 #[.int .u8 (u.toNat : Int), .int .i64 ((s : Int) + 1)] w' fun e w2 => e = .returned (.bool v) ∧ w' = w2 := by
                intro w'
                have := ref_Has u s hs6 w'
                rw [Hv.out] at this
                exact this
              have hU1' := hU1
              clear hdm
              go_wp2_with fail
              refine wp_region_free 17 [⟨0, 64, [64], fun vs _ => vs = [.pointer (some ⟨w.heap.size + 1, 2, none⟩)]⟩, ⟨1, 65, [65], fun vs _ => vs = [.slice a2 m c2]⟩, ⟨2, 66, [66], fun vs _ => vs = [.slice a p.length c]⟩, ⟨3, 67, [67], fun vs _ => vs = [.int .i64 (y : Int)]⟩, ⟨4, 68, [68], fun vs _ => vs = [.int .i64 (Y : Int)]⟩, ⟨5, 69, [69], fun vs _ => vs = [.int .i64 (x : Int)]⟩, ⟨6, 70, [70], fun vs _ => vs = [.int .i64 (X : Int)]⟩, ⟨7, 71, [71], fun vs _ => vs = [.int .u8 (u.toNat : Int)]⟩, ⟨8, 72, [72], fun vs _ => vs = [.int .i64 (y : Int)]⟩, ⟨9, 73, [73], fun vs _ => vs = [.int .i64 (r : Int)]⟩, ⟨10, 74, [74], fun vs _ => vs = [.int .i64 (1 + (r : Int))]⟩, ⟨11, 75, [75], fun vs _ => vs = [.int .i64 (x : Int)]⟩, ⟨12, 76, [76], fun vs _ => vs = [.int .i64 (q : Int)]⟩, ⟨13, 77, [77], fun vs _ => vs = [.int .i64 (t : Int)]⟩, ⟨14, 78, [78], fun vs _ => vs = [.int .i64 ((s : Int) + 1)]⟩, ⟨15, 79, [79], fun vs _ => vs = [.bool v]⟩, ⟨16, 80, [80], fun vs w => ∃ b, vs = [.slice (some ⟨b, 0, none⟩) 1 1] ∧ Sl w 1 (some ⟨b, 0, none⟩) 1 1 [.bool v]⟩] (by kernel_rfl) (by kernel_rfl) ?_ ?_ ?_
              · simp only [All]
                refine ⟨fun _ _ _ _ h => h, fun _ _ _ _ h => h, fun _ _ _ _ h => h, fun _ _ _ _ h => h, fun _ _ _ _ h => h, fun _ _ _ _ h => h, fun _ _ _ _ h => h, fun _ _ _ _ h => h, fun _ _ _ _ h => h, fun _ _ _ _ h => h, fun _ _ _ _ h => h, fun _ _ _ _ h => h, fun _ _ _ _ h => h, fun _ _ _ _ h => h, fun _ _ _ _ h => h, fun _ _ _ _ h => h, ?_, trivial⟩
                · rintro vs w w' hb ⟨b, h1, h2⟩
                  exact ⟨b, h1, h2.below hb⟩
              · simp only [All]
                refine ⟨?_, ?_, ?_, ?_, ?_, ?_, ?_, ?_, ?_, ?_, ?_, ?_, ?_, ?_, ?_, ?_, ?_, trivial⟩
                · intro o ho a' w' hb hfr hdep
                  obtain rfl := Option.some.inj ho
                  have g6 : a'.tmps[6]?.getD undef = .pointer (some ⟨w.heap.size + 1, 0, none⟩) := by have h := hfr 6 (by kernel_rfl); simpa using h
                  clear ho hfr hdep
                  go_wp2_with fail
                  exact ⟨rfl, _, rfl, Below.refl _ _, rfl⟩
                · intro o ho a' w' hb hfr hdep
                  obtain rfl := Option.some.inj ho
                  have g64 : a'.tmps[64]?.getD undef = .pointer (some ⟨w.heap.size + 1, 2, none⟩) := by have h := hdep 0 _ rfl (by kernel_rfl); simpa using h
                  clear ho hfr hdep
                  have hq := (hU1.ras.under hb).at_ (j := 2) rfl
                  go_wp2_with fail
                  exact ⟨rfl, _, rfl, Below.refl _ _, rfl⟩
                · intro o ho a' w' hb hfr hdep
                  obtain rfl := Option.some.inj ho
                  have g0 : a'.tmps[0]?.getD undef = .slice a p.length c := by have h := hfr 0 (by kernel_rfl); simpa using h
                  clear ho hfr hdep
                  go_wp2_with fail
                  exact ⟨rfl, _, rfl, Below.refl _ _, rfl⟩
                · intro o ho a' w' hb hfr hdep
                  obtain rfl := Option.some.inj ho
                  have g7 : a'.tmps[7]?.getD undef = .int .i64 (y : Int) := by have h := hfr 7 (by kernel_rfl); simpa using h
                  clear ho hfr hdep
                  go_wp2_with fail
                  exact ⟨rfl, _, rfl, Below.refl _ _, rfl⟩
                · intro o ho a' w' hb hfr hdep
                  obtain rfl := Option.some.inj ho
                  have g67 : a'.tmps[67]?.getD undef = .int .i64 (y : Int) := by have h := hdep 3 _ rfl (by kernel_rfl); simpa using h
                  clear ho hfr hdep
                  have mY := MY.out
                  go_wp2_with fail
                  exact ⟨rfl, _, rfl, Below.refl _ _, rfl⟩
                · intro o ho a' w' hb hfr hdep
                  obtain rfl := Option.some.inj ho
                  have g8 : a'.tmps[8]?.getD undef = .int .i64 (x : Int) := by have h := hfr 8 (by kernel_rfl); simpa using h
                  clear ho hfr hdep
                  go_wp2_with fail
                  exact ⟨rfl, _, rfl, Below.refl _ _, rfl⟩
                · intro o ho a' w' hb hfr hdep
                  obtain rfl := Option.some.inj ho
                  have g69 : a'.tmps[69]?.getD undef = .int .i64 (x : Int) := by have h := hdep 5 _ rfl (by kernel_rfl); simpa using h
                  clear ho hfr hdep
                  have mX := MX.out
                  go_wp2_with fail
                  exact ⟨rfl, _, rfl, Below.refl _ _, rfl⟩
                · intro o ho a' w' hb hfr hdep
                  obtain rfl := Option.some.inj ho
                  have g66 : a'.tmps[66]?.getD undef = .slice a p.length c := by have h := hdep 2 _ rfl (by kernel_rfl); simpa using h
                  have g68 : a'.tmps[68]?.getD undef = .int .i64 (Y : Int) := by have h := hdep 4 _ rfl (by kernel_rfl); simpa using h
                  have g70 : a'.tmps[70]?.getD undef = .int .i64 (X : Int) := by have h := hdep 6 _ rfl (by kernel_rfl); simpa using h
                  clear ho hfr hdep
                  go_wp2_with fail
                  refine (hcell _ hb).mono ?_
                  rintro e w2 ⟨rfl, rfl⟩
                  go_wp2_with fail
                  exact ⟨rfl, _, rfl, Below.refl _ _, rfl⟩
                · intro o ho a' w' hb hfr hdep
                  obtain rfl := Option.some.inj ho
                  have g7 : a'.tmps[7]?.getD undef = .int .i64 (y : Int) := by have h := hfr 7 (by kernel_rfl); simpa using h
                  clear ho hfr hdep
                  go_wp2_with fail
                  exact ⟨rfl, _, rfl, Below.refl _ _, rfl⟩
                · intro o ho a' w' hb hfr hdep
                  obtain rfl := Option.some.inj ho
                  have g72 : a'.tmps[72]?.getD undef = .int .i64 (y : Int) := by have h := hdep 8 _ rfl (by kernel_rfl); simpa using h
                  clear ho hfr hdep
                  go_wp2_with fail
                  exact ⟨rfl, _, rfl, Below.refl _ _, by show [Value.int .i64 ((y : Int) % 3)] = _; rw [Mr.out]⟩
                · intro o ho a' w' hb hfr hdep
                  obtain rfl := Option.some.inj ho
                  have g73 : a'.tmps[73]?.getD undef = .int .i64 (r : Int) := by have h := hdep 9 _ rfl (by kernel_rfl); simpa using h
                  clear ho hfr hdep
                  go_wp2_with fail
                  exact ⟨rfl, _, rfl, Below.refl _ _, rfl⟩
                · intro o ho a' w' hb hfr hdep
                  obtain rfl := Option.some.inj ho
                  have g8 : a'.tmps[8]?.getD undef = .int .i64 (x : Int) := by have h := hfr 8 (by kernel_rfl); simpa using h
                  clear ho hfr hdep
                  go_wp2_with fail
                  exact ⟨rfl, _, rfl, Below.refl _ _, rfl⟩
                · intro o ho a' w' hb hfr hdep
                  obtain rfl := Option.some.inj ho
                  have g75 : a'.tmps[75]?.getD undef = .int .i64 (x : Int) := by have h := hdep 11 _ rfl (by kernel_rfl); simpa using h
                  clear ho hfr hdep
                  go_wp2_with fail
                  exact ⟨rfl, _, rfl, Below.refl _ _, by show [Value.int .i64 ((x : Int) % 2)] = _; rw [Mq.out]⟩
                · intro o ho a' w' hb hfr hdep
                  obtain rfl := Option.some.inj ho
                  have g76 : a'.tmps[76]?.getD undef = .int .i64 (q : Int) := by have h := hdep 12 _ rfl (by kernel_rfl); simpa using h
                  clear ho hfr hdep
                  have mt := Mt.out
                  go_wp2_with fail
                  exact ⟨rfl, _, rfl, Below.refl _ _, rfl⟩
                · intro o ho a' w' hb hfr hdep
                  obtain rfl := Option.some.inj ho
                  have g74 : a'.tmps[74]?.getD undef = .int .i64 (1 + (r : Int)) := by have h := hdep 10 _ rfl (by kernel_rfl); simpa using h
                  have g77 : a'.tmps[77]?.getD undef = .int .i64 (t : Int) := by have h := hdep 13 _ rfl (by kernel_rfl); simpa using h
                  clear ho hfr hdep
                  have ms := Ms.out
                  go_wp2_with fail
                  exact ⟨rfl, _, rfl, Below.refl _ _, rfl⟩
                · intro o ho a' w' hb hfr hdep
                  obtain rfl := Option.some.inj ho
                  have g71 : a'.tmps[71]?.getD undef = .int .u8 (u.toNat : Int) := by have h := hdep 7 _ rfl (by kernel_rfl); simpa using h
                  have g78 : a'.tmps[78]?.getD undef = .int .i64 ((s : Int) + 1) := by have h := hdep 14 _ rfl (by kernel_rfl); simpa using h
                  clear ho hfr hdep
                  go_wp2_with fail
                  refine (hhas _).mono ?_
                  rintro e w2 ⟨rfl, rfl⟩
                  go_wp2_with fail
                  exact ⟨rfl, _, rfl, Below.refl _ _, rfl⟩
                · intro o ho a' w' hb hfr hdep
                  obtain rfl := Option.some.inj ho
                  have g79 : a'.tmps[79]?.getD undef = .bool v := by have h := hdep 15 _ rfl (by kernel_rfl); simpa using h
                  clear ho hfr hdep
                  go_wp2_with fail
                  exact ⟨rfl, _, rfl, bl1 _ _, _, rfl, Sl.fresh _ _ 1 1 [.bool v] rfl (by unfold maxLen; omega)⟩
              · intro g w2 hb hp
                have p1 := hp 1 _ rfl
                obtain ⟨b, p16, hsb⟩ := hp 16 _ rfl
                clear hp
                simp at p1 p16
                simp only [List.map_cons, List.map_nil, putAll, Act.put, List.setIfInBounds_toArray, List.set_cons_succ, List.set_cons_zero, p1, p16]
                have hU2 := hU1.under hb
                refine append_own rfl _ _ 34 rfl 4 (.bool false) 1 1 Try.underlying34 info_bool rfl w2 (w.heap.size + 2) a2 m c2 _ (by rfl) hU2.own _ 1 1 [.bool v] (by rfl) hsb (by simp [Value.oneCell']) (by omega) (by unfold maxLen; omega) hU2.lt (Below.refl _ _) ?_
                intro a' c' w3 ho' hgr' hb'
                have hr3 := hU2.keep hgr'
                have e2 := hr3.at_ (j := 2) rfl
                have e3 := hr3.free 2
                go_wp2
                go_roundg (W - (x + 1))
                case measure => have := HG1.out; omega
                case rel => exact ⟨x + 1, m + 1, a', c', by omega, rfl, by rw [HM.out]; omega, by go_num, hU2.put (by rw [HRD.out]; exact ho') hgr'⟩
            · obtain rfl : W = x := by omega
              go_wp2
              go_roundg (H - (y + 1))
              case measure => have := HG.out; omega
              case rel => exact ⟨y + 1, m, a2, c2, by omega, rfl, by rw [HM.out, HM0.out, Nat.add_mul, Nat.one_mul], by go_num, hU1⟩
        · obtain rfl : H = y := by omega
          have hmN : N = m0 := by rw [HM0.out, ← HN.out, Nat.mul_comm]
          clear HM0
          subst hmN
          go_wp2_with (first
            | (with_reducible refine load_box 83 36 _ 36 _ 0 _ [.int .i64 W, .int .i64 H, .slice a0 N c0] isAgg_raster (size_raster _ _ _) hU.ras rfl (fun j u hj => by rw [Nat.zero_add]; exact hj) ?_)
            | (with_reducible refine store_all 36 _ _ 36 _ _ [.int .i64 W, .int .i64 H, .slice a0 N c0] _ (size_raster _ _ _) hU.res rfl rfl rfl (Eq.refl 3) (by simp [Value.oneCell']) ?_; intro w7 hx7 hg7 hs7))
          refine bodyPost_ret (run_results_cell2 rfl rfl rfl isAgg_raster (size_raster _ _ _) hx7) rfl ⟨a0, N, c0, rfl, hU.own.sl.grown hg7 ?_, hU.bel.grown hg7 hU.bel.size (fun k hk => by cases hk; exact Nat.le_refl _)⟩
          intro q hq
          subst hq
          have := hU.own.base.1
          simp; omega
end Go.Proofs.Ythfljnlankmoiaa
end
