import Derived.Test.YtalicdpocgomkaaWire2
namespace Go.Proofs.Ytalicdpocgomkaa
open Go.RowKit Go.Dx

theorem neq_nat {a b : Nat} (h : a ≠ b) : ((a : Int) != (b : Int)) = true := by simp; omega
theorem eq_nat {a b : Nat} (h : a = b) : ((a : Int) != (b : Int)) = false := by simp; omega

theorem same_step {l1 l2 : List UInt8} {k : Nat} {x y : UInt8} (hx : l1[k]? = some x) (hy : l2[k]? = some y) (h : l1.take k = l2.take k) : (x = y ↔ l1.take (k + 1) = l2.take (k + 1)) := by
  rw [List.take_add_one, List.take_add_one, hx, hy, h]; simp
theorem ne_of_take {l1 l2 : List UInt8} {k : Nat} (h : l1.take k ≠ l2.take k) : l1 ≠ l2 := fun e => h (by rw [e])

set_option maxHeartbeats 400000 in
theorem ref_Same (l1 l2 : List UInt8) (a1 a2 : Option Addr) (n1 n2 c1 c2 : Nat) (w : World) (h1 : Sl w 1 a1 n1 c1 (l1.map B8)) (h2 : Sl w 1 a2 n2 c2 (l2.map B8)) :
    Calls Try.prog 42 #[.slice a1 n1 c1, .slice a2 n2 c2] w (Still (.bool (decide (l1 = l2))) w) := by
  obtain rfl := h1.n_eq
  obtain rfl := h2.n_eq
  have hm1 := Nat.le_trans h1.le h1.cap
  have hm2 := Nat.le_trans h2.le h2.cap
  unfold maxLen at hm1 hm2
  by_cases hlen : l1.length = l2.length
  · have hb := eq_nat hlen
    have hle1 : l1.length ≤ l2.length := by omega
    have hle2 : l2.length ≤ l1.length := by omega
    have HL := hide hlen
    clear hlen
    go_enter Try.func42, Try.ntmps42
    go_wp2
    go_loopg [5] l1.length (fun g i w' => ∃ (k n : Nat), k ≤ l1.length ∧ g = l1.length - k ∧ l1.take k = l2.take k ∧ i = .int .i64 k ∧ w' = w.drewN n)
    case atStart => exact ⟨0, 0, by omega, by omega, rfl, rfl, rfl⟩
    case round =>
      obtain ⟨k, nq, hk, hg, ht, rfl, rfl⟩ := hrel
      have HG := hide hg
      have HT := hide ht
      clear hg ht
      by_cases hkl : k < l1.length
      · obtain ⟨b1, o1, rfl, hb1, hc1⟩ := h1.ex (by simp; omega)
        obtain ⟨b2, o2, rfl, hb2, hc2⟩ := h2.ex (by simp; omega)
        obtain ⟨x, hx⟩ : ∃ x, l1[k]? = some x := ⟨l1[k], by simp [hkl]⟩
        obtain ⟨y, hy⟩ : ∃ y, l2[k]? = some y := ⟨l2[k]'(by omega), by simp⟩
        have hx1 : w.cell? ⟨b1, o1 + k, none⟩ = some (.int .u8 (x.toNat : Int)) := hc1 k _ (by rw [List.getElem?_map, hx]; rfl)
        have hy1 : w.cell? ⟨b2, o2 + k, none⟩ = some (.int .u8 (y.toNat : Int)) := hc2 k _ (by rw [List.getElem?_map, hy]; rfl)
        have HX := hide (same_step hx hy HT.out)
        clear hc1 hc2 hx hy
        by_cases hxy : x = y
        · have HE := hide (HX.out.1 hxy)
          subst hxy
          have hn : ((x.toNat : Int) != (x.toNat : Int)) = false := by simp
          go_wp2
          go_quiet (fail)
          go_wp2
          go_roundg (l1.length - (k + 1))
          case measure => have := HG.out; omega
          case rel => exact ⟨k + 1, _, by omega, rfl, HE.out, by go_num, by first | rfl | exact World.drewN_drewN _ _ _⟩
        · have hn : ((x.toNat : Int) != (y.toNat : Int)) = true := neq_nat (fun e => hxy (UInt8.toNat_inj.1 e))
          have HE := hide (ne_of_take (fun e => hxy (HX.out.2 e)))
          have hne : Value.bool (decide (l1 = l2)) = .bool false := by rw [decide_eq_false HE.out]
          have HN := hide hne
          clear hne hxy
          go_wp2
          go_quiet (fail)
          go_wp2
          go_ret
          exact ⟨by rw [HN.out]; rfl, _, World.drewN_drewN _ _ _⟩
      · obtain rfl : k = l1.length := by omega
        go_wp2
        go_ret
        have : l1 = l2 := by have := HT.out; rw [List.take_length, List.take_of_length_le (by omega)] at this; exact this
        exact ⟨by rw [decide_eq_true this]; rfl, _, rfl⟩
  · have hb := neq_nat hlen
    have HN := hide (decide_eq_false (fun e : l1 = l2 => hlen (by rw [e])))
    clear hlen
    go_enter Try.func42, Try.ntmps42
    go_wp2
    go_ret
    exact ⟨by rw [HN.out]; rfl, 0, rfl⟩



set_option maxHeartbeats 400000 in
theorem wire_Bytes (s : ByteArray) (hs : s.size ≤ 140737488355000) (w : World) :
    Calls Try.prog 60 #[.string s] w (Gives 5 1 (encBytes s.data.toList).length ((encBytes s.data.toList).map B8) w) := by
  have h9 := encInt_le (s.size : Int)
  have el : (encBytes s.data.toList).length = (encInt (s.size : Int)).length + s.size := by unfold encBytes; rw [List.length_append, Array.length_toList]; rfl
  have em : (encBytes s.data.toList).map B8 = (encInt (s.size : Int)).map B8 ++ s.data.toList.map B8 := by unfold encBytes; rw [List.map_append, Array.length_toList]; rfl
  rw [el, em]
  clear el em
  go_enter Try.func60, Try.ntmps60
  go_wp2_with fail
  refine (wire_Int _ (by omega) (by omega) _).mono ?_
  rintro e w1 ⟨a, c, rfl, ho, hb⟩
  go_wp2_with (refine app_str rfl _ _ rfl w w.heap.size _ _ _ _ rfl ho _ rfl (by omega) hb.size hb ?_; intro a' c' w' ho' hgr' hb')
  go_ret
  exact ⟨a', c', rfl, ho', hb'⟩
end Go.Proofs.Ytalicdpocgomkaa
