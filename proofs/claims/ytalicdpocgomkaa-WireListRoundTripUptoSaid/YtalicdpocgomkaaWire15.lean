import Derived.Test.YtalicdpocgomkaaWire14
namespace Go.Proofs.Ytalicdpocgomkaa
open Go.RowKit Go.Dx

set_option maxHeartbeats 400000 in
theorem ref_Digests (fl : List UInt8) (a : Option Addr) (n c : Nat) (w : World) (hs : Sl w 16 a n c (fl.map B8)) (hT : fl.length ≤ 140737488355000) :
    Calls Try.prog 66 #[.slice a n c] w (Gives 5 1 (encInt n ++ fl).length ((encInt n ++ fl).map B8) w) := by
  have hfl : fl.length = n * 16 := by have := hs.len; simpa using this
  have h9 := encInt_le (n : Int)
  have hn16 : n * 16 ≤ 140737488355000 := by omega
  obtain ⟨R, HR⟩ : ∃ R, Hid (R = encInt n ++ fl) := ⟨_, rfl⟩
  rw [← HR.out]
  have HFL := hide hfl
  clear hfl
  go_enter Try.func66, Try.ntmps66
  go_wp2_with fail
  refine (ref_Int _ (by omega) (by omega) _).mono ?_
  rintro e w1 ⟨a1, c1, rfl, ho1, hb1⟩
  go_wp2_with fail
  go_loopg [3, 4] n (fun g x i w' => ∃ (k : Nat) (a : Option Addr) (c : Nat) (xs : List UInt8), k ≤ n ∧ g = n - k ∧ xs = encInt n ++ fl.take (k * 16) ∧ i = .int .i64 k ∧ x = .slice a xs.length c ∧ Own w' w.heap.size 5 1 a xs.length c (xs.map B8) ∧ Below w.heap.size w w')
  case atStart => exact ⟨0, a1, c1, encInt n, by omega, by omega, by simp, rfl, rfl, ho1, hb1⟩
  case round =>
    obtain ⟨k, a2, c2, xs, hk, hg, hxs, rfl, rfl, hown, hb⟩ := hrel
    have HG := hide hg
    have HX := hide hxs
    clear hg hxs
    by_cases hkl : k < n
    · go_wp2_with fail
      obtain ⟨wo, rfl⟩ : ∃ wo : World, wo = wr := ⟨_, rfl⟩
      go_loopg [3, 5] 16 (fun g x i w' => ∃ (j : Nat) (a : Option Addr) (c : Nat) (ys : List UInt8), j ≤ 16 ∧ g = 16 - j ∧ ys = encInt n ++ fl.take (k * 16 + j) ∧ i = .int .i64 j ∧ x = .slice a ys.length c ∧ Own w' w.heap.size 5 1 a ys.length c (ys.map B8) ∧ Below w.heap.size w w')
      case atStart => exact ⟨0, a2, c2, xs, by omega, by omega, HX.out, rfl, rfl, hown, hb⟩
      case round =>
        clear hown hb
        obtain ⟨j, a3, c3, ys, hj, hg3, hys, rfl, rfl, hown, hb⟩ := hrel
        have HG3 := hide hg3
        have hle : ys.length ≤ 9 + k * 16 + 16 := by rw [hys]; simp; omega
        have HY := hide hys
        clear hg3 hys
        by_cases hj16 : j < 16
        · obtain ⟨b, off, rfl, hbb, hc⟩ := (hs.below hb).ex (by simp; have := HFL.out; omega)
          obtain ⟨x, hx⟩ : ∃ x, fl[k * 16 + j]? = some x := ⟨fl[k * 16 + j]'(by have := HFL.out; omega), by simp⟩
          have hcell : wr.cell? ⟨b, off + k * 16 + j, none⟩ = some (B8 x) := by rw [Nat.add_assoc]; exact hc _ _ (by rw [List.getElem?_map, hx]; rfl)
          have HS : Hid (encInt n ++ fl.take (k * 16 + (j + 1)) = ys ++ [x]) := by
            show _ = _; rw [HY.out, ← Nat.add_assoc, List.take_add_one, hx]; simp
          clear hc hx
          go_wp2_with (at_builtin; refine app_b rfl _ _ rfl w w.heap.size _ _ _ _ rfl hown _ rfl (by omega) hb.size hb ?_; intro a' c' w' ho' hgr' hb')
          go_roundg (16 - (j + 1))
          case measure => have := HG3.out; omega
          case rel =>
            refine ⟨j + 1, a', c', ys ++ [x], by omega, rfl, HS.out.symm, by go_num, by rw [List.length_append]; rfl, ?_, hb'⟩
            rw [List.length_append, List.map_append]; exact ho'
        · obtain rfl : j = 16 := by omega
          go_wp2
          go_roundg (n - (k + 1))
          case measure => have := HG.out; omega
          case rel => exact ⟨k + 1, a3, c3, ys, by omega, rfl, by rw [HY.out, Nat.add_mul], by go_num, rfl, hown, hb⟩
    · obtain rfl : k = n := by omega
      go_wp2
      go_ret
      have e : R = xs := by rw [HR.out, HX.out, List.take_of_length_le (by have := HFL.out; omega)]
      rw [e]
      exact ⟨a2, c2, rfl, hown, hb⟩

/-- a row that is being filled -/
def rowAt (ys : List UInt8) (j : Nat) : List UInt8 := ys.take j ++ List.replicate (16 - j) 0
theorem rowAt_len {ys : List UInt8} {j : Nat} (h : ys.length = 16) (hj : j ≤ 16) : (rowAt ys j).length = 16 := by simp [rowAt]; omega
theorem rowAt_set {ys : List UInt8} {j : Nat} (h : ys.length = 16) (hj : j < 16) {x : UInt8} (hx : ys[j]? = some x) : (rowAt ys j).set j x = rowAt ys (j + 1) := by
  unfold rowAt
  rw [List.set_append_right _ _ (by simp; omega), List.take_add_one, hx]
  have e : 16 - j = (16 - (j + 1)) + 1 := by omega
  have e2 : j - (ys.take j).length = 0 := by rw [List.length_take]; omega
  rw [e, e2, List.replicate_succ]
  simp
theorem rowAt_get {ys : List UInt8} {j : Nat} (h : ys.length = 16) (hj : j < 16) : (rowAt ys j)[j]? = some 0 := by
  unfold rowAt
  rw [List.getElem?_append_right (by simp; omega), List.getElem?_replicate]
  have e2 : j - (ys.take j).length = 0 := by rw [List.length_take]; omega
  rw [e2]; simp; omega
theorem rowAt_all {ys : List UInt8} (h : ys.length = 16) : rowAt ys 16 = ys := by simp [rowAt, ← h]

set_option maxHeartbeats 800000 in
theorem ref_GetDigests (l : List UInt8) (a : Option Addr) (n c : Nat) (w : World) (hs : Sl w 1 a n c (l.map B8)) (hlen : l.length ≤ 1000000000) :
    Calls Try.prog 77 #[.slice a n c] w (Gives3 116 16 (decDigs l).1 ((decDigs l).2.1.map B8) (decDigs l).2.2.1 (decDigs l).2.2.2 w) := by
  have hn := hs.n_eq
  have HC := hide (ref_count l a n c 16 (by omega) (by omega) w hs (by omega))
  by_cases hE : cntErr l 16 = 0
  · obtain ⟨A, N, e1, e2, e3, hA, hAN, hN⟩ := cnt_facts (by omega) hE
    have hAN2 : A + N * 16 ≤ l.length := hAN
    have hD : decDigs l = (N, (l.drop A).take (N * 16), (A : Int) + 16 * N, 0) := by unfold decDigs; rw [if_pos hE, e1, e2]; rfl
    rw [hD]
    rw [if_pos hE, e1, e2] at HC
    have hnl : l.length ≤ n := by omega
    have hnl2 : n ≤ l.length := by omega
    clear e1 e2 e3 hE hn hD hAN
    go_enter Try.func77, Try.ntmps77
    go_wp2_with (go_at_call 100; refine HC.out.mono ?_; rintro e w1 ⟨rfl, hb1⟩)
    go_loopg [6, 8, 9] N (fun g at_ x i w' => ∃ (k : Nat) (a : Option Addr) (c : Nat) (xs : List UInt8), k ≤ N ∧ g = N - k ∧ xs = (l.drop A).take (k * 16) ∧ at_ = .int .i64 ((A : Int) + 16 * k) ∧ i = .int .i64 k ∧ x = .slice a k c ∧ Own w' w.heap.size 116 16 a k c (xs.map B8) ∧ Below w.heap.size w w')
    case atStart => exact ⟨0, none, 0, [], by omega, by omega, by simp, by simp, rfl, rfl, Own.nil _ _ _ _, hb1⟩
    case round =>
      obtain ⟨k, a2, c2, xs, hk, hg, hxs, rfl, rfl, rfl, hown, hb⟩ := hrel
      have HG := hide hg
      have HX := hide hxs
      clear hg hxs
      by_cases hkN : k < N
      · obtain ⟨ys, HY⟩ : ∃ ys, Hid (ys = (l.drop (A + 16 * k)).take 16) := ⟨_, rfl⟩
        have HYL : Hid (ys.length = 16) := by show _ = _; rw [HY.out, List.length_take, List.length_drop]; omega
        have HS : Hid ((l.drop A).take ((k + 1) * 16) = xs ++ ys) := by
          show _ = _; rw [HX.out, HY.out, Nat.add_mul, Nat.one_mul, List.take_add, List.drop_drop, Nat.mul_comm k 16]
        go_wp2_with fail
        obtain ⟨wo, rfl⟩ : ∃ wo : World, wo = wr := ⟨_, rfl⟩
        go_loopg [11] 16 (fun g i w' => ∃ j : Nat, j ≤ 16 ∧ g = 16 - j ∧ i = .int .i64 j ∧ w'.heap[wo.heap.size]? = some (.cells ((rowAt ys j).map B8).toArray 116 (0, 0)) ∧ Below wo.heap.size wo w' ∧ wo.heap.size < w'.heap.size)
        case atStart => exact ⟨0, by omega, rfl, rfl, heap_alloc_new _ _, (Below.refl _ _).alloc (Nat.le_refl _) _, by simp⟩
        case round =>
          obtain ⟨j, hj, hg3, rfl, hrow, hbo, hsz⟩ := hrel
          have HG3 := hide hg3
          clear hg3
          by_cases hj16 : j < 16
          · obtain ⟨x, hx⟩ : ∃ x, ys[j]? = some x := ⟨ys[j]'(by have := HYL.out; omega), by simp⟩
            have hxl : Hid (l[A + 16 * k + j]? = some x) := by
              show _ = _; rw [HY.out, List.getElem?_take, if_pos hj16, List.getElem?_drop] at hx; exact hx
            have hcell : wr.cell? ⟨wo.heap.size, j, none⟩ = some (B8 0) := by
              rw [cell_of_row wr _ j _ _ _ hrow]; simp [rowAt_get HYL.out hj16]
            have hfr : wr.frozen? ⟨wo.heap.size, j, none⟩ = false := frozen_of_row _ _ _ _ _ hrow
            have HN : Hid ((wr.setCell ⟨wo.heap.size, j, none⟩ (B8 x)).heap[wo.heap.size]? = some (.cells ((rowAt ys (j + 1)).map B8).toArray 116 (0, 0))) := by
              show _ = _
              rw [heap_setCell_same wr _ j _ _ _ hrow, ← rowAt_set HYL.out hj16 hx, List.map_set]
              simp
            clear hx hrow
            have hb2 := hb.trans (hbo.mono hb.size)
            go_wp2_with (with_reducible refine idx_b 35 _ _ _ _ _ l rfl (hs.below hb2) _ _ (A + 16 * k + j) rfl (by go_num) x hxl.out ?_; intro b o hcb hbb)
            go_roundg (16 - (j + 1))
            case measure => have := HG3.out; omega
            case rel => exact ⟨j + 1, by omega, rfl, by go_num, HN.out, hbo.setCell (Nat.le_refl _) _, by simpa [World.setCell] using hsz⟩
          · obtain rfl : j = 16 := by omega
            rw [rowAt_all HYL.out] at hrow
            have HCR : Hid (∀ j u, (ys.map B8)[j]? = some u → wr.cell? ((⟨wo.heap.size, 0, none⟩ : Addr).add j) = some u) := by
              intro j u hj
              rw [Addr.add_lit, Nat.zero_add, cell_of_row wr _ j _ _ _ hrow]
              simpa using hj
            have hown2 := hown.below hbo
            have hb2 := hb.trans (hbo.mono hb.size)
            clear hrow hown hb
            go_wp2_with (first
              | (with_reducible refine load_dig 39 _ _ rfl (ys.map B8) (by rw [List.length_map]; exact HYL.out) HCR.out ?_)
              | (with_reducible refine build_dig 40 _ (ys.map B8) rfl (by rw [List.length_map]; exact HYL.out) ?_)
              | (at_builtin; refine app_d rfl _ _ rfl w w.heap.size _ _ _ _ rfl hown2 ys HYL.out rfl (by omega) hb2.size hb2 ?_; intro a' c' w' ho' hgr' hb'))
            go_roundg (N - (k + 1))
            case measure => have := HG.out; omega
            case rel =>
              refine ⟨k + 1, a', c', xs ++ ys, by omega, rfl, HS.out.symm, by go_num, by go_num, rfl, ?_, hb'⟩
              rw [List.map_append]; exact ho'
      · obtain rfl : k = N := by omega
        go_wp2
        go_ret3
        exact ⟨a2, c2, rfl, by rw [← HX.out]; exact hown, hb⟩
  · have hbn := neq_int hE
    have hD : decDigs l = (0, [], 0, cntErr l 16) := by unfold decDigs; rw [if_neg hE]
    rw [hD]
    rw [if_neg hE] at HC
    clear hE hD hn
    generalize cntErr l 16 = E at *
    go_enter Try.func77, Try.ntmps77
    go_wp2_with (go_at_call 100; refine HC.out.mono ?_; rintro e w1 ⟨rfl, hb1⟩)
    go_ret3
    exact ⟨none, 0, rfl, Own.nil _ _ _ _, hb1⟩

/-- the sum of lengths that the law's 'few' reckons -/
def fewSum (l : List ByteArray) (k : Nat) : Nat := l.length + ((l.take k).map (·.size)).sum
theorem fewSum_succ {l : List ByteArray} {k : Nat} {x : ByteArray} (h : l[k]? = some x) : fewSum l (k + 1) = fewSum l k + x.size := by
  unfold fewSum; rw [List.take_add_one, h]; simp; omega
theorem wrap64_nat (n : Nat) (h : n < 9223372036854775808) : wrap64 (n : Int) = n := by unfold wrap64; omega

end Go.Proofs.Ytalicdpocgomkaa
