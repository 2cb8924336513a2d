import Derived.Test.YtalicdpocgomkaaDoorHash11
import Derived.Test.YtalicdpocgomkaaDoorPureT
import Derived.Laws.BitsAllLaws
namespace Go.Proofs.YtalicdpocgomkaaDoor
open Go.RowKit Go.Dx

theorem take_next {α : Type} {l : List α} {k : Nat} {x : α} (h : l[k]? = some x) : l.take (k + 1) = l.take k ++ [x] := by rw [List.take_add_one, h]; rfl
theorem x_xor (a b : UInt8) : bits .xor .u8 (a.toNat : Int) (b.toNat : Int) = ((a ^^^ b).toNat : Int) := by
  rw [u8_xor_nat _ _ (UInt8.toNat_lt a) (UInt8.toNat_lt b), UInt8.toNat_xor]
theorem x_or (a b : UInt8) : bits .or .u8 (a.toNat : Int) (b.toNat : Int) = ((a ||| b).toNat : Int) := by
  rw [u8_or_nat _ _ (UInt8.toNat_lt a) (UInt8.toNat_lt b), UInt8.toNat_or]
theorem ret_f {p : Prop} [Decidable p] (h : ¬ p) : Ending.returned (.bool false) = .returned (.bool (decide p)) := by rw [decide_eq_false h]
theorem ret_t {p : Prop} [Decidable p] (h : p) : Ending.returned (.bool true) = .returned (.bool (decide p)) := by rw [decide_eq_true h]
theorem eq_next {α : Type} {l1 l2 : List α} {k : Nat} {a b : α} (h1 : l1[k]? = some a) (h2 : l2[k]? = some b) : (l1.take (k + 1) = l2.take (k + 1)) ↔ (l1.take k = l2.take k ∧ a = b) := by
  rw [take_next h1, take_next h2]
  constructor
  · intro h
    have := List.append_inj' h rfl
    exact ⟨this.1, by simpa using this.2⟩
  · rintro ⟨h, rfl⟩; rw [h]
theorem str_get (x : ByteArray) (k : Nat) (h : k < x.size) : x.data.toList[k]? = some (x[k]'h) := by
  rw [Array.getElem?_toList]; exact Array.getElem?_eq_getElem h
theorem str_inj {x y : ByteArray} : x.data.toList = y.data.toList ↔ x = y := ⟨WideShapes.bytes_inj, fun e => by rw [e]⟩
theorem or_xor_zero (d a b : UInt8) : (d ||| (a ^^^ b)) = 0 ↔ d = 0 ∧ a = b := by
  constructor
  · intro h
    have h1 := UInt8.or_eq_zero_iff.1 h
    exact ⟨h1.1, UInt8.xor_eq_zero_iff.1 h1.2⟩
  · rintro ⟨rfl, rfl⟩
    simp
set_option maxRecDepth 100000 in
set_option maxHeartbeats 1000000 in
theorem bytes32_any (l : List UInt8) (hl : l.length = 32) (w : World) :
    Calls Tryd.prog 20 #[.agg (l.map B8).toArray] w fun e w' => e = .returned (.string ⟨l.toArray⟩) ∧ Below w.heap.size w w' := by
  have hl := hide hl
  go_enter Tryd.func20, Tryd.ntmps20
  go_wp2_with fail
  have x1 : Box (w.alloc (Obj.cells (List.map B8 l).toArray 24)) w.heap.size 24 (l.map B8) := Box.new w _ _
  have b1 : Below w.heap.size w (w.alloc (Obj.cells (List.map B8 l).toArray 24)) := (Below.refl _ _).alloc (Nat.le_refl _) _
  obtain ⟨B, hB⟩ : ∃ B, B = w.heap.size := ⟨_, rfl⟩
  rw [← hB] at x1 b1 ⊢
  have HB := hide hB
  clear hB
  generalize w.alloc (Obj.cells (List.map B8 l).toArray 24) = w1 at *
  have h1 : B + 1 ≤ w1.heap.size := x1.lt
  go_loopg [3, 4] 32 (fun g x i w' => ∃ (k : Nat) (a : Option Addr) (c : Nat), k ≤ 32 ∧ g = 32 - k ∧ i = .int .i64 k ∧ x = .slice a k c ∧ Own w' (B + 1) 5 1 a k c ((l.take k).map B8) ∧ Below (B + 1) w1 w')
  case atStart => exact ⟨0, none, 0, by omega, by omega, rfl, rfl, Own.nil _ _ _ _, Below.refl _ _⟩
  case round =>
    obtain ⟨k, a, c, hk, hg, rfl, rfl, oP, hb⟩ := hrel
    have HG := hide hg
    clear hg
    by_cases hlt : k < 32
    · obtain ⟨u, hu⟩ : ∃ u, l[k]? = some u := ⟨l[k]'(by rw [hl.out]; exact hlt), by simp⟩
      have q0 : wr.cell? ⟨B, k, none⟩ = some (B8 u) := (x1.below hb (by omega)).at_ (box_at hu)
      have HU := hide (take_next hu)
      clear hu
      go_wp2_with (at_builtin; refine app_b (o := ⟨some 14, _, _, _, _, _⟩) rfl _ _ rfl w1 (B + 1) _ _ _ _ rfl oP _ rfl (by omega) (Nat.le_trans h1 hb.size) hb ?_; intro a7 c7 w7 oD hg7 hb7)
      go_roundg (32 - (k + 1))
      case measure => have := HG.out; omega
      case rel => exact ⟨k + 1, a7, c7, by omega, rfl, by go_num, rfl, by rw [HU.out, List.map_append]; exact oD, hb7⟩
    · obtain rfl : k = 32 := by omega
      rw [List.take_of_length_le (by rw [hl.out]; exact Nat.le_refl _)] at oP
      go_wp2_with (with_reducible refine to_str 16 _ _ _ _ l rfl oP.sl ?_)
      go_ret
      exact ⟨rfl, by rw [← HB.out]; exact b1.trans (hb.mono (by omega))⟩
set_option maxRecDepth 100000 in
set_option maxHeartbeats 1000000 in
theorem text_any (l : List UInt8) (hl : l.length = 16) (w : World) :
    Calls Tryd.prog 26 #[.agg (l.map B8).toArray] w fun e w' => e = .returned (.string ⟨l.toArray⟩) ∧ Below w.heap.size w w' := by
  have hl := hide hl
  go_enter Tryd.func26, Tryd.ntmps26
  go_wp2_with fail
  have x1 : Box (w.alloc (Obj.cells (List.map B8 l).toArray 44)) w.heap.size 44 (l.map B8) := Box.new w _ _
  have b1 : Below w.heap.size w (w.alloc (Obj.cells (List.map B8 l).toArray 44)) := (Below.refl _ _).alloc (Nat.le_refl _) _
  obtain ⟨B, hB⟩ : ∃ B, B = w.heap.size := ⟨_, rfl⟩
  rw [← hB] at x1 b1 ⊢
  have HB := hide hB
  clear hB
  generalize w.alloc (Obj.cells (List.map B8 l).toArray 44) = w1 at *
  have h1 : B + 1 ≤ w1.heap.size := x1.lt
  go_loopg [3, 4] 16 (fun g x i w' => ∃ (k : Nat) (a : Option Addr) (c : Nat), k ≤ 16 ∧ g = 16 - k ∧ i = .int .i64 k ∧ x = .slice a k c ∧ Own w' (B + 1) 5 1 a k c ((l.take k).map B8) ∧ Below (B + 1) w1 w')
  case atStart => exact ⟨0, none, 0, by omega, by omega, rfl, rfl, Own.nil _ _ _ _, Below.refl _ _⟩
  case round =>
    obtain ⟨k, a, c, hk, hg, rfl, rfl, oP, hb⟩ := hrel
    have HG := hide hg
    clear hg
    by_cases hlt : k < 16
    · obtain ⟨u, hu⟩ : ∃ u, l[k]? = some u := ⟨l[k]'(by rw [hl.out]; exact hlt), by simp⟩
      have q0 : wr.cell? ⟨B, k, none⟩ = some (B8 u) := (x1.below hb (by omega)).at_ (box_at hu)
      have HU := hide (take_next hu)
      clear hu
      go_wp2_with (at_builtin; refine app_b (o := ⟨some 14, _, _, _, _, _⟩) rfl _ _ rfl w1 (B + 1) _ _ _ _ rfl oP _ rfl (by omega) (Nat.le_trans h1 hb.size) hb ?_; intro a7 c7 w7 oD hg7 hb7)
      go_roundg (16 - (k + 1))
      case measure => have := HG.out; omega
      case rel => exact ⟨k + 1, a7, c7, by omega, rfl, by go_num, rfl, by rw [HU.out, List.map_append]; exact oD, hb7⟩
    · obtain rfl : k = 16 := by omega
      rw [List.take_of_length_le (by rw [hl.out]; exact Nat.le_refl _)] at oP
      go_wp2_with (with_reducible refine to_str 16 _ _ _ _ l rfl oP.sl ?_)
      go_ret
      exact ⟨rfl, by rw [← HB.out]; exact b1.trans (hb.mono (by omega))⟩
set_option maxRecDepth 100000 in
set_option maxHeartbeats 1000000 in
theorem few12_any (xs : List ByteArray) {a : Option Addr} {n c : Nat} {w : World} (hs : Sl w 1 a n c (xs.map Value.string)) :
    Calls Tryd.prog 13 #[.slice a n c] w fun e w' => e = .returned (.bool (decide (xs.length ≤ 12 ∧ ∀ x ∈ xs, x.size ≤ 400))) ∧ w = w' := by
  obtain rfl := hs.n_eq
  have hm := Nat.le_trans hs.le hs.cap
  unfold maxLen at hm
  by_cases h12 : xs.length ≤ 12
  · go_enter Tryd.func13, Tryd.ntmps13
    go_wp2
    go_loopg [3] xs.length (fun g i w' => ∃ k : Nat, k ≤ xs.length ∧ g = xs.length - k ∧ i = .int .i64 k ∧ Hid (∀ x ∈ xs.take k, x.size ≤ 400) ∧ w = w')
    case atStart => exact ⟨0, by omega, by omega, rfl, hide (by simp), rfl⟩
    case round =>
      obtain ⟨k, hk, hg, rfl, hall, rfl⟩ := hrel
      have HG := hide hg
      clear hg
      by_cases hlt : k < xs.length
      · obtain ⟨b, o, rfl, hb, hc⟩ := hs.ex (by simp; omega)
        obtain ⟨y, hy⟩ : ∃ y, xs[k]? = some y := ⟨xs[k], by simp [hlt]⟩
        have hy1 : w.cell? ⟨b, o + k, none⟩ = some (Value.string y) := hc k _ (by rw [List.getElem?_map, hy]; rfl)
        have HY := hide hy
        clear hc hy
        by_cases hbig : 400 < y.size
        · go_wp2
          go_ret
          exact ⟨ret_f (fun h => by have := h.2 y (List.mem_of_getElem? HY.out); omega), rfl⟩
        · go_wp2
          go_roundg (xs.length - (k + 1))
          case measure => have := HG.out; omega
          case rel =>
            refine ⟨k + 1, by omega, rfl, by go_num, hide ?_, rfl⟩
            rw [take_next HY.out]
            intro x hx
            rcases List.mem_append.1 hx with h | h
            · exact hall.out x h
            · rw [List.mem_singleton.1 h]; omega
      · obtain rfl : k = xs.length := by omega
        have hall2 := hall.out
        rw [List.take_length] at hall2
        have hall2 := hide hall2
        go_wp2
        go_ret
        exact ⟨ret_t ⟨h12, hall2.out⟩, rfl⟩
  · go_enter Tryd.func13, Tryd.ntmps13
    go_wp2
    go_ret
    exact ⟨ret_f (fun h => h12 h.1), rfl⟩
set_option maxRecDepth 100000 in
set_option maxHeartbeats 1000000 in
theorem equal_any (x y : ByteArray) (hx : x.size ≤ 9223372036854775807) (w : World) :
    Calls Tryd.prog 24 #[.string x, .string y] w fun e w' => e = .returned (.bool (decide (x = y))) ∧ ∃ m, w' = w.drewN m := by
  by_cases hxy : x.size = y.size
  · obtain ⟨N, hN⟩ : ∃ N, N = x.size := ⟨_, rfl⟩
    have ht : ((x.size : Int) != (y.size : Int)) = false := by simp; omega
    have hxl : x.data.toList.length = N := by rw [hN]; exact Array.length_toList
    have hyl : y.data.toList.length = N := by rw [hN, hxy]; exact Array.length_toList
    have hxl := hide hxl
    have hyl := hide hyl
    have hNx : N ≤ x.size := by omega
    have hNy : N ≤ y.size := by omega
    have hxN : x.size ≤ N := by omega
    have hyN : y.size ≤ N := by omega
    have hxy := hide hxy
    clear hN
    go_enter Tryd.func24, Tryd.ntmps24
    go_wp2_with fail
    go_loopg [5, 14] N (fun g d i w' => ∃ (k m : Nat) (D : UInt8), k ≤ N ∧ g = N - k ∧ i = .int .i64 k ∧ d = B8 D ∧ Hid (D = 0 ↔ x.data.toList.take k = y.data.toList.take k) ∧ w' = w.drewN m)
    case atStart => exact ⟨0, 0, 0, by omega, by omega, rfl, rfl, hide (by simp), rfl⟩
    case round =>
      obtain ⟨k, m, D, hk, hg, rfl, rfl, hd, rfl⟩ := hrel
      have HG := hide hg
      clear hg
      by_cases hlt : k < N
      · have i0 : (0 : Int) ≤ (k : Int) := by omega
        have i1 : (k : Int) < (x.size : Int) := by omega
        have i2 : (k : Int) < (y.size : Int) := by omega
        go_wp2_with fail
        go_quiet (fail)
        go_wp2_with fail
        go_roundg (N - (k + 1))
        case measure => have := HG.out; omega
        case rel =>
          refine ⟨k + 1, _, D ||| (x[k] ^^^ y[k]), by omega, rfl, by go_num, by rw [x_xor, x_or], hide ?_, rfl⟩
          rw [or_xor_zero, hd.out, eq_next (str_get x k (by omega)) (str_get y k (by omega))]
      · obtain rfl : k = N := by omega
        have hfin : D = 0 ↔ x = y := by
          rw [hd.out, List.take_of_length_le (by rw [hxl.out]; exact Nat.le_refl _), List.take_of_length_le (by rw [hyl.out]; exact Nat.le_refl _)]
          exact str_inj
        have hfin := hide hfin
        clear hd
        by_cases hD : D = 0
        · have h2 := hide (hfin.out.1 hD)
          have h0 : (((D : UInt8).toNat : Int) == 0) = true := by rw [hD]; rfl
          have hD := hide hD
          go_wp2_with fail
          go_ret
          exact ⟨ret_t h2.out, m, rfl⟩
        · have h2 := hide (fun e => hD (hfin.out.2 e))
          have h0 : (((D : UInt8).toNat : Int) == 0) = false := by
            rw [beq_eq_false_iff_ne]
            intro e
            exact hD (UInt8.toNat_inj.1 (by have : (0 : UInt8).toNat = 0 := rfl; omega))
          have hD := hide hD
          go_wp2_with fail
          go_ret
          exact ⟨ret_f h2.out, m, rfl⟩
  · have ht : ((x.size : Int) != (y.size : Int)) = true := by simp; omega
    go_enter Tryd.func24, Tryd.ntmps24
    go_wp2_with fail
    go_ret
    exact ⟨ret_f (fun e => hxy (by rw [e])), 0, rfl⟩
end Go.Proofs.YtalicdpocgomkaaDoor
