import Derived.Test.YtalicdpocgomkaaWire5
namespace Go.Proofs.Ytalicdpocgomkaa
open Go.RowKit Go.Dx

theorem neq_int {a b : Int} (h : a ≠ b) : (a != b) = true := by simp [h]

set_option maxHeartbeats 400000 in
theorem wire_count (l : List UInt8) (a : Option Addr) (n c : Nat) (size : Int) (h1 : 1 ≤ size) (h2 : size ≤ 1000) (w : World) (hs : Sl w 1 a n c (l.map B8)) :
    Calls Try.prog 99 #[.slice a n c, .int .i64 size] w fun e w' => e = .returned (R3 ((decInt l).1, (decInt l).2.1, cntErr l size)) ∧ w = w' := by
  obtain rfl := hs.n_eq
  have hm := Nat.le_trans hs.le hs.cap
  unfold maxLen at hm
  have HG := hide (wire_GetInt l a l.length c w hs)
  have HU := hide (@decInt_used l)
  have HC : Hid (cntErr l size = cntErr l size) := rfl
  unfold cntErr at HC ⊢
  generalize decInt l = r at *
  obtain ⟨N, at_, E⟩ := r
  simp only at *
  clear HC
  by_cases hE : E = 0
  · subst hE
    obtain ⟨u1, u2, u3, u4⟩ := HU.out rfl
    rw [if_neg (by simp)]
    by_cases hN : N < 0
    · rw [if_pos hN]
      go_enter Try.func99, Try.ntmps99
      go_wp2_with (go_at_call 67; refine HG.out.mono ?_; rintro e w' ⟨rfl, rfl⟩)
      go_ret3
      exact ⟨rfl, rfl⟩
    · rw [if_neg hN]
      have hq1 : 0 ≤ ((l.length : Int) - at_) / size := Int.ediv_nonneg (by omega) (by omega)
      have hq2 : ((l.length : Int) - at_) / size ≤ (l.length : Int) - at_ := Int.ediv_le_self _ (by omega)
      by_cases hq : ((l.length : Int) - at_) / size < N
      · rw [if_pos hq]
        go_enter Try.func99, Try.ntmps99
        go_wp2_with (go_at_call 67; refine HG.out.mono ?_; rintro e w' ⟨rfl, rfl⟩)
        go_ret3
        exact ⟨rfl, rfl⟩
      · rw [if_neg hq]
        go_enter Try.func99, Try.ntmps99
        go_wp2_with (go_at_call 67; refine HG.out.mono ?_; rintro e w' ⟨rfl, rfl⟩)
        go_ret3
        exact ⟨rfl, rfl⟩
  · have hb := neq_int hE
    rw [if_pos hE]
    have HE := hide hE
    clear hE
    go_enter Try.func99, Try.ntmps99
    go_wp2_with (go_at_call 67; refine HG.out.mono ?_; rintro e w' ⟨rfl, rfl⟩)
    go_ret3
    exact ⟨rfl, rfl⟩

set_option maxHeartbeats 400000 in
theorem ref_count (l : List UInt8) (a : Option Addr) (n c : Nat) (size : Int) (h1 : 1 ≤ size) (h2 : size ≤ 1000) (w : World) (hs : Sl w 1 a n c (l.map B8)) (hlen : l.length ≤ 4503599627370496) :
    Calls Try.prog 100 #[.slice a n c, .int .i64 size] w fun e w' => e = .returned (R3 (if cntErr l size = 0 then ((decInt l).1, (decInt l).2.1, 0) else (0, 0, cntErr l size))) ∧ Below w.heap.size w w' := by
  obtain rfl := hs.n_eq
  have HG := hide (ref_GetInt l a l.length c w hs)
  have HU := hide (@decInt_used l)
  unfold cntErr
  generalize decInt l = r at *
  obtain ⟨N, at_, E⟩ := r
  simp only at *
  by_cases hE : E = 0
  · subst hE
    obtain ⟨u1, u2, u3, u4⟩ := HU.out rfl
    by_cases hN : N < 0
    · have HF : Hid ((if (if (0 : Int) ≠ 0 then (0 : Int) else if N < 0 then 2 else if ((l.length : Int) - at_) / size < N then 3 else 0) = 0 then (N, at_, (0 : Int)) else (0, 0, if (0 : Int) ≠ 0 then 0 else if N < 0 then 2 else if ((l.length : Int) - at_) / size < N then 3 else 0)) = (0, 0, 2)) := by
        show _ = _; simp [hN]
      rw [HF.out]
      go_enter Try.func100, Try.ntmps100
      go_wp2_with (go_at_call 68; refine HG.out.mono ?_; rintro e w' ⟨rfl, hb⟩)
      go_ret3
      exact ⟨rfl, hb⟩
    · by_cases hq : ((l.length : Int) - at_) / size < N
      · have HF : Hid ((if (if (0 : Int) ≠ 0 then (0 : Int) else if N < 0 then 2 else if ((l.length : Int) - at_) / size < N then 3 else 0) = 0 then (N, at_, (0 : Int)) else (0, 0, if (0 : Int) ≠ 0 then 0 else if N < 0 then 2 else if ((l.length : Int) - at_) / size < N then 3 else 0)) = (0, 0, 3)) := by
          show _ = _; simp [hN, hq]
        rw [HF.out]
        by_cases hbig : (l.length : Int) < N
        · clear hq
          go_enter Try.func100, Try.ntmps100
          go_wp2_with (go_at_call 68; refine HG.out.mono ?_; rintro e w' ⟨rfl, hb⟩)
          go_ret3
          exact ⟨rfl, hb⟩
        · have hm : (l.length : Int) - at_ < N * size := by
            have := Int.ediv_lt_iff_lt_mul (a := (l.length : Int) - at_) (b := N) (show 0 < size by omega)
            exact this.1 hq
          have hm2 : N * size ≤ 4503599627370496 * 1000 := Int.mul_le_mul (by omega) h2 (by omega) (by omega)
          have hm3 : 0 ≤ N * size := Int.mul_nonneg (by omega) (by omega)
          clear hq
          go_enter Try.func100, Try.ntmps100
          go_wp2_with (go_at_call 68; refine HG.out.mono ?_; rintro e w' ⟨rfl, hb⟩)
          go_ret3
          exact ⟨rfl, hb⟩
      · have HF : Hid ((if (if (0 : Int) ≠ 0 then (0 : Int) else if N < 0 then 2 else if ((l.length : Int) - at_) / size < N then 3 else 0) = 0 then (N, at_, (0 : Int)) else (0, 0, if (0 : Int) ≠ 0 then 0 else if N < 0 then 2 else if ((l.length : Int) - at_) / size < N then 3 else 0)) = (N, at_, 0)) := by
          show _ = _; simp [hN, hq]
        rw [HF.out]
        have hm : ¬ (l.length : Int) - at_ < N * size := by
          intro h
          exact hq ((Int.ediv_lt_iff_lt_mul (a := (l.length : Int) - at_) (b := N) (show 0 < size by omega)).2 h)
        have hm3 : 0 ≤ N * size := Int.mul_nonneg (by omega) (by omega)
        have hbig : ¬ (l.length : Int) < N := by
          have : ((l.length : Int) - at_) / size ≤ (l.length : Int) - at_ := Int.ediv_le_self _ (by omega)
          omega
        clear hq
        go_enter Try.func100, Try.ntmps100
        go_wp2_with (go_at_call 68; refine HG.out.mono ?_; rintro e w' ⟨rfl, hb⟩)
        go_ret3
        exact ⟨rfl, hb⟩
  · have hb0 := neq_int hE
    have HF : Hid ((if (if E ≠ 0 then E else if N < 0 then 2 else if ((l.length : Int) - at_) / size < N then 3 else 0) = 0 then (N, at_, (0 : Int)) else (0, 0, if E ≠ 0 then E else if N < 0 then 2 else if ((l.length : Int) - at_) / size < N then 3 else 0)) = (0, 0, E)) := by
      show _ = _; simp [hE]
    rw [HF.out]
    clear hE
    go_enter Try.func100, Try.ntmps100
    go_wp2_with (go_at_call 68; refine HG.out.mono ?_; rintro e w' ⟨rfl, hb⟩)
    go_ret3
    exact ⟨rfl, hb⟩
end Go.Proofs.Ytalicdpocgomkaa
