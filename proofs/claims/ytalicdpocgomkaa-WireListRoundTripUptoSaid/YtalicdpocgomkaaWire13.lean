import Derived.Test.YtalicdpocgomkaaWire12
import Derived.Test.YtalicdpocgomkaaTypes2
namespace Go.Proofs.Ytalicdpocgomkaa
open Go.RowKit Go.Dx

/-- what decoding a list of digests returns: their number, their bytes, the place behind them, the error -/
def decDigs (l : List UInt8) : Nat × List UInt8 × Int × Int :=
  if cntErr l 16 = 0 then ((decInt l).1.toNat, (l.drop (decInt l).2.1.toNat).take ((decInt l).1.toNat * 16), (decInt l).2.1 + 16 * (decInt l).1, 0) else (0, [], 0, cntErr l 16)

set_option maxHeartbeats 400000 in
theorem wire_GetDigests (l : List UInt8) (a : Option Addr) (n c : Nat) (w : World) (hs : Sl w 1 a n c (l.map B8)) (hlen : l.length ≤ 1000000000) :
    Calls Try.prog 76 #[.slice a n c] w (Gives3 116 16 (decDigs l).1 ((decDigs l).2.1.map B8) (decDigs l).2.2.1 (decDigs l).2.2.2 w) := by
  have hn := hs.n_eq
  have HC := hide (wire_count l a n c 16 (by omega) (by omega) w hs)
  by_cases hE : cntErr l 16 = 0
  · obtain ⟨A, N, e1, e2, e3, hA, hAN, hN⟩ := cnt_facts (by omega) hE
    have hAN2 : A + N * 16 ≤ l.length := hAN
    have hD : decDigs l = (N, (l.drop A).take (N * 16), (A : Int) + 16 * N, 0) := by unfold decDigs; rw [if_pos hE, e1, e2]; rfl
    rw [hD]
    rw [e1, e2, hE] at HC
    have hnl : l.length ≤ n := by omega
    have hnl2 : n ≤ l.length := by omega
    clear e1 e2 e3 hE hn hD hAN
    go_enter Try.func76, Try.ntmps76
    go_wp2_with (go_at_call 99; refine HC.out.mono ?_; rintro e w1 ⟨rfl, rfl⟩)
    go_loopg [6, 8, 19] N (fun g at_ x i w' => ∃ (k : Nat) (a : Option Addr) (c : Nat) (xs : List UInt8), k ≤ N ∧ g = N - k ∧ xs = (l.drop A).take (k * 16) ∧ at_ = .int .i64 ((A : Int) + 16 * k) ∧ i = .int .i64 k ∧ x = .slice a k c ∧ Own w' w.heap.size 116 16 a k c (xs.map B8) ∧ Below w.heap.size w w')
    case atStart => exact ⟨0, none, 0, [], by omega, by omega, by simp, by simp, rfl, rfl, Own.nil _ _ _ _, Below.refl _ _⟩
    case round =>
      obtain ⟨k, a2, c2, xs, hk, hg, hxs, rfl, rfl, rfl, hown, hb⟩ := hrel
      have HG := hide hg
      have HX := hide hxs
      clear hg hxs
      by_cases hkN : k < N
      · obtain ⟨ys, HY⟩ : ∃ ys, Hid (ys = (l.drop (A + 16 * k)).take 16) := ⟨_, rfl⟩
        have HYL : Hid (ys.length = 16) := by show _ = _; rw [HY.out, List.length_take, List.length_drop]; omega
        have HS : Hid ((l.drop A).take ((k + 1) * 16) = xs ++ ys) := by
          show _ = _; rw [HX.out, HY.out, Nat.add_mul, Nat.one_mul, List.take_add, List.drop_drop, Nat.mul_comm k 16]
        have HCUT : Hid (∀ {a3 : Option Addr} {m c3 : Nat}, Sl wr 1 a3 m c3 (((l.drop (A + 16 * k)).take (A + 16 * k + 16 - (A + 16 * k))).map B8) → ∃ b o, a3 = some ⟨b, o, none⟩ ∧ ∀ j u, (ys.map B8)[j]? = some u → wr.cell? ((⟨b, o, none⟩ : Addr).add j) = some u) := by
          intro a3 m c3 h
          rw [Nat.add_sub_cancel_left, ← HY.out] at h
          obtain ⟨b, o, rfl, _, hc⟩ := h.ex (by rw [List.length_map, HYL.out]; decide)
          exact ⟨b, o, rfl, h.cell _ rfl⟩
        go_wp2_with (first
          | (with_reducible refine cut_b 26 _ _ _ _ _ _ l rfl (hs.below hb) _ _ _ _ (A + 16 * k) (A + 16 * k + 16) rfl rfl (by go_num) (by go_num) (by omega) (by omega) ?_; intro a3 hs3 hp3; obtain ⟨b3, o3, rfl, hc3⟩ := HCUT.out hs3; have HC3 := hide hc3; clear hc3)
          | (with_reducible refine arr_dig 27 _ _ _ _ rfl (by omega) ?_)
          | (with_reducible refine load_dig 28 _ _ rfl (ys.map B8) (by rw [List.length_map]; exact HYL.out) HC3.out ?_)
          | (with_reducible refine build_dig 29 _ (ys.map B8) rfl (by rw [List.length_map]; exact HYL.out) ?_)
          | (at_builtin; refine app_d rfl _ _ rfl w w.heap.size _ _ _ _ rfl hown ys HYL.out rfl (by omega) hb.size hb ?_; intro a' c' w' ho' hgr' hb'))
        go_roundg (N - (k + 1))
        case measure => have := HG.out; omega
        case rel =>
          refine ⟨k + 1, a', c', xs ++ ys, by omega, rfl, HS.out.symm, by go_num, by go_num, rfl, ?_, hb'⟩
          rw [List.map_append]; exact ho'
      · obtain rfl : k = N := by omega
        go_wp2
        go_ret3
        exact ⟨a2, c2, rfl, by rw [← HX.out]; exact hown, hb⟩
  · have hbn := neq_int hE
    have hD : decDigs l = (0, [], 0, cntErr l 16) := by unfold decDigs; rw [if_neg hE]
    rw [hD]
    clear hE hD hn
    generalize cntErr l 16 = E at *
    go_enter Try.func76, Try.ntmps76
    go_wp2_with (go_at_call 99; refine HC.out.mono ?_; rintro e w1 ⟨rfl, rfl⟩)
    go_ret3
    exact ⟨none, 0, rfl, Own.nil _ _ _ _, Below.refl _ _⟩
end Go.Proofs.Ytalicdpocgomkaa
