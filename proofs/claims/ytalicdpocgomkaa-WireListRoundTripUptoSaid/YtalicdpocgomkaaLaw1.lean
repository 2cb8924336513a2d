import Derived.Test.YtalicdpocgomkaaWire17
import Derived.Test.YtalicdpocgomkaaTypes3
import Derived.Test.YtalicdpocgomkaaPure4
namespace Go.Proofs.Ytalicdpocgomkaa
open Go.RowKit Go.Dx

theorem GetInt_any {l : List UInt8} {a : Option Addr} {n c : Nat} {w : World} (hs : Sl w 1 a n c (l.map B8)) {x y z : Int} (h : decInt l = (x, y, z)) :
    Calls Try.prog 67 #[.slice a n c] w fun e w' => e = .returned (R3 (x, y, z)) ∧ w = w' := by
  rw [← h]; exact wire_GetInt l a n c w hs
set_option maxHeartbeats 400000 in
theorem walk_IntRoundTrip (x : Int) (h0 : -9223372036854775808 ≤ x) (h1 : x ≤ 9223372036854775807) (l : List UInt8) (a : Option Addr) (n c : Nat) (w : World) (hs : Sl w 1 a n c (l.map B8)) :
    Calls Try.prog 12 #[.int .i64 x, .slice a n c] w fun e w' => e = .returned (.bool true) ∧ Below w.heap.size w w' := by
  have hn := hs.n_eq
  have hdec := hide (decInt_enc h0 h1 l)
  have hE9 := encInt_le x
  have hE1 := encInt_pos x
  have hcap := Nat.le_trans hs.le hs.cap
  by_cases hmost : 2000 < n
  · clear hn hdec hE9 hE1 hcap hs
    go_enter Try.func12, Try.ntmps12
    go_wp2_with (go_at_call 57; refine (law1_sanity w).mono ?_; rintro e w1 ⟨rfl, hb⟩)
    go_ret
    exact ⟨rfl, hb⟩
  · have hN := hide hn
    clear hn
    go_enter Try.func12, Try.ntmps12
    have hW := wire_Int x h0 h1 w
    generalize encInt x = E at *
    go_wp2_with (first
      | (go_at_call 58; refine hW.mono ?_; rintro e w1 ⟨a1, c1, rfl, ho1, hb1⟩)
      | (with_reducible refine cutfull_b 21 _ _ _ _ _ _ _ rfl ho1.sl _ _ _ _ rfl rfl rfl rfl ?_; intro hs1)
      | (at_builtin; refine appfull_b rfl _ _ rfl _ _ _ rfl hs1 _ _ _ _ rfl (hs.below hb1) (by omega) ?_; intro a2 c2 w2 hs2 hb2)
      | (go_at_call 67; refine (GetInt_any hs2 hdec.out).mono ?_; rintro e w3 ⟨rfl, rfl⟩)
      | (go_at_call 57; refine (law1_sanity _).mono ?_; rintro e w4 ⟨rfl, hb4⟩))
    go_ret
    refine ⟨?_, ?_⟩
    · show Ending.returned (.bool (decide ((E.length : Int) ≤ 9))) = _
      rw [decide_eq_true (by omega)]
    · exact (hb1.trans (hb2.mono hb1.size)).trans (hb4.mono (Nat.le_trans hb1.size hb2.size))
end Go.Proofs.Ytalicdpocgomkaa
