import Derived.Test.YtalicdpocgomkaaDoorTypes
import Derived.Test.YtalicdpocgomkaaDoorPure2
namespace Go.Proofs.YtalicdpocgomkaaDoor
open Go.RowKit Go.Dx

set_option maxHeartbeats 400000 in
theorem wire_Int (n : Int) (hn0 : -9223372036854775808 ≤ n) (hn1 : n ≤ 9223372036854775807) (w : World) :
    Calls Tryd.prog 38 #[.int .i64 n] w (Gives 5 1 (encInt n).length ((encInt n).map B8) w) := by
  obtain ⟨m, HM⟩ : ∃ m, Hid (m = mag n) := ⟨_, rfl⟩
  have hm2 : m < 9223372036854775808 := by rw [HM.out]; exact mag_lt hn0 hn1
  have hneg : n < 0 → bits .xor .u64 IntKind.u64.max (IntKind.u64.wrap n) = (m : Int) := fun h => by rw [HM.out]; exact mag_neg h hn0
  have HP : Hid (¬ n < 0 → n = (m : Int)) := fun h => by rw [HM.out]; exact mag_pos h
  go_enter Tryd.func38, Tryd.ntmps38
  go_wp2
  go_step3
  go_upto_if 11 with (fail)
  go_cut [3, 4] (fun x f w' => x = .int .u64 (m : Int) ∧ f = .int .u8 ((fl (decide (n < 0))).toNat : Int) ∧ w = w')
  case first =>
    go_wp2
    · have h : n < 0 := by assumption
      go_meet
      exact ⟨rfl, by simp [fl, h], rfl⟩
    · have h : 0 ≤ n := by assumption
      go_meet
      exact ⟨by rw [← HP.out (by omega)]; congr 1; rw [IntKind.wrap_u64]; omega, by rw [show decide (n < 0) = false from by simp; omega]; rfl, rfl⟩
  case rest =>
    obtain ⟨neg, HN⟩ : ∃ neg, Hid (neg = decide (n < 0)) := ⟨_, rfl⟩
    rw [← HN.out] at hcut
    obtain ⟨rfl, rfl, rfl⟩ := hcut
    clear HP hneg
    go_wp2
    go_step3
    go_wp2
    have hm8 : m < 256 ^ 8 := by simp; omega
    go_loopg [5] 8 (fun g x w' => ∃ k : Nat, k = g ∧ k ≤ 8 ∧ m < 256 ^ k ∧ x = .int .i64 k ∧ w = w')
    case atStart => exact ⟨8, rfl, by omega, hm8, rfl, rfl⟩
    case round =>
      obtain ⟨k, rfl, hk, hmk, rfl, rfl⟩ := hrel
      have h01 : (0 < k ∧ (m : Int) / 2 ^ (8 * (k - 1)) ≤ 0) ∨ (0 < k ∧ 0 < (m : Int) / 2 ^ (8 * (k - 1))) ∨ ¬ 0 < k := by omega
      rcases h01 with ⟨h0, h1⟩ | ⟨h0, h1⟩ | h0
      · go_wp2
        go_roundg (k - 1)
        case measure => omega
        case rel => exact ⟨k - 1, rfl, by omega, len_next h0 h1, by go_num, rfl⟩
      all_goals
        have hL : Len m k := by first | exact len_brk hk hmk h0 h1 | exact len_zero hk hmk h0
        go_wp2
        rw [hd_eq neg k hk]
        go_loopg [6, 7] k (fun g x i w' => ∃ (j : Nat) (a : Option Addr) (c : Nat), j ≤ k ∧ g = k - j ∧ i = .int .i64 ((k : Int) - 1 - j) ∧ x = .slice a (j + 1) c ∧ Own w' w.heap.size 5 1 a (j + 1) c ((encTo neg m k j).map B8) ∧ Below w.heap.size w w')
        case atStart => exact ⟨0, _, _, by omega, by omega, by simp, rfl, Own.built w _ _ 1 1 _ (Nat.le_refl _) rfl (by decide), (Below.refl _ _).alloc (Nat.le_refl _) _⟩
        case round =>
          obtain ⟨j, a, c, hj, hg, rfl, rfl, hown, hb⟩ := hrel
          go_wp2_with (at_builtin; refine app_b rfl _ _ rfl w w.heap.size _ _ _ _ rfl hown _ rfl (by omega) hb.size hb ?_; intro a' c' w' hown' hgr' hb')
          all_goals first
            | (have hx : (k : Int) - 1 < (j : Int) := by assumption
               obtain rfl : j = k := by omega
               rw [Exit.noGoto_ret]
               go_ret
               have e : encTo neg m j j = encInt n := by have hL' := hL; rw [HM.out] at hL' ⊢; rw [HN.out]; exact encTo_all hL'
               have el : (encInt n).length = j + 1 := by rw [← e, encTo_length]
               rw [el]
               exact ⟨a, c, rfl, by rw [← e]; exact hown, hb⟩)
            | (go_roundg (k - (j + 1))
               case measure => omega
               case rel =>
                 have e := dig_eq neg m (k - 1 - j)
                 refine ⟨j + 1, a', c', by omega, rfl, by congr 1; omega, rfl, ?_, hb'⟩
                 rw [encTo_succ]
                 rw [e] at hown'
                 simpa using hown')
end Go.Proofs.YtalicdpocgomkaaDoor
