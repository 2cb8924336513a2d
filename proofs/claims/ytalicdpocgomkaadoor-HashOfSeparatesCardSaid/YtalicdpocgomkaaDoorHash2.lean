import Derived.Test.YtalicdpocgomkaaDoorHash1
import Derived.Test.YtalicdpocgomkaaDoorWire2
namespace Go.Proofs.YtalicdpocgomkaaDoor
open Go.RowKit Go.Dx

theorem rot_count (n m : Nat) (h0 : 1 ≤ n) (h1 : n + m = 32) : bits .and .u64 (IntKind.u64.wrap (-(n : Int))) 31 = (m : Int) := by
  have e : IntKind.u64.wrap (-(n : Int)) = ((18446744073709551616 - n : Nat) : Int) := by
    simp [IntKind.wrap, IntKind.bits, IntKind.signed]; omega
  rw [e, show (31 : Int) = ((31 : Nat) : Int) from rfl, u64_and_nat _ _ (by omega) (by omega), nat_mask5]
  omega
theorem rotl_any (x : UInt32) (n : Nat) (h0 : 1 ≤ n) (h2 : n ≤ 31) (w : World) :
    Calls Tryd.prog 40 #[W32 x, .int .i64 (-(n : Int))] w fun e w' => e = .returned (W32 (ror x n)) ∧ w = w' := by
  obtain ⟨m, h1⟩ : ∃ m, n + m = 32 := ⟨32 - n, by omega⟩
  have hx := w_lt x
  have hs := rot_count n m h0 h1
  have h3 : m ≤ 31 := by omega
  have hn : n = 32 - m := by omega
  have hm : m = 32 - n := by omega
  have HN := hide hn
  have HM := hide hm
  clear h1 hn hm
  go_enter Tryd.func40, Tryd.ntmps40
  go_wp2
  go_ret
  exact ⟨ret_w (by rw [w_shl', w_shr, w_or, ← HN.out, HM.out]; rfl), rfl⟩
theorem rotl_c (x : UInt32) (n : Nat) (k : Int) (hk : k = -(n : Int)) (h0 : 1 ≤ n) (h2 : n ≤ 31) (w : World) :
    Calls Tryd.prog 40 #[W32 x, .int .i64 k] w fun e w' => e = .returned (W32 (ror x n)) ∧ w = w' := by
  subst hk; exact rotl_any x n h0 h2 w
theorem mix_any (x : UInt32) (i j k : Nat) (i0 : 1 ≤ i) (i1 : i ≤ 31) (j0 : 1 ≤ j) (j1 : j ≤ 31) (k0 : 1 ≤ k) (k1 : k ≤ 31) (w : World) :
    Calls Tryd.prog 37 #[W32 x, .int .i64 (i : Int), .int .i64 (j : Int), .int .i64 (k : Int)] w fun e w' => e = .returned (W32 (mix3 x i j k)) ∧ w = w' := by
  have hx := w_lt x
  go_enter Tryd.func37, Tryd.ntmps37
  go_wp2_with (go_at_call 40; refine (rotl_any x _ (by assumption) (by assumption) _).mono ?_; rintro e w' ⟨rfl, rfl⟩)
  go_ret
  exact ⟨ret_w (by rw [w_xor, w_xor]; rfl), rfl⟩
theorem rotr_any (x : UInt32) (n : Nat) (h0 : 1 ≤ n) (h2 : n ≤ 31) (w : World) :
    Calls Tryd.prog 29 #[W32 x, .int .i64 (n : Int)] w (Still (W32 (ror x n)) w) := by
  obtain ⟨m, hm⟩ : ∃ m, m = 32 - n := ⟨32 - n, by omega⟩
  have hx := w_lt x
  have e1 : (32 : Int) - (n : Int) = (m : Int) := by omega
  have h3 : m ≤ 31 := by omega
  have h4 : (0 : Int) ≤ (n : Int) := by omega
  have HM := hide hm
  clear hm
  go_enter Tryd.func29, Tryd.ntmps29
  go_wp2
  go_quiet (fail)
  go_wp2
  go_ret
  exact ⟨ret_w (by rw [w_shl', w_shr, w_or, HM.out, UInt32.or_comm]; rfl), _, rfl⟩
theorem rotr_c (x : UInt32) (n : Nat) (k : Int) (hk : k = (n : Int)) (h0 : 1 ≤ n) (h2 : n ≤ 31) (w : World) :
    Calls Tryd.prog 29 #[W32 x, .int .i64 k] w (Still (W32 (ror x n)) w) := by subst hk; exact rotr_any x n h0 h2 w
theorem quiet_more {P : Program} {f : FuncId} {args : Array Value} {w : World} {a n : Nat} {v : Value} (h : Calls P f args (w.drewN (a + n)) (Still v (w.drewN (a + n)))) :
    Calls P f args (w.drewN (a + n)) fun e w'' => e = .returned v ∧ ∃ m, w'' = w.drewN (a + m) :=
  h.mono fun _ _ ⟨he, m, hm⟩ => ⟨he, n + m, by rw [hm, World.drewN_drewN, Nat.add_assoc]⟩
theorem mix_c (x : UInt32) (i j k : Nat) (i' j' k' : Int) (hi : i' = i) (hj : j' = j) (hk : k' = k) (i0 : 1 ≤ i) (i1 : i ≤ 31) (j0 : 1 ≤ j) (j1 : j ≤ 31) (k0 : 1 ≤ k) (k1 : k ≤ 31) (w : World) :
    Calls Tryd.prog 37 #[W32 x, .int .i64 i', .int .i64 j', .int .i64 k'] w fun e w' => e = .returned (W32 (mix3 x i j k)) ∧ w = w' := by subst hi hj hk; exact mix_any x i j k i0 i1 j0 j1 k0 k1 w
theorem mix_6 (x : UInt32) (w : World) : Calls Tryd.prog 37 #[W32 x, .int .i64 6, .int .i64 11, .int .i64 25] w fun e w' => e = .returned (W32 (mix3 x 6 11 25)) ∧ w = w' := mix_any x 6 11 25 (by decide) (by decide) (by decide) (by decide) (by decide) (by decide) w
theorem mix_2 (x : UInt32) (w : World) : Calls Tryd.prog 37 #[W32 x, .int .i64 2, .int .i64 13, .int .i64 22] w fun e w' => e = .returned (W32 (mix3 x 2 13 22)) ∧ w = w' := mix_any x 2 13 22 (by decide) (by decide) (by decide) (by decide) (by decide) (by decide) w
theorem quiet_left {P : Program} {f : FuncId} {args : Array Value} {w : World} {n : Nat} {v : Value} (h : Calls P f args (w.drewN n) fun e w' => e = .returned v ∧ w.drewN n = w') :
    Calls P f args (w.drewN n) fun e w'' => e = .returned v ∧ ∃ m, w'' = w.drewN m := h.mono fun _ _ ⟨he, hm⟩ => ⟨he, n, hm.symm⟩
theorem quiet_left2 {P : Program} {f : FuncId} {args : Array Value} {w : World} {a n : Nat} {v : Value} (h : Calls P f args (w.drewN (a + n)) fun e w' => e = .returned v ∧ w.drewN (a + n) = w') :
    Calls P f args (w.drewN (a + n)) fun e w'' => e = .returned v ∧ ∃ m, w'' = w.drewN (a + m) := h.mono fun _ _ ⟨he, hm⟩ => ⟨he, n, hm.symm⟩
end Go.Proofs.YtalicdpocgomkaaDoor
