import Derived.Test.YtalicdpocgomkaaLaw2
namespace Go.Proofs.Ytalicdpocgomkaa
open Go.RowKit Go.Dx
section
variable {w : World} {ops : Array Oper} {rest : List Oper} {act : Act} {Q : Exit → Act → World → Prop} {ty : TypeId} {pos : String} {after : Array Edge}
theorem cuthi_b_g (g : Option (Nat × Bool)) (d : Nat) (x hi : Operand) (a : Option Addr) (n c : Nat) (cs : List UInt8) (hx : act.eval x = .slice a n c) (hs : Sl w 1 a n c (cs.map B8)) (ku : IntKind) (uv : Int) (u : Nat) (hu : act.eval hi = .int ku uv)
    (huv : uv = (u : Int)) (hun : u ≤ n)
    (hw : Region.wanted { dst := some d, op := .slice 23 x none (some hi) none, type := ty, pos := pos, after := after, guard := g } (yielded ops act.tmps) = true)
    (hK : Sl w 1 a u c ((cs.take u).map B8) → wpList Try.prog ops Q rest (act.put (some d) (.slice a u c)) w) :
    wpList Try.prog ops Q ({ dst := some d, op := .slice 23 x none (some hi) none, type := ty, pos := pos, after := after, guard := g } :: rest) act w :=
  unguard hw (cuthi_b d x hi a n c cs hx hs ku uv u hu huv hun hK)
end
set_option maxHeartbeats 400000 in
theorem canon_is (l : List UInt8) (a : Option Addr) (n c bx : Nat) (w : World) (hs : Sl w 1 a n c (l.map B8)) (hcell : w.cell? ⟨bx, 0, none⟩ = some (.slice a n c)) (hmost : n ≤ 2000)
    (used e : Int) (cs : List UInt8) (a1 : Option Addr) (n1 c1 : Nat) (h1 : Sl w 1 a1 n1 c1 (cs.map B8)) (H : e = 0 → 0 ≤ used ∧ used ≤ n ∧ cs = l.take used.toNat) :
    Calls Try.prog 79 #[.slice a1 n1 c1, .int .i64 used, .int .i64 e, .pointer (some ⟨bx, 0, none⟩)] w fun r w' => r = .returned (.bool true) ∧ Below w.heap.size w w' := by
  by_cases he : e = 0
  · obtain ⟨hu0, hun, hcs⟩ := H he
    subst he
    obtain ⟨u, rfl⟩ := Int.eq_ofNat_of_zero_le hu0
    have hu : u ≤ n := by omega
    have hu2 : u ≤ 2000 := by omega
    have HC := hide hcs
    clear H hu0 hun hcs
    rcases Nat.eq_zero_or_pos u with rfl | hpos
    · go_enter Try.func79, Try.ntmps79
      go_wp2_with (first
        | (with_reducible refine cuthi_b_g (some (11, true)) 27 _ _ _ _ _ l rfl hs _ _ 0 rfl rfl (Nat.zero_le _) rfl ?_; intro h2)
        | (go_at_call 42; refine (Same_at (r := true) (decide_eq_true HC.out) h1 h2).mono ?_; rintro e w2 ⟨rfl, hb2⟩))
      go_ret
      exact ⟨rfl, hb2⟩
    · go_enter Try.func79, Try.ntmps79
      go_wp2_with (first
        | (with_reducible refine cuthi_b_g (some (11, true)) 27 _ _ _ _ _ l rfl hs _ _ u rfl rfl hu rfl ?_; intro h2)
        | (go_at_call 42; refine (Same_at (r := true) (decide_eq_true HC.out) h1 h2).mono ?_; rintro e w2 ⟨rfl, hb2⟩))
      go_ret
      exact ⟨rfl, hb2⟩
  · have hbn := neq_int he
    clear H h1 hs
    go_enter Try.func79, Try.ntmps79
    go_wp2
    go_ret
    exact ⟨rfl, Below.refl _ _⟩
end Go.Proofs.Ytalicdpocgomkaa
