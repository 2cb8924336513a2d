import Derived.Test.YtalicdpocgomkaaLaw1
namespace Go.Proofs.Ytalicdpocgomkaa
open Go.RowKit Go.Dx

theorem refInt_at {l : List UInt8} {r : Int × Int × Int} (h : decInt l = r) {a : Option Addr} {n c : Nat} {w : World} (hs : Sl w 1 a n c (l.map B8)) :
    Calls Try.prog 68 #[.slice a n c] w fun e w' => e = .returned (R3 r) ∧ Below w.heap.size w w' := by subst h; exact ref_GetInt l a n c w hs
theorem refBytes_at {l : List UInt8} {r : ByteArray × Int × Int} (h : decBytes l = r) (hl : l.length ≤ 4503599627370496) {a : Option Addr} {n c : Nat} {w : World} (hs : Sl w 1 a n c (l.map B8)) :
    Calls Try.prog 70 #[.slice a n c] w fun e w' => e = .returned (RS r) ∧ Below w.heap.size w w' := by subst h; exact ref_GetBytes l a n c w hs hl
theorem refInts_at {l : List UInt8} {r : List Int × Int × Int} (h : decSeq decInt l = r) (hl : l.length ≤ 1000000000) {a : Option Addr} {n c : Nat} {w : World} (hs : Sl w 1 a n c (l.map B8)) :
    Calls Try.prog 72 #[.slice a n c] w (Gives3 3 1 r.1.length (r.1.map I64) r.2.1 r.2.2 w) := by subst h; exact ref_GetInts l a n c w hs hl
theorem refStrings_at {l : List UInt8} {r : List ByteArray × Int × Int} (h : decSeq decBytes l = r) (hl : l.length ≤ 1000000000) {a : Option Addr} {n c : Nat} {w : World} (hs : Sl w 1 a n c (l.map B8)) :
    Calls Try.prog 74 #[.slice a n c] w (Gives3 9 1 r.1.length (r.1.map Value.string) r.2.1 r.2.2 w) := by subst h; exact ref_GetStrings l a n c w hs hl
theorem refDigests_at {l : List UInt8} {r : Nat × List UInt8 × Int × Int} (h : decDigs l = r) (hl : l.length ≤ 1000000000) {a : Option Addr} {n c : Nat} {w : World} (hs : Sl w 1 a n c (l.map B8)) :
    Calls Try.prog 77 #[.slice a n c] w (Gives3 116 16 r.1 (r.2.1.map B8) r.2.2.1 r.2.2.2 w) := by subst h; exact ref_GetDigests l a n c w hs hl
set_option maxRecDepth 100000 in
set_option maxHeartbeats 4000000 in
theorem walk_Decode (l : List UInt8) (a : Option Addr) (n c : Nat) (w : World) (hs : Sl w 1 a n c (l.map B8)) :
    Calls Try.prog 10 #[.slice a n c] w fun e w' => e = .returned (.bool true) ∧ Below w.heap.size w w' := by
  by_cases hmost : 2000 < n
  · clear hs
    go_enter Try.func10, Try.ntmps10
    go_wp2_with (go_at_call 57; refine (law1_sanity w).mono ?_; rintro e w1 ⟨rfl, hb⟩)
    go_ret
    exact ⟨rfl, hb⟩
  · have hlen : Hid (l.length ≤ 2000) := by have := hs.n_eq; show _ ≤ _; omega
    obtain ⟨⟨x1, x2, x3⟩, hr1⟩ : ∃ r, Hid (decInt l = r) := ⟨_, rfl⟩
    obtain ⟨⟨y1, y2, y3⟩, hr2⟩ : ∃ r, Hid (decBytes l = r) := ⟨_, rfl⟩
    obtain ⟨⟨z1, z2, z3⟩, hr3⟩ : ∃ r, Hid (decSeq decInt l = r) := ⟨_, rfl⟩
    obtain ⟨⟨u1, u2, u3⟩, hr4⟩ : ∃ r, Hid (decSeq decBytes l = r) := ⟨_, rfl⟩
    obtain ⟨⟨v1, v2, v3, v4⟩, hr5⟩ : ∃ r, Hid (decDigs l = r) := ⟨_, rfl⟩
    have b0 : Below w.heap.size w w ∧ w.heap.size ≤ w.heap.size := ⟨Below.refl _ _, Nat.le_refl _⟩
    go_enter Try.func10, Try.ntmps10
    go_wp2_with (go_at_call 67; refine (GetInt_any hs hr1.out).mono ?_; rintro e w1 ⟨rfl, rfl⟩)
    refine (refInt_at hr1.out hs).mono ?_
    rintro e w2 ⟨rfl, h1⟩
    have b2 := bs0 b0 h1
    have s2 := hs.below h1
    clear h1 b0
    go_wp2_with fail
    refine (GetBytes_at hr2.out s2).mono ?_
    rintro e w3 ⟨rfl, h1⟩
    have b3 := bs0 b2 h1
    have s3 := s2.below h1
    clear h1 b2
    go_wp2_with fail
    refine (refBytes_at hr2.out (Nat.le_trans hlen.out (by decide)) s3).mono ?_
    rintro e w4 ⟨rfl, h1⟩
    have b4 := bs0 b3 h1
    have s4 := s3.below h1
    clear h1 b3
    go_wp2_with fail
    refine (GetInts_at hr3.out (Nat.le_trans hlen.out (by decide)) s4).mono ?_
    rintro e w5 ⟨a5, c5, rfl, o5, h1⟩
    have b5 := bs0 b4 h1
    have s5 := s4.below h1
    clear h1 b4
    go_wp2_with fail
    refine (refInts_at hr3.out (Nat.le_trans hlen.out (by decide)) s5).mono ?_
    rintro e w6 ⟨a6, c6, rfl, o6, h1⟩
    have b6 := bs0 b5 h1
    have s6 := s5.below h1
    have o5 := o5.sl.below h1
    have o6 := o6.sl
    clear h1 b5
    go_wp2_with fail
    refine (SameInts_at (r := true) (decide_eq_true rfl) o5 o6).mono ?_
    rintro e w7 ⟨rfl, h1⟩
    have b7 := bs0 b6 h1
    have s7 := s6.below h1
    clear h1 b6 o5 o6
    go_wp2_with fail
    refine (GetStrings_at hr4.out (Nat.le_trans hlen.out (by decide)) s7).mono ?_
    rintro e w8 ⟨a8, c8, rfl, o8, h1⟩
    have b8 := bs0 b7 h1
    have s8 := s7.below h1
    clear h1 b7
    go_wp2_with fail
    refine (refStrings_at hr4.out (Nat.le_trans hlen.out (by decide)) s8).mono ?_
    rintro e w9 ⟨a9, c9, rfl, o9, h1⟩
    have b9 := bs0 b8 h1
    have s9 := s8.below h1
    have o8 := o8.sl.below h1
    have o9 := o9.sl
    clear h1 b8
    go_wp2_with fail
    refine (SameTexts_at (r := true) (decide_eq_true rfl) o8 o9).mono ?_
    rintro e w10 ⟨rfl, h1⟩
    have b10 := bs0 b9 h1
    have s10 := s9.below h1
    clear h1 b9 o8 o9
    go_wp2_with fail
    refine (GetDigests_at hr5.out (Nat.le_trans hlen.out (by decide)) s10).mono ?_
    rintro e w11 ⟨a11, c11, rfl, o11, h1⟩
    have b11 := bs0 b10 h1
    have s11 := s10.below h1
    clear h1 b10
    go_wp2_with fail
    refine (refDigests_at hr5.out (Nat.le_trans hlen.out (by decide)) s11).mono ?_
    rintro e w12 ⟨a12, c12, rfl, o12, h1⟩
    have b12 := bs0 b11 h1
    have o11 := o11.sl.below h1
    have o12 := o12.sl
    clear h1 b11
    go_wp2_with fail
    refine (law1_sanity _).mono ?_
    rintro e w13 ⟨rfl, h1⟩
    have b13 := bs0 b12 h1
    have o11 := o11.below h1
    have o12 := o12.below h1
    clear h1 b12
    go_wp2_with fail
    refine (SameDigests_at (r := true) (decide_eq_true rfl) o11 o12).mono ?_
    rintro e w14 ⟨rfl, h1⟩
    have b14 := bs0 b13 h1
    clear h1 b13
    go_wp2_with fail
    go_ret
    exact ⟨rfl, b14.1⟩
end Go.Proofs.Ytalicdpocgomkaa
