import Derived.Test.YtalicdpocgomkaaLaw4
import Derived.Test.YtalicdpocgomkaaPure6
namespace Go.Proofs.Ytalicdpocgomkaa
open Go.RowKit Go.Dx
theorem encInts_le (l : List Int) : (encInts l).length ≤ 9 + 9 * l.length := by
  have h : ∀ l : List Int, (l.flatMap encInt).length ≤ 9 * l.length := by
    intro l
    induction l with
    | nil => simp
    | cons x l ih => have := encInt_le x; rw [List.flatMap_cons, List.length_append, List.length_cons]; omega
  have h1 := h l
  have h2 := encInt_le (l.length : Int)
  unfold encInts
  rw [List.length_append]
  omega
theorem encBytes_le (l : List UInt8) : (encBytes l).length ≤ 9 + l.length := by
  have h2 := encInt_le (l.length : Int)
  unfold encBytes
  rw [List.length_append]
  omega
set_option maxRecDepth 100000 in
set_option maxHeartbeats 1000000 in
theorem walk_Concat (s : ByteArray) (l : List Int) (hl : ∀ x ∈ l, -9223372036854775808 ≤ x ∧ x ≤ 9223372036854775807) (a : Option Addr) (n c : Nat) (w : World) (hs : Sl w 1 a n c (l.map I64))
    (hss : s.size ≤ reachBytes) (hn1 : n ≤ reachBytes) :
    Calls Try.prog 16 #[.string s, .slice a n c] w fun e w' => e = .returned (.bool true) ∧ Below w.heap.size w w' := by
  unfold reachBytes at hss hn1
  by_cases hmost : 2000 < s.size + n
  · clear hs hl
    go_enter Try.func16, Try.ntmps16
    go_wp2_with (go_at_call 57; refine (law1_sanity w).mono ?_; rintro e w1 ⟨rfl, hb⟩)
    go_ret
    exact ⟨rfl, hb⟩
  · have hn := hs.n_eq
    obtain ⟨E1, HE1⟩ : ∃ E, Hid (encBytes s.data.toList = E) := ⟨_, rfl⟩
    obtain ⟨E2, HE2⟩ : ∃ E, Hid (encInts l = E) := ⟨_, rfl⟩
    have hE1 : E1.length ≤ 3000 := by rw [← HE1.out]; have := encBytes_le s.data.toList; have h8 : s.data.toList.length = s.size := Array.length_toList; omega
    have hE2 : E2.length ≤ 30000 := by rw [← HE2.out]; have := encInts_le l; omega
    have D1 : Hid (decBytes (E1 ++ E2) = (s, (E1.length : Int), 0)) := by have := (round_bytes s E2 (by omega)).1; simp only [HE1.out] at this; exact this
    have D2 : Hid (decSeq decInt E2 = (l, (E2.length : Int), 0)) := by
      have := decSeq_round round_int l hl (by omega) []
      rw [List.append_nil] at this
      have e : encInt (l.length : Int) ++ l.flatMap encInt = E2 := HE2.out
      rw [e] at this
      exact this
    have Hl : Hid (∀ x ∈ l, -9223372036854775808 ≤ x ∧ x ≤ 9223372036854775807) := hl
    have Hn : Hid (l.length ≤ 140737488355000) := by show _ ≤ _; omega
    have Hs : Hid (s.size ≤ 140737488355000) := by show _ ≤ _; omega
    have HL2 : Hid (E2.length ≤ 140737488355000) := by show _ ≤ _; omega
    clear hn hl
    have b0 : Below w.heap.size w w ∧ w.heap.size ≤ w.heap.size := ⟨Below.refl _ _, Nat.le_refl _⟩
    go_enter Try.func16, Try.ntmps16
    go_wp2_with fail
    have oA := Own.built w w.heap.size 5 1 0 #[] (Nat.le_refl _) rfl (Nat.zero_le _)
    have b1 : Below w.heap.size w (w.alloc (.cells #[] 5)) ∧ w.heap.size ≤ (w.alloc (.cells #[] 5)).heap.size := ⟨b0.1.alloc b0.2 _, by simp⟩
    clear b0
    refine (Bytes_at HE1.out Hs.out).mono ?_
    rintro e w2 ⟨a2, c2, rfl, o2, h1⟩
    have b2 := bs0 b1 h1
    have oA := oA.below h1
    have o2 := o2.sl
    clear h1 b1
    go_wp2_with (at_builtin; refine app_bs rfl _ _ rfl w2 w.heap.size _ _ _ _ rfl oA _ _ _ _ rfl o2 (by omega) b2.2 (Below.refl _ _) ?_; intro a3 c3 w3 oB hg3 hb3)
    have b3 : Below w.heap.size w w3 ∧ w.heap.size ≤ w3.heap.size := ⟨b2.1.trans hb3, Nat.le_trans b2.2 hb3.size⟩
    clear hg3 hb3 b2 o2 oA
    rw [Nat.zero_add] at oB
    refine (Ints_at HE2.out Hl.out HL2.out Hn.out (hs.below b3.1)).mono ?_
    rintro e w4 ⟨a4, c4, rfl, o4, h1⟩
    have b4 := bs0 b3 h1
    have oB := oB.below h1
    have o4 := o4.sl
    clear h1 b3
    go_wp2_with (at_builtin; refine app_bs rfl _ _ rfl w4 w.heap.size _ _ _ _ rfl oB _ _ _ _ rfl o4 (by omega) b4.2 (Below.refl _ _) ?_; intro a5 c5 w5 oC hg5 hb5)
    have b5 : Below w.heap.size w w5 ∧ w.heap.size ≤ w5.heap.size := ⟨b4.1.trans hb5, Nat.le_trans b4.2 hb5.size⟩
    have s5 : Sl w5 1 a5 (E1.length + E2.length) c5 ((E1 ++ E2).map B8) := by have := oC.sl; simpa using this
    clear hg5 hb5 b4 o4 oB oC
    refine (GetBytes_at D1.out s5).mono ?_
    rintro e w6 ⟨rfl, h1⟩
    have b6 := bs0 b5 h1
    have s6 := s5.below h1
    clear h1 b5 s5
    go_wp2_with (with_reducible refine cutlo_b 47 _ _ _ _ _ (E1 ++ E2) rfl s6 _ _ E1.length rfl rfl (by omega) ?_; intro a7 s7 hp7)
    rw [List.drop_left, Nat.add_sub_cancel_left] at s7
    refine (GetInts_at D2.out (by omega) s7).mono ?_
    rintro e w8 ⟨a8, c8, rfl, o8, h1⟩
    have b8 := bs0 b6 h1
    have o8 := o8.sl
    clear h1 b6 s6 s7
    go_wp2_with fail
    refine (law1_sanity _).mono ?_
    rintro e w9 ⟨rfl, h1⟩
    have b9 := bs0 b8 h1
    have o8 := o8.below h1
    clear h1 b8
    go_wp2_with fail
    refine (SameInts_at (r := true) (decide_eq_true rfl) o8 (hs.below b9.1)).mono ?_
    rintro e w10 ⟨rfl, h1⟩
    have b10 := bs0 b9 h1
    clear h1 b9
    go_wp2_with fail
    go_ret
    exact ⟨rfl, b10.1⟩
end Go.Proofs.Ytalicdpocgomkaa
