import Derived.Test.YtalicdpocgomkaaLaw8
namespace Go.Proofs.Ytalicdpocgomkaa
open Go.RowKit Go.Dx

theorem rInt_at {x : Int} {r : List UInt8} (h : encInt x = r) (h0 : -9223372036854775808 ≤ x) (h1 : x ≤ 9223372036854775807) {w : World} :
    Calls Try.prog 59 #[.int .i64 x] w (Gives 5 1 r.length (r.map B8) w) := by subst h; exact ref_Int x h0 h1 w
theorem rDigests_at {fl r : List UInt8} {n : Nat} (h : encInt n ++ fl = r) (hT : fl.length ≤ 140737488355000) {a : Option Addr} {c : Nat} {w : World} (hs : Sl w 16 a n c (fl.map B8)) :
    Calls Try.prog 66 #[.slice a n c] w (Gives 5 1 r.length (r.map B8) w) := by subst h; exact ref_Digests fl a n c w hs hT
theorem rStrings_at {l : List ByteArray} {r : List UInt8} (h : encStrs l = r) (hl : ∀ x ∈ l, x.size ≤ 140737488355000) (hT : r.length ≤ 140737488355000) (hN : l.length ≤ 140737488355000) {a : Option Addr} {n c : Nat} {w : World} (hs : Sl w 1 a n c (l.map Value.string)) :
    Calls Try.prog 64 #[.slice a n c] w (Gives 5 1 r.length (r.map B8) w) := by subst h; exact ref_Strings l hl hT hN a n c w hs
theorem rInts_at {l : List Int} {r : List UInt8} (h : encInts l = r) (hl : ∀ x ∈ l, -9223372036854775808 ≤ x ∧ x ≤ 9223372036854775807) (hT : r.length ≤ 140737488355000) (hN : l.length ≤ 140737488355000) {a : Option Addr} {n c : Nat} {w : World} (hs : Sl w 1 a n c (l.map I64)) :
    Calls Try.prog 63 #[.slice a n c] w (Gives 5 1 r.length (r.map B8) w) := by subst h; exact ref_Ints l hl hT hN a n c w hs
theorem rBytes_at {s : ByteArray} {r : List UInt8} (h : encBytes s.data.toList = r) (hs : s.size ≤ 140737488355000) {w : World} :
    Calls Try.prog 61 #[.string s] w (Gives 5 1 r.length (r.map B8) w) := by subst h; exact ref_Bytes s hs w
theorem size_of_total {t : List ByteArray} {x : ByteArray} (h : x ∈ t) : x.size ≤ total t := by
  induction t with
  | nil => cases h
  | cons y t ih =>
    simp only [total, List.map_cons, List.sum_cons] at *
    rcases List.mem_cons.1 h with rfl | h
    · omega
    · have := ih h; omega

set_option maxRecDepth 100000 in
set_option maxHeartbeats 4000000 in
theorem walk_Encode (x : Int) (x0 : -9223372036854775808 ≤ x) (x1 : x ≤ 9223372036854775807) (s : ByteArray) (hss : s.size ≤ reachBytes)
    (l : List Int) (hl : ∀ x ∈ l, -9223372036854775808 ≤ x ∧ x ≤ 9223372036854775807) (a2 : Option Addr) (n2 c2 : Nat) (w : World) (h2 : Sl w 1 a2 n2 c2 (l.map I64)) (hn2 : n2 ≤ reachBytes)
    (t : List ByteArray) (ht : t.length + total t ≤ 1048576) (a3 : Option Addr) (n3 c3 : Nat) (h3 : Sl w 1 a3 n3 c3 (t.map Value.string))
    (fl : List UInt8) (a4 : Option Addr) (n4 c4 : Nat) (h4 : Sl w 16 a4 n4 c4 (fl.map B8)) (hn4 : n4 ≤ reachBytes) :
    Calls Try.prog 9 #[.int .i64 x, .string s, .slice a2 n2 c2, .slice a3 n3 c3, .slice a4 n4 c4] w fun e w' => e = .returned (.bool true) ∧ Below w.heap.size w w' := by
  have e3 := h3.n_eq
  unfold reachBytes at *
  by_cases q1 : 2000 < s.size + n2 + n4
  · go_enter Try.func9, Try.ntmps9
    clear e3
    go_wp2_with (go_at_call 57; refine (law1_sanity w).mono ?_; rintro e w1 ⟨rfl, hb⟩)
    go_ret
    exact ⟨rfl, hb⟩
  have hB : t.length + total t ≤ 9000000000000000000 := by omega
  have HF := hide (@few_any t hB a3 n3 c3 w h3)
  by_cases q3 : 2000 < t.length + total t
  · rw [decide_eq_false (by omega)] at HF
    clear e3 hB q3 ht
    go_enter Try.func9, Try.ntmps9
    go_wp2_with (first
      | (go_at_call 56; refine HF.out.mono ?_; rintro e w1 ⟨rfl, rfl⟩)
      | (go_at_call 57; refine (law1_sanity w).mono ?_; rintro e w1 ⟨rfl, hb⟩))
    go_ret
    exact ⟨rfl, hb⟩
  rw [decide_eq_true (by omega)] at HF
  have f1 := h4.len
  rw [List.length_map] at f1
  have f2 : l.length = n2 := h2.n_eq.symm
  have hs0 := hide (show s.size ≤ 140737488355000 by omega)
  have ht0 := hide fun y (hy : y ∈ t) => show y.size ≤ 140737488355000 by have := size_of_total hy; omega
  have g3 := encInts_le' l
  have g4 := encStrs_le t
  obtain ⟨E1, r1⟩ : ∃ E, Hid (encInt x = E) := ⟨_, rfl⟩
  obtain ⟨E2, r2⟩ : ∃ E, Hid (encBytes s.data.toList = E) := ⟨_, rfl⟩
  obtain ⟨E3, r3⟩ : ∃ E, Hid (encInts l = E) := ⟨_, rfl⟩
  obtain ⟨E4, r4⟩ : ∃ E, Hid (encStrs t = E) := ⟨_, rfl⟩
  obtain ⟨E5, r5⟩ : ∃ E, Hid (encInt (n4 : Int) ++ fl = E) := ⟨_, rfl⟩
  rw [r3.out] at g3
  rw [r4.out] at g4
  have G3 := hide (show E3.length ≤ 140737488355000 by omega)
  have G4 := hide (show E4.length ≤ 140737488355000 by omega)
  have k3 := hide (show l.length ≤ 140737488355000 by omega)
  have k4 := hide (show t.length ≤ 140737488355000 by omega)
  have k5 := hide (show fl.length ≤ 140737488355000 by omega)
  have hl := hide hl
  clear e3 hB q3 f1 f2 ht g3 g4
  have b0 : Below w.heap.size w w ∧ w.heap.size ≤ w.heap.size := ⟨Below.refl _ _, Nat.le_refl _⟩
  go_enter Try.func9, Try.ntmps9
  go_wp2_with (go_at_call 56; refine HF.out.mono ?_; rintro e w1 ⟨rfl, rfl⟩)
  clear HF
  refine (law1_sanity w).mono ?_
  rintro e w1 ⟨rfl, h1⟩
  have b1 := bs0 b0 h1
  clear h1 b0
  go_wp2_with fail
  refine (Int_at r1.out x0 x1).mono ?_
  rintro e w2 ⟨p1, d1, rfl, o1, h1⟩
  have b2 := bs0 b1 h1
  have o1 := o1.sl
  clear h1 b1
  go_wp2_with fail
  refine (rInt_at r1.out x0 x1).mono ?_
  rintro e w3 ⟨p2, d2, rfl, o2, h1⟩
  have b3 := bs0 b2 h1
  have o1 := o1.below h1
  have o2 := o2.sl
  clear h1 b2
  go_wp2_with fail
  refine (Same_at (r := true) (decide_eq_true rfl) o1 o2).mono ?_
  rintro e w4 ⟨rfl, h1⟩
  have b4 := bs0 b3 h1
  clear h1 b3 o1 o2
  go_wp2_with fail
  refine (Bytes_at r2.out hs0.out).mono ?_
  rintro e w5 ⟨p1, d1, rfl, o1, h1⟩
  have b5 := bs0 b4 h1
  have o1 := o1.sl
  clear h1 b4
  go_wp2_with fail
  refine (rBytes_at r2.out hs0.out).mono ?_
  rintro e w6 ⟨p2, d2, rfl, o2, h1⟩
  have b6 := bs0 b5 h1
  have o1 := o1.below h1
  have o2 := o2.sl
  clear h1 b5
  go_wp2_with fail
  refine (Same_at (r := true) (decide_eq_true rfl) o1 o2).mono ?_
  rintro e w7 ⟨rfl, h1⟩
  have b7 := bs0 b6 h1
  clear h1 b6 o1 o2
  go_wp2_with fail
  refine (Ints_at r3.out hl.out G3.out k3.out (h2.below b7.1)).mono ?_
  rintro e w8 ⟨p1, d1, rfl, o1, h1⟩
  have b8 := bs0 b7 h1
  have o1 := o1.sl
  clear h1 b7
  go_wp2_with fail
  refine (rInts_at r3.out hl.out G3.out k3.out (h2.below b8.1)).mono ?_
  rintro e w9 ⟨p2, d2, rfl, o2, h1⟩
  have b9 := bs0 b8 h1
  have o1 := o1.below h1
  have o2 := o2.sl
  clear h1 b8
  go_wp2_with fail
  refine (Same_at (r := true) (decide_eq_true rfl) o1 o2).mono ?_
  rintro e w10 ⟨rfl, h1⟩
  have b10 := bs0 b9 h1
  clear h1 b9 o1 o2
  go_wp2_with fail
  refine (Strings_at r4.out ht0.out G4.out k4.out (h3.below b10.1)).mono ?_
  rintro e w11 ⟨p1, d1, rfl, o1, h1⟩
  have b11 := bs0 b10 h1
  have o1 := o1.sl
  clear h1 b10
  go_wp2_with fail
  refine (rStrings_at r4.out ht0.out G4.out k4.out (h3.below b11.1)).mono ?_
  rintro e w12 ⟨p2, d2, rfl, o2, h1⟩
  have b12 := bs0 b11 h1
  have o1 := o1.below h1
  have o2 := o2.sl
  clear h1 b11
  go_wp2_with fail
  refine (Same_at (r := true) (decide_eq_true rfl) o1 o2).mono ?_
  rintro e w13 ⟨rfl, h1⟩
  have b13 := bs0 b12 h1
  clear h1 b12 o1 o2
  go_wp2_with fail
  refine (Digests_at r5.out k5.out (h4.below b13.1)).mono ?_
  rintro e w14 ⟨p1, d1, rfl, o1, h1⟩
  have b14 := bs0 b13 h1
  have o1 := o1.sl
  clear h1 b13
  go_wp2_with fail
  refine (rDigests_at r5.out k5.out (h4.below b14.1)).mono ?_
  rintro e w15 ⟨p2, d2, rfl, o2, h1⟩
  have b15 := bs0 b14 h1
  have o1 := o1.below h1
  have o2 := o2.sl
  clear h1 b14
  go_wp2_with fail
  refine (Same_at (r := true) (decide_eq_true rfl) o1 o2).mono ?_
  rintro e w16 ⟨rfl, h1⟩
  have b16 := bs0 b15 h1
  clear h1 b15 o1 o2
  go_wp2_with fail
  go_ret
  exact ⟨rfl, b16.1⟩
end Go.Proofs.Ytalicdpocgomkaa
