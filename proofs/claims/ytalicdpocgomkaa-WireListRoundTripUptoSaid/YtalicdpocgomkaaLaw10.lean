import Derived.Test.YtalicdpocgomkaaLaw9
import Derived.Test.YtalicdpocgomkaaTypes3
namespace Go.Proofs.Ytalicdpocgomkaa
open Go.RowKit Go.Dx

theorem decDigs_round {fl : List UInt8} {n : Nat} (hf : fl.length = n * 16) (hN : n ≤ 140737488355000) (t : List UInt8) : decDigs ((encInt (n : Int) ++ fl) ++ t) = (n, fl, (((encInt (n : Int) ++ fl).length : Nat) : Int), 0) := by
  have hc : cntErr (encInt (n : Int) ++ (fl ++ t)) 16 = 0 := cnt_round (by omega) (by omega) (by rw [List.length_append, show ((16 : Int).toNat) = 16 from rfl]; omega)
  have hd := decInt_enc (n := (n : Int)) (by omega) (by omega) (fl ++ t)
  rw [List.append_assoc]
  unfold decDigs
  rw [if_pos hc, hd]
  simp only [Int.toNat_natCast]
  rw [List.drop_left, show (fl ++ t).take (n * 16) = fl by rw [← hf]; exact List.take_left, List.length_append, hf]
  refine Prod.ext rfl (Prod.ext rfl (Prod.ext ?_ rfl))
  show ((encInt (n : Int)).length : Int) + 16 * (n : Int) = (((encInt (n : Int)).length + n * 16 : Nat) : Int)
  omega
theorem rt_bytes {s : ByteArray} (hs : s.size ≤ 140737488355000) {E : List UInt8} (hE : encBytes s.data.toList = E) (t : List UInt8) : decBytes (E ++ t) = (s, (E.length : Int), 0) := by
  subst hE; exact (round_bytes s t (by omega)).1
theorem rt_ints {l : List Int} (hl : ∀ x ∈ l, -9223372036854775808 ≤ x ∧ x ≤ 9223372036854775807) (hN : l.length ≤ 140737488355000) {E : List UInt8} (hE : encInts l = E) (t : List UInt8) : decSeq decInt (E ++ t) = (l, (E.length : Int), 0) := by
  subst hE; exact decSeq_round round_int l hl (by omega) t
theorem rt_strs {l : List ByteArray} (hl : ∀ x ∈ l, x.size ≤ 140737488355000) (hN : l.length ≤ 140737488355000) {E : List UInt8} (hE : encStrs l = E) (t : List UInt8) : decSeq decBytes (E ++ t) = (l, (E.length : Int), 0) := by
  subst hE; exact decSeq_round round_bytes l (fun x hx => by have := hl x hx; show x.size ≤ _; omega) (by omega) t
theorem rt_digs {fl : List UInt8} {n : Nat} (hf : fl.length = n * 16) (hN : n ≤ 140737488355000) {E : List UInt8} (hE : encInt (n : Int) ++ fl = E) (t : List UInt8) : decDigs (E ++ t) = (n, fl, (E.length : Int), 0) := by
  subst hE; exact decDigs_round hf hN t

set_option maxRecDepth 100000 in
set_option maxHeartbeats 4000000 in
theorem walk_ListRoundTrip (s : ByteArray) (hss : s.size ≤ reachBytes)
    (l : List Int) (hl : ∀ x ∈ l, -9223372036854775808 ≤ x ∧ x ≤ 9223372036854775807) (a2 : Option Addr) (n2 c2 : Nat) (w : World) (h2 : Sl w 1 a2 n2 c2 (l.map I64)) (hn2 : n2 ≤ reachBytes)
    (t : List ByteArray) (ht : t.length + total t ≤ 1048576) (a3 : Option Addr) (n3 c3 : Nat) (h3 : Sl w 1 a3 n3 c3 (t.map Value.string))
    (fl : List UInt8) (a4 : Option Addr) (n4 c4 : Nat) (h4 : Sl w 16 a4 n4 c4 (fl.map B8)) (hn4 : n4 ≤ reachBytes)
    (tl : List UInt8) (a5 : Option Addr) (n5 c5 : Nat) (h5 : Sl w 1 a5 n5 c5 (tl.map B8)) (hn5 : n5 ≤ reachBytes) :
    Calls Try.prog 14 #[.string s, .slice a2 n2 c2, .slice a3 n3 c3, .slice a4 n4 c4, .slice a5 n5 c5] w fun e w' => e = .returned (.bool true) ∧ Below w.heap.size w w' := by
  have e3 := h3.n_eq
  unfold reachBytes at *
  by_cases q1 : 2000 < s.size + n2 + n4 + n5
  · go_enter Try.func14, Try.ntmps14
    clear e3
    go_wp2_with (go_at_call 57; refine (law1_sanity w).mono ?_; rintro e w1 ⟨rfl, hb⟩)
    go_ret
    exact ⟨rfl, hb⟩
  have hB : t.length + total t ≤ 9000000000000000000 := by omega
  have HF := hide (@few_any t hB a3 n3 c3 w h3)
  by_cases q3 : 2000 < t.length + total t
  · rw [decide_eq_false (by omega)] at HF
    clear e3 hB q3 ht
    go_enter Try.func14, Try.ntmps14
    go_wp2_with (first
      | (go_at_call 56; refine HF.out.mono ?_; rintro e w1 ⟨rfl, rfl⟩)
      | (go_at_call 57; refine (law1_sanity w).mono ?_; rintro e w1 ⟨rfl, hb⟩))
    go_ret
    exact ⟨rfl, hb⟩
  rw [decide_eq_true (by omega)] at HF
  have f1 := h4.len
  rw [List.length_map] at f1
  have f2 : l.length = n2 := h2.n_eq.symm
  have f3 := h5.n_eq
  have hs0 := hide (show s.size ≤ 140737488355000 by omega)
  have ht0 := hide fun y (hy : y ∈ t) => show y.size ≤ 140737488355000 by have := size_of_total hy; omega
  have g2 := encBytes_le' s.data.toList
  rw [show s.data.toList.length = s.size from Array.length_toList] at g2
  have g3 := encInts_le' l
  have g4 := encStrs_le t
  have g5 : (encInt (n4 : Int) ++ fl).length ≤ 9 + n4 * 16 := by have := encInt_le (n4 : Int); rw [List.length_append]; omega
  obtain ⟨E2, r2⟩ : ∃ E, Hid (encBytes s.data.toList = E) := ⟨_, rfl⟩
  obtain ⟨E3, r3⟩ : ∃ E, Hid (encInts l = E) := ⟨_, rfl⟩
  obtain ⟨E4, r4⟩ : ∃ E, Hid (encStrs t = E) := ⟨_, rfl⟩
  obtain ⟨E5, r5⟩ : ∃ E, Hid (encInt (n4 : Int) ++ fl = E) := ⟨_, rfl⟩
  rw [r2.out] at g2
  rw [r3.out] at g3
  rw [r4.out] at g4
  rw [r5.out] at g5
  have g2 : E2.length ≤ 100000 := by omega
  have g3 : E3.length ≤ 100000 := by omega
  have g4 : E4.length ≤ 100000 := by omega
  have g5 : E5.length ≤ 100000 := by omega
  have g6 : tl.length ≤ 100000 := by omega
  have k3 := hide (show l.length ≤ 140737488355000 by omega)
  have k4 := hide (show t.length ≤ 140737488355000 by omega)
  have k5 := hide (show fl.length ≤ 140737488355000 by omega)
  have D2 := hide (rt_bytes hs0.out r2.out tl)
  have D3 := hide (rt_ints hl k3.out r3.out tl)
  have D4 := hide (rt_strs ht0.out k4.out r4.out tl)
  have D5 := hide (rt_digs f1 (by omega) r5.out tl)
  have N2 := hide (show (E2 ++ tl).length ≤ 1000000000 by rw [List.length_append]; omega)
  have N3 := hide (show (E3 ++ tl).length ≤ 1000000000 by rw [List.length_append]; omega)
  have N4 := hide (show (E4 ++ tl).length ≤ 1000000000 by rw [List.length_append]; omega)
  have N5 := hide (show (E5 ++ tl).length ≤ 1000000000 by rw [List.length_append]; omega)
  have G3 := hide (show E3.length ≤ 140737488355000 by omega)
  have G4 := hide (show E4.length ≤ 140737488355000 by omega)
  have hl := hide hl
  have hn5' : n5 ≤ 100000 := by omega
  clear e3 hB q3 f1 f2 f3 ht g6
  have b0 : Below w.heap.size w w ∧ w.heap.size ≤ w.heap.size := ⟨Below.refl _ _, Nat.le_refl _⟩
  go_enter Try.func14, Try.ntmps14
  go_wp2_with (go_at_call 56; refine HF.out.mono ?_; rintro e w1 ⟨rfl, rfl⟩)
  clear HF
  refine (Bytes_at r2.out hs0.out).mono ?_
  rintro e w2 ⟨p2, d2, rfl, o2, h1⟩
  have b2 := bs0 b0 h1
  have o2 := o2.sl
  clear h1 b0
  go_wp2_with fail
  refine (Ints_at r3.out hl.out G3.out k3.out (h2.below b2.1)).mono ?_
  rintro e w3 ⟨p3, d3, rfl, o3, h1⟩
  have b3 := bs0 b2 h1
  have o2 := o2.below h1
  have o3 := o3.sl
  clear h1 b2
  go_wp2_with fail
  refine (Digests_at r5.out k5.out (h4.below b3.1)).mono ?_
  rintro e w4 ⟨p5, d5, rfl, o5, h1⟩
  have b4 := bs0 b3 h1
  have o2 := o2.below h1
  have o3 := o3.below h1
  have o5 := o5.sl
  clear h1 b3
  go_wp2_with fail
  refine (Strings_at r4.out ht0.out G4.out k4.out (h3.below b4.1)).mono ?_
  rintro e w5 ⟨p4, d4, rfl, o4, h1⟩
  have b5 := bs0 b4 h1
  have o2 := o2.below h1
  have o3 := o3.below h1
  have o5 := o5.below h1
  have o4 := o4.sl
  clear h1 b4
  go_wp2_with (first
      | (with_reducible refine cutfull_b 59 _ _ _ _ _ _ _ rfl o2 _ _ _ _ rfl rfl rfl rfl ?_; intro hs1)
      | (at_builtin; refine appfull_b rfl _ _ rfl _ _ _ rfl hs1 _ _ _ _ rfl (h5.below b5.1) (by omega) ?_; intro a6 c6 w6 s6 h1))
  have b6 := bs0 b5 h1
  have o3 := o3.below h1
  have o5 := o5.below h1
  have o4 := o4.below h1
  clear h1 hs1 o2 b5
  refine (GetBytes_at D2.out s6).mono ?_
  rintro e w7 ⟨rfl, h1⟩
  have b7 := bs0 b6 h1
  have o3 := o3.below h1
  have o5 := o5.below h1
  have o4 := o4.below h1
  clear h1 s6 b6
  go_wp2_with (first
      | (with_reducible refine cutfull_b 72 _ _ _ _ _ _ _ rfl o3 _ _ _ _ rfl rfl rfl rfl ?_; intro hs1)
      | (at_builtin; refine appfull_b rfl _ _ rfl _ _ _ rfl hs1 _ _ _ _ rfl (h5.below b7.1) (by omega) ?_; intro a6 c6 w8 s6 h1))
  have b8 := bs0 b7 h1
  have o5 := o5.below h1
  have o4 := o4.below h1
  clear h1 hs1 o3 b7
  refine (GetInts_at D3.out N3.out s6).mono ?_
  rintro e w9 ⟨y3, z3, rfl, v3, h1⟩
  have b9 := bs0 b8 h1
  have o5 := o5.below h1
  have o4 := o4.below h1
  have v3 := v3.sl
  clear h1 s6 b8
  go_wp2_with (first
      | (with_reducible refine cutfull_b 85 _ _ _ _ _ _ _ rfl o5 _ _ _ _ rfl rfl rfl rfl ?_; intro hs1)
      | (at_builtin; refine appfull_b rfl _ _ rfl _ _ _ rfl hs1 _ _ _ _ rfl (h5.below b9.1) (by omega) ?_; intro a6 c6 w10 s6 h1))
  have b10 := bs0 b9 h1
  have o4 := o4.below h1
  have v3 := v3.below h1
  clear h1 hs1 o5 b9
  refine (GetDigests_at D5.out N5.out s6).mono ?_
  rintro e w11 ⟨y5, z5, rfl, v5, h1⟩
  have b11 := bs0 b10 h1
  have o4 := o4.below h1
  have v3 := v3.below h1
  have v5 := v5.sl
  clear h1 s6 b10
  go_wp2_with (first
      | (with_reducible refine cutfull_b 98 _ _ _ _ _ _ _ rfl o4 _ _ _ _ rfl rfl rfl rfl ?_; intro hs1)
      | (at_builtin; refine appfull_b rfl _ _ rfl _ _ _ rfl hs1 _ _ _ _ rfl (h5.below b11.1) (by omega) ?_; intro a6 c6 w12 s6 h1))
  have b12 := bs0 b11 h1
  have v3 := v3.below h1
  have v5 := v5.below h1
  clear h1 hs1 o4 b11
  refine (GetStrings_at D4.out N4.out s6).mono ?_
  rintro e w13 ⟨y4, z4, rfl, v4, h1⟩
  have b13 := bs0 b12 h1
  have v3 := v3.below h1
  have v5 := v5.below h1
  have v4 := v4.sl
  clear h1 s6 b12
  go_wp2_with fail
  refine (law1_sanity _).mono ?_
  rintro e w14 ⟨rfl, h1⟩
  have b14 := bs0 b13 h1
  have v3 := v3.below h1
  have v4 := v4.below h1
  have v5 := v5.below h1
  clear h1 b13
  go_wp2_with fail
  refine (SameTexts_at (r := true) (decide_eq_true rfl) v4 (h3.below b14.1)).mono ?_
  rintro e w15 ⟨rfl, h1⟩
  have b15 := bs0 b14 h1
  have v3 := v3.below h1
  have v5 := v5.below h1
  clear h1 b14 v4
  go_wp2_with fail
  refine (SameInts_at (r := true) (decide_eq_true rfl) v3 (h2.below b15.1)).mono ?_
  rintro e w16 ⟨rfl, h1⟩
  have b16 := bs0 b15 h1
  have v5 := v5.below h1
  clear h1 b15 v3
  go_wp2_with fail
  refine (SameDigests_at (r := true) (decide_eq_true rfl) v5 (h4.below b16.1)).mono ?_
  rintro e w17 ⟨rfl, h1⟩
  have b17 := bs0 b16 h1
  clear h1 b16 v5
  go_wp2_with fail
  go_ret
  exact ⟨rfl, b17.1⟩
end Go.Proofs.Ytalicdpocgomkaa
