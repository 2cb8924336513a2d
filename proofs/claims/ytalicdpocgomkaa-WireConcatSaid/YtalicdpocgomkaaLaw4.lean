import Derived.Test.YtalicdpocgomkaaLaw3
import Derived.Test.YtalicdpocgomkaaPure5
namespace Go.Proofs.Ytalicdpocgomkaa
open Go.RowKit Go.Dx
theorem decDigs_canon (l : List UInt8) : ((decDigs l).2.2.2 = 0 → 0 ≤ (decDigs l).2.2.1 ∧ (decDigs l).2.2.1 ≤ l.length ∧ encInt (decDigs l).1 ++ (decDigs l).2.1 = l.take (decDigs l).2.2.1.toNat) ∧ (decDigs l).2.1.length ≤ l.length := by
  unfold decDigs
  by_cases hE : cntErr l 16 = 0
  · obtain ⟨A, N, e1, e2, e3, hA, hAN, hN⟩ := cnt_facts (by omega) hE
    have hAN2 : A + N * 16 ≤ l.length := hAN
    have hc := decInt_canon e3
    rw [e1, e2] at hc
    rw [if_pos hE, e1, e2]
    simp only [Int.toNat_natCast] at hc ⊢
    refine ⟨fun _ => ⟨by omega, by omega, ?_⟩, ?_⟩
    · rw [show ((A : Int) + 16 * (N : Int)).toNat = A + N * 16 by omega, List.take_add, hc]
    · rw [List.length_take, List.length_drop]; omega
  · rw [if_neg hE]
    exact ⟨fun h => absurd h hE, by simp⟩
theorem canonH {l : List UInt8} {n : Nat} (hn : n = l.length) {used e : Int} {cs : List UInt8} (h : e = 0 → 0 ≤ used ∧ used ≤ l.length ∧ cs = l.take used.toNat) : e = 0 → 0 ≤ used ∧ used ≤ n ∧ cs = l.take used.toNat := by
  subst hn; exact h
set_option maxRecDepth 100000 in
set_option maxHeartbeats 1000000 in
theorem walk_Canonical (l : List UInt8) (a : Option Addr) (n c : Nat) (w : World) (hs : Sl w 1 a n c (l.map B8)) :
    Calls Try.prog 13 #[.slice a n c] w fun e w' => e = .returned (.bool true) ∧ Below w.heap.size w w' := by
  have hmf : ∀ (fn : Fn) (first cap : Array Value) (w : World), (Instr.makeFunc fn first cap).run Try.prog w = .ok (.func fn first cap) w := fun _ _ _ _ => rfl
  by_cases hmost : 2000 < n
  · clear hs
    go_enter Try.func13, Try.ntmps13
    go_wp2_with (go_at_call 57; refine (law1_sanity _).mono ?_; rintro e w1 ⟨rfl, hb⟩)
    go_ret
    exact ⟨rfl, (bstep ⟨Below.refl _ _, Nat.le_refl _⟩ hb).1⟩
  · have hn := hs.n_eq
    have hlen : Hid (l.length ≤ 2000) := by show _ ≤ _; omega
    have hmo : n ≤ 2000 := by omega
    obtain ⟨⟨x1, x2, x3⟩, hr1⟩ : ∃ r, Hid (decInt l = r) := ⟨_, rfl⟩
    obtain ⟨⟨y1, y2, y3⟩, hr2⟩ : ∃ r, Hid (decBytes l = r) := ⟨_, rfl⟩
    obtain ⟨⟨z1, z2, z3⟩, hr3⟩ : ∃ r, Hid (decSeq decInt l = r) := ⟨_, rfl⟩
    obtain ⟨⟨u1, u2, u3⟩, hr4⟩ : ∃ r, Hid (decSeq decBytes l = r) := ⟨_, rfl⟩
    obtain ⟨⟨v1, v2, v3, v4⟩, hr5⟩ : ∃ r, Hid (decDigs l = r) := ⟨_, rfl⟩
    have H1 : Hid (x3 = 0 → 0 ≤ x2 ∧ x2 ≤ n ∧ encInt x1 = l.take x2.toNat) := canonH hn (by have := canon_int l; rw [hr1.out] at this; exact this)
    have H2 : Hid (y3 = 0 → 0 ≤ y2 ∧ y2 ≤ n ∧ encBytes y1.data.toList = l.take y2.toNat) := canonH hn (by have := canon_bytes l; rw [hr2.out] at this; exact this)
    have H3 : Hid (z3 = 0 → 0 ≤ z2 ∧ z2 ≤ n ∧ encInts z1 = l.take z2.toNat) := canonH hn (by
      have := @decSeq_canon _ _ _ canon_int l; rw [hr3.out] at this; intro h; obtain ⟨h1, h2, h3, _⟩ := this h; exact ⟨h1, h2, h3⟩)
    have H4 : Hid (u3 = 0 → 0 ≤ u2 ∧ u2 ≤ n ∧ encStrs u1 = l.take u2.toNat) := canonH hn (by
      have := @decSeq_canon _ _ _ canon_bytes l; rw [hr4.out] at this; intro h; obtain ⟨h1, h2, h3, _⟩ := this h; exact ⟨h1, h2, h3⟩)
    have H5 : Hid (v4 = 0 → 0 ≤ v3 ∧ v3 ≤ n ∧ encInt v1 ++ v2 = l.take v3.toNat) := canonH hn (by have := (decDigs_canon l).1; rw [hr5.out] at this; exact this)
    have Q1 : Hid (-9223372036854775808 ≤ x1 ∧ x1 ≤ 9223372036854775807) := by have := decInt_range l; rw [hr1.out] at this; exact this
    have Q2 : Hid (y1.size ≤ 140737488355000) := by have := decBytes_short l; rw [hr2.out] at this; exact Nat.le_trans (Nat.le_trans this hlen.out) (by decide)
    have Q3 : Hid ((∀ x ∈ z1, -9223372036854775808 ≤ x ∧ x ≤ 9223372036854775807) ∧ (encInts z1).length ≤ 140737488355000 ∧ z1.length ≤ 140737488355000) := by
      have h1 := decSeq_all (P := fun x => -9223372036854775808 ≤ x ∧ x ≤ 9223372036854775807) decInt_range l
      have h2 := decInts_short l
      have h3 := hlen.out
      rw [hr3.out] at h1 h2
      exact ⟨h1, by have := h2.1; simp only at this; omega, by have := h2.2; simp only at this; omega⟩
    have Q4 : Hid ((∀ x ∈ u1, x.size ≤ 140737488355000) ∧ (encStrs u1).length ≤ 140737488355000 ∧ u1.length ≤ 140737488355000) := by
      have h2 := decStrs_short l
      have h3 := hlen.out
      rw [hr4.out] at h2
      exact ⟨fun x hx => by have := h2.2.2 x hx; omega, by have := h2.1; simp only at this; omega, by have := h2.2.1; simp only at this; omega⟩
    have Q5 : Hid (v2.length ≤ 140737488355000) := by
      have h2 := (decDigs_canon l).2
      have h3 := hlen.out
      rw [hr5.out] at h2
      simp only at h2
      show _ ≤ _
      omega
    clear hn hmost
    have b0 : Below w.heap.size w w ∧ w.heap.size ≤ w.heap.size := ⟨Below.refl _ _, Nat.le_refl _⟩
    go_enter Try.func13, Try.ntmps13
    go_wp2_with fail
    have k0 : (w.alloc (.cells #[.slice a n c] 23)).cell? ⟨w.heap.size, 0, none⟩ = some (.slice a n c) := by rw [World.cell?_alloc_at _ _ _ _ rfl]; rfl
    have s0 := hs.alloc (.cells #[.slice a n c] 23)
    have b1 : Below w.heap.size w (w.alloc (.cells #[.slice a n c] 23)) ∧ w.heap.size ≤ (w.alloc (.cells #[.slice a n c] 23)).heap.size := ⟨b0.1.alloc b0.2 _, by simp⟩
    obtain ⟨w0, hw0⟩ : ∃ w0, w0 = w.alloc (.cells #[.slice a n c] 23) := ⟨_, rfl⟩
    rw [← hw0] at k0 s0 b1 ⊢
    clear hw0 b0 hs
    refine (GetInt_any s0 hr1.out).mono ?_
    rintro e w1 ⟨rfl, rfl⟩
    go_wp2_with fail
    refine (GetBytes_at hr2.out s0).mono ?_
    rintro e w2 ⟨rfl, h1⟩
    have b2 := bs0 b1 h1
    have s2 := s0.below h1
    have k2 := (h1.cell (World.block_lt_of_cell? _ _ k0)).trans k0
    clear h1 b1
    go_wp2_with fail
    refine (GetInts_at hr3.out (Nat.le_trans hlen.out (by decide)) s2).mono ?_
    rintro e w3 ⟨a3, c3, rfl, o3, h1⟩
    have b3 := bs0 b2 h1
    have s3 := s2.below h1
    have k3 := (h1.cell (World.block_lt_of_cell? _ _ k2)).trans k2
    have o3 := o3.sl
    clear h1 b2
    go_wp2_with fail
    refine (GetStrings_at hr4.out (Nat.le_trans hlen.out (by decide)) s3).mono ?_
    rintro e w4 ⟨a4, c4, rfl, o4, h1⟩
    have b4 := bs0 b3 h1
    have s4 := s3.below h1
    have k4 := (h1.cell (World.block_lt_of_cell? _ _ k3)).trans k3
    have o3 := o3.below h1
    have o4 := o4.sl
    clear h1 b3
    go_wp2_with fail
    refine (GetDigests_at hr5.out (Nat.le_trans hlen.out (by decide)) s4).mono ?_
    rintro e w5 ⟨a5, c5, rfl, o5, h1⟩
    have b5 := bs0 b4 h1
    have s5 := s4.below h1
    have k5 := (h1.cell (World.block_lt_of_cell? _ _ k4)).trans k4
    have o3 := o3.below h1
    have o4 := o4.below h1
    have o5 := o5.sl
    clear h1 b4
    go_wp2_with fail
    refine (law1_sanity _).mono ?_
    rintro e w6 ⟨rfl, h1⟩
    have b6 := bs0 b5 h1
    have s6 := s5.below h1
    have k6 := (h1.cell (World.block_lt_of_cell? _ _ k5)).trans k5
    have o3 := o3.below h1
    have o4 := o4.below h1
    have o5 := o5.below h1
    clear h1 b5
    go_wp2_with fail
    refine (Int_at rfl Q1.out.1 Q1.out.2).mono ?_
    rintro e w7 ⟨f, g, rfl, oc, h1⟩
    have b7 := bs0 b6 h1
    have s7 := s6.below h1
    have k7 := (h1.cell (World.block_lt_of_cell? _ _ k6)).trans k6
    have o3 := o3.below h1
    have o4 := o4.below h1
    have o5 := o5.below h1
    have oc := oc.sl
    clear h1 b6
    go_wp2_with fail
    refine (canon_is l a n c _ _ s7 k7 hmo _ _ _ _ _ _ oc H1.out).mono ?_
    rintro e w8 ⟨rfl, h1⟩
    have b8 := bs0 b7 h1
    have s8 := s7.below h1
    have k8 := (h1.cell (World.block_lt_of_cell? _ _ k7)).trans k7
    have o3 := o3.below h1
    have o4 := o4.below h1
    have o5 := o5.below h1
    clear h1 b7
    clear oc
    go_wp2_with fail
    refine (Bytes_at rfl Q2.out).mono ?_
    rintro e w9 ⟨f, g, rfl, oc, h1⟩
    have b9 := bs0 b8 h1
    have s9 := s8.below h1
    have k9 := (h1.cell (World.block_lt_of_cell? _ _ k8)).trans k8
    have o3 := o3.below h1
    have o4 := o4.below h1
    have o5 := o5.below h1
    have oc := oc.sl
    clear h1 b8
    go_wp2_with fail
    refine (canon_is l a n c _ _ s9 k9 hmo _ _ _ _ _ _ oc H2.out).mono ?_
    rintro e w10 ⟨rfl, h1⟩
    have b10 := bs0 b9 h1
    have s10 := s9.below h1
    have k10 := (h1.cell (World.block_lt_of_cell? _ _ k9)).trans k9
    have o3 := o3.below h1
    have o4 := o4.below h1
    have o5 := o5.below h1
    clear h1 b9
    clear oc
    go_wp2_with fail
    refine (Ints_at rfl Q3.out.1 Q3.out.2.1 Q3.out.2.2 o3).mono ?_
    rintro e w11 ⟨f, g, rfl, oc, h1⟩
    have b11 := bs0 b10 h1
    have s11 := s10.below h1
    have k11 := (h1.cell (World.block_lt_of_cell? _ _ k10)).trans k10
    have o3 := o3.below h1
    have o4 := o4.below h1
    have o5 := o5.below h1
    have oc := oc.sl
    clear h1 b10
    clear o3
    go_wp2_with fail
    refine (canon_is l a n c _ _ s11 k11 hmo _ _ _ _ _ _ oc H3.out).mono ?_
    rintro e w12 ⟨rfl, h1⟩
    have b12 := bs0 b11 h1
    have s12 := s11.below h1
    have k12 := (h1.cell (World.block_lt_of_cell? _ _ k11)).trans k11
    have o4 := o4.below h1
    have o5 := o5.below h1
    clear h1 b11
    clear oc
    go_wp2_with fail
    refine (Strings_at rfl Q4.out.1 Q4.out.2.1 Q4.out.2.2 o4).mono ?_
    rintro e w13 ⟨f, g, rfl, oc, h1⟩
    have b13 := bs0 b12 h1
    have s13 := s12.below h1
    have k13 := (h1.cell (World.block_lt_of_cell? _ _ k12)).trans k12
    have o4 := o4.below h1
    have o5 := o5.below h1
    have oc := oc.sl
    clear h1 b12
    clear o4
    go_wp2_with fail
    refine (canon_is l a n c _ _ s13 k13 hmo _ _ _ _ _ _ oc H4.out).mono ?_
    rintro e w14 ⟨rfl, h1⟩
    have b14 := bs0 b13 h1
    have s14 := s13.below h1
    have k14 := (h1.cell (World.block_lt_of_cell? _ _ k13)).trans k13
    have o5 := o5.below h1
    clear h1 b13
    clear oc
    go_wp2_with fail
    have hD5 := Digests_at (n := v1) (r := encInt v1 ++ v2) rfl Q5.out o5
    obtain ⟨C5, HC5⟩ : ∃ C, Hid (C = encInt v1 ++ v2) := ⟨_, rfl⟩
    rw [← HC5.out] at hD5 H5
    refine hD5.mono ?_
    rintro e w15 ⟨f, g, rfl, oc, h1⟩
    have b15 := bs0 b14 h1
    have s15 := s14.below h1
    have k15 := (h1.cell (World.block_lt_of_cell? _ _ k14)).trans k14
    have o5 := o5.below h1
    have oc := oc.sl
    clear h1 b14
    clear o5
    go_wp2_with fail
    refine (canon_is l a n c _ _ s15 k15 hmo v3 v4 C5 _ _ _ oc H5.out).mono ?_
    rintro e w16 ⟨rfl, h1⟩
    have b16 := bs0 b15 h1
    have s16 := s15.below h1
    have k16 := (h1.cell (World.block_lt_of_cell? _ _ k15)).trans k15
    clear h1 b15
    clear oc
    go_wp2_with fail
    go_ret
    exact ⟨rfl, b16.1⟩
end Go.Proofs.Ytalicdpocgomkaa
