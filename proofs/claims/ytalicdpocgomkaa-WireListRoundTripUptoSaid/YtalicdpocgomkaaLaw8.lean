import Derived.Test.YtalicdpocgomkaaLaw7
namespace Go.Proofs.Ytalicdpocgomkaa
open Go.RowKit Go.Dx

theorem tr_int {x : Int} (h0 : -9223372036854775808 ≤ x) (h1 : x ≤ 9223372036854775807) {E : List UInt8} (hE : encInt x = E) {i : Nat} (hi : i < E.length) : decInt (E.take i) = (0, 0, 3) := by
  subst hE; exact decInt_cut h0 h1 hi
theorem tr_bytes {s : ByteArray} (hs : s.size ≤ 140737488355000) {E : List UInt8} (hE : encBytes s.data.toList = E) {i : Nat} (hi : i < E.length) : ∃ y1 y2, decBytes (E.take i) = (y1, y2, 3) := by
  subst hE
  have h := cuts_bytes s i (by show s.size ≤ _; omega) hi
  exact ⟨_, _, Prod.ext rfl (Prod.ext rfl h)⟩
theorem tr_ints {l : List Int} (hl : ∀ x ∈ l, -9223372036854775808 ≤ x ∧ x ≤ 9223372036854775807) (hN : l.length ≤ 140737488355000) {E : List UInt8} (hE : encInts l = E) {i : Nat} (hi : i < E.length) : decSeq decInt (E.take i) = ([], 0, 3) := by
  subst hE; exact decSeq_cut round_int cuts_int l hl (by omega) hi
theorem tr_strs {l : List ByteArray} (hl : ∀ x ∈ l, x.size ≤ 140737488355000) (hN : l.length ≤ 140737488355000) {E : List UInt8} (hE : encStrs l = E) {i : Nat} (hi : i < E.length) : decSeq decBytes (E.take i) = ([], 0, 3) := by
  subst hE; exact decSeq_cut round_bytes cuts_bytes l (fun x hx => by have := hl x hx; show x.size ≤ _; omega) (by omega) hi
theorem tr_digs {fl : List UInt8} {n : Nat} (hf : fl.length = n * 16) (hN : n ≤ 140737488355000) {E : List UInt8} (hE : encInt n ++ fl = E) {i : Nat} (hi : i < E.length) : decDigs (E.take i) = (0, [], 0, 3) := by
  subst hE
  rw [List.length_append] at hi
  have h3 : cntErr ((encInt (n : Int) ++ fl).take i) 16 = 3 := by
    by_cases h : i < (encInt (n : Int)).length
    · exact cnt_more_enc (by omega) _ h
    · rw [take_enc _ (by omega)]
      exact cnt_more (S := 16) (by omega) (by omega) _ (by rw [List.length_take]; omega)
  unfold decDigs
  rw [if_neg (by rw [h3]; decide), h3]
theorem encStrs_le (l : List ByteArray) : (encStrs l).length ≤ 9 + 9 * l.length + total l := by
  have h : ∀ l : List ByteArray, (l.flatMap fun s => encBytes s.data.toList).length ≤ 9 * l.length + total l := by
    intro l
    induction l with
    | nil => simp [total]
    | cons x l ih =>
      have h2 := encInt_le (x.data.toList.length : Int)
      have h3 : x.data.toList.length = x.size := Array.length_toList
      simp only [List.flatMap_cons, List.length_append, List.length_cons, total, List.map_cons, List.sum_cons, encBytes] at *
      omega
  have h1 := h l
  have h2 := encInt_le (l.length : Int)
  unfold encStrs
  rw [List.length_append]
  omega
theorem encInts_le' (l : List Int) : (encInts l).length ≤ 9 + 9 * l.length := by
  have h : ∀ l : List Int, (l.flatMap encInt).length ≤ 9 * l.length := by
    intro l
    induction l with
    | nil => simp
    | cons x l ih => have := encInt_le x; rw [List.flatMap_cons, List.length_append, List.length_cons]; omega
  have h1 := h l
  have h2 := encInt_le (l.length : Int)
  unfold encInts
  rw [List.length_append]
  omega
theorem encBytes_le' (l : List UInt8) : (encBytes l).length ≤ 9 + l.length := by
  have h2 := encInt_le (l.length : Int)
  unfold encBytes
  rw [List.length_append]
  omega

set_option maxRecDepth 100000 in
set_option maxHeartbeats 4000000 in
theorem walk_Truncated (x : Int) (x0 : -9223372036854775808 ≤ x) (x1 : x ≤ 9223372036854775807) (s : ByteArray) (hss : s.size ≤ reachBytes)
    (l : List Int) (hl : ∀ x ∈ l, -9223372036854775808 ≤ x ∧ x ≤ 9223372036854775807) (a2 : Option Addr) (n2 c2 : Nat) (w : World) (h2 : Sl w 1 a2 n2 c2 (l.map I64)) (hn2 : n2 ≤ reachBytes)
    (t : List ByteArray) (ht : ∀ y ∈ t, y.size ≤ reachBytes) (a3 : Option Addr) (n3 c3 : Nat) (h3 : Sl w 1 a3 n3 c3 (t.map Value.string))
    (fl : List UInt8) (a4 : Option Addr) (n4 c4 : Nat) (h4 : Sl w 16 a4 n4 c4 (fl.map B8)) (hn4 : n4 ≤ reachBytes) :
    Calls Try.prog 15 #[.int .i64 x, .string s, .slice a2 n2 c2, .slice a3 n3 c3, .slice a4 n4 c4] w fun e w' => e = .returned (.bool true) ∧ Below w.heap.size w w' := by
  have e3 := h3.n_eq
  have m3 := Nat.le_trans h3.le h3.cap
  unfold maxLen at m3
  unfold reachBytes at *
  by_cases q1 : 400 < s.size + 9 * n2 + 16 * n4
  · go_enter Try.func15, Try.ntmps15
    clear e3
    go_wp2_with (go_at_call 57; refine (law1_sanity w).mono ?_; rintro e w1 ⟨rfl, hb⟩)
    go_ret
    exact ⟨rfl, hb⟩
  by_cases q2 : 40 < n3
  · go_enter Try.func15, Try.ntmps15
    clear e3
    go_wp2_with (go_at_call 57; refine (law1_sanity w).mono ?_; rintro e w1 ⟨rfl, hb⟩)
    go_ret
    exact ⟨rfl, hb⟩
  have hT := total_le ht
  have hB : t.length + total t ≤ 9000000000000000000 := by
    have : t.length * 140737488351232 ≤ 40 * 140737488351232 := Nat.mul_le_mul_right _ (by omega)
    omega
  have HF := hide (@few_any t hB a3 n3 c3 w h3)
  by_cases q3 : 2000 < t.length + total t
  · rw [decide_eq_false (by omega)] at HF
    clear e3 hT hB q3
    go_enter Try.func15, Try.ntmps15
    go_wp2_with (first
      | (go_at_call 56; refine HF.out.mono ?_; rintro e w1 ⟨rfl, rfl⟩)
      | (go_at_call 57; refine (law1_sanity w).mono ?_; rintro e w1 ⟨rfl, hb⟩))
    go_ret
    exact ⟨rfl, hb⟩
  rw [decide_eq_true (by omega)] at HF
  have f1 := h4.len
  rw [List.length_map] at f1
  have f2 : l.length = n2 := h2.n_eq.symm
  have hs0 : s.size ≤ 140737488355000 := by omega
  have ht0 : ∀ y ∈ t, y.size ≤ 140737488355000 := fun y hy => by have := ht y hy; omega
  have g1 := encInt_le x
  have g2 := encBytes_le' s.data.toList
  rw [show s.data.toList.length = s.size from Array.length_toList] at g2
  have g3 := encInts_le' l
  have g4 := encStrs_le t
  have g5 : (encInt (n4 : Int) ++ fl).length ≤ 9 + n4 * 16 := by have := encInt_le (n4 : Int); rw [List.length_append]; omega
  obtain ⟨E1, r1⟩ : ∃ E, Hid (encInt x = E) := ⟨_, rfl⟩
  obtain ⟨E2, r2⟩ : ∃ E, Hid (encBytes s.data.toList = E) := ⟨_, rfl⟩
  obtain ⟨E3, r3⟩ : ∃ E, Hid (encInts l = E) := ⟨_, rfl⟩
  obtain ⟨E4, r4⟩ : ∃ E, Hid (encStrs t = E) := ⟨_, rfl⟩
  obtain ⟨E5, r5⟩ : ∃ E, Hid (encInt (n4 : Int) ++ fl = E) := ⟨_, rfl⟩
  rw [r1.out] at g1
  rw [r2.out] at g2
  rw [r3.out] at g3
  rw [r4.out] at g4
  rw [r5.out] at g5
  have g1 : E1.length ≤ 100000 := by omega
  have g2 : E2.length ≤ 100000 := by omega
  have g3 : E3.length ≤ 100000 := by omega
  have g4 : E4.length ≤ 100000 := by omega
  have g5 : E5.length ≤ 100000 := by omega
  have T1 := hide fun i (hi : i < E1.length) => tr_int x0 x1 r1.out hi
  have T2 := hide fun i (hi : i < E2.length) => tr_bytes hs0 r2.out hi
  have T3 := hide fun i (hi : i < E3.length) => tr_ints hl (by omega) r3.out hi
  have T4 := hide fun i (hi : i < E4.length) => tr_strs ht0 (by omega) r4.out hi
  have T5 := hide fun i (hi : i < E5.length) => tr_digs f1 (by omega) r5.out hi
  have k3 := hide (show l.length ≤ 140737488355000 by omega)
  have k4 := hide (show t.length ≤ 140737488355000 by omega)
  have k5 := hide (show fl.length ≤ 140737488355000 by omega)
  have ht0 := hide ht0
  have hl := hide hl
  clear e3 hT hB q3 f1 f2 ht
  have b0 : Below w.heap.size w w ∧ w.heap.size ≤ w.heap.size := ⟨Below.refl _ _, Nat.le_refl _⟩
  go_enter Try.func15, Try.ntmps15
  go_wp2_with (go_at_call 56; refine HF.out.mono ?_; rintro e w1 ⟨rfl, rfl⟩)
  refine (Int_at r1.out x0 x1).mono ?_
  rintro e w1 ⟨b1, d1, rfl, o1, h1⟩
  have b1' := bs0 b0 h1
  have o1 := o1.sl
  have h2 := h2.below h1
  have h3 := h3.below h1
  have h4 := h4.below h1
  clear h1 b0 HF
  go_wp2_with fail
  refine (Bytes_at r2.out hs0).mono ?_
  rintro e w2 ⟨b2, d2, rfl, o2, h1⟩
  have b2' := bs0 b1' h1
  have o1 := o1.below h1
  have o2 := o2.sl
  have h2 := h2.below h1
  have h3 := h3.below h1
  have h4 := h4.below h1
  clear h1 b1'
  go_wp2_with fail
  refine (Ints_at r3.out hl.out (by omega) k3.out h2).mono ?_
  rintro e w3 ⟨b3, d3, rfl, o3, h1⟩
  have b3' := bs0 b2' h1
  have o1 := o1.below h1
  have o2 := o2.below h1
  have o3 := o3.sl
  have h3 := h3.below h1
  have h4 := h4.below h1
  clear h1 b2' h2
  go_wp2_with fail
  refine (Strings_at r4.out ht0.out (by omega) k4.out h3).mono ?_
  rintro e w4 ⟨b4, d4, rfl, o4, h1⟩
  have b4' := bs0 b3' h1
  have o1 := o1.below h1
  have o2 := o2.below h1
  have o3 := o3.below h1
  have o4 := o4.sl
  have h4 := h4.below h1
  clear h1 b3' h3
  go_wp2_with fail
  refine (Digests_at r5.out k5.out h4).mono ?_
  rintro e w5 ⟨b5, d5, rfl, o5, h1⟩
  have b5' := bs0 b4' h1
  have o1 := o1.below h1
  have o2 := o2.below h1
  have o3 := o3.below h1
  have o4 := o4.below h1
  have o5 := o5.sl
  clear h1 b4' h4
  go_wp2_with fail
  have B0 : Below w.heap.size w (w5.alloc (.cells #[.slice b1 E1.length d1, .slice b2 E2.length d2, .slice b3 E3.length d3, .slice b4 E4.length d4, .slice b5 E5.length d5] 23)) ∧ w.heap.size ≤ (w5.alloc (.cells #[.slice b1 E1.length d1, .slice b2 E2.length d2, .slice b3 E3.length d3, .slice b4 E4.length d4, .slice b5 E5.length d5] 23)).heap.size := ⟨b5'.1.alloc b5'.2 _, by simp; omega⟩
  have S1 := o1.alloc (.cells #[.slice b1 E1.length d1, .slice b2 E2.length d2, .slice b3 E3.length d3, .slice b4 E4.length d4, .slice b5 E5.length d5] 23)
  have S2 := o2.alloc (.cells #[.slice b1 E1.length d1, .slice b2 E2.length d2, .slice b3 E3.length d3, .slice b4 E4.length d4, .slice b5 E5.length d5] 23)
  have S3 := o3.alloc (.cells #[.slice b1 E1.length d1, .slice b2 E2.length d2, .slice b3 E3.length d3, .slice b4 E4.length d4, .slice b5 E5.length d5] 23)
  have S4 := o4.alloc (.cells #[.slice b1 E1.length d1, .slice b2 E2.length d2, .slice b3 E3.length d3, .slice b4 E4.length d4, .slice b5 E5.length d5] 23)
  have S5 := o5.alloc (.cells #[.slice b1 E1.length d1, .slice b2 E2.length d2, .slice b3 E3.length d3, .slice b4 E4.length d4, .slice b5 E5.length d5] 23)
  have C : Sl (w5.alloc (.cells #[.slice b1 E1.length d1, .slice b2 E2.length d2, .slice b3 E3.length d3, .slice b4 E4.length d4, .slice b5 E5.length d5] 23)) 1 (some ⟨w5.heap.size, 0, none⟩) 5 5 [.slice b1 E1.length d1, .slice b2 E2.length d2, .slice b3 E3.length d3, .slice b4 E4.length d4, .slice b5 E5.length d5] := Sl.fresh w5 _ 1 5 _ rfl (by decide)
  clear o1 o2 o3 o4 o5 b5'
  generalize hwo : w5.alloc (.cells #[.slice b1 E1.length d1, .slice b2 E2.length d2, .slice b3 E3.length d3, .slice b4 E4.length d4, .slice b5 E5.length d5] 23) = wo at *
  clear hwo
  generalize w5.heap.size = BB at *
  go_loopg [49] 5 (fun g i w' => ∃ k : Nat, k ≤ 5 ∧ g = 5 - k ∧ i = .int .i64 k ∧ Below wo.heap.size wo w')
  case atStart => exact ⟨0, by omega, by omega, rfl, Below.refl _ _⟩
  case round =>
    obtain ⟨k, hk, hg, rfl, hbo⟩ := hrel
    have HG := hide hg
    clear hg
    have hc0 : wr.cell? ⟨BB, 0, none⟩ = some (.slice b1 E1.length d1) := (C.below hbo).cell _ rfl 0 _ rfl
    have hc1 : wr.cell? ⟨BB, 1, none⟩ = some (.slice b2 E2.length d2) := (C.below hbo).cell _ rfl 1 _ rfl
    have hc2 : wr.cell? ⟨BB, 2, none⟩ = some (.slice b3 E3.length d3) := (C.below hbo).cell _ rfl 2 _ rfl
    have hc3 : wr.cell? ⟨BB, 3, none⟩ = some (.slice b4 E4.length d4) := (C.below hbo).cell _ rfl 3 _ rfl
    have hc4 : wr.cell? ⟨BB, 4, none⟩ = some (.slice b5 E5.length d5) := (C.below hbo).cell _ rfl 4 _ rfl
    have hk' : k = 0 ∨ k = 1 ∨ k = 2 ∨ k = 3 ∨ k = 4 ∨ k = 5 := by omega
    rcases hk' with rfl | rfl | rfl | rfl | rfl | rfl
    · go_wp2
      obtain ⟨wq, rfl⟩ : ∃ wq : World, wq = wr := ⟨_, rfl⟩
      go_loopg [57] E1.length (fun g i w' => ∃ i' : Nat, i' ≤ E1.length ∧ g = E1.length - i' ∧ i = .int .i64 i' ∧ Below wo.heap.size wo w')
      case atStart => exact ⟨0, by omega, by omega, rfl, hbo⟩
      case round =>
        obtain ⟨i, hi, hg2, rfl, hbi⟩ := hrel
        have HG2 := hide hg2
        clear hg2
        have SS := S1.below hbi
        by_cases hlt : i < E1.length ∧ i < 500
        · obtain ⟨hlt, h500⟩ := hlt
          have hlen : (E1.take i).length ≤ 1000000000 := by rw [List.length_take]; omega
          go_wp2_with (with_reducible refine cuthi_b 74 _ _ _ _ _ _ rfl SS _ _ i rfl rfl (Nat.le_of_lt hlt) ?_; intro hc)
          refine (GetInt_at (T1.out i hlt) hc).mono ?_
          rintro e wt ⟨rfl, hq⟩
          have hbt := hbi.trans (hq.mono hbi.size)
          clear hq
          go_wp2_with fail
          go_roundg (E1.length - (i + 1))
          case measure => have := HG2.out; omega
          case rel => exact ⟨i + 1, by omega, rfl, by go_num, hbt⟩
        · go_wp2
          go_roundg (5 - 1)
          case measure => have := HG.out; omega
          case rel => exact ⟨1, by omega, by omega, rfl, hbi⟩
    · go_wp2
      obtain ⟨wq, rfl⟩ : ∃ wq : World, wq = wr := ⟨_, rfl⟩
      go_loopg [57] E2.length (fun g i w' => ∃ i' : Nat, i' ≤ E2.length ∧ g = E2.length - i' ∧ i = .int .i64 i' ∧ Below wo.heap.size wo w')
      case atStart => exact ⟨0, by omega, by omega, rfl, hbo⟩
      case round =>
        obtain ⟨i, hi, hg2, rfl, hbi⟩ := hrel
        have HG2 := hide hg2
        clear hg2
        have SS := S2.below hbi
        by_cases hlt : i < E2.length ∧ i < 500
        · obtain ⟨hlt, h500⟩ := hlt
          have hlen : (E2.take i).length ≤ 1000000000 := by rw [List.length_take]; omega
          obtain ⟨y1, y2, hy⟩ := T2.out i hlt
          have hy := hide hy
          go_wp2_with (with_reducible refine cuthi_b 84 _ _ _ _ _ _ rfl SS _ _ i rfl rfl (Nat.le_of_lt hlt) ?_; intro hc)
          refine (GetBytes_at hy.out hc).mono ?_
          rintro e wt ⟨rfl, hq⟩
          have hbt := hbi.trans (hq.mono hbi.size)
          clear hq
          go_wp2_with fail
          go_roundg (E2.length - (i + 1))
          case measure => have := HG2.out; omega
          case rel => exact ⟨i + 1, by omega, rfl, by go_num, hbt⟩
        · go_wp2
          go_roundg (5 - 2)
          case measure => have := HG.out; omega
          case rel => exact ⟨2, by omega, by omega, rfl, hbi⟩
    · by_cases hd : E3.length ≤ 500
      all_goals
        go_wp2
        obtain ⟨wq, rfl⟩ : ∃ wq : World, wq = wr := ⟨_, rfl⟩
        go_loopg [57] E3.length (fun g i w' => ∃ i' : Nat, i' ≤ E3.length ∧ g = E3.length - i' ∧ i = .int .i64 i' ∧ Below wo.heap.size wo w')
        case atStart => exact ⟨0, by omega, by omega, rfl, hbo⟩
        case round =>
          obtain ⟨i, hi, hg2, rfl, hbi⟩ := hrel
          have HG2 := hide hg2
          clear hg2
          have SS := S3.below hbi
          by_cases hlt : i < E3.length ∧ i < 500
          · obtain ⟨hlt, h500⟩ := hlt
            have hlen : (E3.take i).length ≤ 1000000000 := by rw [List.length_take]; omega
            go_wp2_with (with_reducible refine cuthi_b 94 _ _ _ _ _ _ rfl SS _ _ i rfl rfl (Nat.le_of_lt hlt) ?_; intro hc)
            refine (GetInts_at (T3.out i hlt) hlen hc).mono ?_
            rintro e wt ⟨a9, c9, rfl, o9, hq⟩
            have hbt := hbi.trans (hq.mono hbi.size)
            clear hq
            go_wp2_with fail
            go_roundg (E3.length - (i + 1))
            case measure => have := HG2.out; omega
            case rel => exact ⟨i + 1, by omega, rfl, by go_num, hbt⟩
          · go_wp2
            go_roundg (5 - 3)
            case measure => have := HG.out; omega
            case rel => exact ⟨3, by omega, by omega, rfl, hbi⟩
    · by_cases hd : E4.length ≤ 500
      all_goals
        go_wp2
        obtain ⟨wq, rfl⟩ : ∃ wq : World, wq = wr := ⟨_, rfl⟩
        go_loopg [57] E4.length (fun g i w' => ∃ i' : Nat, i' ≤ E4.length ∧ g = E4.length - i' ∧ i = .int .i64 i' ∧ Below wo.heap.size wo w')
        case atStart => exact ⟨0, by omega, by omega, rfl, hbo⟩
        case round =>
          obtain ⟨i, hi, hg2, rfl, hbi⟩ := hrel
          have HG2 := hide hg2
          clear hg2
          have SS := S4.below hbi
          by_cases hlt : i < E4.length ∧ i < 500
          · obtain ⟨hlt, h500⟩ := hlt
            have hlen : (E4.take i).length ≤ 1000000000 := by rw [List.length_take]; omega
            go_wp2_with (with_reducible refine cuthi_b 104 _ _ _ _ _ _ rfl SS _ _ i rfl rfl (Nat.le_of_lt hlt) ?_; intro hc)
            refine (GetStrings_at (T4.out i hlt) hlen hc).mono ?_
            rintro e wt ⟨a9, c9, rfl, o9, hq⟩
            have hbt := hbi.trans (hq.mono hbi.size)
            clear hq
            go_wp2_with fail
            go_roundg (E4.length - (i + 1))
            case measure => have := HG2.out; omega
            case rel => exact ⟨i + 1, by omega, rfl, by go_num, hbt⟩
          · go_wp2
            go_roundg (5 - 4)
            case measure => have := HG.out; omega
            case rel => exact ⟨4, by omega, by omega, rfl, hbi⟩
    · go_wp2
      obtain ⟨wq, rfl⟩ : ∃ wq : World, wq = wr := ⟨_, rfl⟩
      go_loopg [57] E5.length (fun g i w' => ∃ i' : Nat, i' ≤ E5.length ∧ g = E5.length - i' ∧ i = .int .i64 i' ∧ Below wo.heap.size wo w')
      case atStart => exact ⟨0, by omega, by omega, rfl, hbo⟩
      case round =>
        obtain ⟨i, hi, hg2, rfl, hbi⟩ := hrel
        have HG2 := hide hg2
        clear hg2
        have SS := S5.below hbi
        by_cases hlt : i < E5.length ∧ i < 500
        · obtain ⟨hlt, h500⟩ := hlt
          have hlen : (E5.take i).length ≤ 1000000000 := by rw [List.length_take]; omega
          go_wp2_with (with_reducible refine cuthi_b 64 _ _ _ _ _ _ rfl SS _ _ i rfl rfl (Nat.le_of_lt hlt) ?_; intro hc)
          refine (GetDigests_at (T5.out i hlt) hlen hc).mono ?_
          rintro e wt ⟨a9, c9, rfl, o9, hq⟩
          have hbt := hbi.trans (hq.mono hbi.size)
          clear hq
          go_wp2_with fail
          go_roundg (E5.length - (i + 1))
          case measure => have := HG2.out; omega
          case rel => exact ⟨i + 1, by omega, rfl, by go_num, hbt⟩
        · go_wp2
          go_roundg (5 - 5)
          case measure => have := HG.out; omega
          case rel => exact ⟨5, by omega, by omega, rfl, hbi⟩
    · go_wp2_with fail
      refine (law1_sanity _).mono ?_
      rintro e wt ⟨rfl, hq⟩
      go_wp2_with fail
      go_ret
      exact ⟨rfl, (B0.1.trans (hbo.mono B0.2)).trans (hq.mono (Nat.le_trans B0.2 hbo.size))⟩
end Go.Proofs.Ytalicdpocgomkaa
