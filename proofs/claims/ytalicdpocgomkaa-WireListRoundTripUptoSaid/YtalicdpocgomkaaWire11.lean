import Derived.Test.YtalicdpocgomkaaWire10
import Derived.Test.YtalicdpocgomkaaPure3
namespace Go.Proofs.Ytalicdpocgomkaa
open Go.RowKit Go.Dx

/-- three results, the first a list of its own -/
def Gives3 (e : TypeId) (sz n : Nat) (cs : List Value) (x y : Int) (w : World) (r : Ending) (w' : World) : Prop :=
  ∃ a c, r = .returned (.tuple #[.slice a n c, .int .i64 x, .int .i64 y]) ∧ Own w' w.heap.size e sz a n c cs ∧ Below w.heap.size w w'

set_option maxHeartbeats 400000 in
theorem wire_GetStrings (l : List UInt8) (a : Option Addr) (n c : Nat) (w : World) (hs : Sl w 1 a n c (l.map B8)) (hlen : l.length ≤ 1000000000) :
    Calls Try.prog 73 #[.slice a n c] w (Gives3 9 1 (decSeq decBytes l).1.length ((decSeq decBytes l).1.map Value.string) (decSeq decBytes l).2.1 (decSeq decBytes l).2.2 w) := by
  have hn := hs.n_eq
  have HC := hide (wire_count l a n c 1 (by omega) (by omega) w hs)
  by_cases hE : cntErr l 1 = 0
  · obtain ⟨A, N, e1, e2, e3, hA, hAN, hN⟩ := cnt_facts (by omega) hE
    simp at hAN
    rw [e1, e2, hE] at HC
    have HE := hide (fun k E (hk : k < N) (h0 : E ≠ 0) => @decSeq_err _ decBytes l A N k hE e1 e2 E hk h0)
    have HO := hide (fun xs B => @decSeq_ok _ decBytes l A N hE e1 e2 xs B)
    have hnl : l.length ≤ n := by omega
    have hnl2 : n ≤ l.length := by omega
    have HNL := hide hn
    obtain ⟨D, HD⟩ : ∃ D, Hid (D = decSeq decBytes l) := ⟨_, rfl⟩
    rw [← HD.out]
    clear e1 e2 e3 hE hn
    go_enter Try.func73, Try.ntmps73
    go_wp2_with (go_at_call 99; refine HC.out.mono ?_; rintro e w1 ⟨rfl, rfl⟩)
    go_loopg [6, 8, 22] N (fun g at_ x i w' => ∃ (k B : Nat) (a : Option Addr) (c : Nat) (xs : List ByteArray), k ≤ N ∧ g = N - k ∧ seqTo decBytes l A k = (xs, B, 0) ∧ B ≤ l.length ∧ at_ = .int .i64 B ∧ i = .int .i64 k ∧ x = .slice a xs.length c ∧ Own w' w.heap.size 9 1 a xs.length c (xs.map Value.string) ∧ Below w.heap.size w w')
    case atStart => exact ⟨0, A, none, 0, [], by omega, by omega, rfl, by omega, rfl, rfl, rfl, Own.nil _ _ _ _, Below.refl _ _⟩
    case round =>
      obtain ⟨k, B, a2, c2, xs, hk, hg, hseq, hB, rfl, rfl, rfl, hown, hb⟩ := hrel
      have HG := hide hg
      have hxl : xs.length ≤ k := Nat.le_of_eq (seqTo_len hseq)
      have HS := hide hseq
      clear hg hseq
      by_cases hkN : k < N
      · obtain ⟨r, HR⟩ : ∃ r, Hid (r = decBytes (l.drop B)) := ⟨_, rfl⟩
        have HF : Hid (∀ a' w', Sl w' 1 a' (n - B) (c - B) ((l.drop B).map B8) → Calls Try.prog 69 #[.slice a' (n - B) (c - B)] w' fun e w'' => e = .returned (RS r) ∧ w' = w'') := by
          intro a' w' h; rw [HR.out]; exact wire_GetBytes _ _ _ _ _ h
        have HU := hide (@decBytes_used (l.drop B))
        obtain ⟨r1, r2, r3⟩ := r
        by_cases hr : r3 = 0
        · subst hr
          obtain ⟨u1, u2⟩ : 1 ≤ r2 ∧ r2 ≤ ((l.drop B).length : Int) := by
            have := HU.out; rw [← HR.out] at this; have h2 := this rfl; exact ⟨h2.1, h2.2⟩
          rw [List.length_drop] at u2
          have hst : seqTo decBytes l A (k + 1) = (xs ++ [r1], B + r2.toNat, 0) := by rw [seqTo_step HS.out (by rw [← HR.out]), ← HR.out]
          have HST := hide hst
          obtain ⟨U, rfl⟩ := Int.eq_ofNat_of_zero_le (a := r2) (by omega)
          clear hst
          go_wp2_with (first
            | (with_reducible refine cutlo_b 27 _ _ _ _ _ l rfl (hs.below hb) _ _ B rfl rfl (by omega) ?_; intro a3 hs3 hp3)
            | (go_at_call 69; refine (HF.out _ _ hs3).mono ?_; rintro e w2 ⟨rfl, rfl⟩)
            | (at_builtin; refine app_s rfl _ _ rfl w w.heap.size _ _ _ _ rfl hown _ rfl (by omega) hb.size hb ?_; intro a' c' w' ho' hgr' hb'))
          go_roundg (N - (k + 1))
          case measure => have := HG.out; omega
          case rel =>
            refine ⟨k + 1, B + U, a', c', xs ++ [r1], by omega, rfl, by rw [HST.out]; simp, by omega, by go_num, by go_num, by rw [List.length_append]; rfl, ?_, hb'⟩
            rw [List.length_append, List.map_append]; exact ho'
        · have hbn := neq_int hr
          have hst : seqTo decBytes l A (k + 1) = ([], 0, r3) := by rw [seqTo_stop HS.out (by rw [← HR.out]; exact hr), ← HR.out]
          have hD : D = ([], 0, r3) := by rw [HD.out]; exact HE.out k r3 hkN hr hst
          clear hst
          have HR3 := hide hr
          subst hD
          clear hr
          go_wp2_with (first
            | (with_reducible refine cutlo_b 27 _ _ _ _ _ l rfl (hs.below hb) _ _ B rfl rfl (by omega) ?_; intro a3 hs3 hp3)
            | (go_at_call 69; refine (HF.out _ _ hs3).mono ?_; rintro e w2 ⟨rfl, rfl⟩))
          go_ret3
          exact ⟨none, 0, rfl, Own.nil _ _ _ _, hb⟩
      · obtain rfl : k = N := by omega
        have hD : D = (xs, (B : Int), 0) := by rw [HD.out]; exact HO.out xs B HS.out
        subst hD
        go_wp2
        go_ret3
        exact ⟨a2, c2, rfl, hown, hb⟩
  · have hbn := neq_int hE
    obtain ⟨D, HD⟩ : ∃ D, Hid (D = decSeq decBytes l) := ⟨_, rfl⟩
    rw [← HD.out]
    have hD : D = ([], 0, cntErr l 1) := by rw [HD.out]; exact decSeq_cnt hE
    
    clear hE HD hn
    generalize cntErr l 1 = E at *
    subst hD
    go_enter Try.func73, Try.ntmps73
    go_wp2_with (go_at_call 99; refine HC.out.mono ?_; rintro e w1 ⟨rfl, rfl⟩)
    go_ret3
    refine ⟨none, 0, ?_, ?_, ?_⟩
    · rfl
    · exact Own.nil _ _ _ _
    · exact Below.refl _ _

set_option maxHeartbeats 400000 in
theorem ref_GetStrings (l : List UInt8) (a : Option Addr) (n c : Nat) (w : World) (hs : Sl w 1 a n c (l.map B8)) (hlen : l.length ≤ 1000000000) :
    Calls Try.prog 74 #[.slice a n c] w (Gives3 9 1 (decSeq decBytes l).1.length ((decSeq decBytes l).1.map Value.string) (decSeq decBytes l).2.1 (decSeq decBytes l).2.2 w) := by
  have hn := hs.n_eq
  have HC := hide (ref_count l a n c 1 (by omega) (by omega) w hs (by omega))
  by_cases hE : cntErr l 1 = 0
  · obtain ⟨A, N, e1, e2, e3, hA, hAN, hN⟩ := cnt_facts (by omega) hE
    simp at hAN
    rw [if_pos hE, e1, e2] at HC
    have HE := hide (fun k E (hk : k < N) (h0 : E ≠ 0) => @decSeq_err _ decBytes l A N k hE e1 e2 E hk h0)
    have HO := hide (fun xs B => @decSeq_ok _ decBytes l A N hE e1 e2 xs B)
    have hnl : l.length ≤ n := by omega
    have hnl2 : n ≤ l.length := by omega
    have HNL := hide hn
    obtain ⟨D, HD⟩ : ∃ D, Hid (D = decSeq decBytes l) := ⟨_, rfl⟩
    rw [← HD.out]
    clear e1 e2 e3 hE hn
    go_enter Try.func74, Try.ntmps74
    go_wp2_with (go_at_call 100; refine HC.out.mono ?_; rintro e w1 ⟨rfl, hb1⟩)
    go_loopg [6, 8, 9] N (fun g at_ x i w' => ∃ (k B : Nat) (a : Option Addr) (c : Nat) (xs : List ByteArray), k ≤ N ∧ g = N - k ∧ seqTo decBytes l A k = (xs, B, 0) ∧ B ≤ l.length ∧ at_ = .int .i64 B ∧ i = .int .i64 k ∧ x = .slice a xs.length c ∧ Own w' w.heap.size 9 1 a xs.length c (xs.map Value.string) ∧ Below w.heap.size w w')
    case atStart => exact ⟨0, A, none, 0, [], by omega, by omega, rfl, by omega, rfl, rfl, rfl, Own.nil _ _ _ _, hb1⟩
    case round =>
      obtain ⟨k, B, a2, c2, xs, hk, hg, hseq, hB, rfl, rfl, rfl, hown, hb⟩ := hrel
      have HG := hide hg
      have hxl : xs.length ≤ k := Nat.le_of_eq (seqTo_len hseq)
      have HS := hide hseq
      clear hg hseq
      by_cases hkN : k < N
      · obtain ⟨r, HR⟩ : ∃ r, Hid (r = decBytes (l.drop B)) := ⟨_, rfl⟩
        have HF : Hid (∀ a' w', Sl w' 1 a' (n - B) (c - B) ((l.drop B).map B8) → Calls Try.prog 70 #[.slice a' (n - B) (c - B)] w' fun e w'' => e = .returned (RS r) ∧ Below w'.heap.size w' w'') := by
          intro a' w' h; rw [HR.out]; exact ref_GetBytes _ _ _ _ _ h (by simp; omega)
        have HU := hide (@decBytes_used (l.drop B))
        obtain ⟨r1, r2, r3⟩ := r
        by_cases hr : r3 = 0
        · subst hr
          obtain ⟨u1, u2⟩ : 1 ≤ r2 ∧ r2 ≤ ((l.drop B).length : Int) := by
            have := HU.out; rw [← HR.out] at this; have h2 := this rfl; exact ⟨h2.1, h2.2⟩
          rw [List.length_drop] at u2
          have hst : seqTo decBytes l A (k + 1) = (xs ++ [r1], B + r2.toNat, 0) := by rw [seqTo_step HS.out (by rw [← HR.out]), ← HR.out]
          have HST := hide hst
          obtain ⟨U, rfl⟩ := Int.eq_ofNat_of_zero_le (a := r2) (by omega)
          clear hst
          go_wp2_with (first
            | (with_reducible refine cutlo_b 30 _ _ _ _ _ l rfl (hs.below hb) _ _ B rfl rfl (by omega) ?_; intro a3 hs3 hp3)
            | (go_at_call 70; refine (HF.out _ _ hs3).mono ?_; rintro e w2 ⟨rfl, hb2⟩)
            | (at_builtin; refine app_s rfl _ _ rfl w w.heap.size _ _ _ _ rfl (hown.below hb2) _ rfl (by omega) (Nat.le_trans hb.size hb2.size) (hb.trans (hb2.mono hb.size)) ?_; intro a' c' w' ho' hgr' hb'))
          go_roundg (N - (k + 1))
          case measure => have := HG.out; omega
          case rel =>
            refine ⟨k + 1, B + U, a', c', xs ++ [r1], by omega, rfl, by rw [HST.out]; simp, by omega, by go_num, by go_num, by rw [List.length_append]; rfl, ?_, hb'⟩
            rw [List.length_append, List.map_append]; exact ho'
        · have hbn := neq_int hr
          have hst : seqTo decBytes l A (k + 1) = ([], 0, r3) := by rw [seqTo_stop HS.out (by rw [← HR.out]; exact hr), ← HR.out]
          have hD : D = ([], 0, r3) := by rw [HD.out]; exact HE.out k r3 hkN hr hst
          clear hst
          have HR3 := hide hr
          subst hD
          clear hr
          go_wp2_with (first
            | (with_reducible refine cutlo_b 30 _ _ _ _ _ l rfl (hs.below hb) _ _ B rfl rfl (by omega) ?_; intro a3 hs3 hp3)
            | (go_at_call 70; refine (HF.out _ _ hs3).mono ?_; rintro e w2 ⟨rfl, hb2⟩))
          go_ret3
          exact ⟨none, 0, rfl, Own.nil _ _ _ _, (hb.trans (hb2.mono hb.size))⟩
      · obtain rfl : k = N := by omega
        have hD : D = (xs, (B : Int), 0) := by rw [HD.out]; exact HO.out xs B HS.out
        subst hD
        go_wp2
        go_ret3
        exact ⟨a2, c2, rfl, hown, hb⟩
  · have hbn := neq_int hE
    obtain ⟨D, HD⟩ : ∃ D, Hid (D = decSeq decBytes l) := ⟨_, rfl⟩
    rw [← HD.out]
    have hD : D = ([], 0, cntErr l 1) := by rw [HD.out]; exact decSeq_cnt hE
    rw [if_neg hE] at HC
    clear hE HD hn
    generalize cntErr l 1 = E at *
    subst hD
    go_enter Try.func74, Try.ntmps74
    go_wp2_with (go_at_call 100; refine HC.out.mono ?_; rintro e w1 ⟨rfl, hb1⟩)
    go_ret3
    refine ⟨none, 0, ?_, ?_, ?_⟩
    · rfl
    · exact Own.nil _ _ _ _
    · exact hb1

set_option maxHeartbeats 400000 in
theorem ref_GetInts (l : List UInt8) (a : Option Addr) (n c : Nat) (w : World) (hs : Sl w 1 a n c (l.map B8)) (hlen : l.length ≤ 1000000000) :
    Calls Try.prog 72 #[.slice a n c] w (Gives3 3 1 (decSeq decInt l).1.length ((decSeq decInt l).1.map I64) (decSeq decInt l).2.1 (decSeq decInt l).2.2 w) := by
  have hn := hs.n_eq
  have HC := hide (ref_count l a n c 1 (by omega) (by omega) w hs (by omega))
  by_cases hE : cntErr l 1 = 0
  · obtain ⟨A, N, e1, e2, e3, hA, hAN, hN⟩ := cnt_facts (by omega) hE
    simp at hAN
    rw [if_pos hE, e1, e2] at HC
    have HE := hide (fun k E (hk : k < N) (h0 : E ≠ 0) => @decSeq_err _ decInt l A N k hE e1 e2 E hk h0)
    have HO := hide (fun xs B => @decSeq_ok _ decInt l A N hE e1 e2 xs B)
    have hnl : l.length ≤ n := by omega
    have hnl2 : n ≤ l.length := by omega
    have HNL := hide hn
    obtain ⟨D, HD⟩ : ∃ D, Hid (D = decSeq decInt l) := ⟨_, rfl⟩
    rw [← HD.out]
    clear e1 e2 e3 hE hn
    go_enter Try.func72, Try.ntmps72
    go_wp2_with (go_at_call 100; refine HC.out.mono ?_; rintro e w1 ⟨rfl, hb1⟩)
    go_loopg [6, 8, 9] N (fun g at_ x i w' => ∃ (k B : Nat) (a : Option Addr) (c : Nat) (xs : List Int), k ≤ N ∧ g = N - k ∧ seqTo decInt l A k = (xs, B, 0) ∧ B ≤ l.length ∧ at_ = .int .i64 B ∧ i = .int .i64 k ∧ x = .slice a xs.length c ∧ Own w' w.heap.size 3 1 a xs.length c (xs.map I64) ∧ Below w.heap.size w w')
    case atStart => exact ⟨0, A, none, 0, [], by omega, by omega, rfl, by omega, rfl, rfl, rfl, Own.nil _ _ _ _, hb1⟩
    case round =>
      obtain ⟨k, B, a2, c2, xs, hk, hg, hseq, hB, rfl, rfl, rfl, hown, hb⟩ := hrel
      have HG := hide hg
      have hxl : xs.length ≤ k := Nat.le_of_eq (seqTo_len hseq)
      have HS := hide hseq
      clear hg hseq
      by_cases hkN : k < N
      · obtain ⟨r, HR⟩ : ∃ r, Hid (r = decInt (l.drop B)) := ⟨_, rfl⟩
        have HF : Hid (∀ a' w', Sl w' 1 a' (n - B) (c - B) ((l.drop B).map B8) → Calls Try.prog 68 #[.slice a' (n - B) (c - B)] w' fun e w'' => e = .returned (R3 r) ∧ Below w'.heap.size w' w'') := by
          intro a' w' h; rw [HR.out]; exact ref_GetInt _ _ _ _ _ h
        have HU := hide (@decInt_used (l.drop B))
        obtain ⟨r1, r2, r3⟩ := r
        by_cases hr : r3 = 0
        · subst hr
          obtain ⟨u1, u2⟩ : 1 ≤ r2 ∧ r2 ≤ ((l.drop B).length : Int) := by
            have := HU.out; rw [← HR.out] at this; have h2 := this rfl; exact ⟨h2.1, h2.2.1⟩
          rw [List.length_drop] at u2
          have hst : seqTo decInt l A (k + 1) = (xs ++ [r1], B + r2.toNat, 0) := by rw [seqTo_step HS.out (by rw [← HR.out]), ← HR.out]
          have HST := hide hst
          obtain ⟨U, rfl⟩ := Int.eq_ofNat_of_zero_le (a := r2) (by omega)
          clear hst
          go_wp2_with (first
            | (with_reducible refine cutlo_b 30 _ _ _ _ _ l rfl (hs.below hb) _ _ B rfl rfl (by omega) ?_; intro a3 hs3 hp3)
            | (go_at_call 68; refine (HF.out _ _ hs3).mono ?_; rintro e w2 ⟨rfl, hb2⟩)
            | (at_builtin; refine app_i rfl _ _ rfl w w.heap.size _ _ _ _ rfl (hown.below hb2) _ rfl (by omega) (Nat.le_trans hb.size hb2.size) (hb.trans (hb2.mono hb.size)) ?_; intro a' c' w' ho' hgr' hb'))
          go_roundg (N - (k + 1))
          case measure => have := HG.out; omega
          case rel =>
            refine ⟨k + 1, B + U, a', c', xs ++ [r1], by omega, rfl, by rw [HST.out]; simp, by omega, by go_num, by go_num, by rw [List.length_append]; rfl, ?_, hb'⟩
            rw [List.length_append, List.map_append]; exact ho'
        · have hbn := neq_int hr
          have hst : seqTo decInt l A (k + 1) = ([], 0, r3) := by rw [seqTo_stop HS.out (by rw [← HR.out]; exact hr), ← HR.out]
          have hD : D = ([], 0, r3) := by rw [HD.out]; exact HE.out k r3 hkN hr hst
          clear hst
          have HR3 := hide hr
          subst hD
          clear hr
          go_wp2_with (first
            | (with_reducible refine cutlo_b 30 _ _ _ _ _ l rfl (hs.below hb) _ _ B rfl rfl (by omega) ?_; intro a3 hs3 hp3)
            | (go_at_call 68; refine (HF.out _ _ hs3).mono ?_; rintro e w2 ⟨rfl, hb2⟩))
          go_ret3
          exact ⟨none, 0, rfl, Own.nil _ _ _ _, (hb.trans (hb2.mono hb.size))⟩
      · obtain rfl : k = N := by omega
        have hD : D = (xs, (B : Int), 0) := by rw [HD.out]; exact HO.out xs B HS.out
        subst hD
        go_wp2
        go_ret3
        exact ⟨a2, c2, rfl, hown, hb⟩
  · have hbn := neq_int hE
    obtain ⟨D, HD⟩ : ∃ D, Hid (D = decSeq decInt l) := ⟨_, rfl⟩
    rw [← HD.out]
    have hD : D = ([], 0, cntErr l 1) := by rw [HD.out]; exact decSeq_cnt hE
    rw [if_neg hE] at HC
    clear hE HD hn
    generalize cntErr l 1 = E at *
    subst hD
    go_enter Try.func72, Try.ntmps72
    go_wp2_with (go_at_call 100; refine HC.out.mono ?_; rintro e w1 ⟨rfl, hb1⟩)
    go_ret3
    refine ⟨none, 0, ?_, ?_, ?_⟩
    · rfl
    · exact Own.nil _ _ _ _
    · exact hb1

end Go.Proofs.Ytalicdpocgomkaa
