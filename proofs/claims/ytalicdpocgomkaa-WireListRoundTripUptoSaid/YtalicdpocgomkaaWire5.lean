import Derived.Test.YtalicdpocgomkaaWire4
namespace Go.Proofs.Ytalicdpocgomkaa
open Go.RowKit Go.Dx

set_option maxRecDepth 100000 in
set_option maxHeartbeats 800000 in
theorem ref_GetInt (l : List UInt8) (a : Option Addr) (n c : Nat) (w : World) (hs : Sl w 1 a n c (l.map B8)) :
    Calls Try.prog 68 #[.slice a n c] w fun e w' => e = .returned (R3 (decInt l)) ∧ Below w.heap.size w w' := by
  obtain rfl := hs.n_eq
  have hm := Nat.le_trans hs.le hs.cap
  unfold maxLen at hm
  cases l with
  | nil =>
    go_enter Try.func68, Try.ntmps68
    go_wp2
    go_ret3
    exact ⟨rfl, Below.refl _ _⟩
  | cons h t =>
    have HS := hide hs
    obtain ⟨b, off, rfl, hbs, hc⟩ := hs.ex (by simp)
    have hc0 : w.cell? ⟨b, off, none⟩ = some (.int .u8 (h.toNat : Int)) := hc 0 _ rfl
    have hle := hs.le
    simp only [List.length_cons] at hm hle ⊢
    have hne : (((t.length : Int) + 1) == 0) = false := by simp; omega
    have HC := hide hc
    clear hc hs
    have hhb := UInt8.toNat_lt h
    have hKK : ∃ (neg : Bool) (K : Nat), neg = decide (h.toNat < 128) ∧ (flp neg h).toNat = 128 + K ∧ ((neg = true ∧ (h.toNat : Int) = 127 - K) ∨ (neg = false ∧ (h.toNat : Int) = 128 + K)) := by
      by_cases h7 : h.toNat < 128
      · exact ⟨true, 127 - h.toNat, by rw [decide_eq_true h7], by have := flp_neg h; omega, .inl ⟨rfl, by omega⟩⟩
      · exact ⟨false, h.toNat - 128, by rw [decide_eq_false h7], by rw [flp_pos]; omega, .inr ⟨rfl, by omega⟩⟩
    obtain ⟨neg, K, hn, hf, hk⟩ := hKK
    have HD : Hid (decInt (h :: t) = decK neg K t) := by show _ = _; rw [show decInt (h :: t) = decK (decide (h.toNat < 128)) ((flp (decide (h.toNat < 128)) h).toNat - 128) t from rfl, ← hn, hf]; congr 1; omega
    have HF := hide hf
    have HK := hide hk
    clear hf hn
    have hK127 : K ≤ 127 := by omega
    by_cases h8 : 8 < K
    · have hr : (h.toNat : Int) < 119 ∨ (136 : Int) < h.toNat := by omega
      clear hk
      rcases hr with hr | hr
      all_goals
        go_enter Try.func68, Try.ntmps68
        go_wp2
        go_ret3
        exact ⟨by rw [HD.out, decK_8 h8]; rfl, Below.refl _ _⟩
    · have hr : (119 : Int) ≤ h.toNat ∧ (h.toNat : Int) ≤ 136 := by omega
      obtain ⟨hr1, hr2⟩ := hr
      clear hk
      go_enter Try.func68, Try.ntmps68
      go_upto_if 27 with (fail)
      go_cut [6] (fun k w' => k = .int .i64 (K : Int) ∧ w = w')
      case first =>
        rcases HK.out with ⟨_, h1⟩ | ⟨_, h1⟩
        · have h2 : (h.toNat : Int) < 128 := by omega
          have H1 := hide h1
          clear h1
          go_wp2
          go_meet
          exact ⟨by congr 1; have := H1.out; omega, rfl⟩
        · have h2 : ¬ (h.toNat : Int) < 128 := by omega
          have H1 := hide h1
          clear h1
          go_wp2
          go_meet
          exact ⟨by congr 1; have := H1.out; omega, rfl⟩
      case rest =>
        obtain ⟨rfl, rfl⟩ := hcut
        by_cases hlen : t.length < K
        · go_wp2
          go_ret3
          exact ⟨by rw [HD.out, decK_more h8 hlen]; rfl, Below.refl _ _⟩
        · go_wp2
          go_loopg [7, 8] K (fun g m i w' => ∃ j : Nat, j ≤ K ∧ g = K - j ∧ val ((t.take j).map (flp neg)) < 9223372036854775808 ∧ m = .int .i64 ((val ((t.take j).map (flp neg)) : Nat) : Int) ∧ i = .int .i64 ((j : Int) + 1) ∧ w = w')
          case atStart => exact ⟨0, by omega, rfl, by simp [val], by simp [val], rfl, rfl⟩
          case round =>
            obtain ⟨j, hj, hg, hv, rfl, rfl, rfl⟩ := hrel
            have HG := hide hg
            clear hg
            by_cases hjk : j < K
            · obtain ⟨d, hd⟩ : ∃ d, t[j]? = some d := ⟨t[j]'(by omega), by simp⟩
              have hcell : w.cell? ⟨b, off + (j + 1), none⟩ = some (.int .u8 (d.toNat : Int)) := HC.out (j + 1) _ (by simp [hd])
              have hvj := val_lt ((t.take j).map (flp neg))
              simp only [List.length_map, List.length_take] at hvj
              rw [Nat.min_eq_left (by omega)] at hvj
              have hfd := UInt8.toNat_lt (flp neg d)
              have hdb := UInt8.toNat_lt d
              have HV : Hid (val ((t.take (j + 1)).map (flp neg)) = 256 * val ((t.take j).map (flp neg)) + (flp neg d).toNat) := by
                show _ = _; rw [List.take_add_one, hd]; simp [val_snoc]
              have HB : Hid (36028797018963967 < val ((t.take j).map (flp neg)) → decK neg K t = (0, 0, 2) ∨ flp neg (t.getD 0 0) = 0 ∨ True) := fun _ => .inr (.inr trivial)
              have HV7 := hide hvj
              clear hd hvj
              generalize val ((t.take j).map (flp neg)) = v at *
              go_upto_if 46 with (fail)
              go_cut [9] (fun x w' => x = .int .i64 ((flp neg d).toNat : Int) ∧ w = w')
              case first =>
                rcases HK.out with ⟨hn, h1⟩ | ⟨hn, h1⟩
                · have h2 : (h.toNat : Int) < 128 := by omega
                  clear h1
                  go_wp2
                  go_meet
                  exact ⟨by rw [hn, flp_neg], rfl⟩
                · have h2 : ¬ (h.toNat : Int) < 128 := by omega
                  clear h1
                  go_wp2
                  go_meet
                  exact ⟨by rw [hn, flp_pos], rfl⟩
              case rest =>
                obtain ⟨rfl, rfl⟩ := hcut
                by_cases hbig : 36028797018963967 < v
                · have h7 : j = 7 := by
                    have := HV7.out
                    refine Nat.le_antisymm (by omega) (Nat.le_of_not_lt fun hlt => ?_)
                    have h2 : 256 ^ j ≤ 256 ^ 6 := Nat.pow_le_pow_right (by omega) (by omega)
                    simp at h2
                    omega
                  have H7 := hide h7
                  clear h7
                  go_wp2
                  go_ret3
                  have hK8 : K = j + 1 := by have := H7.out; omega
                  refine ⟨?_, Below.refl _ _⟩
                  rw [HD.out, decK_form h8 hlen (by rw [hK8, HV.out]; omega)]
                  rfl
                · go_wp2
                  go_roundg (K - (j + 1))
                  case measure => have := HG.out; omega
                  case rel => exact ⟨j + 1, by omega, rfl, by rw [HV.out]; omega, by rw [HV.out]; go_num, by go_num, rfl⟩
            · obtain rfl : j = K := by omega
              obtain ⟨N, HN⟩ : ∃ N : Int, Hid (N = if neg then -1 - (val ((t.take j).map (flp neg)) : Int) else val ((t.take j).map (flp neg))) := ⟨_, rfl⟩
              have HE := hide (@enc_iff neg h j t HF.out (by omega) (by omega) hv)
              have HO := hide (@decK_ok neg j t h8 hlen)
              generalize val ((t.take j).map (flp neg)) = v at *
              go_upto_if 57 with (fail)
              go_cut [10] (fun x w' => x = .int .i64 N ∧ w = w')
              case first =>
                rcases HK.out with ⟨hn, h1⟩ | ⟨hn, h1⟩
                · have h2 : (h.toNat : Int) < 128 := by omega
                  clear h1
                  go_wp2
                  go_meet
                  exact ⟨by rw [HN.out, hn]; rfl, rfl⟩
                · have h2 : ¬ (h.toNat : Int) < 128 := by omega
                  clear h1
                  go_wp2
                  go_meet
                  exact ⟨by rw [HN.out, hn]; rfl, rfl⟩
              case rest =>
                obtain ⟨rfl, rfl⟩ := hcut
                have hN1 : -9223372036854775808 ≤ N := by rw [HN.out]; split <;> omega
                have hN2 : N ≤ 9223372036854775807 := by rw [HN.out]; split <;> omega
                have hsl : ∀ w1, Below w.heap.size w w1 → Sl w1 1 (some ⟨b, off, none⟩) (j + 1) c ((h :: t.take j).map B8) := fun w1 hb => by
                  have := (HS.out.below hb).take (j + 1) (by simp; omega)
                  simpa using this
                obtain ⟨r, HR⟩ : ∃ r : Bool, Hid (r = decide (encInt N = h :: t.take j)) := ⟨_, rfl⟩
                have hsame : ∀ (w1 : World) (a1 : Option Addr) (n1 c1 : Nat), Sl w1 1 a1 n1 c1 ((encInt N).map B8) → Below w.heap.size w w1 →
                    Calls Try.prog 42 #[.slice a1 n1 c1, .slice (some ⟨b, off, none⟩) (j + 1) c] w1 (Still (.bool r) w1) := fun w1 a1 n1 c1 h1 h2 => by
                  rw [HR.out]; exact ref_Same _ _ _ _ _ _ _ _ _ h1 (hsl _ h2)
                have HSAME := hide hsame
                clear hsame hsl
                have hs1 : IntKind.i64.wrap ((j : Int) + 1) = (j : Int) + 1 := IntWalk.i64_in _ (by omega)
                have hs2 : (0 : Int) ≤ (j : Int) + 1 := by omega
                have hs3 : (j : Int) + 1 ≤ (c : Int) := by omega
                have hs4 : ((j : Int) + 1).toNat = j + 1 := by omega
                have hcne : ¬ c = 0 := by omega
                go_upto_region 24 with (fail)
                go_cut [67] (fun x w' => x = .bool (!r) ∧ Below w.heap.size w w')
                case first =>
                  go_region_with (first
                    | (go_at_call 59; refine (ref_Int _ hN1 hN2 _).mono ?_; rintro e w1 ⟨a1, c1, rfl, ho1, hb1⟩)
                    | (go_at_call 42; refine (HSAME.out _ _ _ _ ho1.sl (undrew hb1)).mono ?_; rintro e w2 ⟨rfl, nq, rfl⟩))
                  all_goals (go_wp2_with fail; go_meet; exact ⟨rfl, (undrew hb1).trans (Below.mono (Still.below nq) hb1.size)⟩)
                case rest =>
                  obtain ⟨rfl, hbw⟩ := hcut
                  clear HSAME hs1 hs2 hs3 hs4 hcne
                  have hiff : r = true ↔ (j = 0 ∨ flp neg (t.getD 0 0) ≠ 0) := by rw [HR.out, decide_eq_true_iff, HN.out]; exact HE.out
                  by_cases hz : j = 0 ∨ flp neg (t.getD 0 0) ≠ 0
                  · obtain rfl : r = true := hiff.2 hz
                    have HZ := hide hz
                    clear hz hiff
                    go_wp2
                    go_ret3
                    exact ⟨by rw [HD.out, HO.out HZ.out (by omega), HN.out]; rfl, hbw⟩
                  · obtain rfl : r = false := by cases r; rfl; exact absurd (hiff.1 rfl) hz
                    have HZ := hide hz
                    clear hz hiff
                    go_wp2
                    go_ret3
                    refine ⟨?_, hbw⟩
                    rw [HD.out, decK_zero h8 hlen (by have := HZ.out; omega) (by have := HZ.out; exact Decidable.byContradiction fun e => this (.inr e))]
                    rfl
end Go.Proofs.Ytalicdpocgomkaa
