/- The plain laws of layer 1: round trip, canonical, truncated. No Go. -/
import Derived.Test.YtalicdpocgomkaaDoorPure3
namespace Go.Dx

theorem val_digs_to {m k : Nat} (h : m < 256 ^ k) : ∀ j, j ≤ k → val (digs m k j) = m / 256 ^ (k - j)
  | 0, _ => by rw [digs_zero, Nat.sub_zero, Nat.div_eq_of_lt h]; rfl
  | j + 1, hj => by
    rw [digs_succ, val_snoc, val_digs_to h j (by omega), dig_toNat]
    have e1 : k - j = (k - 1 - j) + 1 := by omega
    have e2 : k - (j + 1) = k - 1 - j := by omega
    rw [e1, e2, Nat.pow_succ, ← Nat.div_div_eq_div_mul]
    omega
theorem val_digs {m k : Nat} (h : m < 256 ^ k) : val (digs m k k) = m := by rw [val_digs_to h k (Nat.le_refl _), Nat.sub_self, Nat.pow_zero, Nat.div_one]
theorem map_flp_flp (neg : Bool) (l : List UInt8) : (l.map (flp neg)).map (flp neg) = l := by
  rw [List.map_map]
  have : (flp neg ∘ flp neg) = id := by funext d; exact flp_flp neg d
  rw [this, List.map_id]
theorem hd_sign (neg : Bool) (k : Nat) (h : k ≤ 8) : decide ((hd neg k).toNat < 128) = neg := by
  cases neg with
  | false => have := hd_pos k h; apply decide_eq_false; omega
  | true => have := hd_neg k h; apply decide_eq_true; omega
theorem flp_hd (neg : Bool) (k : Nat) (h : k ≤ 8) : (flp neg (hd neg k)).toNat = 128 + k := by
  unfold hd; rw [flp_flp, UInt8.toNat_ofNat']; omega

/-- The first theorem of layer 1: what is encoded is decoded, whatever follows. -/
theorem decInt_enc {n : Int} (h0 : -9223372036854775808 ≤ n) (h1 : n ≤ 9223372036854775807) (t : List UInt8) :
    decInt (encInt n ++ t) = (n, (((encInt n).length : Nat) : Int), 0) := by
  have hm := mag_lt h0 h1
  have hL := len_klen (m := mag n) (by omega)
  have hval : n = if decide (n < 0) then -1 - (mag n : Int) else (mag n : Int) := by
    unfold mag
    by_cases hn : n < 0 <;> simp [hn] <;> omega
  rw [encInt_length]
  unfold encInt
  generalize mag n = m at *
  generalize klen m = k at *
  generalize decide (n < 0) = neg at *
  subst hval
  obtain ⟨h8, hk, hk2⟩ := hL
  rw [List.cons_append, decInt_cons, hd_sign _ _ h8, flp_hd _ _ h8, Nat.add_sub_cancel_left]
  have hlen : ((digs m k k).map (flp neg)).length = k := by rw [List.length_map, digs_length]
  have htake : ((digs m k k).map (flp neg) ++ t).take k = (digs m k k).map (flp neg) := by
    have := List.take_left (l₁ := (digs m k k).map (flp neg)) (l₂ := t); rwa [hlen] at this
  have hv : val ((((digs m k k).map (flp neg) ++ t).take k).map (flp neg)) = m := by rw [htake, map_flp_flp, val_digs hk]
  rw [decK_ok (by omega) (by rw [List.length_append, hlen]; omega) ?_ (by rw [hv]; omega), hv]
  · rfl
  · rcases Nat.eq_zero_or_pos k with h | h
    · exact .inl h
    · refine .inr ?_
      obtain ⟨j, rfl⟩ : ∃ j, k = j + 1 := ⟨k - 1, by omega⟩
      have e : ((digs m (j + 1) (j + 1)).map (flp neg) ++ t).getD 0 0 = flp neg (dig m j) := by
        unfold digs; rw [List.range_succ_eq_map]; simp
      rw [e, flp_flp]
      intro hz
      have h3 := congrArg UInt8.toNat hz
      rw [dig_toNat] at h3
      rcases hk2 with h2 | h2
      · omega
      · have h4 : 1 ≤ m / 256 ^ j := (Nat.le_div_iff_mul_le (Nat.pow_pos (by omega))).2 (by simpa using h2)
        have h5 : m / 256 ^ j < 256 := (Nat.div_lt_iff_lt_mul (Nat.pow_pos (by omega))).2 (by rw [Nat.mul_comm]; rwa [← Nat.pow_succ])
        have h6 : m / 256 ^ j % 256 = m / 256 ^ j := Nat.mod_eq_of_lt h5
        simp at h3
        omega

/-- what lacks its end asks for more -/
theorem decInt_cut {n : Int} (h0 : -9223372036854775808 ≤ n) (h1 : n ≤ 9223372036854775807) {i : Nat} (hi : i < (encInt n).length) : decInt ((encInt n).take i) = (0, 0, 3) := by
  have hm := mag_lt h0 h1
  have hL := len_klen (m := mag n) (by omega)
  rw [encInt_length] at hi
  unfold encInt
  cases i with
  | zero => rfl
  | succ j =>
    rw [List.take_succ_cons, decInt_cons, hd_sign _ _ hL.1, flp_hd _ _ hL.1, Nat.add_sub_cancel_left]
    exact decK_more (by have := hL.1; omega) (by rw [List.length_take, List.length_map, digs_length]; omega)

/-- what is decoded was encoded -/
theorem decInt_canon {b : List UInt8} (h : (decInt b).2.2 = 0) : encInt (decInt b).1 = b.take (decInt b).2.1.toNat := by
  cases b with
  | nil => simp [decInt] at h
  | cons x t =>
    rw [decInt_cons] at h ⊢
    have hge := flp_ge x (decide (x.toNat < 128)) rfl
    generalize decide (x.toNat < 128) = neg at *
    obtain ⟨K, hK⟩ : ∃ K, (flp neg x).toNat = 128 + K := ⟨(flp neg x).toNat - 128, by omega⟩
    rw [hK, Nat.add_sub_cancel_left] at h ⊢
    by_cases h8 : 8 < K
    · rw [decK_8 h8] at h; simp at h
    by_cases hl : t.length < K
    · rw [decK_more h8 hl] at h; simp at h
    by_cases hz : K = 0 ∨ flp neg (t.getD 0 0) ≠ 0
    · by_cases hb : 9223372036854775808 ≤ val ((t.take K).map (flp neg))
      · rw [decK_big h8 hl hz hb] at h; simp at h
      · rw [decK_ok h8 hl hz hb]
        have := (enc_iff hK (by omega) (by omega) (by omega)).2 hz
        show encInt (if neg then _ else _) = _
        rw [this]
        show _ = (x :: t).take ((K : Int) + 1).toNat
        rw [show ((K : Int) + 1).toNat = K + 1 by omega, List.take_succ_cons]
    · rw [decK_zero h8 hl (by omega) (by
        by_cases h : flp neg (t.getD 0 0) = 0
        · exact h
        · exact absurd (.inr h) hz)] at h
      simp at h
end Go.Dx
