/- The plain mathematics of layer 1 (wire): what an integer's encoding is, what a decoding returns. No Go. -/
import Derived.WalkKit
set_option linter.unusedVariables false
namespace Go.Dx

/-- digit i of m in base 256 -/
def dig (m i : Nat) : UInt8 := UInt8.ofNat (m / 256 ^ i % 256)
/-- the first j of k digits of m, the greatest first -/
def digs (m k j : Nat) : List UInt8 := (List.range j).map fun t => dig m (k - 1 - t)
theorem digs_zero (m k : Nat) : digs m k 0 = [] := rfl
theorem digs_succ (m k j : Nat) : digs m k (j + 1) = digs m k j ++ [dig m (k - 1 - j)] := by simp [digs, List.range_succ]
theorem digs_length (m k j : Nat) : (digs m k j).length = j := by simp [digs]
theorem dig_toNat (m i : Nat) : (dig m i).toNat = m / 256 ^ i % 256 := by
  unfold dig
  rw [UInt8.toNat_ofNat']
  omega

/-- k is the number of digits of m -/
def Len (m k : Nat) : Prop := k ≤ 8 ∧ m < 256 ^ k ∧ (k = 0 ∨ 256 ^ (k - 1) ≤ m)
def klen (m : Nat) : Nat := if m < 1 then 0 else if m < 256 then 1 else if m < 65536 then 2 else if m < 16777216 then 3 else if m < 4294967296 then 4 else if m < 1099511627776 then 5 else if m < 281474976710656 then 6 else if m < 72057594037927936 then 7 else 8
theorem klen_le (m : Nat) : klen m ≤ 8 := by unfold klen; repeat' split
                                             all_goals omega
theorem klen_of {m k : Nat} (h : Len m k) : klen m = k := by
  obtain ⟨h8, h1, h2⟩ := h
  match k, h8 with
  | 0, _ => simp at h1; subst h1; rfl
  | 1, _ => simp at h1 h2; unfold klen; repeat' split
            all_goals omega
  | 2, _ => simp at h1 h2; unfold klen; repeat' split
            all_goals omega
  | 3, _ => simp at h1 h2; unfold klen; repeat' split
            all_goals omega
  | 4, _ => simp at h1 h2; unfold klen; repeat' split
            all_goals omega
  | 5, _ => simp at h1 h2; unfold klen; repeat' split
            all_goals omega
  | 6, _ => simp at h1 h2; unfold klen; repeat' split
            all_goals omega
  | 7, _ => simp at h1 h2; unfold klen; repeat' split
            all_goals omega
  | 8, _ => simp at h1 h2; unfold klen; repeat' split
            all_goals omega
theorem len_klen {m : Nat} (h : m < 18446744073709551616) : Len m (klen m) := by
  unfold klen Len
  repeat' split
  all_goals (refine ⟨by omega, ?_, ?_⟩ <;> simp <;> omega)

def mag (n : Int) : Nat := if n < 0 then (-1 - n).toNat else n.toNat
/-- a digit as it is written: with the other bits where the integer is negative -/
def fl (neg : Bool) : UInt8 := if neg then 255 else 0
def flp (neg : Bool) (d : UInt8) : UInt8 := d ^^^ fl neg
def hd (neg : Bool) (k : Nat) : UInt8 := flp neg (UInt8.ofNat (128 + k))
def encInt (n : Int) : List UInt8 := hd (decide (n < 0)) (klen (mag n)) :: (digs (mag n) (klen (mag n)) (klen (mag n))).map (flp (decide (n < 0)))
theorem encInt_length (n : Int) : (encInt n).length = klen (mag n) + 1 := by simp [encInt, digs_length]
theorem encInt_pos (n : Int) : 1 ≤ (encInt n).length := by rw [encInt_length]; omega
theorem encInt_le (n : Int) : (encInt n).length ≤ 9 := by rw [encInt_length]; have := klen_le (mag n); omega

/-- the number with some digits, the greatest first -/
def val (l : List UInt8) : Nat := l.foldl (fun m d => 256 * m + d.toNat) 0
theorem val_snoc (l : List UInt8) (d : UInt8) : val (l ++ [d]) = 256 * val l + d.toNat := by simp [val, List.foldl_append]
/-- decoding behind the first byte -/
def decK (neg : Bool) (k : Nat) (t : List UInt8) : Int × Int × Int :=
  if 8 < k then (0, 0, 2)
  else if t.length < k then (0, 0, 3)
  else if 0 < k ∧ flp neg (t.getD 0 0) = 0 then (0, 0, 2)
  else if 9223372036854775808 ≤ val ((t.take k).map (flp neg)) then (0, 0, 2)
  else (if neg then -1 - (val ((t.take k).map (flp neg)) : Int) else val ((t.take k).map (flp neg)), (k : Int) + 1, 0)
/-- what decoding at the beginning of a byte sequence returns: the integer, the number of bytes, the error -/
def decInt (b : List UInt8) : Int × Int × Int :=
  match b with
  | [] => (0, 0, 3)
  | h :: t => decK (decide (h.toNat < 128)) ((flp (decide (h.toNat < 128)) h).toNat - 128) t
section
variable {neg : Bool} {k : Nat} {t : List UInt8}
theorem decK_8 (h8 : 8 < k) : decK neg k t = (0, 0, 2) := by unfold decK; rw [if_pos h8]
theorem decK_more (h8 : ¬ 8 < k) (hl : t.length < k) : decK neg k t = (0, 0, 3) := by unfold decK; rw [if_neg h8, if_pos hl]
theorem decK_zero (h8 : ¬ 8 < k) (hl : ¬ t.length < k) (h0 : 0 < k) (hz : flp neg (t.getD 0 0) = 0) : decK neg k t = (0, 0, 2) := by unfold decK; rw [if_neg h8, if_neg hl, if_pos ⟨h0, hz⟩]
theorem decK_big (h8 : ¬ 8 < k) (hl : ¬ t.length < k) (hz : k = 0 ∨ flp neg (t.getD 0 0) ≠ 0) (hb : 9223372036854775808 ≤ val ((t.take k).map (flp neg))) : decK neg k t = (0, 0, 2) := by
  unfold decK; rw [if_neg h8, if_neg hl, if_neg (by rintro ⟨h1, h2⟩; rcases hz with h | h; omega; exact h h2), if_pos hb]
theorem decK_form (h8 : ¬ 8 < k) (hl : ¬ t.length < k) (hb : 9223372036854775808 ≤ val ((t.take k).map (flp neg))) : decK neg k t = (0, 0, 2) := by
  unfold decK; rw [if_neg h8, if_neg hl]
  by_cases hz : 0 < k ∧ flp neg (t.getD 0 0) = 0
  · rw [if_pos hz]
  · rw [if_neg hz, if_pos hb]
theorem decK_ok (h8 : ¬ 8 < k) (hl : ¬ t.length < k) (hz : k = 0 ∨ flp neg (t.getD 0 0) ≠ 0) (hb : ¬ 9223372036854775808 ≤ val ((t.take k).map (flp neg))) :
    decK neg k t = (if neg then -1 - (val ((t.take k).map (flp neg)) : Int) else val ((t.take k).map (flp neg)), (k : Int) + 1, 0) := by
  unfold decK; rw [if_neg h8, if_neg hl, if_neg (by rintro ⟨h1, h2⟩; rcases hz with h | h; omega; exact h h2), if_neg hb]
end

theorem xor_u8 (a b : UInt8) : bits .xor .u8 (a.toNat : Int) (b.toNat : Int) = ((a ^^^ b).toNat : Int) := by
  rw [u8_xor_nat _ _ (UInt8.toNat_lt a) (UInt8.toNat_lt b), UInt8.toNat_xor]
theorem wrap_u8 (n : Nat) : IntKind.u8.wrap (n : Int) = ((UInt8.ofNat n).toNat : Int) := by
  rw [UInt8.toNat_ofNat', IntKind.wrap_u8']; omega
theorem u64_not (a : Nat) (ha : a < 18446744073709551616) : bits .xor .u64 IntKind.u64.max (a : Int) = ((18446744073709551615 - a : Nat) : Int) := by
  have h : IntKind.u64.max = ((18446744073709551615 : Nat) : Int) := rfl
  rw [h, u64_xor_nat _ _ (by omega) ha]
  congr 1
  have h2 : (18446744073709551615 : Nat) = 2 ^ 64 - 1 := by decide
  have := BitVec.toNat_not (x := BitVec.ofNat 64 a)
  have h3 := BitVec.allOnes_xor (x := BitVec.ofNat 64 a)
  rw [← h3, BitVec.toNat_xor, BitVec.toNat_allOnes, BitVec.toNat_ofNat, Nat.mod_eq_of_lt (by omega)] at this
  rw [h2, this]
theorem mag_lt {n : Int} (h0 : -9223372036854775808 ≤ n) (h1 : n ≤ 9223372036854775807) : mag n < 9223372036854775808 := by unfold mag; split <;> omega
theorem mag_pos {n : Int} (h : ¬ n < 0) : n = (mag n : Int) := by unfold mag; rw [if_neg h]; omega
theorem mag_neg {n : Int} (h : n < 0) (h0 : -9223372036854775808 ≤ n) : bits .xor .u64 IntKind.u64.max (IntKind.u64.wrap n) = (mag n : Int) := by
  have e : IntKind.u64.wrap n = ((n + 18446744073709551616).toNat : Int) := by rw [IntKind.wrap_u64]; omega
  rw [e, u64_not _ (by omega)]
  unfold mag
  rw [if_pos h]
  omega
theorem pow_shift (j : Nat) : (2 : Nat) ^ (8 * j) = 256 ^ j := by rw [Nat.pow_mul]
theorem shift_int (m j : Nat) : (m : Int) / 2 ^ (8 * j) = ((m / 256 ^ j : Nat) : Int) := by
  rw [← pow_shift]; simp
theorem len_brk {m k : Nat} (hk : k ≤ 8) (hm : m < 256 ^ k) (_h0 : 0 < k) (h : 0 < (m : Int) / 2 ^ (8 * (k - 1))) : Len m k := by
  refine ⟨hk, hm, .inr ?_⟩
  rw [shift_int] at h
  have h1 : 0 < m / 256 ^ (k - 1) := by omega
  exact Nat.le_of_not_lt fun h2 => by rw [Nat.div_eq_of_lt h2] at h1; omega
theorem len_zero {m k : Nat} (hk : k ≤ 8) (hm : m < 256 ^ k) (h0 : ¬ 0 < k) : Len m k := ⟨hk, hm, .inl (by omega)⟩
theorem len_next {m k : Nat} (hk : 0 < k) (h : (m : Int) / 2 ^ (8 * (k - 1)) ≤ 0) : m < 256 ^ (k - 1) := by
  rw [shift_int] at h
  have h1 : m / 256 ^ (k - 1) = 0 := Nat.le_zero.1 (by exact_mod_cast h)
  rcases Nat.div_eq_zero_iff.1 h1 with h2 | h2
  · have : 0 < 256 ^ (k - 1) := Nat.pow_pos (by omega)
    omega
  · exact h2
theorem hd_eq (neg : Bool) (k : Nat) (hk : k ≤ 8) : bits .xor .u8 (128 + (k : Int)) ((fl neg).toNat : Int) = ((hd neg k).toNat : Int) := by
  have e : (128 + (k : Int)) = ((UInt8.ofNat (128 + k)).toNat : Int) := by rw [UInt8.toNat_ofNat']; omega
  rw [e, xor_u8]; rfl
theorem dig_eq (neg : Bool) (m i : Nat) : bits .xor .u8 ((m : Int) / 2 ^ (8 * i) % 256) ((fl neg).toNat : Int) = ((flp neg (dig m i)).toNat : Int) := by
  rw [← IntKind.wrap_u8', shift_int, wrap_u8, xor_u8]
  congr 2
  unfold flp dig
  congr 1
  apply UInt8.toNat_inj.1
  rw [UInt8.toNat_ofNat', UInt8.toNat_ofNat']; omega
/-- the encoding as far as j digits are written -/
def encTo (neg : Bool) (m k j : Nat) : List UInt8 := hd neg k :: (digs m k j).map (flp neg)
theorem encTo_zero (neg : Bool) (m k : Nat) : encTo neg m k 0 = [hd neg k] := rfl
theorem encTo_succ (neg : Bool) (m k j : Nat) : encTo neg m k (j + 1) = encTo neg m k j ++ [flp neg (dig m (k - 1 - j))] := by simp [encTo, digs_succ]
theorem encTo_length (neg : Bool) (m k j : Nat) : (encTo neg m k j).length = j + 1 := by simp [encTo, digs_length]
theorem encTo_all {n : Int} {k : Nat} (h : Len (mag n) k) : encTo (decide (n < 0)) (mag n) k k = encInt n := by
  unfold encTo encInt; rw [klen_of h]
theorem xor_fl (d : UInt8) (neg : Bool) : bits .xor .u8 (d.toNat : Int) ((fl neg).toNat : Int) = ((flp neg d).toNat : Int) := xor_u8 _ _
theorem or_u64 (m : Nat) (d : UInt8) (h : m < 72057594037927936) : bits .or .u64 ((m : Int) * 256) (d.toNat : Int) = ((256 * m + d.toNat : Nat) : Int) := by
  have hd := UInt8.toNat_lt d
  have e : (m : Int) * (256 : Int) = ((m <<< 8 : Nat) : Int) := by rw [Nat.shiftLeft_eq]; omega
  rw [e, u64_or_nat _ _ (by rw [Nat.shiftLeft_eq]; omega) (by omega), ← Nat.shiftLeft_add_eq_or_of_lt (show d.toNat < 2 ^ 8 by omega), Nat.shiftLeft_eq]
  omega
theorem val_from (l : List UInt8) : ∀ m0, l.foldl (fun m d => 256 * m + d.toNat) m0 < (m0 + 1) * 256 ^ l.length := by
  induction l with
  | nil => intro m0; simp
  | cons d l ih =>
    intro m0
    have hd := UInt8.toNat_lt d
    have := ih (256 * m0 + d.toNat)
    rw [List.foldl_cons, List.length_cons, Nat.pow_succ, Nat.mul_comm (256 ^ l.length), ← Nat.mul_assoc]
    exact Nat.lt_of_lt_of_le this (Nat.mul_le_mul_right _ (by omega))
theorem val_lt (l : List UInt8) : val l < 256 ^ l.length := by simpa [val] using val_from l 0
theorem val_lt7 (l : List UInt8) (h : l.length ≤ 7) : val l < 72057594037927936 := Nat.lt_of_lt_of_le (val_lt l) (Nat.le_trans (Nat.pow_le_pow_right (by omega) h) (by decide))
theorem val_lt8 (l : List UInt8) (h : l.length ≤ 8) : val l < 18446744073709551616 := Nat.lt_of_lt_of_le (val_lt l) (Nat.le_trans (Nat.pow_le_pow_right (by omega) h) (by decide))
/-- the digits, the least first -/
def lows (m t : Nat) : List UInt8 := (List.range t).map (dig m)
theorem lows_succ (m t : Nat) : lows m (t + 1) = lows m t ++ [dig m t] := by simp [lows, List.range_succ]
theorem lows_length (m t : Nat) : (lows m t).length = t := by simp [lows]
theorem lows_get (m t i : Nat) (h : i < t) : (lows m t)[i]? = some (dig m i) := by simp [lows, h]
theorem dig_int (m t : Nat) : ((m / 256 ^ t : Nat) : Int) % 256 = ((dig m t).toNat : Int) := by rw [dig_toNat]; omega
theorem div_int (m t : Nat) : ((m / 256 ^ t : Nat) : Int) / 256 = ((m / 256 ^ (t + 1) : Nat) : Int) := by
  rw [Nat.pow_succ, ← Nat.div_div_eq_div_mul]; omega
theorem flp_neg (d : UInt8) : ((flp true d).toNat : Int) = 255 - (d.toNat : Int) := by
  have h : ∀ x : Fin 256, (x.1 ^^^ 255) = 255 - x.1 := by decide +kernel
  have := h ⟨d.toNat, UInt8.toNat_lt d⟩
  unfold flp fl
  rw [UInt8.toNat_xor]
  have h2 := UInt8.toNat_lt d
  simp only [if_true, UInt8.toNat_ofNat] at *
  simp at this ⊢
  omega
theorem flp_ge (h : UInt8) (neg : Bool) (hn : neg = decide (h.toNat < 128)) : 128 ≤ (flp neg h).toNat := by
  have hb := UInt8.toNat_lt h
  by_cases hx : h.toNat < 128
  · rw [hn, decide_eq_true hx]
    have := flp_neg h
    omega
  · rw [hn, decide_eq_false hx]
    unfold flp fl
    simp
    omega
theorem flp_pos (d : UInt8) : flp false d = d := by unfold flp fl; simp
theorem flp_pos_int (d : UInt8) : ((flp false d).toNat : Int) = (d.toNat : Int) := by rw [flp_pos]
theorem hd_pos (k : Nat) (h : k ≤ 8) : ((hd false k).toNat : Int) = 128 + k := by unfold hd; rw [flp_pos, UInt8.toNat_ofNat']; omega
theorem hd_neg (k : Nat) (h : k ≤ 8) : ((hd true k).toNat : Int) = 127 - k := by unfold hd; rw [flp_neg, UInt8.toNat_ofNat']; omega
theorem mag_of_nat (m : Nat) : mag (m : Int) = m := by unfold mag; rw [if_neg (by omega)]; omega
theorem mag_of_neg (m : Nat) : mag (-1 - (m : Int)) = m := by unfold mag; rw [if_pos (by omega)]; omega
theorem Len.lt {m t : Nat} (h : m < 9223372036854775808) (h1 : m / 256 ^ t ≠ 0) (ht : t ≤ 8) : t < 8 := by
  refine Nat.lt_of_le_of_ne ht ?_
  rintro rfl
  exact h1 (Nat.div_eq_of_lt (by simp; omega))
theorem Len.next {m t : Nat} (h1 : m / 256 ^ t ≠ 0) : 256 ^ t ≤ m := Nat.le_of_not_lt fun h => h1 (Nat.div_eq_of_lt h)
theorem Len.fin {m t : Nat} (h : m / 256 ^ t = 0) (ht : t ≤ 8) (h2 : t = 0 ∨ 256 ^ (t - 1) ≤ m) : Len m t := by
  refine ⟨ht, ?_, h2⟩
  rcases Nat.div_eq_zero_iff.1 h with h3 | h3
  · have : 0 < 256 ^ t := Nat.pow_pos (by omega)
    omega
  · exact h3
theorem dig_zero (m : Nat) (d : UInt8) : dig (256 * m + d.toNat) 0 = d := by
  apply UInt8.toNat_inj.1; rw [dig_toNat, Nat.pow_zero, Nat.div_one]; have := UInt8.toNat_lt d; omega
theorem dig_up (m i : Nat) (d : UInt8) : dig (256 * m + d.toNat) (i + 1) = dig m i := by
  apply UInt8.toNat_inj.1; rw [dig_toNat, dig_toNat, Nat.pow_succ, Nat.mul_comm (256 ^ i), ← Nat.div_div_eq_div_mul]
  have := UInt8.toNat_lt d
  congr 2; omega
theorem digs_val_rev (r : List UInt8) : digs (val r.reverse) r.length r.length = r.reverse := by
  induction r with
  | nil => rfl
  | cons d r ih =>
    rw [List.reverse_cons, val_snoc, List.length_cons, digs_succ]
    congr 1
    · rw [← ih]
      simp only [ih]
      unfold digs
      rw [← ih]
      unfold digs
      apply List.map_congr_left
      intro t ht
      have ht2 : t < r.length := by simpa using ht
      have e : r.length + 1 - 1 - t = (r.length - 1 - t) + 1 := by omega
      have ih2 : val (List.map (fun t => dig (val r.reverse) (r.length - 1 - t)) (List.range r.length)) = val r.reverse := by
        have := ih; unfold digs at this; rw [this]
      rw [e, ih2, dig_up]
    · have e : r.length + 1 - 1 - r.length = 0 := by omega
      rw [e, dig_zero]
theorem digs_val (l : List UInt8) : digs (val l) l.length l.length = l := by
  have := digs_val_rev l.reverse
  simpa using this
theorem flp_flp (neg : Bool) (d : UInt8) : flp neg (flp neg d) = d := by unfold flp; rw [UInt8.xor_assoc, UInt8.xor_self, UInt8.xor_zero]
theorem val_first (d : UInt8) (l : List UInt8) : val (d :: l) = d.toNat * 256 ^ l.length + val l := by
  have key : ∀ (l : List UInt8) (m0 : Nat), l.foldl (fun m d => 256 * m + d.toNat) m0 = m0 * 256 ^ l.length + l.foldl (fun m d => 256 * m + d.toNat) 0 := by
    intro l
    induction l with
    | nil => intro m0; simp
    | cons x l ih =>
      intro m0
      rw [List.foldl_cons, List.foldl_cons, ih (256 * m0 + x.toNat), ih (256 * 0 + x.toNat), List.length_cons, Nat.pow_succ, Nat.add_mul, Nat.add_mul]
      simp only [Nat.mul_zero, Nat.zero_mul, Nat.zero_add]
      rw [Nat.mul_comm 256 m0, Nat.mul_assoc, Nat.mul_comm (256 ^ l.length) 256]
      omega
  have := key l (256 * 0 + d.toNat)
  simp only [Nat.mul_zero, Nat.zero_add] at this
  simpa [val] using this
/-- an encoding is met where no digit is wasted -/
theorem enc_iff {neg : Bool} {h : UInt8} {K : Nat} {t : List UInt8} (hh : (flp neg h).toNat = 128 + K) (h8 : K ≤ 8) (hl : K ≤ t.length)
    (hb : val ((t.take K).map (flp neg)) < 9223372036854775808) :
    encInt (if neg then -1 - (val ((t.take K).map (flp neg)) : Int) else val ((t.take K).map (flp neg))) = h :: t.take K ↔ (K = 0 ∨ flp neg (t.getD 0 0) ≠ 0) := by
  obtain ⟨v, hv⟩ : ∃ v, v = val ((t.take K).map (flp neg)) := ⟨_, rfl⟩
  have hlen : ((t.take K).map (flp neg)).length = K := by simp; omega
  have hvK : v < 256 ^ K := by rw [hv]; have := val_lt ((t.take K).map (flp neg)); rwa [hlen] at this
  rw [← hv] at hb ⊢
  have hmag : mag (if neg then -1 - (v : Int) else v) = v := by cases neg; exact mag_of_nat v; exact mag_of_neg v
  have hneg : decide ((if neg then -1 - (v : Int) else v) < 0) = neg := by cases neg <;> simp <;> omega
  constructor
  · intro he
    have h2 := congrArg List.length he
    rw [encInt_length, hmag, List.length_cons, List.length_take, Nat.min_eq_left hl] at h2
    have hk : klen v = K := by omega
    have hL := len_klen (m := v) (by omega)
    rw [hk] at hL
    rcases hL.2.2 with h0 | h0
    · exact .inl h0
    · cases K with
      | zero => exact .inl rfl
      | succ K =>
        refine .inr fun hz => ?_
        cases t with
        | nil => simp at hl
        | cons d t =>
          simp only [List.getD_cons_zero] at hz
          rw [List.take_succ_cons, List.map_cons, val_first, hz] at hv
          have := val_lt ((t.take K).map (flp neg))
          simp only [List.length_map, List.length_take] at this hv
          simp only [List.length_cons] at hl
          rw [Nat.min_eq_left (by omega)] at this hv
          have h0' : 256 ^ K ≤ v := by simpa using h0
          have hv' : v = val ((t.take K).map (flp neg)) := by rw [hv]; simp
          rw [← hv'] at this
          omega
  · intro hz
    have hL : Len v K := by
      refine ⟨h8, hvK, ?_⟩
      rcases hz with h0 | hz
      · exact .inl h0
      · cases K with
        | zero => exact .inl rfl
        | succ K =>
          refine .inr ?_
          cases t with
          | nil => simp at hl
          | cons d t =>
            simp only [List.getD_cons_zero] at hz
            rw [List.take_succ_cons, List.map_cons, val_first] at hv
            simp only [List.length_cons] at hl
            simp only [List.length_map, List.length_take] at hv
            rw [Nat.min_eq_left (by omega)] at hv
            have h1 : 0 < (flp neg d).toNat := Nat.pos_of_ne_zero fun e => hz (UInt8.toNat_inj.1 e)
            have h3 : 1 * 256 ^ K ≤ (flp neg d).toNat * 256 ^ K := Nat.mul_le_mul_right _ h1
            simp
            omega
    have hk := klen_of hL
    unfold encInt
    rw [hmag, hneg, hk]
    congr 1
    · unfold hd
      have : UInt8.ofNat (128 + K) = flp neg h := by apply UInt8.toNat_inj.1; rw [hh, UInt8.toNat_ofNat']; omega
      rw [this, flp_flp]
    · have := digs_val ((t.take K).map (flp neg))
      rw [hlen, ← hv] at this
      rw [this, List.map_map]
      have e : flp neg ∘ flp neg = id := funext fun d => flp_flp neg d
      rw [e, List.map_id]
theorem decK_used {neg : Bool} {k : Nat} {t : List UInt8} (h : (decK neg k t).2.2 = 0) : (decK neg k t).2.1 = k + 1 ∧ k ≤ t.length ∧ -9223372036854775808 ≤ (decK neg k t).1 ∧ (decK neg k t).1 ≤ 9223372036854775807 := by
  by_cases h8 : 8 < k
  · rw [decK_8 h8] at h; simp at h
  · by_cases hl : t.length < k
    · rw [decK_more h8 hl] at h; simp at h
    · by_cases hz : 0 < k ∧ flp neg (t.getD 0 0) = 0
      · rw [decK_zero h8 hl hz.1 hz.2] at h; simp at h
      · have hz' : k = 0 ∨ flp neg (t.getD 0 0) ≠ 0 := by
          by_cases h0 : k = 0
          · exact .inl h0
          · exact .inr fun e => hz ⟨by omega, e⟩
        by_cases hb : 9223372036854775808 ≤ val ((t.take k).map (flp neg))
        · rw [decK_big h8 hl hz' hb] at h; simp at h
        · rw [decK_ok h8 hl hz' hb]
          refine ⟨rfl, by omega, ?_, ?_⟩ <;> (simp only; split <;> omega)
theorem decInt_cons (h : UInt8) (t : List UInt8) : decInt (h :: t) = decK (decide (h.toNat < 128)) ((flp (decide (h.toNat < 128)) h).toNat - 128) t := rfl
theorem decInt_used {l : List UInt8} (h : (decInt l).2.2 = 0) : 1 ≤ (decInt l).2.1 ∧ (decInt l).2.1 ≤ l.length ∧ -9223372036854775808 ≤ (decInt l).1 ∧ (decInt l).1 ≤ 9223372036854775807 := by
  cases l with
  | nil => simp [decInt] at h
  | cons x t =>
    rw [decInt_cons] at h ⊢
    obtain ⟨h1, h2, h3, h4⟩ := decK_used h
    rw [List.length_cons]
    generalize (flp (decide (x.toNat < 128)) x).toNat - 128 = k at *
    exact ⟨by omega, by omega, h3, h4⟩
theorem decK_err {neg : Bool} {k : Nat} {t : List UInt8} (h : (decK neg k t).2.2 ≠ 0) : decK neg k t = (0, 0, (decK neg k t).2.2) := by
  unfold decK at *
  by_cases h8 : 8 < k
  · rw [if_pos h8]
  · rw [if_neg h8] at h ⊢
    by_cases hl : t.length < k
    · rw [if_pos hl]
    · rw [if_neg hl] at h ⊢
      by_cases hz : 0 < k ∧ flp neg (t.getD 0 0) = 0
      · rw [if_pos hz]
      · rw [if_neg hz] at h ⊢
        by_cases hb : 9223372036854775808 ≤ val ((t.take k).map (flp neg))
        · rw [if_pos hb]
        · rw [if_neg hb] at h; exact absurd rfl h
theorem decInt_err {l : List UInt8} (h : (decInt l).2.2 ≠ 0) : decInt l = (0, 0, (decInt l).2.2) := by
  cases l with
  | nil => rfl
  | cons x t => rw [decInt_cons] at h ⊢; exact decK_err h
/-- the error of a list's length, where each element takes at least 'size' bytes -/
def cntErr (l : List UInt8) (size : Int) : Int :=
  if (decInt l).2.2 ≠ 0 then (decInt l).2.2 else if (decInt l).1 < 0 then 2 else if ((l.length : Int) - (decInt l).2.1) / size < (decInt l).1 then 3 else 0
end Go.Dx
