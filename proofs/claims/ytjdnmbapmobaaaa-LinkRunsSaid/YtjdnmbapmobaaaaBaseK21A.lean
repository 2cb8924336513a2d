/- The contracts of the functions that the law reaches, joined into one text. -/
import Derived.WalkKit
import Derived.Lib.Hide
import Derived.Deep.LoopGhost
import Derived.Deep.DeepCutAuto
import Derived.Deep.AppendSrc
import Derived.Deep.QuietTactic
import Derived.BigQuiet
import Derived.Deep.RegionWith
import Derived.Laws.IdiomStrings
import Derived.StillTailTactics
import Derived.Laws.CopyRow
import Derived.StillTail
import Derived.Deep.Quiet
import Derived.Lib.Strings
import Derived.Test.YtjdnmbapmobaaaaChecked
import Derived.Laws.BitsAllLaws
import Derived.IntWalk
import Derived.MapKept
set_option linter.unusedVariables false
set_option linter.unusedSimpArgs false

/- the text Pure1 -/
section
/- The plain mathematics of layer 1 (wire): what an integer's encoding is, what a decoding returns. No Go. -/
set_option linter.unusedVariables false
namespace Go.Dx

/-- digit i of m in base 256 -/
def dig (m i : Nat) : UInt8 := UInt8.ofNat (m / 256 ^ i % 256)
/-- the first j of k digits of m, the greatest first -/
def digs (m k j : Nat) : List UInt8 := (List.range j).map fun t => dig m (k - 1 - t)
theorem digs_zero (m k : Nat) : digs m k 0 = [] := rfl
theorem digs_succ (m k j : Nat) : digs m k (j + 1) = digs m k j ++ [dig m (k - 1 - j)] := by simp [digs, List.range_succ]
theorem digs_length (m k j : Nat) : (digs m k j).length = j := by simp [digs]
theorem dig_toNat (m i : Nat) : (dig m i).toNat = m / 256 ^ i % 256 := by
  unfold dig
  rw [UInt8.toNat_ofNat']
  omega

/-- k is the number of digits of m -/
def Len (m k : Nat) : Prop := k ≤ 8 ∧ m < 256 ^ k ∧ (k = 0 ∨ 256 ^ (k - 1) ≤ m)
def klen (m : Nat) : Nat := if m < 1 then 0 else if m < 256 then 1 else if m < 65536 then 2 else if m < 16777216 then 3 else if m < 4294967296 then 4 else if m < 1099511627776 then 5 else if m < 281474976710656 then 6 else if m < 72057594037927936 then 7 else 8
theorem klen_le (m : Nat) : klen m ≤ 8 := by unfold klen; repeat' split
                                             all_goals omega
theorem klen_of {m k : Nat} (h : Len m k) : klen m = k := by
  obtain ⟨h8, h1, h2⟩ := h
  match k, h8 with
  | 0, _ => simp at h1; subst h1; rfl
  | 1, _ => simp at h1 h2; unfold klen; repeat' split
            all_goals omega
  | 2, _ => simp at h1 h2; unfold klen; repeat' split
            all_goals omega
  | 3, _ => simp at h1 h2; unfold klen; repeat' split
            all_goals omega
  | 4, _ => simp at h1 h2; unfold klen; repeat' split
            all_goals omega
  | 5, _ => simp at h1 h2; unfold klen; repeat' split
            all_goals omega
  | 6, _ => simp at h1 h2; unfold klen; repeat' split
            all_goals omega
  | 7, _ => simp at h1 h2; unfold klen; repeat' split
            all_goals omega
  | 8, _ => simp at h1 h2; unfold klen; repeat' split
            all_goals omega
theorem len_klen {m : Nat} (h : m < 18446744073709551616) : Len m (klen m) := by
  unfold klen Len
  repeat' split
  all_goals (refine ⟨by omega, ?_, ?_⟩ <;> simp <;> omega)

def mag (n : Int) : Nat := if n < 0 then (-1 - n).toNat else n.toNat
/-- a digit as it is written: with the other bits where the integer is negative -/
def fl (neg : Bool) : UInt8 := if neg then 255 else 0
def flp (neg : Bool) (d : UInt8) : UInt8 := d ^^^ fl neg
def hd (neg : Bool) (k : Nat) : UInt8 := flp neg (UInt8.ofNat (128 + k))
def encInt (n : Int) : List UInt8 := hd (decide (n < 0)) (klen (mag n)) :: (digs (mag n) (klen (mag n)) (klen (mag n))).map (flp (decide (n < 0)))
theorem encInt_length (n : Int) : (encInt n).length = klen (mag n) + 1 := by simp [encInt, digs_length]
theorem encInt_pos (n : Int) : 1 ≤ (encInt n).length := by rw [encInt_length]; omega
theorem encInt_le (n : Int) : (encInt n).length ≤ 9 := by rw [encInt_length]; have := klen_le (mag n); omega

/-- the number with some digits, the greatest first -/
def val (l : List UInt8) : Nat := l.foldl (fun m d => 256 * m + d.toNat) 0
theorem val_snoc (l : List UInt8) (d : UInt8) : val (l ++ [d]) = 256 * val l + d.toNat := by simp [val, List.foldl_append]
/-- decoding behind the first byte -/
def decK (neg : Bool) (k : Nat) (t : List UInt8) : Int × Int × Int :=
  if 8 < k then (0, 0, 2)
  else if t.length < k then (0, 0, 3)
  else if 0 < k ∧ flp neg (t.getD 0 0) = 0 then (0, 0, 2)
  else if 9223372036854775808 ≤ val ((t.take k).map (flp neg)) then (0, 0, 2)
  else (if neg then -1 - (val ((t.take k).map (flp neg)) : Int) else val ((t.take k).map (flp neg)), (k : Int) + 1, 0)
/-- what decoding at the beginning of a byte sequence returns: the integer, the number of bytes, the error -/
def decInt (b : List UInt8) : Int × Int × Int :=
  match b with
  | [] => (0, 0, 3)
  | h :: t => decK (decide (h.toNat < 128)) ((flp (decide (h.toNat < 128)) h).toNat - 128) t
section
variable {neg : Bool} {k : Nat} {t : List UInt8}
theorem decK_8 (h8 : 8 < k) : decK neg k t = (0, 0, 2) := by unfold decK; rw [if_pos h8]
theorem decK_more (h8 : ¬ 8 < k) (hl : t.length < k) : decK neg k t = (0, 0, 3) := by unfold decK; rw [if_neg h8, if_pos hl]
theorem decK_zero (h8 : ¬ 8 < k) (hl : ¬ t.length < k) (h0 : 0 < k) (hz : flp neg (t.getD 0 0) = 0) : decK neg k t = (0, 0, 2) := by unfold decK; rw [if_neg h8, if_neg hl, if_pos ⟨h0, hz⟩]
theorem decK_big (h8 : ¬ 8 < k) (hl : ¬ t.length < k) (hz : k = 0 ∨ flp neg (t.getD 0 0) ≠ 0) (hb : 9223372036854775808 ≤ val ((t.take k).map (flp neg))) : decK neg k t = (0, 0, 2) := by
  unfold decK; rw [if_neg h8, if_neg hl, if_neg (by rintro ⟨h1, h2⟩; rcases hz with h | h; omega; exact h h2), if_pos hb]
theorem decK_form (h8 : ¬ 8 < k) (hl : ¬ t.length < k) (hb : 9223372036854775808 ≤ val ((t.take k).map (flp neg))) : decK neg k t = (0, 0, 2) := by
  unfold decK; rw [if_neg h8, if_neg hl]
  by_cases hz : 0 < k ∧ flp neg (t.getD 0 0) = 0
  · rw [if_pos hz]
  · rw [if_neg hz, if_pos hb]
theorem decK_ok (h8 : ¬ 8 < k) (hl : ¬ t.length < k) (hz : k = 0 ∨ flp neg (t.getD 0 0) ≠ 0) (hb : ¬ 9223372036854775808 ≤ val ((t.take k).map (flp neg))) :
    decK neg k t = (if neg then -1 - (val ((t.take k).map (flp neg)) : Int) else val ((t.take k).map (flp neg)), (k : Int) + 1, 0) := by
  unfold decK; rw [if_neg h8, if_neg hl, if_neg (by rintro ⟨h1, h2⟩; rcases hz with h | h; omega; exact h h2), if_neg hb]
end

theorem xor_u8 (a b : UInt8) : bits .xor .u8 (a.toNat : Int) (b.toNat : Int) = ((a ^^^ b).toNat : Int) := by
  rw [u8_xor_nat _ _ (UInt8.toNat_lt a) (UInt8.toNat_lt b), UInt8.toNat_xor]
theorem wrap_u8 (n : Nat) : IntKind.u8.wrap (n : Int) = ((UInt8.ofNat n).toNat : Int) := by
  rw [UInt8.toNat_ofNat', IntKind.wrap_u8']; omega
theorem u64_not (a : Nat) (ha : a < 18446744073709551616) : bits .xor .u64 IntKind.u64.max (a : Int) = ((18446744073709551615 - a : Nat) : Int) := by
  have h : IntKind.u64.max = ((18446744073709551615 : Nat) : Int) := rfl
  rw [h, u64_xor_nat _ _ (by omega) ha]
  congr 1
  have h2 : (18446744073709551615 : Nat) = 2 ^ 64 - 1 := by decide
  have := BitVec.toNat_not (x := BitVec.ofNat 64 a)
  have h3 := BitVec.allOnes_xor (x := BitVec.ofNat 64 a)
  rw [← h3, BitVec.toNat_xor, BitVec.toNat_allOnes, BitVec.toNat_ofNat, Nat.mod_eq_of_lt (by omega)] at this
  rw [h2, this]
theorem mag_lt {n : Int} (h0 : -9223372036854775808 ≤ n) (h1 : n ≤ 9223372036854775807) : mag n < 9223372036854775808 := by unfold mag; split <;> omega
theorem mag_pos {n : Int} (h : ¬ n < 0) : n = (mag n : Int) := by unfold mag; rw [if_neg h]; omega
theorem mag_neg {n : Int} (h : n < 0) (h0 : -9223372036854775808 ≤ n) : bits .xor .u64 IntKind.u64.max (IntKind.u64.wrap n) = (mag n : Int) := by
  have e : IntKind.u64.wrap n = ((n + 18446744073709551616).toNat : Int) := by rw [IntKind.wrap_u64]; omega
  rw [e, u64_not _ (by omega)]
  unfold mag
  rw [if_pos h]
  omega
theorem pow_shift (j : Nat) : (2 : Nat) ^ (8 * j) = 256 ^ j := by rw [Nat.pow_mul]
theorem shift_int (m j : Nat) : (m : Int) / 2 ^ (8 * j) = ((m / 256 ^ j : Nat) : Int) := by
  rw [← pow_shift]; simp
theorem len_brk {m k : Nat} (hk : k ≤ 8) (hm : m < 256 ^ k) (_h0 : 0 < k) (h : 0 < (m : Int) / 2 ^ (8 * (k - 1))) : Len m k := by
  refine ⟨hk, hm, .inr ?_⟩
  rw [shift_int] at h
  have h1 : 0 < m / 256 ^ (k - 1) := by omega
  exact Nat.le_of_not_lt fun h2 => by rw [Nat.div_eq_of_lt h2] at h1; omega
theorem len_zero {m k : Nat} (hk : k ≤ 8) (hm : m < 256 ^ k) (h0 : ¬ 0 < k) : Len m k := ⟨hk, hm, .inl (by omega)⟩
theorem len_next {m k : Nat} (hk : 0 < k) (h : (m : Int) / 2 ^ (8 * (k - 1)) ≤ 0) : m < 256 ^ (k - 1) := by
  rw [shift_int] at h
  have h1 : m / 256 ^ (k - 1) = 0 := Nat.le_zero.1 (by exact_mod_cast h)
  rcases Nat.div_eq_zero_iff.1 h1 with h2 | h2
  · have : 0 < 256 ^ (k - 1) := Nat.pow_pos (by omega)
    omega
  · exact h2
theorem hd_eq (neg : Bool) (k : Nat) (hk : k ≤ 8) : bits .xor .u8 (128 + (k : Int)) ((fl neg).toNat : Int) = ((hd neg k).toNat : Int) := by
  have e : (128 + (k : Int)) = ((UInt8.ofNat (128 + k)).toNat : Int) := by rw [UInt8.toNat_ofNat']; omega
  rw [e, xor_u8]; rfl
theorem dig_eq (neg : Bool) (m i : Nat) : bits .xor .u8 ((m : Int) / 2 ^ (8 * i) % 256) ((fl neg).toNat : Int) = ((flp neg (dig m i)).toNat : Int) := by
  rw [← IntKind.wrap_u8', shift_int, wrap_u8, xor_u8]
  congr 2
  unfold flp dig
  congr 1
  apply UInt8.toNat_inj.1
  rw [UInt8.toNat_ofNat', UInt8.toNat_ofNat']; omega
/-- the encoding as far as j digits are written -/
def encTo (neg : Bool) (m k j : Nat) : List UInt8 := hd neg k :: (digs m k j).map (flp neg)
theorem encTo_zero (neg : Bool) (m k : Nat) : encTo neg m k 0 = [hd neg k] := rfl
theorem encTo_succ (neg : Bool) (m k j : Nat) : encTo neg m k (j + 1) = encTo neg m k j ++ [flp neg (dig m (k - 1 - j))] := by simp [encTo, digs_succ]
theorem encTo_length (neg : Bool) (m k j : Nat) : (encTo neg m k j).length = j + 1 := by simp [encTo, digs_length]
theorem encTo_all {n : Int} {k : Nat} (h : Len (mag n) k) : encTo (decide (n < 0)) (mag n) k k = encInt n := by
  unfold encTo encInt; rw [klen_of h]
theorem xor_fl (d : UInt8) (neg : Bool) : bits .xor .u8 (d.toNat : Int) ((fl neg).toNat : Int) = ((flp neg d).toNat : Int) := xor_u8 _ _
theorem or_u64 (m : Nat) (d : UInt8) (h : m < 72057594037927936) : bits .or .u64 ((m : Int) * 256) (d.toNat : Int) = ((256 * m + d.toNat : Nat) : Int) := by
  have hd := UInt8.toNat_lt d
  have e : (m : Int) * (256 : Int) = ((m <<< 8 : Nat) : Int) := by rw [Nat.shiftLeft_eq]; omega
  rw [e, u64_or_nat _ _ (by rw [Nat.shiftLeft_eq]; omega) (by omega), ← Nat.shiftLeft_add_eq_or_of_lt (show d.toNat < 2 ^ 8 by omega), Nat.shiftLeft_eq]
  omega
theorem val_from (l : List UInt8) : ∀ m0, l.foldl (fun m d => 256 * m + d.toNat) m0 < (m0 + 1) * 256 ^ l.length := by
  induction l with
  | nil => intro m0; simp
  | cons d l ih =>
    intro m0
    have hd := UInt8.toNat_lt d
    have := ih (256 * m0 + d.toNat)
    rw [List.foldl_cons, List.length_cons, Nat.pow_succ, Nat.mul_comm (256 ^ l.length), ← Nat.mul_assoc]
    exact Nat.lt_of_lt_of_le this (Nat.mul_le_mul_right _ (by omega))
theorem val_lt (l : List UInt8) : val l < 256 ^ l.length := by simpa [val] using val_from l 0
theorem val_lt7 (l : List UInt8) (h : l.length ≤ 7) : val l < 72057594037927936 := Nat.lt_of_lt_of_le (val_lt l) (Nat.le_trans (Nat.pow_le_pow_right (by omega) h) (by decide))
theorem val_lt8 (l : List UInt8) (h : l.length ≤ 8) : val l < 18446744073709551616 := Nat.lt_of_lt_of_le (val_lt l) (Nat.le_trans (Nat.pow_le_pow_right (by omega) h) (by decide))
/-- the digits, the least first -/
def lows (m t : Nat) : List UInt8 := (List.range t).map (dig m)
theorem lows_succ (m t : Nat) : lows m (t + 1) = lows m t ++ [dig m t] := by simp [lows, List.range_succ]
theorem lows_length (m t : Nat) : (lows m t).length = t := by simp [lows]
theorem lows_get (m t i : Nat) (h : i < t) : (lows m t)[i]? = some (dig m i) := by simp [lows, h]
theorem dig_int (m t : Nat) : ((m / 256 ^ t : Nat) : Int) % 256 = ((dig m t).toNat : Int) := by rw [dig_toNat]; omega
theorem div_int (m t : Nat) : ((m / 256 ^ t : Nat) : Int) / 256 = ((m / 256 ^ (t + 1) : Nat) : Int) := by
  rw [Nat.pow_succ, ← Nat.div_div_eq_div_mul]; omega
theorem flp_neg (d : UInt8) : ((flp true d).toNat : Int) = 255 - (d.toNat : Int) := by
  have h : ∀ x : Fin 256, (x.1 ^^^ 255) = 255 - x.1 := by decide +kernel
  have := h ⟨d.toNat, UInt8.toNat_lt d⟩
  unfold flp fl
  rw [UInt8.toNat_xor]
  have h2 := UInt8.toNat_lt d
  simp only [if_true, UInt8.toNat_ofNat] at *
  simp at this ⊢
  omega
theorem flp_ge (h : UInt8) (neg : Bool) (hn : neg = decide (h.toNat < 128)) : 128 ≤ (flp neg h).toNat := by
  have hb := UInt8.toNat_lt h
  by_cases hx : h.toNat < 128
  · rw [hn, decide_eq_true hx]
    have := flp_neg h
    omega
  · rw [hn, decide_eq_false hx]
    unfold flp fl
    simp
    omega
theorem flp_pos (d : UInt8) : flp false d = d := by unfold flp fl; simp
theorem flp_pos_int (d : UInt8) : ((flp false d).toNat : Int) = (d.toNat : Int) := by rw [flp_pos]
theorem hd_pos (k : Nat) (h : k ≤ 8) : ((hd false k).toNat : Int) = 128 + k := by unfold hd; rw [flp_pos, UInt8.toNat_ofNat']; omega
theorem hd_neg (k : Nat) (h : k ≤ 8) : ((hd true k).toNat : Int) = 127 - k := by unfold hd; rw [flp_neg, UInt8.toNat_ofNat']; omega
theorem mag_of_nat (m : Nat) : mag (m : Int) = m := by unfold mag; rw [if_neg (by omega)]; omega
theorem mag_of_neg (m : Nat) : mag (-1 - (m : Int)) = m := by unfold mag; rw [if_pos (by omega)]; omega
theorem Len.lt {m t : Nat} (h : m < 9223372036854775808) (h1 : m / 256 ^ t ≠ 0) (ht : t ≤ 8) : t < 8 := by
  refine Nat.lt_of_le_of_ne ht ?_
  rintro rfl
  exact h1 (Nat.div_eq_of_lt (by simp; omega))
theorem Len.next {m t : Nat} (h1 : m / 256 ^ t ≠ 0) : 256 ^ t ≤ m := Nat.le_of_not_lt fun h => h1 (Nat.div_eq_of_lt h)
theorem Len.fin {m t : Nat} (h : m / 256 ^ t = 0) (ht : t ≤ 8) (h2 : t = 0 ∨ 256 ^ (t - 1) ≤ m) : Len m t := by
  refine ⟨ht, ?_, h2⟩
  rcases Nat.div_eq_zero_iff.1 h with h3 | h3
  · have : 0 < 256 ^ t := Nat.pow_pos (by omega)
    omega
  · exact h3
theorem dig_zero (m : Nat) (d : UInt8) : dig (256 * m + d.toNat) 0 = d := by
  apply UInt8.toNat_inj.1; rw [dig_toNat, Nat.pow_zero, Nat.div_one]; have := UInt8.toNat_lt d; omega
theorem dig_up (m i : Nat) (d : UInt8) : dig (256 * m + d.toNat) (i + 1) = dig m i := by
  apply UInt8.toNat_inj.1; rw [dig_toNat, dig_toNat, Nat.pow_succ, Nat.mul_comm (256 ^ i), ← Nat.div_div_eq_div_mul]
  have := UInt8.toNat_lt d
  congr 2; omega
theorem digs_val_rev (r : List UInt8) : digs (val r.reverse) r.length r.length = r.reverse := by
  induction r with
  | nil => rfl
  | cons d r ih =>
    rw [List.reverse_cons, val_snoc, List.length_cons, digs_succ]
    congr 1
    · rw [← ih]
      simp only [ih]
      unfold digs
      rw [← ih]
      unfold digs
      apply List.map_congr_left
      intro t ht
      have ht2 : t < r.length := by simpa using ht
      have e : r.length + 1 - 1 - t = (r.length - 1 - t) + 1 := by omega
      have ih2 : val (List.map (fun t => dig (val r.reverse) (r.length - 1 - t)) (List.range r.length)) = val r.reverse := by
        have := ih; unfold digs at this; rw [this]
      rw [e, ih2, dig_up]
    · have e : r.length + 1 - 1 - r.length = 0 := by omega
      rw [e, dig_zero]
theorem digs_val (l : List UInt8) : digs (val l) l.length l.length = l := by
  have := digs_val_rev l.reverse
  simpa using this
theorem flp_flp (neg : Bool) (d : UInt8) : flp neg (flp neg d) = d := by unfold flp; rw [UInt8.xor_assoc, UInt8.xor_self, UInt8.xor_zero]
theorem val_first (d : UInt8) (l : List UInt8) : val (d :: l) = d.toNat * 256 ^ l.length + val l := by
  have key : ∀ (l : List UInt8) (m0 : Nat), l.foldl (fun m d => 256 * m + d.toNat) m0 = m0 * 256 ^ l.length + l.foldl (fun m d => 256 * m + d.toNat) 0 := by
    intro l
    induction l with
    | nil => intro m0; simp
    | cons x l ih =>
      intro m0
      rw [List.foldl_cons, List.foldl_cons, ih (256 * m0 + x.toNat), ih (256 * 0 + x.toNat), List.length_cons, Nat.pow_succ, Nat.add_mul, Nat.add_mul]
      simp only [Nat.mul_zero, Nat.zero_mul, Nat.zero_add]
      rw [Nat.mul_comm 256 m0, Nat.mul_assoc, Nat.mul_comm (256 ^ l.length) 256]
      omega
  have := key l (256 * 0 + d.toNat)
  simp only [Nat.mul_zero, Nat.zero_add] at this
  simpa [val] using this
/-- an encoding is met where no digit is wasted -/
theorem enc_iff {neg : Bool} {h : UInt8} {K : Nat} {t : List UInt8} (hh : (flp neg h).toNat = 128 + K) (h8 : K ≤ 8) (hl : K ≤ t.length)
    (hb : val ((t.take K).map (flp neg)) < 9223372036854775808) :
    encInt (if neg then -1 - (val ((t.take K).map (flp neg)) : Int) else val ((t.take K).map (flp neg))) = h :: t.take K ↔ (K = 0 ∨ flp neg (t.getD 0 0) ≠ 0) := by
  obtain ⟨v, hv⟩ : ∃ v, v = val ((t.take K).map (flp neg)) := ⟨_, rfl⟩
  have hlen : ((t.take K).map (flp neg)).length = K := by simp; omega
  have hvK : v < 256 ^ K := by rw [hv]; have := val_lt ((t.take K).map (flp neg)); rwa [hlen] at this
  rw [← hv] at hb ⊢
  have hmag : mag (if neg then -1 - (v : Int) else v) = v := by cases neg; exact mag_of_nat v; exact mag_of_neg v
  have hneg : decide ((if neg then -1 - (v : Int) else v) < 0) = neg := by cases neg <;> simp <;> omega
  constructor
  · intro he
    have h2 := congrArg List.length he
    rw [encInt_length, hmag, List.length_cons, List.length_take, Nat.min_eq_left hl] at h2
    have hk : klen v = K := by omega
    have hL := len_klen (m := v) (by omega)
    rw [hk] at hL
    rcases hL.2.2 with h0 | h0
    · exact .inl h0
    · cases K with
      | zero => exact .inl rfl
      | succ K =>
        refine .inr fun hz => ?_
        cases t with
        | nil => simp at hl
        | cons d t =>
          simp only [List.getD_cons_zero] at hz
          rw [List.take_succ_cons, List.map_cons, val_first, hz] at hv
          have := val_lt ((t.take K).map (flp neg))
          simp only [List.length_map, List.length_take] at this hv
          simp only [List.length_cons] at hl
          rw [Nat.min_eq_left (by omega)] at this hv
          have h0' : 256 ^ K ≤ v := by simpa using h0
          have hv' : v = val ((t.take K).map (flp neg)) := by rw [hv]; simp
          rw [← hv'] at this
          omega
  · intro hz
    have hL : Len v K := by
      refine ⟨h8, hvK, ?_⟩
      rcases hz with h0 | hz
      · exact .inl h0
      · cases K with
        | zero => exact .inl rfl
        | succ K =>
          refine .inr ?_
          cases t with
          | nil => simp at hl
          | cons d t =>
            simp only [List.getD_cons_zero] at hz
            rw [List.take_succ_cons, List.map_cons, val_first] at hv
            simp only [List.length_cons] at hl
            simp only [List.length_map, List.length_take] at hv
            rw [Nat.min_eq_left (by omega)] at hv
            have h1 : 0 < (flp neg d).toNat := Nat.pos_of_ne_zero fun e => hz (UInt8.toNat_inj.1 e)
            have h3 : 1 * 256 ^ K ≤ (flp neg d).toNat * 256 ^ K := Nat.mul_le_mul_right _ h1
            simp
            omega
    have hk := klen_of hL
    unfold encInt
    rw [hmag, hneg, hk]
    congr 1
    · unfold hd
      have : UInt8.ofNat (128 + K) = flp neg h := by apply UInt8.toNat_inj.1; rw [hh, UInt8.toNat_ofNat']; omega
      rw [this, flp_flp]
    · have := digs_val ((t.take K).map (flp neg))
      rw [hlen, ← hv] at this
      rw [this, List.map_map]
      have e : flp neg ∘ flp neg = id := funext fun d => flp_flp neg d
      rw [e, List.map_id]
theorem decK_used {neg : Bool} {k : Nat} {t : List UInt8} (h : (decK neg k t).2.2 = 0) : (decK neg k t).2.1 = k + 1 ∧ k ≤ t.length ∧ -9223372036854775808 ≤ (decK neg k t).1 ∧ (decK neg k t).1 ≤ 9223372036854775807 := by
  by_cases h8 : 8 < k
  · rw [decK_8 h8] at h; simp at h
  · by_cases hl : t.length < k
    · rw [decK_more h8 hl] at h; simp at h
    · by_cases hz : 0 < k ∧ flp neg (t.getD 0 0) = 0
      · rw [decK_zero h8 hl hz.1 hz.2] at h; simp at h
      · have hz' : k = 0 ∨ flp neg (t.getD 0 0) ≠ 0 := by
          by_cases h0 : k = 0
          · exact .inl h0
          · exact .inr fun e => hz ⟨by omega, e⟩
        by_cases hb : 9223372036854775808 ≤ val ((t.take k).map (flp neg))
        · rw [decK_big h8 hl hz' hb] at h; simp at h
        · rw [decK_ok h8 hl hz' hb]
          refine ⟨rfl, by omega, ?_, ?_⟩ <;> (simp only; split <;> omega)
theorem decInt_cons (h : UInt8) (t : List UInt8) : decInt (h :: t) = decK (decide (h.toNat < 128)) ((flp (decide (h.toNat < 128)) h).toNat - 128) t := rfl
theorem decInt_used {l : List UInt8} (h : (decInt l).2.2 = 0) : 1 ≤ (decInt l).2.1 ∧ (decInt l).2.1 ≤ l.length ∧ -9223372036854775808 ≤ (decInt l).1 ∧ (decInt l).1 ≤ 9223372036854775807 := by
  cases l with
  | nil => simp [decInt] at h
  | cons x t =>
    rw [decInt_cons] at h ⊢
    obtain ⟨h1, h2, h3, h4⟩ := decK_used h
    rw [List.length_cons]
    generalize (flp (decide (x.toNat < 128)) x).toNat - 128 = k at *
    exact ⟨by omega, by omega, h3, h4⟩
theorem decK_err {neg : Bool} {k : Nat} {t : List UInt8} (h : (decK neg k t).2.2 ≠ 0) : decK neg k t = (0, 0, (decK neg k t).2.2) := by
  unfold decK at *
  by_cases h8 : 8 < k
  · rw [if_pos h8]
  · rw [if_neg h8] at h ⊢
    by_cases hl : t.length < k
    · rw [if_pos hl]
    · rw [if_neg hl] at h ⊢
      by_cases hz : 0 < k ∧ flp neg (t.getD 0 0) = 0
      · rw [if_pos hz]
      · rw [if_neg hz] at h ⊢
        by_cases hb : 9223372036854775808 ≤ val ((t.take k).map (flp neg))
        · rw [if_pos hb]
        · rw [if_neg hb] at h; exact absurd rfl h
theorem decInt_err {l : List UInt8} (h : (decInt l).2.2 ≠ 0) : decInt l = (0, 0, (decInt l).2.2) := by
  cases l with
  | nil => rfl
  | cons x t => rw [decInt_cons] at h ⊢; exact decK_err h
/-- the error of a list's length, where each element takes at least 'size' bytes -/
def cntErr (l : List UInt8) (size : Int) : Int :=
  if (decInt l).2.2 ≠ 0 then (decInt l).2.2 else if (decInt l).1 < 0 then 2 else if ((l.length : Int) - (decInt l).2.1) / size < (decInt l).1 then 3 else 0
end Go.Dx
end

/- the text Pure2 -/
section
/- The plain mathematics of layer 1, lists. No Go. -/
namespace Go.Dx

def encBytes (l : List UInt8) : List UInt8 := encInt l.length ++ l
def encInts (l : List Int) : List UInt8 := encInt l.length ++ l.flatMap encInt
def encStrs (x : List ByteArray) : List UInt8 := encInt x.length ++ x.flatMap fun s => encBytes s.data.toList
def encDigs (x : List (List UInt8)) : List UInt8 := encInt x.length ++ x.flatMap id

/-- what decoding a string returns -/
def decBytes (l : List UInt8) : ByteArray × Int × Int :=
  if cntErr l 1 = 0 then (⟨((l.drop (decInt l).2.1.toNat).take (decInt l).1.toNat).toArray⟩, (decInt l).2.1 + (decInt l).1, 0) else (⟨#[]⟩, 0, cntErr l 1)

theorem cnt_facts {l : List UInt8} {size : Int} (h1 : 1 ≤ size) (h : cntErr l size = 0) :
    ∃ A N : Nat, (decInt l).2.1 = (A : Int) ∧ (decInt l).1 = (N : Int) ∧ (decInt l).2.2 = 0 ∧ 1 ≤ A ∧ A + N * size.toNat ≤ l.length ∧ N ≤ l.length := by
  unfold cntErr at h
  by_cases hE : (decInt l).2.2 = 0
  · obtain ⟨u1, u2, u3, u4⟩ := decInt_used hE
    rw [if_neg (by simp [hE])] at h
    by_cases hN : (decInt l).1 < 0
    · rw [if_pos hN] at h; omega
    · rw [if_neg hN] at h
      by_cases hq : ((l.length : Int) - (decInt l).2.1) / size < (decInt l).1
      · rw [if_pos hq] at h; omega
      · obtain ⟨A, hA⟩ := Int.eq_ofNat_of_zero_le (a := (decInt l).2.1) (by omega)
        obtain ⟨N, hN'⟩ := Int.eq_ofNat_of_zero_le (a := (decInt l).1) (by omega)
        obtain ⟨S, hS⟩ := Int.eq_ofNat_of_zero_le (a := size) (by omega)
        rw [hA, hN'] at hq
        have hq2 : (N : Int) * size ≤ (l.length : Int) - A := (Int.le_ediv_iff_mul_le (by omega)).1 (by omega)
        subst hS
        have hq3 : N * S ≤ l.length - A := by
          have : ((N * S : Nat) : Int) ≤ (l.length : Int) - A := by simpa using hq2
          omega
        have hS1 : 1 ≤ S := by omega
        have hNS : N * 1 ≤ N * S := Nat.mul_le_mul_left _ hS1
        refine ⟨A, N, hA, hN', hE, by omega, ?_, by omega⟩
        simp only [Int.toNat_natCast]
        omega
  · rw [if_pos hE] at h; exact absurd h hE
end Go.Dx
end

/- the text Pure3 -/
section
/- Sequences of decodings. No Go. -/
namespace Go.Dx

/-- k decodings, one behind the other, from A on: the values, the place behind them, the error of the first that fails -/
def seqTo {α : Type} (f : List UInt8 → α × Int × Int) (l : List UInt8) (A : Nat) : Nat → List α × Nat × Int
  | 0 => ([], A, 0)
  | k + 1 =>
    let r := seqTo f l A k
    if r.2.2 ≠ 0 then r
    else
      let x := f (l.drop r.2.1)
      if x.2.2 ≠ 0 then ([], 0, x.2.2) else (r.1 ++ [x.1], r.2.1 + x.2.1.toNat, 0)
def decSeq {α : Type} (f : List UInt8 → α × Int × Int) (l : List UInt8) : List α × Int × Int :=
  if cntErr l 1 ≠ 0 then ([], 0, cntErr l 1)
  else
    let r := seqTo f l (decInt l).2.1.toNat (decInt l).1.toNat
    if r.2.2 ≠ 0 then ([], 0, r.2.2) else (r.1, (r.2.1 : Int), 0)

theorem seqTo_err {α : Type} {f : List UInt8 → α × Int × Int} {l : List UInt8} {A k : Nat} (h : (seqTo f l A k).2.2 ≠ 0) : ∀ m, seqTo f l A (k + m) = seqTo f l A k
  | 0 => rfl
  | m + 1 => by
    have ih := seqTo_err h m
    show (let r := seqTo f l A (k + m); if r.2.2 ≠ 0 then r else _) = _
    simp only
    rw [ih, if_pos h]
theorem seqTo_stop {α : Type} {f : List UInt8 → α × Int × Int} {l : List UInt8} {A k : Nat} {xs : List α} {B : Nat} (h : seqTo f l A k = (xs, B, 0)) (he : (f (l.drop B)).2.2 ≠ 0) :
    seqTo f l A (k + 1) = ([], 0, (f (l.drop B)).2.2) := by
  show (let r := seqTo f l A k; if r.2.2 ≠ 0 then r else _) = _
  simp only [h]
  rw [if_neg (by simp), if_pos he]
theorem seqTo_step {α : Type} {f : List UInt8 → α × Int × Int} {l : List UInt8} {A k : Nat} {xs : List α} {B : Nat} (h : seqTo f l A k = (xs, B, 0)) (he : (f (l.drop B)).2.2 = 0) :
    seqTo f l A (k + 1) = (xs ++ [(f (l.drop B)).1], B + (f (l.drop B)).2.1.toNat, 0) := by
  show (let r := seqTo f l A k; if r.2.2 ≠ 0 then r else _) = _
  simp only [h]
  rw [if_neg (by simp), if_neg (by simp [he])]
theorem decSeq_cnt {α : Type} {f : List UInt8 → α × Int × Int} {l : List UInt8} (h : cntErr l 1 ≠ 0) : decSeq f l = ([], 0, cntErr l 1) := by unfold decSeq; rw [if_pos h]
theorem decSeq_err {α : Type} {f : List UInt8 → α × Int × Int} {l : List UInt8} {A N k : Nat} (h : cntErr l 1 = 0) (hA : (decInt l).2.1 = (A : Int)) (hN : (decInt l).1 = (N : Int)) {E : Int} (hk : k < N) (hE : E ≠ 0)
    (hs : seqTo f l A (k + 1) = ([], 0, E)) : decSeq f l = ([], 0, E) := by
  unfold decSeq
  rw [if_neg (by simp [h]), hA, hN]
  obtain ⟨m, rfl⟩ : ∃ m, N = (k + 1) + m := ⟨N - (k + 1), by omega⟩
  have := seqTo_err (f := f) (l := l) (A := A) (k := k + 1) (by rw [hs]; exact hE) m
  simp only [Int.toNat_natCast]
  rw [this, hs]
  simp [hE]
theorem decSeq_ok {α : Type} {f : List UInt8 → α × Int × Int} {l : List UInt8} {A N : Nat} (h : cntErr l 1 = 0) (hA : (decInt l).2.1 = (A : Int)) (hN : (decInt l).1 = (N : Int)) {xs : List α} {B : Nat}
    (hs : seqTo f l A N = (xs, B, 0)) : decSeq f l = (xs, (B : Int), 0) := by
  unfold decSeq
  rw [if_neg (by simp [h]), hA, hN]
  simp [hs]
theorem seqTo_len {α : Type} {f : List UInt8 → α × Int × Int} {l : List UInt8} {A : Nat} : ∀ {k : Nat} {xs : List α} {B : Nat}, seqTo f l A k = (xs, B, 0) → xs.length = k
  | 0, xs, B, h => by simp [seqTo] at h; obtain ⟨rfl, _⟩ := h; rfl
  | k + 1, xs, B, h => by
    by_cases h0 : (seqTo f l A k).2.2 = 0
    · by_cases he : (f (l.drop (seqTo f l A k).2.1)).2.2 = 0
      · have := seqTo_step (k := k) (xs := (seqTo f l A k).1) (B := (seqTo f l A k).2.1) (by rw [← h0]) he
        rw [this] at h
        injection h with h1 h2
        rw [← h1, List.length_append, seqTo_len (k := k) (xs := (seqTo f l A k).1) (B := (seqTo f l A k).2.1) (by rw [← h0])]
        rfl
      · have := seqTo_stop (k := k) (xs := (seqTo f l A k).1) (B := (seqTo f l A k).2.1) (by rw [← h0]) he
        rw [this] at h
        injection h with h1 h2
        injection h2 with h2 h3
        exact absurd h3 he
    · have := seqTo_err h0 1
      rw [this] at h
      rw [h] at h0
      exact absurd rfl h0
theorem decBytes_used {l : List UInt8} (h : (decBytes l).2.2 = 0) : 1 ≤ (decBytes l).2.1 ∧ (decBytes l).2.1 ≤ l.length := by
  by_cases hE : cntErr l 1 = 0
  · obtain ⟨A, N, e1, e2, e3, hA, hAN, hN⟩ := cnt_facts (by omega) hE
    unfold decBytes
    rw [if_pos hE, e1, e2]
    simp at hAN ⊢
    omega
  · unfold decBytes at h
    rw [if_neg hE] at h
    exact absurd h hE
end Go.Dx
end

/- the text Pure4 -/
section
/- The plain laws of layer 1: round trip, canonical, truncated. No Go. -/
namespace Go.Dx

theorem val_digs_to {m k : Nat} (h : m < 256 ^ k) : ∀ j, j ≤ k → val (digs m k j) = m / 256 ^ (k - j)
  | 0, _ => by rw [digs_zero, Nat.sub_zero, Nat.div_eq_of_lt h]; rfl
  | j + 1, hj => by
    rw [digs_succ, val_snoc, val_digs_to h j (by omega), dig_toNat]
    have e1 : k - j = (k - 1 - j) + 1 := by omega
    have e2 : k - (j + 1) = k - 1 - j := by omega
    rw [e1, e2, Nat.pow_succ, ← Nat.div_div_eq_div_mul]
    omega
theorem val_digs {m k : Nat} (h : m < 256 ^ k) : val (digs m k k) = m := by rw [val_digs_to h k (Nat.le_refl _), Nat.sub_self, Nat.pow_zero, Nat.div_one]
theorem map_flp_flp (neg : Bool) (l : List UInt8) : (l.map (flp neg)).map (flp neg) = l := by
  rw [List.map_map]
  have : (flp neg ∘ flp neg) = id := by funext d; exact flp_flp neg d
  rw [this, List.map_id]
theorem hd_sign (neg : Bool) (k : Nat) (h : k ≤ 8) : decide ((hd neg k).toNat < 128) = neg := by
  cases neg with
  | false => have := hd_pos k h; apply decide_eq_false; omega
  | true => have := hd_neg k h; apply decide_eq_true; omega
theorem flp_hd (neg : Bool) (k : Nat) (h : k ≤ 8) : (flp neg (hd neg k)).toNat = 128 + k := by
  unfold hd; rw [flp_flp, UInt8.toNat_ofNat']; omega

/-- The first theorem of layer 1: what is encoded is decoded, whatever follows. -/
theorem decInt_enc {n : Int} (h0 : -9223372036854775808 ≤ n) (h1 : n ≤ 9223372036854775807) (t : List UInt8) :
    decInt (encInt n ++ t) = (n, (((encInt n).length : Nat) : Int), 0) := by
  have hm := mag_lt h0 h1
  have hL := len_klen (m := mag n) (by omega)
  have hval : n = if decide (n < 0) then -1 - (mag n : Int) else (mag n : Int) := by
    unfold mag
    by_cases hn : n < 0 <;> simp [hn] <;> omega
  rw [encInt_length]
  unfold encInt
  generalize mag n = m at *
  generalize klen m = k at *
  generalize decide (n < 0) = neg at *
  subst hval
  obtain ⟨h8, hk, hk2⟩ := hL
  rw [List.cons_append, decInt_cons, hd_sign _ _ h8, flp_hd _ _ h8, Nat.add_sub_cancel_left]
  have hlen : ((digs m k k).map (flp neg)).length = k := by rw [List.length_map, digs_length]
  have htake : ((digs m k k).map (flp neg) ++ t).take k = (digs m k k).map (flp neg) := by
    have := List.take_left (l₁ := (digs m k k).map (flp neg)) (l₂ := t); rwa [hlen] at this
  have hv : val ((((digs m k k).map (flp neg) ++ t).take k).map (flp neg)) = m := by rw [htake, map_flp_flp, val_digs hk]
  rw [decK_ok (by omega) (by rw [List.length_append, hlen]; omega) ?_ (by rw [hv]; omega), hv]
  · rfl
  · rcases Nat.eq_zero_or_pos k with h | h
    · exact .inl h
    · refine .inr ?_
      obtain ⟨j, rfl⟩ : ∃ j, k = j + 1 := ⟨k - 1, by omega⟩
      have e : ((digs m (j + 1) (j + 1)).map (flp neg) ++ t).getD 0 0 = flp neg (dig m j) := by
        unfold digs; rw [List.range_succ_eq_map]; simp
      rw [e, flp_flp]
      intro hz
      have h3 := congrArg UInt8.toNat hz
      rw [dig_toNat] at h3
      rcases hk2 with h2 | h2
      · omega
      · have h4 : 1 ≤ m / 256 ^ j := (Nat.le_div_iff_mul_le (Nat.pow_pos (by omega))).2 (by simpa using h2)
        have h5 : m / 256 ^ j < 256 := (Nat.div_lt_iff_lt_mul (Nat.pow_pos (by omega))).2 (by rw [Nat.mul_comm]; rwa [← Nat.pow_succ])
        have h6 : m / 256 ^ j % 256 = m / 256 ^ j := Nat.mod_eq_of_lt h5
        simp at h3
        omega

/-- what lacks its end asks for more -/
theorem decInt_cut {n : Int} (h0 : -9223372036854775808 ≤ n) (h1 : n ≤ 9223372036854775807) {i : Nat} (hi : i < (encInt n).length) : decInt ((encInt n).take i) = (0, 0, 3) := by
  have hm := mag_lt h0 h1
  have hL := len_klen (m := mag n) (by omega)
  rw [encInt_length] at hi
  unfold encInt
  cases i with
  | zero => rfl
  | succ j =>
    rw [List.take_succ_cons, decInt_cons, hd_sign _ _ hL.1, flp_hd _ _ hL.1, Nat.add_sub_cancel_left]
    exact decK_more (by have := hL.1; omega) (by rw [List.length_take, List.length_map, digs_length]; omega)

/-- what is decoded was encoded -/
theorem decInt_canon {b : List UInt8} (h : (decInt b).2.2 = 0) : encInt (decInt b).1 = b.take (decInt b).2.1.toNat := by
  cases b with
  | nil => simp [decInt] at h
  | cons x t =>
    rw [decInt_cons] at h ⊢
    have hge := flp_ge x (decide (x.toNat < 128)) rfl
    generalize decide (x.toNat < 128) = neg at *
    obtain ⟨K, hK⟩ : ∃ K, (flp neg x).toNat = 128 + K := ⟨(flp neg x).toNat - 128, by omega⟩
    rw [hK, Nat.add_sub_cancel_left] at h ⊢
    by_cases h8 : 8 < K
    · rw [decK_8 h8] at h; simp at h
    by_cases hl : t.length < K
    · rw [decK_more h8 hl] at h; simp at h
    by_cases hz : K = 0 ∨ flp neg (t.getD 0 0) ≠ 0
    · by_cases hb : 9223372036854775808 ≤ val ((t.take K).map (flp neg))
      · rw [decK_big h8 hl hz hb] at h; simp at h
      · rw [decK_ok h8 hl hz hb]
        have := (enc_iff hK (by omega) (by omega) (by omega)).2 hz
        show encInt (if neg then _ else _) = _
        rw [this]
        show _ = (x :: t).take ((K : Int) + 1).toNat
        rw [show ((K : Int) + 1).toNat = K + 1 by omega, List.take_succ_cons]
    · rw [decK_zero h8 hl (by omega) (by
        by_cases h : flp neg (t.getD 0 0) = 0
        · exact h
        · exact absurd (.inr h) hz)] at h
      simp at h
end Go.Dx
end

/- the text Pure5 -/
section
/- What is decoded was encoded: strings and lists. No Go. -/
namespace Go.Dx

theorem decInt_range (b : List UInt8) : -9223372036854775808 ≤ (decInt b).1 ∧ (decInt b).1 ≤ 9223372036854775807 := by
  by_cases h : (decInt b).2.2 = 0
  · obtain ⟨_, _, h1, h2⟩ := decInt_used h; exact ⟨h1, h2⟩
  · rw [decInt_err h]; simp
/-- a decoder and its encoder -/
def Canon {α : Type} (f : List UInt8 → α × Int × Int) (enc : α → List UInt8) : Prop :=
  ∀ b, (f b).2.2 = 0 → 0 ≤ (f b).2.1 ∧ (f b).2.1 ≤ b.length ∧ enc (f b).1 = b.take (f b).2.1.toNat
theorem canon_int : Canon decInt encInt := fun b h => by
  obtain ⟨h1, h2, _, _⟩ := decInt_used h
  exact ⟨by omega, h2, decInt_canon h⟩
theorem canon_bytes : Canon decBytes fun s => encBytes s.data.toList := fun b h => by
  by_cases hE : cntErr b 1 = 0
  · obtain ⟨A, N, e1, e2, e3, hA, hAN, hN⟩ := cnt_facts (by omega) hE
    have hc := decInt_canon e3
    rw [e1, e2] at hc
    simp at hAN hc
    unfold decBytes
    rw [if_pos hE, e1, e2]
    simp only [Int.toNat_natCast]
    refine ⟨by omega, by omega, ?_⟩
    rw [show ((A : Int) + (N : Int)).toNat = A + N by omega, List.take_add]
    unfold encBytes
    rw [List.length_take, List.length_drop, show min N (b.length - A) = N by omega, hc]
  · unfold decBytes at h
    rw [if_neg hE] at h
    exact absurd h hE
theorem seqTo_canon {α : Type} {f : List UInt8 → α × Int × Int} {enc : α → List UInt8} (hf : Canon f enc) {l : List UInt8} {A : Nat} (hA : A ≤ l.length) :
    ∀ {k : Nat} {xs : List α} {B : Nat}, seqTo f l A k = (xs, B, 0) → A ≤ B ∧ B ≤ l.length ∧ xs.flatMap enc = (l.drop A).take (B - A)
  | 0, xs, B, h => by
    simp [seqTo] at h
    obtain ⟨rfl, rfl⟩ := h
    exact ⟨Nat.le_refl _, hA, by simp⟩
  | k + 1, xs, B, h => by
    by_cases h0 : (seqTo f l A k).2.2 = 0
    · obtain ⟨h1, h2, h3⟩ := seqTo_canon hf hA (k := k) (xs := (seqTo f l A k).1) (B := (seqTo f l A k).2.1) (by rw [← h0])
      by_cases he : (f (l.drop (seqTo f l A k).2.1)).2.2 = 0
      · have hs := seqTo_step (k := k) (xs := (seqTo f l A k).1) (B := (seqTo f l A k).2.1) (by rw [← h0]) he
        rw [hs] at h
        injection h with g1 g2
        injection g2 with g2 g3
        obtain ⟨c1, c2, c3⟩ := hf _ he
        generalize seqTo f l A k = r at *
        obtain ⟨U, hU⟩ := Int.eq_ofNat_of_zero_le c1
        rw [hU] at c2 c3 g2
        rw [List.length_drop] at c2
        simp only [Int.toNat_natCast] at c3 g2
        subst g1 g2
        refine ⟨by omega, by omega, ?_⟩
        rw [List.flatMap_append, h3, List.flatMap_cons, List.flatMap_nil, List.append_nil, c3, show r.2.1 + U - A = (r.2.1 - A) + U by omega, List.take_add, List.drop_drop,
          show A + (r.2.1 - A) = r.2.1 by omega]
      · have hs := seqTo_stop (k := k) (xs := (seqTo f l A k).1) (B := (seqTo f l A k).2.1) (by rw [← h0]) he
        rw [hs] at h
        injection h with g1 g2
        injection g2 with g2 g3
        exact absurd g3 he
    · have := seqTo_err h0 1
      rw [this] at h
      rw [h] at h0
      exact absurd rfl h0
theorem decSeq_bad {α : Type} {f : List UInt8 → α × Int × Int} {l : List UInt8} (h : (decSeq f l).2.2 ≠ 0) : decSeq f l = ([], 0, (decSeq f l).2.2) := by
  unfold decSeq at *
  by_cases hE : cntErr l 1 = 0
  · rw [if_neg (by simp [hE])] at h ⊢
    by_cases hr : (seqTo f l (decInt l).2.1.toNat (decInt l).1.toNat).2.2 = 0
    · rw [if_neg (by simp [hr])] at h; exact absurd rfl h
    · simp only [if_pos hr]
  · simp only [if_pos hE]
theorem decSeq_canon {α : Type} {f : List UInt8 → α × Int × Int} {enc : α → List UInt8} (hf : Canon f enc) {l : List UInt8} (h : (decSeq f l).2.2 = 0) :
    0 ≤ (decSeq f l).2.1 ∧ (decSeq f l).2.1 ≤ l.length ∧ encInt ((decSeq f l).1.length : Nat) ++ (decSeq f l).1.flatMap enc = l.take (decSeq f l).2.1.toNat ∧ (decSeq f l).1.length ≤ l.length := by
  by_cases hE : cntErr l 1 = 0
  · obtain ⟨A, N, e1, e2, e3, hA, hAN, hN⟩ := cnt_facts (by omega) hE
    have hc := decInt_canon e3
    rw [e1, e2] at hc
    simp at hAN hc
    by_cases h0 : (seqTo f l A N).2.2 = 0
    · have hs : seqTo f l A N = ((seqTo f l A N).1, (seqTo f l A N).2.1, 0) := by rw [← h0]
      have hlen := seqTo_len hs
      obtain ⟨h1, h2, h3⟩ := seqTo_canon hf (by omega) hs
      rw [decSeq_ok hE e1 e2 hs]
      refine ⟨by simp, by simpa using h2, ?_, by simp only; omega⟩
      simp only [Int.toNat_natCast]
      rw [hlen, h3, hc, show (seqTo f l A N).2.1 = A + ((seqTo f l A N).2.1 - A) by omega, List.take_add, Nat.add_sub_cancel_left]
    · exfalso
      apply h0
      unfold decSeq at h
      rw [if_neg (by simp [hE]), e1, e2] at h
      simp only [Int.toNat_natCast] at h
      rw [if_pos h0] at h
      exact h
  · rw [decSeq_cnt hE] at h
    exact absurd h hE
theorem seqTo_all {α : Type} {f : List UInt8 → α × Int × Int} {P : α → Prop} (hP : ∀ b, P (f b).1) {l : List UInt8} {A : Nat} : ∀ k, ∀ x ∈ (seqTo f l A k).1, P x
  | 0 => by intro x hx; simp [seqTo] at hx
  | k + 1 => by
    intro x hx
    have ih := seqTo_all hP (l := l) (A := A) k
    unfold seqTo at hx
    simp only at hx
    split at hx
    · exact ih x hx
    · split at hx
      · simp at hx
      · rw [List.mem_append] at hx
        rcases hx with hx | hx
        · exact ih x hx
        · simp at hx; subst hx; exact hP _
theorem decSeq_all {α : Type} {f : List UInt8 → α × Int × Int} {P : α → Prop} (hP : ∀ b, P (f b).1) (l : List UInt8) : ∀ x ∈ (decSeq f l).1, P x := by
  intro x hx
  unfold decSeq at hx
  split at hx
  · simp at hx
  · simp only at hx
    split at hx
    · simp at hx
    · exact seqTo_all hP _ x hx
theorem encBytes_len (l : List UInt8) : l.length ≤ (encBytes l).length := by unfold encBytes; rw [List.length_append]; omega
theorem mem_flatMap_len {α : Type} (enc : α → List UInt8) : ∀ (xs : List α) (x : α), x ∈ xs → (enc x).length ≤ (xs.flatMap enc).length
  | y :: ys, x, h => by
    rw [List.flatMap_cons, List.length_append]
    rcases List.mem_cons.1 h with rfl | h
    · omega
    · have := mem_flatMap_len enc ys x h; omega
/-- the lists that are decoded are short -/
theorem decInts_short (l : List UInt8) : (encInts (decSeq decInt l).1).length ≤ l.length + 9 ∧ (decSeq decInt l).1.length ≤ l.length := by
  by_cases h : (decSeq decInt l).2.2 = 0
  · obtain ⟨h1, h2, h3, h4⟩ := decSeq_canon canon_int h
    refine ⟨?_, h4⟩
    unfold encInts
    rw [h3, List.length_take]
    omega
  · rw [decSeq_bad h]
    refine ⟨?_, by simp⟩
    show (encInt 0 ++ []).length ≤ _
    have := encInt_le 0
    simp
    omega
theorem decStrs_short (l : List UInt8) : (encStrs (decSeq decBytes l).1).length ≤ l.length + 9 ∧ (decSeq decBytes l).1.length ≤ l.length ∧ ∀ s ∈ (decSeq decBytes l).1, s.size ≤ l.length := by
  by_cases h : (decSeq decBytes l).2.2 = 0
  · obtain ⟨h1, h2, h3, h4⟩ := decSeq_canon canon_bytes h
    have h5 := congrArg List.length h3
    rw [List.length_append, List.length_take] at h5
    refine ⟨?_, h4, fun s hs => ?_⟩
    · unfold encStrs
      rw [h3, List.length_take]
      omega
    · have h6 := mem_flatMap_len (fun s : ByteArray => encBytes s.data.toList) _ s hs
      have h7 := encBytes_len s.data.toList
      have h8 : s.data.toList.length = s.size := Array.length_toList
      omega
  · rw [decSeq_bad h]
    refine ⟨?_, by simp, by simp⟩
    show (encInt 0 ++ []).length ≤ _
    have := encInt_le 0
    simp
    omega
theorem decBytes_short (l : List UInt8) : (decBytes l).1.size ≤ l.length := by
  by_cases h : (decBytes l).2.2 = 0
  · obtain ⟨h1, h2, h3⟩ := canon_bytes l h
    have h5 := congrArg List.length h3
    have h7 := encBytes_len (decBytes l).1.data.toList
    have h8 : (decBytes l).1.data.toList.length = (decBytes l).1.size := Array.length_toList
    rw [List.length_take] at h5
    simp only at h5
    omega
  · unfold decBytes at *
    split
    · rename_i hE; rw [if_pos hE] at h; exact absurd rfl h
    · exact Nat.zero_le _
end Go.Dx
end

/- the text Pure6 -/
section
/- Round trips of strings and lists. No Go. -/
namespace Go.Dx

/-- a decoder reads back what its encoder wrote, whatever follows -/
def Round {α : Type} (P : α → Prop) (f : List UInt8 → α × Int × Int) (enc : α → List UInt8) : Prop :=
  ∀ x t, P x → f (enc x ++ t) = (x, (((enc x).length : Nat) : Int), 0) ∧ 1 ≤ (enc x).length
theorem round_int : Round (fun x => -9223372036854775808 ≤ x ∧ x ≤ 9223372036854775807) decInt encInt := fun x t h => ⟨decInt_enc h.1 h.2 t, encInt_pos x⟩
theorem cnt_round {N : Nat} (hN : N ≤ 9223372036854775807) {size : Int} (h1 : 1 ≤ size) {r : List UInt8} (hr : N * size.toNat ≤ r.length) : cntErr (encInt (N : Int) ++ r) size = 0 := by
  have hd := decInt_enc (n := (N : Int)) (by omega) (by omega) r
  unfold cntErr
  rw [hd, if_neg (by simp), if_neg (by simp only; omega), if_neg]
  simp only
  rw [List.length_append]
  obtain ⟨S, rfl⟩ := Int.eq_ofNat_of_zero_le (a := size) (by omega)
  simp only [Int.toNat_natCast] at hr
  intro h
  have h2 : ¬ (N : Int) ≤ (((encInt (N : Int)).length + r.length : Nat) - ((encInt (N : Int)).length : Int) : Int) / (S : Int) := by omega
  apply h2
  rw [Int.le_ediv_iff_mul_le (by omega)]
  have h3 : ((N * S : Nat) : Int) = (N : Int) * (S : Int) := by simp
  rw [← h3]
  omega
theorem round_bytes : Round (fun s : ByteArray => s.size ≤ 9223372036854775807) decBytes (fun s => encBytes s.data.toList) := fun s t hs => by
  have hl : s.data.toList.length = s.size := Array.length_toList
  refine ⟨?_, ?_⟩
  · have e : encBytes s.data.toList ++ t = encInt (s.size : Int) ++ (s.data.toList ++ t) := by unfold encBytes; rw [hl, List.append_assoc]
    have hc : cntErr (encInt (s.size : Int) ++ (s.data.toList ++ t)) 1 = 0 := cnt_round hs (by omega) (by rw [List.length_append]; simp)
    have hd := decInt_enc (n := (s.size : Int)) (by omega) (by omega) (s.data.toList ++ t)
    simp only [e]
    unfold decBytes
    rw [if_pos hc, hd]
    simp only [Int.toNat_natCast]
    have e2 : (encInt (s.size : Int) ++ (s.data.toList ++ t)).drop (encInt (s.size : Int)).length = s.data.toList ++ t := List.drop_left
    have e3 : (s.data.toList ++ t).take s.size = s.data.toList := by rw [← hl]; exact List.take_left
    rw [e2, e3]
    unfold encBytes
    rw [hl, List.length_append, hl]
    simp
  · have := encInt_pos (s.data.toList.length : Int)
    unfold encBytes
    rw [List.length_append]
    omega
theorem seqTo_round {α : Type} {P : α → Prop} {f : List UInt8 → α × Int × Int} {enc : α → List UInt8} (hf : Round P f enc) (pre t : List UInt8) : ∀ (xs : List α), (∀ x ∈ xs, P x) →
    ∀ k, k ≤ xs.length → seqTo f (pre ++ (xs.flatMap enc ++ t)) pre.length k = (xs.take k, pre.length + ((xs.take k).flatMap enc).length, 0) := by
  intro xs hP k
  induction k with
  | zero => intro _; simp [seqTo]
  | succ k ih =>
    intro hk
    have h := ih (by omega)
    have hx : k < xs.length := by omega
    have hsplit : xs.flatMap enc = (xs.take k).flatMap enc ++ (enc xs[k] ++ (xs.drop (k + 1)).flatMap enc) := by
      conv => lhs; rw [← List.take_append_drop k xs, List.drop_eq_getElem_cons hx]
      rw [List.flatMap_append, List.flatMap_cons]
    have hd : (pre ++ (xs.flatMap enc ++ t)).drop (pre.length + ((xs.take k).flatMap enc).length) = enc xs[k] ++ ((xs.drop (k + 1)).flatMap enc ++ t) := by
      rw [List.drop_append, List.drop_of_length_le (by omega), List.nil_append, Nat.add_sub_cancel_left, hsplit, List.append_assoc, List.drop_left, List.append_assoc]
    have hr := (hf xs[k] ((xs.drop (k + 1)).flatMap enc ++ t) (hP _ (List.getElem_mem hx))).1
    rw [seqTo_step h (by rw [hd, hr]), hd, hr]
    have ht : xs.take (k + 1) = xs.take k ++ [xs[k]] := by rw [List.take_add_one, List.getElem?_eq_getElem hx]; rfl
    rw [ht, List.flatMap_append, List.length_append]
    simp [Nat.add_assoc]
theorem flatMap_ge {α : Type} {enc : α → List UInt8} : ∀ {xs : List α}, (∀ x ∈ xs, 1 ≤ (enc x).length) → xs.length ≤ (xs.flatMap enc).length
  | [], _ => by simp
  | x :: xs, h => by
    rw [List.flatMap_cons, List.length_append, List.length_cons]
    have := h x List.mem_cons_self
    have := flatMap_ge (xs := xs) fun y hy => h y (List.mem_cons_of_mem _ hy)
    omega
theorem decSeq_round {α : Type} {P : α → Prop} {f : List UInt8 → α × Int × Int} {enc : α → List UInt8} (hf : Round P f enc) (xs : List α) (hP : ∀ x ∈ xs, P x) (hN : xs.length ≤ 9223372036854775807) (t : List UInt8) :
    decSeq f ((encInt (xs.length : Int) ++ xs.flatMap enc) ++ t) = (xs, (((encInt (xs.length : Int) ++ xs.flatMap enc).length : Nat) : Int), 0) := by
  have hge : xs.length ≤ (xs.flatMap enc).length := flatMap_ge fun x hx => (hf x [] (hP x hx)).2
  have hd := decInt_enc (n := (xs.length : Int)) (by omega) (by omega) (xs.flatMap enc ++ t)
  have hc : cntErr (encInt (xs.length : Int) ++ (xs.flatMap enc ++ t)) 1 = 0 := cnt_round hN (by omega) (by rw [List.length_append, show ((1 : Int).toNat) = 1 from rfl]; omega)
  have hs := seqTo_round hf (encInt (xs.length : Int)) t xs hP xs.length (Nat.le_refl _)
  rw [List.take_length] at hs
  rw [List.append_assoc, decSeq_ok hc (by rw [hd]) (by rw [hd]) hs, List.length_append]
end Go.Dx
end

/- the text K1 -/
section
/- The plain mathematics of chapter 37 (link): seals, packets, what an end does. No Go. -/
set_option linter.unusedVariables false
namespace Go.Dx
/-- the seal's number behind the bytes -/
def fnvStep (h : UInt64) (c : UInt8) : UInt64 := (h ^^^ UInt64.ofNat c.toNat) * 1099511628211
def fnvFrom (h : UInt64) (b : List UInt8) : UInt64 := b.foldl fnvStep h
def fnv0 (key : UInt64) : UInt64 := 14695981039346656037 ^^^ key
def fnv (key : UInt64) (b : List UInt8) : UInt64 := fnvFrom (fnv0 key) b
theorem fnvFrom_snoc (h : UInt64) (b : List UInt8) (c : UInt8) : fnvFrom h (b ++ [c]) = fnvStep (fnvFrom h b) c := by simp [fnvFrom, List.foldl_append]
theorem fnvFrom_take (h : UInt64) {b : List UInt8} {k : Nat} {c : UInt8} (hc : b[k]? = some c) : fnvFrom h (b.take (k + 1)) = fnvStep (fnvFrom h (b.take k)) c := by
  rw [List.take_add_one, hc]
  exact fnvFrom_snoc h _ c
def byteN (n i : Nat) : UInt8 := UInt8.ofNat (n / 256 ^ i)
/-- the seal's bytes, the first k of eight -/
def sealTo (n k : Nat) : List UInt8 := (List.range k).map (byteN n)
theorem sealTo_succ (n k : Nat) : sealTo n (k + 1) = sealTo n k ++ [byteN n k] := by simp [sealTo, List.range_succ]
theorem sealTo_len (n k : Nat) : (sealTo n k).length = k := by simp [sealTo]
def sealB (key : UInt64) (b : List UInt8) : List UInt8 := sealTo (fnv key b).toNat 8
theorem sealB_len (key : UInt64) (b : List UInt8) : (sealB key b).length = 8 := sealTo_len _ _
def sealL (key : UInt64) (b : List UInt8) : List UInt8 := b ++ sealB key b
theorem sealL_len (key : UInt64) (b : List UInt8) : (sealL key b).length = b.length + 8 := by unfold sealL; rw [List.length_append, sealB_len]
/-- what Open returns -/
def openZ (key : UInt64) (b : List UInt8) : List UInt8 × Int :=
  if b.length < 8 then ([], 2) else if sealB key (b.take (b.length - 8)) = b.drop (b.length - 8) then (b.take (b.length - 8), 0) else ([], 9)
theorem open_seal (key : UInt64) (b : List UInt8) : openZ key (sealL key b) = (b, 0) := by
  have h : (sealL key b).length - 8 = b.length := by rw [sealL_len]; omega
  unfold openZ
  rw [if_neg (by rw [sealL_len]; omega), h]
  unfold sealL
  rw [List.take_left, List.drop_left, if_pos rfl]
/-- a packet -/
structure Pk where
  (seq ack : Int) (b : List UInt8)
def pkB (p : Pk) : List UInt8 := encInts [p.seq, p.ack] ++ encBytes p.b
def pkOk (p : Pk) : Bool := decide (0 ≤ p.seq) && decide (0 ≤ p.ack) && decide (p.b.length ≤ 65536) && (decide (0 < p.seq) || decide (p.b.length = 0))
/-- an end -/
structure En where
  (win : Nat) (key : UInt64) (wait : List (List UInt8)) (acked del : Nat) (held : List (Nat × List UInt8)) (ow : Bool) (forged : Nat)
def newE (win : Nat) (key : UInt64) : En := ⟨win, key, [], 0, 0, [], false, 0⟩
def lkE (m : List (Nat × List UInt8)) (k : Nat) : Option (List UInt8) := (m.find? fun p => p.1 == k).map (·.2)
def dlE (m : List (Nat × List UInt8)) (k : Nat) : List (Nat × List UInt8) := m.eraseP fun p => p.1 == k
def sendE (e : En) (b : List UInt8) : En × Int := if b.length ≤ 65536 ∧ e.wait.length < 1000 then ({ e with wait := e.wait ++ [b] }, 0) else (e, 4)
/-- the packets of the first k waiting messages -/
def outTo (e : En) (k : Nat) : List (List UInt8) := (List.range k).map fun (i : Nat) => sealL e.key (pkB ⟨e.acked + i + 1, e.del, e.wait.getD i []⟩)
def outE (e : En) : List (List UInt8) :=
  if min e.wait.length e.win = 0 then (if e.ow then [sealL e.key (pkB ⟨0, e.del, []⟩)] else []) else outTo e (min e.wait.length e.win)
def outS (e : En) : En := { e with ow := false }
/-- the held messages that are next -/
def delE : Nat → En → List (List UInt8) × En
  | 0, e => ([], e)
  | n + 1, e => match lkE e.held (e.del + 1) with
    | none => ([], e)
    | some b => let r := delE n { e with del := e.del + 1, held := dlE e.held (e.del + 1) }; (b :: r.1, r.2)
def readZ (b : List UInt8) : Option Pk :=
  if (decSeq decInt b).2.2 = 0 ∧ (decSeq decInt b).1.length = 2 then
    if (decBytes (b.drop (decSeq decInt b).2.1.toNat)).2.2 = 0 ∧ (decSeq decInt b).2.1 + (decBytes (b.drop (decSeq decInt b).2.1.toNat)).2.1 = (b.length : Int) then
      if pkOk ⟨(decSeq decInt b).1.getD 0 0, (decSeq decInt b).1.getD 1 0, (decBytes (b.drop (decSeq decInt b).2.1.toNat)).1.data.toList⟩ = true then
        some ⟨(decSeq decInt b).1.getD 0 0, (decSeq decInt b).1.getD 1 0, (decBytes (b.drop (decSeq decInt b).2.1.toNat)).1.data.toList⟩
      else none
    else none
  else none
/-- behind an acknowledgement -/
def ackE (e : En) (k : Nat) : En := if e.acked < k then { e with wait := e.wait.drop (k - e.acked), acked := k } else e
/-- behind a message -/
def holdE (e : En) (q : Nat) (b : List UInt8) : En := if e.del < q ∧ lkE e.held q = none then { e with held := e.held ++ [(q, b)] } else e
def inP (e : En) (p : Pk) : En × List (List UInt8) :=
  if e.acked + e.wait.length < p.ack.toNat ∨ e.del + 16 < p.seq.toNat then (e, [])
  else if p.seq = 0 then (ackE e p.ack.toNat, [])
  else
    let e2 := holdE { ackE e p.ack.toNat with ow := true } p.seq.toNat p.b
    let r := delE (e2.held.length + 1) e2
    (r.2, r.1)
def inE (e : En) (b : List UInt8) : En × List (List UInt8) × Int :=
  if (openZ e.key b).2 = 9 then ({ e with forged := e.forged + 1 }, [], 9)
  else if (openZ e.key b).2 ≠ 0 then (e, [], (openZ e.key b).2)
  else match readZ (openZ e.key b).1 with
    | none => (e, [], 2)
    | some p => ((inP e p).1, (inP e p).2, 0)
end Go.Dx
end

/- the text Mem -/
section
/- Memory words shared by all walks of this seat: what a slice reads as, what a call owns, and the laws on append in the walk's form. No program in sight. -/
namespace Go.Dx
open Go.RowKit

/-- a byte, an int as a cell -/
abbrev B8 (d : UInt8) : Value := .int .u8 (d.toNat : Int)
abbrev I64 (n : Int) : Value := .int .i64 n
theorem one_map {α : Type} (f : α → Value) (hf : ∀ x, (f x).oneCell' = true) (l : List α) : ∀ u ∈ l.map f, u.oneCell' = true := by
  intro u hu
  obtain ⟨x, _, rfl⟩ := List.mem_map.1 hu
  exact hf x
theorem hide {p : Prop} (h : p) : Hid p := h

/-- The slice value '.slice a n c' reads as the flat cells cs: n elements of sz cells each. -/
structure Sl (w : World) (sz : Nat) (a : Option Addr) (n c : Nat) (cs : List Value) : Prop where
  len : cs.length = n * sz
  le : n ≤ c
  cap : c ≤ maxLen
  nil : a = none → c = 0
  cell : ∀ p, a = some p → ∀ j u, cs[j]? = some u → w.cell? (p.add j) = some u

theorem Sl.n_eq {α : Type} {f : α → Value} {w : World} {a : Option Addr} {n c : Nat} {l : List α} (h : Sl w 1 a n c (l.map f)) : n = l.length := by
  have := h.len; simp at this; omega
theorem Sl.take {w : World} {a : Option Addr} {n c : Nat} {cs : List Value} (h : Sl w 1 a n c cs) (k : Nat) (hk : k ≤ n) : Sl w 1 a k c (cs.take k) := by
  have h1 := h.len
  have h2 := h.le
  refine ⟨by rw [List.length_take]; omega, by omega, h.cap, h.nil, fun p hp j u hj => h.cell p hp j u ?_⟩
  rw [List.getElem?_take] at hj
  split at hj
  · exact hj
  · cases hj
theorem Sl.ex {w : World} {sz : Nat} {a : Option Addr} {n c : Nat} {cs : List Value} (h : Sl w sz a n c cs) (h0 : 0 < cs.length) :
    ∃ b off, a = some ⟨b, off, none⟩ ∧ b < w.heap.size ∧ ∀ j u, cs[j]? = some u → w.cell? ⟨b, off + j, none⟩ = some u := by
  cases a with
  | none =>
    have := h.nil rfl
    have h1 := h.len
    have h2 := h.le
    have : n = 0 := by omega
    subst this
    simp at h1
    simp [h1] at h0
  | some p =>
    obtain ⟨b, off, spot⟩ := p
    have h1 := h.cell _ rfl 0 (cs[0]'h0) (by simp)
    have hs : spot = none := by simpa [Addr.add] using World.cell?_spot h1
    subst hs
    refine ⟨b, off, rfl, ?_, fun j u hj => ?_⟩
    · have := World.block_lt_of_cell? w _ h1
      simpa [Addr.add] using this
    · have := h.cell _ rfl j u hj
      rwa [Addr.add_lit] at this

theorem Sl.below {w w' : World} {sz : Nat} {a : Option Addr} {n c : Nat} {cs : List Value} (h : Sl w sz a n c cs) (hb : Below w.heap.size w w') : Sl w' sz a n c cs :=
  ⟨h.len, h.le, h.cap, h.nil, fun p hp j u hj => by
    have h1 := h.cell p hp j u hj
    rw [hb.cell (World.block_lt_of_cell? w _ h1)]
    exact h1⟩

theorem Sl.grown {w w' : World} {row : Option Nat} {sz : Nat} {a : Option Addr} {n c : Nat} {cs : List Value} (h : Sl w sz a n c cs) (hb : w.grownBy w' row) (hr : ∀ p, a = some p → some p.block ≠ row) : Sl w' sz a n c cs :=
  ⟨h.len, h.le, h.cap, h.nil, fun p hp j u hj => by
    have h1 := h.cell p hp j u hj
    refine hb.cell h1 ?_
    have : (p.add j).block = p.block := by unfold Addr.add; split <;> rfl
    rw [this]
    exact hr p hp⟩

theorem Sl.alloc {w : World} {sz : Nat} {a : Option Addr} {n c : Nat} {cs : List Value} (h : Sl w sz a n c cs) (o : Obj) : Sl (w.alloc o) sz a n c cs :=
  h.below ((Below.refl _ _).alloc (Nat.le_refl _) _)

theorem Sl.drew {w : World} {sz : Nat} {a : Option Addr} {n c : Nat} {cs : List Value} (h : Sl w sz a n c cs) : Sl w.drew sz a n c cs := ⟨h.len, h.le, h.cap, h.nil, h.cell⟩

theorem Sl.empty (w : World) (sz : Nat) : Sl w sz none 0 0 [] := ⟨by simp, Nat.le_refl _, Nat.zero_le _, fun _ => rfl, fun _ h => by cases h⟩

/-- What the call owns: the slice '.slice a n c' begins a row of its own, from block B on. -/
def Own (w : World) (B : Nat) (e : TypeId) (sz : Nat) (a : Option Addr) (n c : Nat) (cs : List Value) : Prop := w.ownsRow B e sz (.slice a n c) n cs

theorem Own.nil (w : World) (B : Nat) (e : TypeId) (sz : Nat) : Own w B e sz none 0 0 [] := World.ownsRow_nil w B e sz

theorem Own.len {w : World} {B : Nat} {e : TypeId} {sz : Nat} {a : Option Addr} {n c : Nat} {cs : List Value} (h : Own w B e sz a n c cs) : cs.length = n * sz := h.1

theorem Own.sl {w : World} {B : Nat} {e : TypeId} {sz : Nat} {a : Option Addr} {n c : Nat} {cs : List Value} (h : Own w B e sz a n c cs) : Sl w sz a n c cs := by
  refine ⟨h.1, ?_, ?_, ?_, ?_⟩
  · rcases h.2 with ⟨h1, h2⟩ | ⟨g, cap, cur, h1, _, _, h2, _⟩
    · omega
    · injection h1 with _ _ h1; omega
  · rcases h.2 with ⟨h1, h2⟩ | ⟨g, cap, cur, h1, _, _, _, h2, _⟩
    · injection h1 with _ _ h1; unfold maxLen; omega
    · injection h1 with _ _ h1; omega
  · intro ha
    rcases h.2 with ⟨h1, h2⟩ | ⟨g, cap, cur, h1, _, _, h2, _⟩
    · injection h1
    · injection h1 with h1; rw [ha] at h1; cases h1
  · intro p hp j u hj
    subst hp
    have h2 := h.2
    have hg : (Value.slice (some p) n c).ownBlock = some p.block := rfl
    have := World.ownsRow.cells h hg j u hj
    rcases h.2 with ⟨h1, _⟩ | ⟨g, cap, cur, h1, _⟩
    · cases h1
    · injection h1 with h1
      injection h1 with h1
      subst h1
      exact this

theorem Own.base {w : World} {B : Nat} {e : TypeId} {sz : Nat} {p : Addr} {n c : Nat} {cs : List Value} (h : Own w B e sz (some p) n c cs) : B ≤ p.block ∧ p.block < w.heap.size :=
  World.ownsRow.lt h p.block rfl

theorem Own.below {w w' : World} {B : Nat} {e : TypeId} {sz : Nat} {a : Option Addr} {n c : Nat} {cs : List Value} (h : Own w B e sz a n c cs) (hb : Below w.heap.size w w') : Own w' B e sz a n c cs := by
  refine ⟨h.1, ?_⟩
  rcases h.2 with h2 | ⟨g, cap, cur, h1, h2, h3, r⟩
  · exact .inl h2
  · refine .inr ⟨g, cap, cur, h1, h2, ?_, r⟩
    rw [hb.block g (Array.getElem?_eq_some_iff.1 h3).1]
    exact h3

theorem Own.mono {w : World} {B B' : Nat} {e : TypeId} {sz : Nat} {a : Option Addr} {n c : Nat} {cs : List Value} (h : Own w B e sz a n c cs) (hb : B' ≤ B) : Own w B' e sz a n c cs := by
  refine ⟨h.1, ?_⟩
  rcases h.2 with h2 | ⟨g, cap, cur, h1, h2, r⟩
  · exact .inl h2
  · exact .inr ⟨g, cap, cur, h1, by omega, r⟩

theorem Own.alloc {w : World} {B : Nat} {e : TypeId} {sz : Nat} {a : Option Addr} {n c : Nat} {cs : List Value} (h : Own w B e sz a n c cs) (o : Obj) : Own (w.alloc o) B e sz a n c cs :=
  World.ownsRow.alloc h o

theorem Own.drew {w : World} {B : Nat} {e : TypeId} {sz : Nat} {a : Option Addr} {n c : Nat} {cs : List Value} (h : Own w B e sz a n c cs) : Own w.drew B e sz a n c cs := h

theorem Own.kept {w w' : World} {row : Option Nat} {B : Nat} {e : TypeId} {sz : Nat} {a : Option Addr} {n c : Nat} {cs : List Value} (h : Own w B e sz a n c cs) (hg : w.grownBy w' row) (hne : ∀ p, a = some p → some p.block ≠ row) : Own w' B e sz a n c cs := by
  refine World.ownsRow.kept h hg ?_
  cases a with
  | none => exact .inl rfl
  | some p => exact .inr (hne p rfl)

/-- a literal slice just built -/
theorem Own.built (w : World) (B : Nat) (e : TypeId) (sz n : Nat) (us : Array Value) (hB : B ≤ w.heap.size) (hn : us.size = n * sz) (hm : n ≤ maxLen) :
    Own (w.alloc (.cells us e)) B e sz (some ⟨w.heap.size, 0, none⟩) n n us.toList :=
  ⟨by simpa using hn, .inr ⟨w.heap.size, n, us, rfl, hB, heap_alloc_new w _, Nat.le_refl _, hm, hn, by rw [← hn, ← Array.length_toList]; exact List.take_length⟩⟩

theorem ownBlock_of (a : Option Addr) (n c : Nat) : (Value.slice a n c).ownBlock = a.map (·.block) := by cases a <;> rfl

theorem undrew {B : Nat} {w w' : World} (h : Below B w.drew w') : Below B w w' := ⟨h.os, h.tape, h.output, h.size, h.block⟩
theorem undrewN {B n : Nat} {w w' : World} (h : Below B (w.drewN n) w') : Below B w w' := ⟨h.os, h.tape, h.output, h.size, h.block⟩

section laws
variable {P : Program} {w : World} {ops : Array Oper} {rest : List Oper} {o : Oper} {act : Act} {Q : Exit → Act → World → Prop}

theorem Sl.src {sz : Nat} {a : Option Addr} {m c : Nat} {ys : List Value} (h : Sl w sz a m c ys) {tx e' : TypeId} (hk : P.underlying tx = some (.slice e')) (h1 : ∀ u ∈ ys, u.oneCell' = true) : Src P sz tx (.slice a m c) m ys w := by
  cases a with
  | some ad => exact Src.ofSlice w hk ad m c ys h.len (h.cell ad rfl) h1
  | none =>
    have hc := h.nil rfl
    have hle := h.le
    obtain rfl : m = 0 := by omega
    have hnews : ys = [] := List.eq_nil_of_length_eq_zero (by simpa using h.len)
    subst hnews
    exact Src.ofNil w hk c

theorem run_append_any (base : Nat) (t tx ty e : TypeId) (i : TypeInfo) (z : Value) (ht : P.underlying t = some (.slice e)) (hi : P.info? e = some i) (hz : i.zero = some z)
    (hzs : z.cells.size = i.size) (a : Option Addr) (n c : Nat) (xs : List Value) (hown : Own w base e i.size a n c xs)
    (x : Value) (m : Nat) (news : List Value) (hs : Src P i.size tx x m news w)
    (h63 : n + m ≤ maxLen) (hbytes : (n + m) * i.bytes ≤ 140737488355328) (hbase : base ≤ w.heap.size) :
    ∃ a' c' w', (Builtin.append_ #[t, tx] ty #[.slice a n c, x]).run P w = .ok (.slice a' (n + m) c') w' ∧ Own w' base e i.size a' (n + m) c' (xs ++ news) ∧ w.grownBy w' (a.map (·.block)) := by
  have hsmall : n + m ≤ 9223372036854775807 := by simp only [maxLen] at h63; omega
  have hlen : (xs ++ news).length = (n + m) * i.size := by rw [List.length_append, hown.1, hs.newsLen, Nat.add_mul]
  have hold : (Builtin.firstCells i.size n (.slice a n c)).run P w.drew = .ok xs.toArray w.drew := by
    have hsl := hown.sl
    cases a with
    | none =>
      have := hsl.nil rfl
      have := hsl.le
      obtain rfl : n = 0 := by omega
      have hnews : xs = [] := List.eq_nil_of_length_eq_zero (by simpa using hsl.len)
      subst hnews
      exact run_firstCells_none w.drew i.size 0 0 c
    | some p => exact run_firstCells_some w.drew i.size n p n c xs hsl.len (by simpa using hsl.cell p rfl)
  by_cases hroom : n + m ≤ c
  · rcases hown.2 with ⟨h1, h2⟩ | ⟨g, cap, cur, h1, hbg, hg, hnc, hcm, hcs, htake⟩
    · injection h1 with h1 h3 h4
      subst h1 h3 h4
      obtain rfl : m = 0 := by omega
      have hx : xs = [] := List.eq_nil_of_length_eq_zero (by simpa using hown.1)
      have hnews : news = [] := List.eq_nil_of_length_eq_zero (by simpa using hs.newsLen)
      subst hx hnews
      refine ⟨none, 0, w, ?_, Own.nil w base e i.size, World.grownBy.refl _ _⟩
      rcases hs.kind with ⟨e', hk⟩ | hk <;> simp [Builtin.append_, run_underlying ht, run_underlying hk, sizeOf, typeInfo, hi, hs.len, hs.cells]
    · injection h1 with h1 h3 h4
      subst h1 h4
      have hfit : n * i.size + news.length ≤ cur.size := by rw [hs.newsLen, hcs, ← Nat.add_mul]; exact Nat.mul_le_mul_right _ hroom
      have hst := run_storeCells_at P g (n * i.size) e news 0 cur w hg (by simpa using hfit) hs.one
      simp only [Nat.add_zero] at hst
      refine ⟨some ⟨g, 0, none⟩, c, w.setRow g (cur.toList.take (n * i.size) ++ news ++ cur.toList.drop (n * i.size + news.length)).toArray, ?_, ⟨hlen, .inr ⟨g, c, _, rfl, hbg, setRow_heap w g cur _ e _ hg, hroom, hcm, ?_, ?_⟩⟩, ⟨rfl, rfl, rfl, by simp, fun k _ hk => setRow_other w g k _ (fun e => hk (by simp [e]))⟩⟩
      · rcases hs.kind with ⟨e', hk⟩ | hk <;> simp [Builtin.append_, run_underlying ht, run_underlying hk, sizeOf, typeInfo, hi, hs.len, hroom, hs.cells, Addr.add_lit, hst]
      · simp only [List.size_toArray, List.length_append, List.length_take, List.length_drop, Array.length_toList]
        omega
      · rw [htake, ← hlen]
        exact List.take_left
  · have hr := run_append_grow_src (P := P) w t tx ty e i z ht hi hz a n c xs hold x m news hs (by omega) (by omega) (growslice_fits (by omega) hbytes)
    have hge := grownCap_ge w (n + m) c e
    have hcm : grownCap w (n + m) c e ≤ maxLen := grownCap_le_maxLen w (n + m) c e h63
    refine ⟨_, _, _, hr, ⟨hlen, .inr ⟨w.heap.size, _, _, rfl, hbase, heap_alloc_new w.drew _, hge, hcm, ?_, ?_⟩⟩, ⟨rfl, rfl, rfl, by simp, fun k hk _ => Below.heap_alloc w.drew _ k hk⟩⟩
    · simp only [Array.size_append, List.size_toArray, size_zeroCells, hzs, hlen, ← Nat.add_mul]
      congr 1
      omega
    · simp only [Array.toList_append, List.append_assoc]
      rw [← List.append_assoc, ← hlen]
      exact List.take_left

/-- 'append(out, x...)', out owned, whatever x is: the general law. -/
theorem append_src (hg : o.guard = none) (s x : Operand) (t tx : TypeId) (hop : o.op = Op.call { callee := Callee.builtin Builtin.append, args := #[s, x], argTypes := #[t, tx] })
    (e : TypeId) (z : Value) (sz bytes : Nat) (ht : P.underlying t = some (.slice e)) (hi : (P.info? e).map (fun i => (i.zero, i.size, i.bytes)) = some (some z, sz, bytes)) (hz : z.cells.size = sz)
    (w0 : World) (B : Nat) (a : Option Addr) (n c : Nat) (xs : List Value) (hs : act.eval s = .slice a n c) (hown : Own w B e sz a n c xs)
    (v : Value) (m : Nat) (ys : List Value) (hx : act.eval x = v) (hy : Src P sz tx v m ys w)
    (hn : (n + m) * bytes ≤ 140737488355328) (hn2 : n + m ≤ maxLen) (hB : B ≤ w.heap.size) (hbel : Below B w0 w)
    (hK : ∀ a' c' w', Own w' B e sz a' (n + m) c' (xs ++ ys) → w.grownBy w' (a.map (·.block)) → Below B w0 w' → wpList P ops Q rest (act.put o.dst (.slice a' (n + m) c')) w') :
    wpList P ops Q (o :: rest) act w := by
  obtain ⟨i, hi0, hz0, hz1, hz2⟩ := info_parts hi
  subst hz1 hz2
  clear hi
  obtain ⟨a', c', w', hrun, ho, hgr⟩ := run_append_any B t tx o.type e i z ht hi0 hz0 hz a n c xs hown v m ys hy hn2 hn hB
  refine wpList_plain hg fun K hK' => ?_
  unfold Oper.wp
  simp [execOp, hop, resolve, invoke, builtin, hs, hx, hrun, Result.andThen]
  refine hK' _ _ (hK a' c' w' ho hgr (hbel.grown hgr hB ?_))
  intro k hk
  cases a with
  | none => cases hk
  | some p => injection hk with hk; subst hk; exact hown.base.1

/-- 'append(out, ys...)', out owned, ys a slice. -/
theorem append_own (hg : o.guard = none) (s x : Operand) (t : TypeId) (hop : o.op = Op.call { callee := Callee.builtin Builtin.append, args := #[s, x], argTypes := #[t, t] })
    (e : TypeId) (z : Value) (sz bytes : Nat) (ht : P.underlying t = some (.slice e)) (hi : (P.info? e).map (fun i => (i.zero, i.size, i.bytes)) = some (some z, sz, bytes)) (hz : z.cells.size = sz)
    (w0 : World) (B : Nat) (a : Option Addr) (n c : Nat) (xs : List Value) (hs : act.eval s = .slice a n c) (hown : Own w B e sz a n c xs)
    (a2 : Option Addr) (m c2 : Nat) (ys : List Value) (hx : act.eval x = .slice a2 m c2) (hy : Sl w sz a2 m c2 ys) (h1 : ∀ u ∈ ys, u.oneCell' = true)
    (hn : (n + m) * bytes ≤ 140737488355328) (hn2 : n + m ≤ maxLen) (hB : B ≤ w.heap.size) (hbel : Below B w0 w)
    (hK : ∀ a' c' w', Own w' B e sz a' (n + m) c' (xs ++ ys) → w.grownBy w' (a.map (·.block)) → Below B w0 w' → wpList P ops Q rest (act.put o.dst (.slice a' (n + m) c')) w') :
    wpList P ops Q (o :: rest) act w :=
  append_src hg s x t t hop e z sz bytes ht hi hz w0 B a n c xs hs hown _ m ys hx (hy.src ht h1) hn hn2 hB hbel hK

/-- 'append(out, u, ..)': what is appended lies in a block that was laid just before. -/
theorem append_lit (hg : o.guard = none) (s x : Operand) (t : TypeId) (hop : o.op = Op.call { callee := Callee.builtin Builtin.append, args := #[s, x], argTypes := #[t, t] })
    (e : TypeId) (z : Value) (sz bytes : Nat) (ht : P.underlying t = some (.slice e)) (hi : (P.info? e).map (fun i => (i.zero, i.size, i.bytes)) = some (some z, sz, bytes)) (hz : z.cells.size = sz)
    (w0 : World) (B : Nat) (a : Option Addr) (n c : Nat) (xs : List Value) (hs : act.eval s = .slice a n c) (hown : Own w B e sz a n c xs)
    (m : Nat) (us : List Value) (hx : act.eval x = .slice (some ⟨w.heap.size, 0, none⟩) m m) (hu : us.length = m * sz) (h1 : ∀ u ∈ us, u.oneCell' = true)
    (hn : (n + m) * bytes ≤ 140737488355328) (hn2 : n + m ≤ maxLen) (hB : B ≤ w.heap.size) (hbel : Below B w0 w)
    (hK : ∀ a' c' w', Own w' B e sz a' (n + m) c' (xs ++ us) → w.grownBy w' (a.map (·.block)) → Below B w0 w' → wpList P ops Q rest (act.put o.dst (.slice a' (n + m) c')) w') :
    wpList P ops Q (o :: rest) act (w.alloc (.cells us.toArray e)) := by
  refine append_own hg s x t hop e z sz bytes ht hi hz w0 B a n c xs hs (hown.alloc _) _ m m us hx ?_ h1 hn hn2 (by simp; omega) (hbel.alloc hB _) ?_
  · have := (Own.built w 0 e sz m us.toArray (Nat.zero_le _) (by simpa using hu) (by omega)).sl
    simpa using this
  · intro a' c' w' ho hgr hb
    refine hK a' c' w' ho ⟨hgr.os, hgr.tape, hgr.output, ?_, ?_⟩ hb
    · have := hgr.size; simp at this; omega
    · intro k hk hne
      rw [hgr.block k (by simp; omega) hne]
      rw [Below.heap_alloc _ _ _ hk]
/-- What a call hands back that returns a slice of its own. -/
def Gives (e : TypeId) (sz n : Nat) (cs : List Value) (w : World) (r : Ending) (w' : World) : Prop :=
  ∃ a c, r = .returned (.slice a n c) ∧ Own w' w.heap.size e sz a n c cs ∧ Below w.heap.size w w'
/-- What a call hands back that only reads. -/
def Still (v : Value) (w : World) (r : Ending) (w' : World) : Prop := r = .returned v ∧ ∃ n, w' = w.drewN n
theorem Still.below {w : World} (n : Nat) : Below w.heap.size w (w.drewN n) := ⟨rfl, rfl, rfl, Nat.le_refl _, fun _ _ => rfl⟩
end laws
end Go.Dx
end

/- the text Ops -/
section
/- Laws of the walk in terms of 'Sl': an index, a cut, a conversion. No program in sight. -/
set_option linter.unusedVariables false
namespace Go.Dx
open Go.RowKit

theorem sl_add {p : Addr} (i j : Nat) : (p.add i).add j = p.add (i + j) := by
  unfold Addr.add
  by_cases hi : i = 0
  · subst hi; simp
  · by_cases hj : j = 0
    · subst hj; simp
    · simp [hi, hj]; omega

theorem Sl.cut {w : World} {sz : Nat} {a : Option Addr} {n c : Nat} {cs : List Value} (h : Sl w sz a n c cs) (l u : Nat) (hl : l ≤ u) (hu : u ≤ n) :
    Sl w sz (if c = l then a else a.map (·.add (l * sz))) (u - l) (c - l) ((cs.drop (l * sz)).take ((u - l) * sz)) := by
  have h1 := h.len
  have h2 := h.le
  have h3 := h.cap
  have hm : u * sz ≤ n * sz := Nat.mul_le_mul_right _ hu
  have hm2 : l * sz ≤ u * sz := Nat.mul_le_mul_right _ hl
  have hsub : (u - l) * sz = u * sz - l * sz := Nat.sub_mul _ _ _
  refine ⟨?_, by omega, by omega, ?_, ?_⟩
  · rw [List.length_take, List.length_drop]; omega
  · intro ha
    by_cases hc : c = l
    · omega
    · rw [if_neg hc] at ha
      cases a with
      | none => have := h.nil rfl; omega
      | some p => cases ha
  · intro p hp j v hj
    rw [List.getElem?_take] at hj
    split at hj
    · rename_i hlt
      rw [List.getElem?_drop] at hj
      by_cases hc : c = l
      · have : (u - l) * sz = 0 := by have : u - l = 0 := by omega
                                      rw [this, Nat.zero_mul]
        omega
      · rw [if_neg hc] at hp
        cases a with
        | none => cases hp
        | some q =>
          simp only [Option.map_some, Option.some.injEq] at hp
          subst hp
          rw [sl_add]
          exact h.cell q rfl _ _ hj
    · cases hj

theorem Sl.fresh (w : World) (e : TypeId) (sz n : Nat) (us : List Value) (hn : us.length = n * sz) (hm : n ≤ maxLen) : Sl (w.alloc (.cells us.toArray e)) sz (some ⟨w.heap.size, 0, none⟩) n n us :=
  ⟨hn, Nat.le_refl _, hm, (fun h => by cases h), fun p hp j u hj => by
    cases hp
    rw [Addr.add_lit, Nat.zero_add, cell_of_row _ w.heap.size j us.toArray e _ (heap_alloc_new w _)]
    simpa using hj⟩

section ops
variable {P : Program} {w : World} {ops : Array Oper} {rest : List Oper} {act : Act} {Q : Exit → Act → World → Prop}
  {ty : TypeId} {pos : String} {after : Array Edge}

/-- 'xs[i]', the address: a cell that holds u. -/
theorem index_sl (d : Nat) (t : TypeId) (x y : Operand) (e : TypeId) (ht : P.underlying t = some (.slice e)) (hsz : (P.info? e).map (·.size) = some 1)
    (a : Option Addr) (n c : Nat) (cs : List Value) (hx : act.eval x = .slice a n c) (hs : Sl w 1 a n c cs) (k : IntKind) (iv : Int) (i : Nat) (hy : act.eval y = .int k iv) (hiv : iv = (i : Int))
    (u : Value) (hu : cs[i]? = some u)
    (hK : ∀ b o, w.cell? ⟨b, o, none⟩ = some u → b < w.heap.size → wpList P ops Q rest (act.put (some d) (.pointer (some ⟨b, o, none⟩))) w) :
    wpList P ops Q ({ dst := some d, op := .indexAddr t x y, type := ty, pos := pos, after := after, guard := none } :: rest) act w := by
  refine wpList_plain rfl fun K hK' => ?_
  have hil : i < cs.length := (List.getElem?_eq_some_iff.1 hu).1
  have hn : i < n := by have := hs.len; omega
  obtain ⟨b, o, rfl, hb, hc⟩ := hs.ex (by omega)
  obtain ⟨i0, hi0, hs0⟩ := Option.map_eq_some_iff.1 hsz
  subst hiv
  have hrun : (Instr.indexAt t (.slice (some ⟨b, o, none⟩) n c) (.int k (i : Int))).run P w = .ok (.pointer (some ⟨b, o + i, none⟩)) w := by
    simp [Instr.indexAt, asIntOf, run_underlying ht, sizeOf, typeInfo, hi0, hs0, hn, Addr.add_lit]
  unfold Oper.wp
  simp [execOp, hx, hy, hrun, Result.andThen]
  exact hK' _ _ (hK b (o + i) (hc i u hu) hb)

/-- 'xs[l:u]' -/
theorem cut_sl (d : Nat) (t : TypeId) (x lo hi : Operand) (e : TypeId) (ht : P.underlying t = some (.slice e)) (sz : Nat) (hsz : (P.info? e).map (·.size) = some sz)
    (a : Option Addr) (n c : Nat) (cs : List Value) (hx : act.eval x = .slice a n c) (hs : Sl w sz a n c cs) (kl ku : IntKind) (lv uv : Int) (l u : Nat) (hl : act.eval lo = .int kl lv) (hu : act.eval hi = .int ku uv)
    (hlv : lv = (l : Int)) (huv : uv = (u : Int)) (hlu : l ≤ u) (hun : u ≤ n)
    (hK : ∀ a', Sl w sz a' (u - l) (c - l) ((cs.drop (l * sz)).take ((u - l) * sz)) → (∀ p, a' = some p → ∃ q, a = some q ∧ q.block = p.block) → wpList P ops Q rest (act.put (some d) (.slice a' (u - l) (c - l))) w) :
    wpList P ops Q ({ dst := some d, op := .slice t x (some lo) (some hi) none, type := ty, pos := pos, after := after, guard := none } :: rest) act w := by
  refine wpList_plain rfl fun K hK' => ?_
  subst hlv huv
  obtain ⟨i0, hi0, hs0⟩ := Option.map_eq_some_iff.1 hsz
  have hle := hs.le
  have hrun : (Instr.sliceAt t (.slice a n c) (some (.int kl (l : Int))) (some (.int ku (u : Int))) none).run P w = .ok (.slice (if c = l then a else a.map (·.add (l * sz))) (u - l) (c - l)) w := by
    have h2 : (0 : Int) ≤ l ∧ (l : Int) ≤ u := by omega
    have h3 : (0 : Int) ≤ u ∧ (u : Int) ≤ c := by omega
    simp [Instr.sliceAt, Instr.slice, Instr.sliceBounds, Instr.sliceBound, asIntOf, run_underlying ht, sizeOf, typeInfo, hi0, hs0, h2, h3, show u ≤ c by omega, hlu]
  unfold Oper.wp
  simp only [execOp, Option.map_some, Option.map_none, hx, hl, hu, Sem.run_bind, hrun, Result.andThen, Sem.run_pure]
  refine hK' _ _ (hK _ (hs.cut l u hlu hun) ?_)
  intro p hp
  by_cases hc : c = l
  · rw [if_pos hc] at hp; exact ⟨p, hp, rfl⟩
  · rw [if_neg hc] at hp
    cases a with
    | none => cases hp
    | some q =>
      simp only [Option.map_some, Option.some.injEq] at hp
      exact ⟨q, rfl, by rw [← hp]; unfold Addr.add; split <;> rfl⟩

/-- 'xs[l:]' -/
theorem cut_lo (d : Nat) (t : TypeId) (x lo : Operand) (e : TypeId) (ht : P.underlying t = some (.slice e)) (sz : Nat) (hsz : (P.info? e).map (·.size) = some sz)
    (a : Option Addr) (n c : Nat) (cs : List Value) (hx : act.eval x = .slice a n c) (hs : Sl w sz a n c cs) (kl : IntKind) (lv : Int) (l : Nat) (hl : act.eval lo = .int kl lv)
    (hlv : lv = (l : Int)) (hln : l ≤ n)
    (hK : ∀ a', Sl w sz a' (n - l) (c - l) (cs.drop (l * sz)) → (∀ p, a' = some p → ∃ q, a = some q ∧ q.block = p.block) → wpList P ops Q rest (act.put (some d) (.slice a' (n - l) (c - l))) w) :
    wpList P ops Q ({ dst := some d, op := .slice t x (some lo) none none, type := ty, pos := pos, after := after, guard := none } :: rest) act w := by
  refine wpList_plain rfl fun K hK' => ?_
  subst hlv
  obtain ⟨i0, hi0, hs0⟩ := Option.map_eq_some_iff.1 hsz
  have hle := hs.le
  have hrun : (Instr.sliceAt t (.slice a n c) (some (.int kl (l : Int))) none none).run P w = .ok (.slice (if c = l then a else a.map (·.add (l * sz))) (n - l) (c - l)) w := by
    have h2 : (0 : Int) ≤ l ∧ (l : Int) ≤ n := by omega
    simp [Instr.sliceAt, Instr.slice, Instr.sliceBounds, Instr.sliceBound, asIntOf, run_underlying ht, sizeOf, typeInfo, hi0, hs0, h2, hln]
  have hcut := hs.cut l n hln (Nat.le_refl _)
  have e2 : (cs.drop (l * sz)).take ((n - l) * sz) = cs.drop (l * sz) := by
    apply List.take_of_length_le
    have := hs.len
    rw [List.length_drop, this, Nat.sub_mul]; omega
  rw [e2] at hcut
  unfold Oper.wp
  simp only [execOp, Option.map_some, Option.map_none, hx, hl, Sem.run_bind, hrun, Result.andThen, Sem.run_pure]
  refine hK' _ _ (hK _ hcut ?_)
  intro p hp
  by_cases hc : c = l
  · rw [if_pos hc] at hp; exact ⟨p, hp, rfl⟩
  · rw [if_neg hc] at hp
    cases a with
    | none => cases hp
    | some q =>
      simp only [Option.map_some, Option.some.injEq] at hp
      exact ⟨q, rfl, by rw [← hp]; unfold Addr.add; split <;> rfl⟩

/-- 'xs[:u]': the address stays. -/
theorem cut_hi (d : Nat) (t : TypeId) (x hi : Operand) (e : TypeId) (ht : P.underlying t = some (.slice e)) (sz : Nat) (hsz : (P.info? e).map (·.size) = some sz)
    (a : Option Addr) (n c : Nat) (cs : List Value) (hx : act.eval x = .slice a n c) (hs : Sl w sz a n c cs) (ku : IntKind) (uv : Int) (u : Nat) (hu : act.eval hi = .int ku uv)
    (huv : uv = (u : Int)) (hun : u ≤ n)
    (hK : Sl w sz a u c (cs.take (u * sz)) → wpList P ops Q rest (act.put (some d) (.slice a u c)) w) :
    wpList P ops Q ({ dst := some d, op := .slice t x none (some hi) none, type := ty, pos := pos, after := after, guard := none } :: rest) act w := by
  refine wpList_plain rfl fun K hK' => ?_
  subst huv
  obtain ⟨i0, hi0, hs0⟩ := Option.map_eq_some_iff.1 hsz
  have hle := hs.le
  have hrun : (Instr.sliceAt t (.slice a n c) none (some (.int ku (u : Int))) none).run P w = .ok (.slice a u c) w := by
    have h3 : (0 : Int) ≤ u ∧ (u : Int) ≤ c := by omega
    simp [Instr.sliceAt, Instr.slice, Instr.sliceBounds, Instr.sliceBound, asIntOf, run_underlying ht, sizeOf, typeInfo, hi0, h3, show u ≤ c by omega]
    intro _
    cases a with
    | none => rfl
    | some p => simp [Addr.add]
  have hcut := hs.cut 0 u (Nat.zero_le _) hun
  have e2 : (if c = 0 then a else a.map (·.add (0 * sz))) = a := by
    split
    · rfl
    · cases a with
      | none => rfl
      | some p => simp [Addr.add]
  rw [e2] at hcut
  simp only [Nat.sub_zero, Nat.zero_mul, List.drop_zero] at hcut
  unfold Oper.wp
  simp only [execOp, Option.map_some, Option.map_none, hx, hu, Sem.run_bind, hrun, Result.andThen, Sem.run_pure]
  exact hK' _ _ (hK hcut)

/-- 'string(b)' -/
theorem conv_str (d : Nat) (src dst : TypeId) (x : Operand) (e : TypeId) (hsr : P.underlying src = some (.slice e)) (he : P.underlying e = some (.int .u8)) (hd : P.underlying dst = some .string)
    (a : Option Addr) (n c : Nat) (l : List UInt8) (hx : act.eval x = .slice a n c) (hs : Sl w 1 a n c (l.map B8))
    (hK : wpList P ops Q rest (act.put (some d) (.string ⟨l.toArray⟩)) w) :
    wpList P ops Q ({ dst := some d, op := .convert src dst x, type := ty, pos := pos, after := after, guard := none } :: rest) act w := by
  refine wpList_plain rfl fun K hK' => ?_
  obtain rfl := hs.n_eq
  have hrun : (convert src dst (.slice a l.length c)).run P w = .ok (.string ⟨l.toArray⟩) w := by
    cases a with
    | some p =>
      exact run_convert_bytes_back w src dst e p c l hsr he hd (fun j hj => hs.cell p rfl j _ (by simp [hj]))
    | none =>
      have := hs.nil rfl
      have := hs.le
      have hl : l = [] := List.eq_nil_of_length_eq_zero (by omega)
      subst hl
      simp [convert, run_underlying hsr, run_underlying hd, run_underlying he, Conv.bytesToString]
      rfl
  unfold Oper.wp
  simp [execOp, hx, hrun, Result.andThen]
  exact hK' _ _ hK

/-- '[]byte(s)' -/
theorem conv_bytes (d : Nat) (src dst : TypeId) (x : Operand) (e : TypeId) (hsr : P.underlying src = some .string) (hd : P.underlying dst = some (.slice e)) (he : P.underlying e = some (.int .u8))
    (s : ByteArray) (hx : act.eval x = .string s) (hm : s.size ≤ maxLen)
    (hK : ∀ a c w', Sl w' 1 a s.size c (s.data.toList.map B8) → Below w.heap.size w w' → (∀ p, a = some p → w.heap.size ≤ p.block) → wpList P ops Q rest (act.put (some d) (.slice a s.size c)) w') :
    wpList P ops Q ({ dst := some d, op := .convert src dst x, type := ty, pos := pos, after := after, guard := none } :: rest) act w := by
  refine wpList_plain rfl fun K hK' => ?_
  have hrun := run_bytes_of_string (P := P) w src dst e s hsr hd he
  have hge := grownCap_ge w s.size 0 e
  have hcm := grownCap_le_maxLen w s.size 0 e hm
  unfold Oper.wp
  simp only [execOp, hx, Sem.run_bind, hrun, Result.andThen, Sem.run_pure]
  refine hK' _ _ (hK _ _ _ ⟨?_, hge, hcm, (fun h => by cases h), ?_⟩ ((Below.refl _ _).drew.alloc (Nat.le_refl _) _) (fun p hp => by cases hp; exact Nat.le_refl _))
  · rw [List.length_map, Array.length_toList, Nat.mul_one]; rfl
  · intro p hp j u hj
    cases hp
    rw [Addr.add_lit, Nat.zero_add, cell_of_row _ w.heap.size j (bytesRow s (grownCap w s.size 0 e)) e _ (heap_alloc_new w.drew _)]
    have hj2 : j < s.size := by
      have := (List.getElem?_eq_some_iff.1 hj).1
      rw [List.length_map, Array.length_toList] at this
      exact this
    unfold bytesRow
    rw [Array.getElem?_append_left (by rw [Array.size_map]; exact hj2)]
    rw [← hj]
    simp
/-- a whole array or struct is loaded -/
theorem load_agg (d : Nat) (t : TypeId) (x : Operand) (sz : Nat) (hsz : (P.info? t).map (·.size) = some sz) (n e : Nat) (hag : P.underlying t = some (.array n e))
    (p : Addr) (hx : act.eval x = .pointer (some p)) (cs : List Value) (hl : cs.length = sz) (hc : ∀ j u, cs[j]? = some u → w.cell? (p.add j) = some u)
    (hK : wpList P ops Q rest (act.put (some d) (.agg cs.toArray)) w) :
    wpList P ops Q ({ dst := some d, op := .load t x, type := ty, pos := pos, after := after, guard := none } :: rest) act w := by
  refine wpList_plain rfl fun K hK' => ?_
  obtain ⟨i, hi, hs0⟩ := Option.map_eq_some_iff.1 hsz
  subst hs0
  have hrun : (Instr.loadAt t (.pointer (some p))).run P w = .ok (.agg cs.toArray) w := by
    have hl2 := run_loadCells_list (P := P) w p cs hc
    rw [hl] at hl2
    simp [Instr.loadAt, Instr.sureAddr, loadVar, isAgg, run_underlying hag, sizeOf, typeInfo, hi, hl2]
  unfold Oper.wp
  simp [execOp, hx, hrun, Result.andThen]
  exact hK' _ _ hK

/-- a whole value is stored into a block that was laid just before -/
theorem store_fresh (t e : TypeId) (x y : Operand) (sz : Nat) (hsz : (P.info? t).map (·.size) = some sz) (zs : Array Value)
    (hx : act.eval x = .pointer (some ⟨w.heap.size, 0, none⟩)) (v : Value) (cs : List Value) (hy : act.eval y = v) (hv : v.cells = cs.toArray) (hl : cs.length = sz) (hz : zs.size = sz) (h1 : ∀ u ∈ cs, u.oneCell' = true)
    (hK : wpList P ops Q rest act (w.alloc (.cells cs.toArray e))) :
    wpList P ops Q ({ dst := none, op := .store t x y, type := ty, pos := pos, after := after, guard := none } :: rest) act (w.alloc (.cells zs e)) := by
  refine wpList_plain rfl fun K hK' => ?_
  obtain ⟨i, hi, hs0⟩ := Option.map_eq_some_iff.1 hsz
  subst hs0
  have hst := run_storeCells_at P w.heap.size 0 e cs 0 zs (w.alloc (.cells zs e)) (heap_alloc_new w _) (by omega) h1
  simp only [Nat.add_zero, Nat.zero_add, List.take_zero, List.nil_append] at hst
  have hd : zs.toList.drop cs.length = [] := by
    apply List.drop_eq_nil_of_le; rw [Array.length_toList]; omega
  rw [hd, List.append_nil] at hst
  have hset : (w.alloc (.cells zs e)).setRow w.heap.size cs.toArray = w.alloc (.cells cs.toArray e) := by
    unfold World.setRow World.alloc
    congr 1
    apply Array.ext
    · simp
    · intro k h1 h2
      simp only [Array.getElem_modify, Array.getElem_push]
      by_cases h : w.heap.size = k
      · subst h; simp
      · have hk : k < w.heap.size := by simp at h1; omega
        simp [h, hk]
  rw [hset] at hst
  have hrun : (Instr.storeAt t (.pointer (some ⟨w.heap.size, 0, none⟩)) v).run P (w.alloc (.cells zs e)) = .ok () (w.alloc (.cells cs.toArray e)) := by
    simp [Instr.storeAt, Instr.sureAddr, storeVar, sizeOf, typeInfo, hi, hv, hl, hst]
  unfold Oper.wp
  simp [execOp, hx, hy, hrun, Result.andThen]
  exact hK' _ _ hK
end ops
end Go.Dx
end

/- the text Ops2 -/
section
/- More laws of the walk: a slice literal of one element that is an array or a struct; a slice to an array. No program in sight. -/
set_option linter.unusedVariables false
namespace Go.Dx
open Go.RowKit

theorem fill_list : ∀ (l : List Value) (k : Nat) (cs : Array Value), cs.size = k + l.length →
    ((l.zipIdx k).foldl (fun cs (x : Value × Nat) => cs.setIfInBounds x.2 x.1) cs).toList = cs.toList.take k ++ l
  | [], k, cs, h => by simp at h ⊢; rw [List.take_of_length_le]; simp; omega
  | x :: r, k, cs, h => by
    rw [List.zipIdx_cons, List.foldl_cons, fill_list r (k + 1) _ (by simp at h ⊢; omega)]
    simp only [Array.toList_setIfInBounds]
    have hk : k < cs.toList.length := by simp at h ⊢; omega
    rw [List.take_succ_eq_append_getElem (by simpa using hk)]
    simp [List.take_set_of_le]
theorem fill_one (v cs : Array Value) (h : cs.size = v.size) : v.zipIdx.foldl (fun cs (x : Value × Nat) => cs.setIfInBounds (0 + x.2) x.1) cs = v := by
  apply Array.ext'
  have := fill_list v.toList 0 cs (by simpa using h)
  simp only [List.take_zero, List.nil_append] at this
  rw [← Array.foldl_toList, Array.toList_zipIdx]
  simpa using this

section ops
variable {P : Program} {w : World} {ops : Array Oper} {rest : List Oper} {act : Act} {Q : Exit → Act → World → Prop}
  {ty : TypeId} {pos : String} {after : Array Edge}

/-- '[]T{x}', T an array or a struct. -/
theorem build_one (d : Nat) (t : TypeId) (x : Operand) (e : TypeId) (ht : P.underlying t = some (.slice e)) (z : Value) (sz bytes : Nat) (hi : (P.info? e).map (fun i => (i.zero, i.size, i.bytes)) = some (some z, sz, bytes))
    (hz : z.cells.size = sz) (hs0 : 0 < sz) (hs1 : sz ≤ 16777216) (v : Value) (us : List Value) (hx : act.eval x = v) (hv : v.cells = us.toArray) (hl : us.length = sz)
    (hK : wpList P ops Q rest (act.put (some d) (.slice (some ⟨w.heap.size, 0, none⟩) 1 1)) (w.alloc (.cells us.toArray e))) :
    wpList P ops Q ({ dst := some d, op := .buildSlice t 1 #[(0, x)], type := ty, pos := pos, after := after, guard := none } :: rest) act w := by
  refine wpList_plain rfl fun K hK' => ?_
  obtain ⟨i, hi0, hz0, hz1, hz2⟩ := info_parts hi
  subst hz1
  have hrun : (Instr.buildSlice t 1 #[(0, v)]).run P w = .ok (.slice (some ⟨w.heap.size, 0, none⟩) 1 1) (w.alloc (.cells us.toArray e)) := by
    have h1 : ¬ (i.size > 16777216) := by omega
    have h2 : i.size ≠ 0 := by omega
    have hf := fill_one us.toArray ((Array.range i.size).map (z.cells[· % z.cells.size]!)) (by simp [hl])
    simp [Instr.buildSlice, run_underlying ht, sizeOf, typeInfo, hi0, h1, h2, zeroValue, hz0, Instr.fill, hv, hl, newRow]
    simp at hf
    rw [hf]
  unfold Oper.wp
  simp [execOp, hx, hrun, Result.andThen]
  exact hK' _ _ hK

/-- '[n]T(xs)' and '(*[n]T)(xs)' -/
theorem to_array (d : Nat) (t : TypeId) (x : Operand) (n e : Nat) (ht : P.underlying t = some (.array n e)) (a : Option Addr) (len c : Nat) (hx : act.eval x = .slice a len c) (hn : n ≤ len)
    (hK : wpList P ops Q rest (act.put (some d) (.pointer a)) w) :
    wpList P ops Q ({ dst := some d, op := .sliceToArrayPointer t x, type := ty, pos := pos, after := after, guard := none } :: rest) act w := by
  refine wpList_plain rfl fun K hK' => ?_
  have hrun : (Instr.arrayAt t (.slice a len c)).run P w = .ok (.pointer a) w := by
    simp [Instr.arrayAt, run_underlying ht, Nat.not_lt.2 hn]
  unfold Oper.wp
  simp [execOp, hx, hrun, Result.andThen]
  exact hK' _ _ hK
end ops

theorem run_forIn_eq {P : Program} (w : World) (n : Nat) (xs ys : List Int) (hx : xs.length = n) (hy : ys.length = n) (F : Nat → Option Bool × Unit → Sem (ForInStep (Option Bool × Unit)))
    (hF : ∀ i s, i < n → (F i s).run P w = .ok (if xs[i]? = ys[i]? then ForInStep.yield (none, ()) else ForInStep.done (some false, ())) w) :
    ∀ (m s : Nat), s + m = n → (forIn (List.range' s m) ((none, ()) : Option Bool × Unit) F).run P w = .ok (if xs.drop s = ys.drop s then (none, ()) else (some false, ())) w := by
  intro m
  induction m with
  | zero =>
    intro s hs
    rw [List.drop_eq_nil_of_le (by omega), List.drop_eq_nil_of_le (by omega)]
    simp [Sem.run_pure]
  | succ m ih =>
    intro s hs
    rw [List.range'_succ, List.forIn_cons, Sem.run_bind, hF s _ (by omega)]
    have ex : xs.drop s = xs[s]'(by omega) :: xs.drop (s + 1) := List.drop_eq_getElem_cons (by omega)
    have ey : ys.drop s = ys[s]'(by omega) :: ys.drop (s + 1) := List.drop_eq_getElem_cons (by omega)
    rw [ex, ey]
    by_cases h : xs[s]? = ys[s]?
    · rw [if_pos h, Result.andThen_ok]
      have h2 : xs[s]'(by omega) = ys[s]'(by omega) := by
        rw [List.getElem?_eq_getElem (by omega), List.getElem?_eq_getElem (by omega)] at h
        exact Option.some.inj h
      simp only [ih (s + 1) (by omega), h2, List.cons.injEq, true_and]
    · rw [if_neg h, Result.andThen_ok]
      have h2 : ¬ xs[s]'(by omega) = ys[s]'(by omega) := fun e => h (by rw [List.getElem?_eq_getElem (by omega), List.getElem?_eq_getElem (by omega), e])
      rw [if_neg (fun e => h2 (List.cons.inj e).1)]
      simp only [Sem.run_pure]

theorem run_equalIn_arr {P : Program} (w : World) (d : Nat) (t e n : Nat) (k : IntKind) (ht : P.underlying t = some (.array n e)) (he : P.underlying e = some (.int k)) (hsz : (P.info? e).map (·.size) = some 1)
    (xs ys : List Int) (hx : xs.length = n) (hy : ys.length = n) :
    (Op.equalIn (d + 2) t (.agg (xs.map (Value.int k)).toArray) (.agg (ys.map (Value.int k)).toArray)).run P w = .ok (decide (xs = ys)) w := by
  obtain ⟨i, hi, hs⟩ := Option.map_eq_some_iff.1 hsz
  unfold Op.equalIn
  simp only [Sem.run_bind, run_underlying ht, Result.andThen_ok, sizeOf, typeInfo]
  simp [hi, hs, Std.Legacy.Range.forIn_eq_forIn_range']
  rw [run_forIn_eq w n xs ys hx hy _ ?_ n 0 (by omega)]
  · simp only [List.drop_zero, Result.andThen_ok]
    by_cases h : xs = ys
    · simp [h, Sem.run_pure]
    · simp [h, Sem.run_pure]
  · intro j s hj
    have h1 : xs[j]? = some xs[j] := List.getElem?_eq_getElem (by omega)
    have h2 : ys[j]? = some ys[j] := List.getElem?_eq_getElem (by omega)
    have p1 : ∀ l : List Int, (hl : l.length = n) → (part e (l.map (Value.int k)).toArray j).run P w = .ok (.int k (l[j]'(by omega))) w := by
      intro l hl
      have h3 : ((l.map (Value.int k)).toArray)[j]? = some (.int k (l[j]'(by omega))) := by simp [hl, hj]
      unfold part
      simp only [Sem.run_bind, isAgg, run_underlying he, Result.andThen_ok, Sem.run_pure]
      simp only [Bool.false_eq_true, if_false, h3, Sem.run_pure]
    simp only [Sem.run_bind, p1 xs hx, p1 ys hy, Result.andThen_ok, run_equalIn_int w d e k k _ _ he]
    by_cases h : xs[j] = ys[j]
    · simp [h1, h2, h, Sem.run_pure]
    · simp [h1, h2, h, Sem.run_pure]

theorem run_eql_arr {P : Program} (w : World) (t e n : Nat) (k : IntKind) (ht : P.underlying t = some (.array n e)) (he : P.underlying e = some (.int k)) (hsz : (P.info? e).map (·.size) = some 1)
    (xs ys : List Int) (hx : xs.length = n) (hy : ys.length = n) :
    (binOp .eql t (.agg (xs.map (Value.int k)).toArray) (.agg (ys.map (Value.int k)).toArray)).run P w = .ok (.bool (decide (xs = ys))) w := by
  rw [run_eql_struct, run_equalIn_arr w 9998 t e n k ht he hsz xs ys hx hy]; rfl
theorem run_neq_arr {P : Program} (w : World) (t e n : Nat) (k : IntKind) (ht : P.underlying t = some (.array n e)) (he : P.underlying e = some (.int k)) (hsz : (P.info? e).map (·.size) = some 1)
    (xs ys : List Int) (hx : xs.length = n) (hy : ys.length = n) :
    (binOp .neq t (.agg (xs.map (Value.int k)).toArray) (.agg (ys.map (Value.int k)).toArray)).run P w = .ok (.bool (!decide (xs = ys))) w := by
  rw [run_neq_struct, run_equalIn_arr w 9998 t e n k ht he hsz xs ys hx hy]; rfl

theorem bytes_ints (l : List UInt8) : l.map B8 = (l.map fun d => (d.toNat : Int)).map (Value.int .u8) := by rw [List.map_map]; rfl
theorem bytes_inj {l m : List UInt8} : (l.map fun d => (d.toNat : Int)) = (m.map fun d => (d.toNat : Int)) ↔ l = m := by
  constructor
  · intro h
    refine List.map_inj_right (fun x y hxy => ?_) |>.1 h
    have h2 : (x.toNat : Int) = (y.toNat : Int) := hxy
    exact UInt8.toNat_inj.1 (by omega)
  · intro h; rw [h]

section quiet
variable {P : Program} {w : World} {ops : Array Oper} {rest : List Oper} {act : Act} {Q : Act → Prop} {ty : TypeId} {pos : String} {after : Array Edge}

theorem quiet_val {o : Oper} (hg : o.guard = none) (v : Value) (h : ∀ n, (execOp act.eval o).run P (w.drewN n) = .ok (.value v) (w.drewN n))
    (hK : wpQuiet P ops (fun w' => ∃ n, w' = w.drewN n) Q rest (act.put o.dst v)) : wpQuiet P ops (fun w' => ∃ n, w' = w.drewN n) Q (o :: rest) act := by
  refine wpQuiet_step fun K hK' => ?_
  have hw : Region.wanted o (yielded ops act.tmps) = true := by simp [Region.wanted, hg]
  rw [if_pos hw]
  refine ⟨v, ?_, hK' _ hK⟩
  rintro w' ⟨n, rfl⟩
  unfold Oper.quietAt
  rw [h n]
  exact ⟨rfl, rfl⟩

/-- in a region that draws and only reads: a whole array is loaded -/
theorem quiet_load_agg (d : Nat) (t : TypeId) (x : Operand) (sz : Nat) (hsz : (P.info? t).map (·.size) = some sz) (n e : Nat) (hag : P.underlying t = some (.array n e))
    (p : Addr) (hx : act.eval x = .pointer (some p)) (cs : List Value) (hl : cs.length = sz) (hc : ∀ j u, cs[j]? = some u → w.cell? (p.add j) = some u)
    (hK : wpQuiet P ops (fun w' => ∃ n, w' = w.drewN n) Q rest (act.put (some d) (.agg cs.toArray))) :
    wpQuiet P ops (fun w' => ∃ n, w' = w.drewN n) Q ({ dst := some d, op := .load t x, type := ty, pos := pos, after := after, guard := none } :: rest) act := by
  obtain ⟨i, hi, hs0⟩ := Option.map_eq_some_iff.1 hsz
  subst hs0
  refine quiet_val rfl _ (fun m => ?_) hK
  have hl2 := run_loadCells_list (P := P) (w.drewN m) p cs hc
  rw [hl] at hl2
  simp [execOp, hx, Instr.loadAt, Instr.sureAddr, loadVar, isAgg, run_underlying hag, sizeOf, typeInfo, hi, hl2]

/-- '!=' of two arrays of bytes -/
theorem quiet_neq_bytes (d : Nat) (t : TypeId) (x y : Operand) (e n : Nat) (ht : P.underlying t = some (.array n e)) (he : P.underlying e = some (.int .u8)) (hsz : (P.info? e).map (·.size) = some 1) (hgt : P.eqGuardType P.depth t = false)
    (xs ys : List UInt8) (hx : act.eval x = .agg (xs.map B8).toArray) (hy : act.eval y = .agg (ys.map B8).toArray) (hxl : xs.length = n) (hyl : ys.length = n)
    (hK : wpQuiet P ops (fun w' => ∃ n, w' = w.drewN n) Q rest (act.put (some d) (.bool (!decide (xs = ys))))) :
    wpQuiet P ops (fun w' => ∃ n, w' = w.drewN n) Q ({ dst := some d, op := .binOp .neq t x y t, type := ty, pos := pos, after := after, guard := none } :: rest) act := by
  refine quiet_val rfl _ (fun m => ?_) hK
  have h1 := run_eqGuard_agg (P := P) (w := w.drewN m) .neq t x y (xs.map B8).toArray (ys.map B8).toArray hgt
  have h2 := run_neq_arr (P := P) (w.drewN m) t e n .u8 ht he hsz (xs.map fun d => (d.toNat : Int)) (ys.map fun d => (d.toNat : Int)) (by simpa using hxl) (by simpa using hyl)
  rw [← bytes_ints, ← bytes_ints] at h2
  have h3 : decide ((xs.map fun d => (d.toNat : Int)) = (ys.map fun d => (d.toNat : Int))) = decide (xs = ys) := decide_eq_decide.2 bytes_inj
  rw [h3] at h2
  simp only [execOp, hx, hy, Sem.run_bind, h1, h2, Result.andThen_ok, Sem.run_pure]
end quiet
end Go.Dx
end

/- the text Ops3 -/
section
/- Laws on full slices: 'b[:len:len]' and an append behind it, which copies. No program in sight. -/
set_option linter.unusedVariables false
set_option linter.unusedSimpArgs false
namespace Go.Dx
open Go.RowKit

section ops
variable {P : Program} {w : World} {ops : Array Oper} {rest : List Oper} {o : Oper} {act : Act} {Q : Exit → Act → World → Prop}
  {ty : TypeId} {pos : String} {after : Array Edge}
/-- 'xs[:len(xs):len(xs)]' -/
theorem cut_full (d : Nat) (t : TypeId) (x hi mx : Operand) (e : TypeId) (ht : P.underlying t = some (.slice e)) (sz : Nat) (hsz : (P.info? e).map (·.size) = some sz)
    (a : Option Addr) (n c : Nat) (hx : act.eval x = .slice a n c) (hnc : n ≤ c) (ku km : IntKind) (uv mv : Int) (hu : act.eval hi = .int ku uv) (hm : act.eval mx = .int km mv)
    (huv : uv = (n : Int)) (hmv : mv = (n : Int)) (hn : a = none → n = 0)
    (hK : wpList P ops Q rest (act.put (some d) (.slice a n n)) w) :
    wpList P ops Q ({ dst := some d, op := .slice t x none (some hi) (some mx), type := ty, pos := pos, after := after, guard := none } :: rest) act w := by
  refine wpList_plain rfl fun K hK' => ?_
  subst huv hmv
  obtain ⟨i0, hi0, hs0⟩ := Option.map_eq_some_iff.1 hsz
  have hrun : (Instr.sliceAt t (.slice a n c) none (some (.int ku (n : Int))) (some (.int km (n : Int)))).run P w = .ok (.slice a n n) w := by
    by_cases h0 : n = 0
    · subst h0
      simp [Instr.sliceAt, Instr.slice, Instr.sliceBounds, Instr.sliceBound, asIntOf, run_underlying ht, sizeOf, typeInfo, hi0, hs0, Addr.add]
    · cases a with
      | none => exact absurd (hn rfl) h0
      | some p =>
        obtain ⟨b, off, sp⟩ := p
        simp [Instr.sliceAt, Instr.slice, Instr.sliceBounds, Instr.sliceBound, asIntOf, run_underlying ht, sizeOf, typeInfo, hi0, hs0, hnc, Addr.add, h0]
  unfold Oper.wp
  simp only [execOp, Option.map_some, Option.map_none, hx, hu, hm, Sem.run_bind, hrun, Result.andThen, Sem.run_pure]
  exact hK' _ _ hK

theorem run_append_full (t tx ty e : TypeId) (i : TypeInfo) (z : Value) (ht : P.underlying t = some (.slice e)) (hi : P.info? e = some i) (hz : i.zero = some z)
    (hzs : z.cells.size = i.size) (a : Option Addr) (n : Nat) (xs : List Value) (hown : Sl w i.size a n n xs)
    (x : Value) (m : Nat) (news : List Value) (hs : Src P i.size tx x m news w)
    (h63 : n + m ≤ maxLen) (hbytes : (n + m) * i.bytes ≤ 140737488355328) :
    ∃ a' c' w', (Builtin.append_ #[t, tx] ty #[.slice a n n, x]).run P w = .ok (.slice a' (n + m) c') w' ∧ Sl w' i.size a' (n + m) c' (xs ++ news) ∧ Below w.heap.size w w' := by
  have hsmall : n + m ≤ 9223372036854775807 := by simp only [maxLen] at h63; omega
  have hlen : (xs ++ news).length = (n + m) * i.size := by rw [List.length_append, hown.1, hs.newsLen, Nat.add_mul]
  have hold : (Builtin.firstCells i.size n (.slice a n n)).run P w.drew = .ok xs.toArray w.drew := by
    cases a with
    | none =>
      have := hown.nil rfl
      obtain rfl : n = 0 := by omega
      have hnews : xs = [] := List.eq_nil_of_length_eq_zero (by simpa using hown.len)
      subst hnews
      exact run_firstCells_none w.drew i.size 0 0 0
    | some p => exact run_firstCells_some w.drew i.size n p n n xs hown.len (by simpa using hown.cell p rfl)
  by_cases hm : m = 0
  · subst hm
    have hnews : news = [] := List.eq_nil_of_length_eq_zero (by simpa using hs.newsLen)
    subst hnews
    refine ⟨a, n, w, ?_, by simpa using hown, Below.refl _ _⟩
    cases a with
    | none =>
      have := hown.nil rfl
      obtain rfl : n = 0 := by omega
      rcases hs.kind with ⟨e', hk⟩ | hk <;> simp [Builtin.append_, run_underlying ht, run_underlying hk, sizeOf, typeInfo, hi, hs.len, hs.cells]
    | some p =>
      have hst : ∀ q : Addr, (storeCells q ([] : List Value)).run P w = .ok () w := by intro q; simp [storeCells]
      rcases hs.kind with ⟨e', hk⟩ | hk <;> simp [Builtin.append_, run_underlying ht, run_underlying hk, sizeOf, typeInfo, hi, hs.len, hs.cells, hst]
  · have hr := run_append_grow_src (P := P) w t tx ty e i z ht hi hz a n n xs hold x m news hs (by omega) (by omega) (growslice_fits (by omega) hbytes)
    have hge := grownCap_ge w (n + m) n e
    have hcm : grownCap w (n + m) n e ≤ maxLen := grownCap_le_maxLen w (n + m) n e h63
    refine ⟨_, _, _, hr, ?_, undrew (Below.alloc (Below.refl w.heap.size w.drew) (Nat.le_refl w.heap.size) _)⟩
    have ho : Own (w.drew.alloc (.cells ((xs ++ news).toArray ++ Builtin.zeroCells z.cells (grownCap w (n + m) n e - (n + m))) e)) 0 e i.size (some ⟨w.heap.size, 0, none⟩) (n + m) (grownCap w (n + m) n e) (xs ++ news) := by
      refine ⟨hlen, .inr ⟨w.heap.size, _, _, rfl, Nat.zero_le _, heap_alloc_new w.drew _, hge, hcm, ?_, ?_⟩⟩
      · simp only [Array.size_append, List.size_toArray, size_zeroCells, hzs, hlen, ← Nat.add_mul]
        congr 1
        omega
      · simp only [Array.toList_append, List.append_assoc]
        rw [← List.append_assoc, ← hlen]
        exact List.take_left
    exact ho.sl

/-- 'append(xs[:n:n], ys...)' -/
theorem append_full (hg : o.guard = none) (s x : Operand) (t : TypeId) (hop : o.op = Op.call { callee := Callee.builtin Builtin.append, args := #[s, x], argTypes := #[t, t] })
    (e : TypeId) (z : Value) (sz bytes : Nat) (ht : P.underlying t = some (.slice e)) (hi : (P.info? e).map (fun i => (i.zero, i.size, i.bytes)) = some (some z, sz, bytes)) (hz : z.cells.size = sz)
    (a : Option Addr) (n : Nat) (xs : List Value) (hs : act.eval s = .slice a n n) (hxs : Sl w sz a n n xs)
    (a2 : Option Addr) (m c2 : Nat) (ys : List Value) (hx : act.eval x = .slice a2 m c2) (hy : Sl w sz a2 m c2 ys) (h1 : ∀ u ∈ ys, u.oneCell' = true)
    (hn : (n + m) * bytes ≤ 140737488355328) (hn2 : n + m ≤ maxLen)
    (hK : ∀ a' c' w', Sl w' sz a' (n + m) c' (xs ++ ys) → Below w.heap.size w w' → wpList P ops Q rest (act.put o.dst (.slice a' (n + m) c')) w') :
    wpList P ops Q (o :: rest) act w := by
  obtain ⟨i, hi0, hz0, hz1, hz2⟩ := info_parts hi
  subst hz1 hz2
  clear hi
  obtain ⟨a', c', w', hrun, ho, hgr⟩ := run_append_full t t o.type e i z ht hi0 hz0 hz a n xs hxs _ m ys (hy.src ht h1) hn2 hn
  refine wpList_plain hg fun K hK' => ?_
  unfold Oper.wp
  simp [execOp, hop, resolve, invoke, builtin, hs, hx, hrun, Result.andThen]
  exact hK' _ _ (hK a' c' w' ho hgr)
end ops
end Go.Dx
end

/- the text Ops4 -/
section
/- Regions that draw their order and whose callees make memory of their own: walked once, at the class 'whatever came on top'. No program in sight. -/
set_option linter.unusedVariables false
namespace Go.Dx
open Go.RowKit

/-- the worlds on top of w -/
structure OnTop (w : World) where
  v : World
  h : Below w.heap.size w v
theorem wp_region_below {P : Program} {id : Nat} {Q : Exit → Act → World → Prop} {a : Act} {w : World} {l : List Oper} (hm : P.follows .mixedOrders = true) (hB : Region.lexB .any l.toArray = true)
    (h : wpQuiet P l.toArray (fun w' => ∃ p : OnTop w, w' = p.v) (fun a' => ∀ w', (∃ p : OnTop w, w' = p.v) → Q .normal a' w') l a) : (Code.region id l.toArray true).wp P Q a w :=
  wp_region_quiet (C := fun w' => ∃ p : OnTop w, w' = p.v) hm hB ⟨⟨w.drewN 1, Still.below 1⟩, rfl⟩ (by simpa using h)
theorem onTop_call {P : Program} {f : FuncId} {args : Array Value} {w : World} {p : OnTop w} {v : Value}
    (h : Calls P f args p.v fun e w' => e = .returned v ∧ Below p.v.heap.size p.v w') : Calls P f args p.v fun e w'' => e = .returned v ∧ ∃ q : OnTop w, w'' = q.v :=
  h.mono fun _ w'' ⟨he, hb⟩ => ⟨he, ⟨w'', p.h.trans (hb.mono p.h.size)⟩, rfl⟩
section
variable {P : Program} {C : World → Prop} {ops : Array Oper} {rest : List Oper} {act : Act} {Q : Act → Prop}
/-- an operation of a quiet walk whose value is known, at whatever class of worlds, guarded or not -/
theorem quiet_at {o : Oper} (v : Value) (hw : Region.wanted o (yielded ops act.tmps) = true) (h : ∀ w, (execOp act.eval o).run P w = .ok (.value v) w)
    (hK : wpQuiet P ops C Q rest (act.put o.dst v)) : wpQuiet P ops C Q (o :: rest) act := by
  refine wpQuiet_step fun K hK' => ?_
  rw [if_pos hw]
  refine ⟨v, ?_, hK' _ hK⟩
  intro w' _
  unfold Oper.quietAt
  rw [h w']
  exact ⟨rfl, rfl⟩
end
end Go.Dx
end

/- the text Box -/
section
/- Blocks that are known whole: local arrays and structs. Laws of the walk on whole loads and stores, cuts of arrays, results that lie in memory. No program in sight. -/
set_option linter.unusedVariables false
set_option linter.unusedSimpArgs false
namespace Go.Dx
open Go.RowKit

/-- block g is just the cells cs of element type t -/
def Box (w : World) (g : Nat) (t : TypeId) (cs : List Value) : Prop := w.heap[g]? = some (.cells cs.toArray t (0, 0))
section
variable {w w' : World} {g : Nat} {t : TypeId} {cs : List Value}
theorem Box.lt (h : Box w g t cs) : g < w.heap.size := (Array.getElem?_eq_some_iff.1 h).1
theorem Box.cell (h : Box w g t cs) (j : Nat) : w.cell? ⟨g, j, none⟩ = cs[j]? := by rw [cell_of_row w g j cs.toArray t (0, 0) h]; simp
theorem Box.at_ (h : Box w g t cs) {j : Nat} {u : Value} (hu : cs[j]? = some u) : w.cell? ⟨g, j, none⟩ = some u := by rw [h.cell, hu]
theorem Box.free (h : Box w g t cs) (j : Nat) : w.frozen? ⟨g, j, none⟩ = false := by unfold Box at h; simp [World.frozen?, h]
theorem Box.new (w : World) (t : TypeId) (us : Array Value) : Box (w.alloc (.cells us t)) w.heap.size t us.toList := heap_alloc_new w _
theorem Box.drew (h : Box w g t cs) : Box w.drew g t cs := h
theorem Box.drewN (h : Box w g t cs) (n : Nat) : Box (w.drewN n) g t cs := h
theorem Box.alloc (h : Box w g t cs) (o : Obj) : Box (w.alloc o) g t cs := (Below.heap_alloc w o g h.lt).trans h
theorem Box.put (h : Box w g t cs) (j : Nat) (u : Value) : Box (w.setCell ⟨g, j, none⟩ u) g t (cs.set j u) := by
  unfold Box at h ⊢
  simp [World.setCell, Array.getElem?_modify, h]
theorem Box.far (h : Box w g t cs) {p : Addr} (hp : g ≠ p.block) (u : Value) : Box (w.setCell p u) g t cs := (Below.heap_setCell w p u g hp).trans h
theorem Box.below {B : Nat} (h : Box w g t cs) (hb : Below B w w') (hg : g < B) : Box w' g t cs := (hb.block g hg).trans h
theorem Box.under (h : Box w g t cs) (hb : Below w.heap.size w w') : Box w' g t cs := h.below hb h.lt
theorem Box.grown {row : Option Nat} (h : Box w g t cs) (hb : w.grownBy w' row) (hg : some g ≠ row) : Box w' g t cs := (hb.block g h.lt hg).trans h
theorem Box.sl (h : Box w g t cs) (off n c sz : Nat) (l : List Value) (hl : l.length = n * sz) (hc : n ≤ c) (hm : c ≤ maxLen) (he : ∀ j u, l[j]? = some u → cs[off + j]? = some u) : Sl w sz (some ⟨g, off, none⟩) n c l :=
  ⟨hl, hc, hm, (fun h => by cases h), fun p hp j u hj => by cases hp; rw [Addr.add_lit]; exact h.at_ (he j u hj)⟩
end

theorem belowN {B : Nat} {a w : World} (h : Below B a w) (n : Nat) : Below B a (w.drewN n) := ⟨h.os, h.tape, h.output, h.size, h.block⟩
section run
variable {P : Program} {w : World}
def IsAgg (P : Program) (t : TypeId) : Prop := (∃ n e, P.underlying t = some (.array n e)) ∨ ∃ fs, P.underlying t = some (.struct fs)
theorem run_isAgg {t : TypeId} (h : IsAgg P t) : (isAgg t).run P w = .ok true w := by
  rcases h with ⟨n, e, h⟩ | ⟨fs, h⟩ <;> simp [isAgg, run_underlying h]
theorem run_loadVar_box {t e : TypeId} {g off : Nat} {old cs : List Value} (hag : IsAgg P t) (hsz : (P.info? t).map (·.size) = some cs.length) (hb : Box w g e old) (hc : ∀ j u, cs[j]? = some u → old[off + j]? = some u) :
    (loadVar t ⟨g, off, none⟩).run P w = .ok (.agg cs.toArray) w := by
  obtain ⟨i, hi, hs0⟩ := Option.map_eq_some_iff.1 hsz
  have hl := run_loadCells_list (P := P) w ⟨g, off, none⟩ cs (fun j u hj => by rw [Addr.add_lit]; exact hb.at_ (hc j u hj))
  simp [loadVar, run_isAgg hag, sizeOf, typeInfo, hi, hs0, hl]
theorem run_results_cell {fn : Func} {tmps : Array Value} {t : Tmp} {ty e : TypeId} {g : Nat} {cs : List Value} (hr : fn.results = #[.cell t ty]) (ht : tmps.getD t undef = .pointer (some ⟨g, 0, none⟩)) (hag : IsAgg P ty) (hsz : (P.info? ty).map (·.size) = some cs.length)
    (hb : Box w g e cs) : (results fn tmps).run P w = .ok (.agg cs.toArray) w := by
  have hl := run_loadVar_box (P := P) (off := 0) hag hsz hb (fun j u hj => by rw [Nat.zero_add]; exact hj)
  have ht2 : tmps[t]?.getD undef = .pointer (some ⟨g, 0, none⟩) := by rw [← ht]; simp
  simp only [results, hr]
  simp [ht2, asAddr, hl]
end run

section ops
variable {P : Program} {w : World} {ops : Array Oper} {rest : List Oper} {act : Act} {Q : Exit → Act → World → Prop}
  {ty : TypeId} {pos : String} {after : Array Edge}
/-- a whole array or struct is loaded -/
theorem load_box (d : Nat) (t : TypeId) (x : Operand) (e : TypeId) (g off : Nat) (old cs : List Value) (hag : IsAgg P t) (hsz : (P.info? t).map (·.size) = some cs.length) (hb : Box w g e old) (hx : act.eval x = .pointer (some ⟨g, off, none⟩))
    (hc : ∀ j u, cs[j]? = some u → old[off + j]? = some u) (hK : wpList P ops Q rest (act.put (some d) (.agg cs.toArray)) w) :
    wpList P ops Q ({ dst := some d, op := .load t x, type := ty, pos := pos, after := after, guard := none } :: rest) act w := by
  refine wpList_plain rfl fun K hK' => ?_
  have hrun : (Instr.loadAt t (.pointer (some ⟨g, off, none⟩))).run P w = .ok (.agg cs.toArray) w := by
    simp [Instr.loadAt, Instr.sureAddr, run_loadVar_box hag hsz hb hc]
  unfold Oper.wp
  simp [execOp, hx, hrun, Result.andThen]
  exact hK' _ _ hK
/-- a whole array or struct is stored -/
theorem store_box (t : TypeId) (x y : Operand) (e : TypeId) (g off : Nat) (old cs : List Value) (v : Value) (hsz : (P.info? t).map (·.size) = some cs.length) (hb : Box w g e old) (hx : act.eval x = .pointer (some ⟨g, off, none⟩))
    (hy : act.eval y = v) (hv : v.cells = cs.toArray) (hl : off + cs.length ≤ old.length) (h1 : ∀ u ∈ cs, u.oneCell' = true)
    (hK : ∀ w', Box w' g e (old.take off ++ cs ++ old.drop (off + cs.length)) → w.grownBy w' (some g) → w'.heap.size = w.heap.size → wpList P ops Q rest act w') :
    wpList P ops Q ({ dst := none, op := .store t x y, type := ty, pos := pos, after := after, guard := none } :: rest) act w := by
  refine wpList_plain rfl fun K hK' => ?_
  obtain ⟨i, hi, hs0⟩ := Option.map_eq_some_iff.1 hsz
  have hst := run_storeCells_at P g off e cs 0 old.toArray w hb (by simpa using hl) h1
  simp only [Nat.add_zero, List.toList_toArray] at hst
  have hrun : (Instr.storeAt t (.pointer (some ⟨g, off, none⟩)) v).run P w = .ok () (w.setRow g (old.take off ++ cs ++ old.drop (off + cs.length)).toArray) := by
    simp [Instr.storeAt, Instr.sureAddr, storeVar, sizeOf, typeInfo, hi, hs0, hv, hst]
  unfold Oper.wp
  simp [execOp, hx, hy, hrun, Result.andThen]
  refine hK' _ _ (hK _ ?_ ⟨rfl, rfl, rfl, by simp [World.setRow], fun k _ hk => setRow_other w g k _ (fun e => hk (by rw [e]))⟩ (by simp [World.setRow]))
  have := setRow_heap w g old.toArray (old.take off ++ cs ++ old.drop (off + cs.length)).toArray e (0, 0) hb
  simpa [Box] using this
/-- the whole block is stored anew -/
theorem store_all (t : TypeId) (x y : Operand) (e : TypeId) (g : Nat) (old cs : List Value) (v : Value) (hsz : (P.info? t).map (·.size) = some cs.length) (hb : Box w g e old) (hx : act.eval x = .pointer (some ⟨g, 0, none⟩))
    (hy : act.eval y = v) (hv : v.cells = cs.toArray) (hl : cs.length = old.length) (h1 : ∀ u ∈ cs, u.oneCell' = true)
    (hK : ∀ w', Box w' g e cs → w.grownBy w' (some g) → w'.heap.size = w.heap.size → wpList P ops Q rest act w') :
    wpList P ops Q ({ dst := none, op := .store t x y, type := ty, pos := pos, after := after, guard := none } :: rest) act w :=
  store_box t x y e g 0 old cs v hsz hb hx hy hv (by omega) h1 (fun w' hb' hg hs => hK w' (by
    have e1 : old.drop (0 + cs.length) = [] := List.drop_eq_nil_of_le (by omega)
    rw [e1, List.take_zero, List.nil_append, List.append_nil] at hb'
    exact hb') hg hs)
/-- an operation whose value is known -/
theorem val_at {o : Oper} (hg : o.guard = none) (v : Value) (h : (execOp act.eval o).run P w = .ok (.value v) w) (hK : wpList P ops Q rest (act.put o.dst v) w) : wpList P ops Q (o :: rest) act w := by
  refine wpList_plain hg fun K hK' => ?_
  unfold Oper.wp
  rw [h]
  exact hK' _ _ hK
/-- the walk stops ahead of an operation 'build' -/
theorem hold_build {dst : Option Tmp} {t ty : TypeId} {ps : Array (Nat × Operand)} {pos : String} {after : Array Edge} {g : Option (Nat × Bool)}
    (h : Hid (wpList P ops Q ({ dst := dst, op := .build t ps, type := ty, pos := pos, after := after, guard := g } :: rest) act w)) : wpList P ops Q ({ dst := dst, op := .build t ps, type := ty, pos := pos, after := after, guard := g } :: rest) act w := h
/-- one cell of a block is stored -/
theorem store_cell (t : TypeId) (x y : Operand) (e : TypeId) (g j : Nat) (old : List Value) (v : Value) (hsz : (P.info? t).map (·.size) = some 1) (hb : Box w g e old) (hx : act.eval x = .pointer (some ⟨g, j, none⟩))
    (hy : act.eval y = v) (h1 : v.oneCell' = true) (hv : v.cells = #[v]) (hj : j < old.length)
    (hK : ∀ w', Box w' g e (old.set j v) → w.grownBy w' (some g) → w'.heap.size = w.heap.size → wpList P ops Q rest act w') :
    wpList P ops Q ({ dst := none, op := .store t x y, type := ty, pos := pos, after := after, guard := none } :: rest) act w :=
  store_box t x y e g j old [v] v hsz hb hx hy hv (by simp; omega) (by simpa using h1) (fun w' hb' hg hs => hK w' (by
    have e : old.take j ++ [v] ++ old.drop (j + [v].length) = old.set j v := by
      rw [List.set_eq_take_append_cons_drop, if_pos hj]
      simp
    rw [e] at hb'
    exact hb') hg hs)
/-- 'arr[lo:hi]' of an array in memory; lo, hi may lack -/
theorem cut_arr (d : Nat) (t arr e : TypeId) (n : Nat) (x : Operand) (lo hi : Option Operand) (ht : P.underlying t = some (.pointer arr)) (ha : P.underlying arr = some (.array n e)) (hsz : (P.info? e).map (·.size) = some 1)
    (g off : Nat) (hx : act.eval x = .pointer (some ⟨g, off, none⟩)) (l u : Nat)
    (hl : lo.map act.eval = none ∧ l = 0 ∨ ∃ k, lo.map act.eval = some (.int k (l : Int))) (hu : hi.map act.eval = none ∧ u = n ∨ ∃ k, hi.map act.eval = some (.int k (u : Int))) (hlu : l ≤ u) (hun : u ≤ n)
    (hK : ∀ a', (a' = some ⟨g, off + l, none⟩ ∨ (n = l ∧ a' = some ⟨g, off, none⟩)) → wpList P ops Q rest (act.put (some d) (.slice a' (u - l) (n - l))) w) :
    wpList P ops Q ({ dst := some d, op := .slice t x lo hi none, type := ty, pos := pos, after := after, guard := none } :: rest) act w := by
  refine wpList_plain rfl fun K hK' => ?_
  obtain ⟨i0, hi0, hs0⟩ := Option.map_eq_some_iff.1 hsz
  have h2 : (0 : Int) ≤ l ∧ (l : Int) ≤ u := by omega
  have h3 : (0 : Int) ≤ u ∧ (u : Int) ≤ n := by omega
  have e2 : (if n = l then (⟨g, off, none⟩ : Addr) else (⟨g, off, none⟩ : Addr).add (l * 1)) = (if n = l then ⟨g, off, none⟩ else ⟨g, off + l, none⟩) := by
    split
    · rfl
    · rw [Nat.mul_one, Addr.add_lit]
  have hrun : (Instr.sliceAt t (.pointer (some ⟨g, off, none⟩)) (lo.map act.eval) (hi.map act.eval) none).run P w = .ok (.slice (some (if n = l then ⟨g, off, none⟩ else ⟨g, off + l, none⟩)) (u - l) (n - l)) w := by
    rcases hl with ⟨hl, rfl⟩ | ⟨k1, hl⟩ <;> rcases hu with ⟨hu, rfl⟩ | ⟨k2, hu⟩ <;>
      simp [hl, hu, Instr.sliceAt, Instr.slice, Instr.sliceBounds, Instr.sliceBound, asIntOf, asAddr, run_underlying ht, run_underlying ha, sizeOf, typeInfo, hi0, hs0, h2, h3, Addr.add_lit, hlu, hun] <;> (try (split <;> simp_all [Addr.add])) <;> (try (intro _; simp_all [Addr.add]))
  unfold Oper.wp
  simp only [execOp, Option.map_none, hx, Sem.run_bind, hrun, Result.andThen, Sem.run_pure]
  refine hK' _ _ (hK _ ?_)
  by_cases hn : n = l
  · rw [if_pos hn]; exact .inr ⟨hn, rfl⟩
  · rw [if_neg hn]; exact .inl rfl
/-- 'v[i]' of an array that is a value, its elements of one cell -/
theorem index_val (d : Nat) (t e n : TypeId) (x y : Operand) (ht : P.underlying t = some (.array n e)) (hsz : (P.info? e).map (·.size) = some 1) (hna : ∀ w, (isAgg e).run P w = .ok false w) (cs : List Value) (hx : act.eval x = .agg cs.toArray) (k : IntKind) (i : Nat) (hy : act.eval y = .int k (i : Int)) (hi : i < n)
    (u : Value) (hu : cs[i]? = some u) (hK : wpList P ops Q rest (act.put (some d) u) w) :
    wpList P ops Q ({ dst := some d, op := .index t x y, type := ty, pos := pos, after := after, guard := none } :: rest) act w := by
  refine wpList_plain rfl fun K hK' => ?_
  obtain ⟨i0, hi0, hs0⟩ := Option.map_eq_some_iff.1 hsz
  have h3 : (0 : Int) ≤ i ∧ (i : Int) < n := by omega
  have hrun : (Instr.index t (.agg cs.toArray) (.int k (i : Int))).run P w = .ok u w := by
    simp [Instr.index, asIntOf, run_underlying ht, sizeOf, typeInfo, hi0, hs0, h3, part, hna, hu, hi]
  unfold Oper.wp
  simp [execOp, hx, hy, hrun, Result.andThen]
  exact hK' _ _ hK
end ops
section still
variable {P : Program} {w : World} {ops : Array Oper} {rest : List Oper} {act : Act} {Q : Act → Prop}
/-- an operation of a still head whose value is known -/
theorem still_at {o : Oper} (v : Value) (hw : Region.wanted o (yielded ops act.tmps) = true) (h : (execOp act.eval o).run P w = .ok (.value v) w)
    (hK : wpStill P ops w Q rest (act.put o.dst v)) : wpStill P ops w Q (o :: rest) act := by
  refine wpStill_step fun K hK' => ?_
  rw [if_pos hw]
  unfold Oper.still
  rw [h]
  exact ⟨rfl, hK' _ hK⟩
end still
theorem one_w {α : Type} {f : α → Value} (hf : ∀ x, (f x).oneCell' = true) (l : List α) : ∀ u ∈ l.map f, u.oneCell' = true := one_map f hf l
end Go.Dx
end

/- the text QTail -/
section
/- A region that draws its order: a head of quiet operations (reads, and calls that keep a class of worlds), and a tail that waits for the whole head: walked once. No program in sight. -/
set_option linter.unusedVariables false
namespace Go.Dx
section
variable {P : Program} {ops : Array Oper} {md : Region.Mode} {C : World → Prop}

def headQ (P : Program) (md : Region.Mode) (ops : Array Oper) (C : World → Prop) (n : Nat) (L : Array Bool → Act → Prop) : Nat → Array Bool → Act → Prop
  | 0, listed, a => L listed a
  | f + 1, listed, a => Region.ready md ops listed ≠ [] ∧ ∀ i ∈ Region.ready md ops listed, i < n ∧ qOp P ops C i (headQ P md ops C n L f (listed.setIfInBounds i true)) a

theorem wpAny_of_headQ {n g : Nat} {L : Array Bool → Act → Prop} {Q' : Exit → Act → World → Prop} (hL : ∀ listed a w, C w → L listed a → wpAny P md ops Q' g listed a w) :
    ∀ (f : Nat) (listed : Array Bool) (a : Act) (w : World), C w → headQ P md ops C n L f listed a → wpAny P md ops Q' (f + g) listed a w
  | 0, listed, a, w, hw, h => by rw [Nat.zero_add]; exact hL _ _ _ hw h
  | f + 1, listed, a, w, hw, h => by
    rw [show f + 1 + g = (f + g) + 1 by omega]
    exact ⟨fun h0 => absurd h0 h.1, fun i hi => wpOp_of_qOp hw (fun a' w' hw' h' => wpAny_of_headQ hL f _ a' w' hw' h') (h.2 i hi).2⟩

theorem headQ_first {n i : Nat} {oi : Oper} {v : Value} {L : Array Bool → Act → Prop} (hi : ops[i]? = some oi) (hsel : ∀ (j : Nat) (o : Oper) cs b, ops[j]? = some o → o.op ≠ .select cs b)
    (hs : Region.sinkB md ops n = true) (hc : Region.chainB md ops n = true) (hn : n < ops.size) (hin : i < n)
    (hdone : ∀ listed a, L listed a → ∀ j ∈ Region.ready md ops listed, n ≤ j) :
    ∀ (f : Nat) (listed : Array Bool) (a : Act), HeadInv md ops n listed →
      (∀ j oj, ops[j]? = some oj → j ≠ i → listed.getD j true = false → (∀ e ∈ oj.after, Region.binds md e = true → e.on ≠ i) → oi.apart ops oj = true) →
      i ∈ Region.ready md ops listed → YieldsIn P ops C oi v a →
      headQ P md ops C n L f (listed.setIfInBounds i true) (a.put oi.dst v) → headQ P md ops C n L (f + 1) listed a := by
  intro f
  induction f with
  | zero =>
    intro listed a inv _ hr hy H
    have hun := (mem_ready.1 hr).1
    refine ⟨fun h => (by rw [h] at hr; cases hr), fun j hj => ?_⟩
    have hjn : j < n := by
      rcases Nat.lt_or_ge j n with h | h
      · exact h
      · exact absurd hj (tail_waits hs hc hn inv _ i rfl hin hun j h)
    refine ⟨hjn, ?_⟩
    by_cases hji : j = i
    · subst hji; exact hy.qOp hi H
    · have := hdone _ _ H j (ready_mono hj hji)
      omega
  | succ f ih =>
    intro listed a inv hfree hr hy H
    have hun := (mem_ready.1 hr).1
    refine ⟨fun h => (by rw [h] at hr; cases hr), fun j hj => ?_⟩
    have hjn : j < n := by
      rcases Nat.lt_or_ge j n with h | h
      · exact h
      · exact absurd hj (tail_waits hs hc hn inv _ i rfl hin hun j h)
    refine ⟨hjn, ?_⟩
    by_cases hji : j = i
    · subst hji; exact hy.qOp hi H
    · have h1 := (H.2 j (ready_mono hj hji)).2
      obtain ⟨hjun, oj, hoj, hall⟩ := mem_ready.1 hj
      have hnot : ∀ e ∈ oj.after, Region.binds md e = true → e.on ≠ i := fun e he hb heq => by
        have h1 := hall e he hb
        rw [heq, getD_both hun] at h1
        cases h1
      have h2 := qOp_put hoj (hfree j oj hoj hji hjun hnot) (fun cs b => hsel i oi cs b hi) (fun cs b => hsel j oj cs b hoj) hy h1
      have hfree' : ∀ k ok, ops[k]? = some ok → k ≠ i → (listed.setIfInBounds j true).getD k true = false →
          (∀ e ∈ ok.after, Region.binds md e = true → e.on ≠ i) → oi.apart ops ok = true := fun k ok hk hki hun hno => by
        refine hfree k ok hk hki ?_ hno
        by_cases hjk : j = k
        · subst hjk; exact hjun
        · rw [getD_set_ne true hjk] at hun; exact hun
      refine qOp_mono (fun a' h3 => ih (listed.setIfInBounds j true) a' (inv.set hj hjn) hfree' (ready_mono hr (Ne.symm hji)) h3.1 ?_) h2
      rw [Array.setIfInBounds_comm _ _ hji]
      exact h3.2

theorem headQ_lex {n g : Nat} {Lq : Act → Prop} (hsel : Region.noSelect ops = true) (hs : Region.sinkB md ops n = true) (hc : Region.chainB md ops n = true) (hn : n < ops.size) :
    ∀ (l : List Oper) (k : Nat) (listed : Array Bool) (a : Act), (∀ j, j < l.length → l[j]? = ops[k + j]?) → k + l.length = n → HeadInv md ops n listed →
    Region.lexHead md ops g l.length k listed = true → wpQuiet P ops C Lq l a →
    headQ P md ops C n (fun listed' a' => Region.seqB md ops g n listed' = true ∧ Lq a') l.length listed a
  | [], k, listed, a, _, hk, _, hB, h => by
    have : k = n := by simpa using hk
    subst this
    exact ⟨by simpa [Region.lexHead] using hB, h⟩
  | o :: l, k, listed, a, hl, hk, inv, hB, h => by
    have h0 : ops[k]? = some o := by simpa using (hl 0 (by simp)).symm
    simp only [List.length_cons, Region.lexHead, Bool.and_eq_true] at hB
    obtain ⟨⟨hr, hf⟩, hB'⟩ := hB
    have hkn : k < n := by simp only [List.length_cons] at hk; omega
    have hr' : k ∈ Region.ready md ops listed := by simpa using hr
    have hst : qOp P ops C k (wpQuiet P ops C Lq l) a := by unfold qOp; simp only [h0]; exact h
    obtain ⟨v, hy, hK⟩ := yieldsIn_of_qOp h0 hst
    exact headQ_first h0 (Region.noSelect_spec hsel) hs hc hn hkn (fun listed' a' hL => seqB_ready hL.1) l.length listed a inv (Region.free_spec h0 hf) hr' hy
      (headQ_lex hsel hs hc hn l (k + 1) _ _ (fun j hj => by have := hl (j + 1) (by simp; omega); simpa [Nat.add_assoc, Nat.add_comm 1 j] using this) (by simp only [List.length_cons] at hk; omega) (inv.set hr' hkn) hB' hK)

theorem wp_region_quiet_tail {id : Nat} {Q : Exit → Act → World → Prop} {a : Act} {w : World} {l : List Oper} (n : Nat) (hm : P.follows .mixedOrders = true) (hB : Region.lexTailB .any l.toArray n = true) (hC : C w.drew)
    (h : wpQuiet P l.toArray C (fun a' => ∀ w', C w' → wpList P l.toArray Q (l.drop n) a' w') (l.take n) a) : (Code.region id l.toArray true).wp P Q a w := by
  simp only [Region.lexTailB, Bool.and_eq_true, decide_eq_true_eq] at hB
  obtain ⟨⟨⟨⟨hsel, hn⟩, hs⟩, hc⟩, hlex⟩ := hB
  have hn' : n < l.length := by simpa using hn
  have htl : (l.take n).length = n := by simp; omega
  have hdl : (l.drop n).length = l.toArray.size - n := by simp
  have inv0 : HeadInv .any l.toArray n (Array.replicate l.toArray.size false) :=
    ⟨by simp, fun j oj _ hl => (by rw [getD_replicate_false] at hl; cases hl), fun t _ ht => getD_in (by simpa using ht) (getD_replicate_false _ _)⟩
  have H := headQ_lex (md := .any) (g := l.toArray.size - n) hsel hs hc hn (l.take n) 0 _ a (fun j hj => by
    have hj' : j < n := by rw [htl] at hj; exact hj
    simp [hj']) (by simpa using htl) inv0 (by rw [htl]; exact hlex) h
  refine wp_region_any hm ?_
  have := wpAny_of_headQ (Q' := Q) (g := l.toArray.size - n) (fun listed a' w' hw' hL => by
    have := wpAny_of_seq (md := .any) (Q' := Q) (l.drop n) n listed a' w' (fun j => by simp [List.getElem?_drop]) (by rw [hdl]; exact hL.1) (hL.2 w' hw')
    rwa [hdl] at this) _ _ _ _ hC H
  rw [htl, show n + (l.toArray.size - n) = l.toArray.size by omega] at this
  exact this
/-- the same at the class 'whatever came on top of w' -/
theorem wp_region_below_tail {id : Nat} {Q : Exit → Act → World → Prop} {a : Act} {w : World} {l : List Oper} (n : Nat) (hm : P.follows .mixedOrders = true) (hB : Region.lexTailB .any l.toArray n = true)
    (h : wpQuiet P l.toArray (fun w' => ∃ p : OnTop w, w' = p.v) (fun a' => ∀ w', (∃ p : OnTop w, w' = p.v) → wpList P l.toArray Q (l.drop n) a' w') (l.take n) a) : (Code.region id l.toArray true).wp P Q a w :=
  wp_region_quiet_tail (C := fun w' => ∃ p : OnTop w, w' = p.v) n hm hB ⟨⟨w.drewN 1, Still.below 1⟩, rfl⟩ h
end
end Go.Dx
end

/- the text Box2 -/
section
/- More laws on blocks that are known whole: a copy from a string, whole loads in drawn regions. No program in sight. -/
set_option linter.unusedVariables false
set_option linter.unusedSimpArgs false
namespace Go.Dx
open Go.RowKit
section
variable {P : Program} {w : World} {ops : Array Oper} {rest : List Oper} {o : Oper} {act : Act} {Q : Exit → Act → World → Prop}
/-- 'copy(dst, s)' from a string, dst lying in a block that is known whole -/
theorem copy_str (hgd : o.guard = none) (d s : Operand) (dT sT : TypeId) (hop : o.op = .call { callee := .builtin .copy, args := #[d, s], argTypes := #[dT, sT] }) (elem : TypeId) (hu : P.underlying dT = some (.slice elem)) (hsz : (P.info? elem).map (·.size) = some 1)
    (g off dLen dCap : Nat) (t : TypeId) (old : List Value) (hb : Box w g t old) (hd : act.eval d = .slice (some ⟨g, off, none⟩) dLen dCap) (x : ByteArray) (hs : act.eval s = .string x) (k : Nat) (hk : k = min x.size dLen) (hfit : off + k ≤ old.length)
    (hK : ∀ w', Box w' g t (old.take off ++ (x.data.toList.take k).map B8 ++ old.drop (off + k)) → w.grownBy w' (some g) → w'.heap.size = w.heap.size → wpList P ops Q rest (act.put o.dst (.int .i64 (k : Int))) w') :
    wpList P ops Q (o :: rest) act w := by
  refine wpList_plain hgd fun K hK' => ?_
  have hxl : x.data.toList.length = x.size := Array.length_toList
  have hcl : ((x.data.toList.take k).map B8).length = k := by rw [List.length_map, List.length_take]; omega
  have hst := run_storeCells_at P g off t ((x.data.toList.take k).map B8) 0 old.toArray w hb (by rw [hcl]; simpa using hfit) (one_map _ (fun _ => rfl) _)
  rw [hcl] at hst
  simp only [Nat.add_zero, List.toList_toArray] at hst
  have hmin : Nat.min x.size dLen = k := hk.symm
  have hrun : (Builtin.copy_ #[dT, sT] o.type #[.slice (some ⟨g, off, none⟩) dLen dCap, .string x]).run P w = .ok (.int .i64 (k : Int)) (w.setRow g (old.take off ++ (x.data.toList.take k).map B8 ++ old.drop (off + k)).toArray) := by
    obtain ⟨i, hq, hi⟩ := Option.map_eq_some_iff.1 hsz
    simp [Builtin.copy_, run_underlying hu, Builtin.lenOf, Builtin.firstCells, sizeOf, typeInfo, hq, hmin]
    have e : List.take k (List.map (fun b : UInt8 => Value.int IntKind.u8 (b.toNat : Int)) x.data.toList) = (x.data.toList.take k).map B8 := by rw [List.map_take]
    rw [e, hst]
    simp [Result.andThen]
    rfl
  unfold Oper.wp
  simp [execOp, hop, resolve, invoke, builtin, hd, hs, hrun, Result.andThen]
  refine hK' _ _ (hK _ ?_ ⟨rfl, rfl, rfl, by simp [World.setRow], fun k _ hk => setRow_other w g k _ (fun e => hk (by rw [e]))⟩ (by simp [World.setRow]))
  have := setRow_heap w g old.toArray (old.take off ++ (x.data.toList.take k).map B8 ++ old.drop (off + k)).toArray t (0, 0) hb
  simpa [Box] using this
theorem run_cut_var {P : Program} {w : World} (t e : TypeId) (n : Nat) (ht : P.underlying t = some (.array n e)) (hsz : (P.info? e).map (·.size) = some 1) (g off l u : Nat) (lo hi : Option Value)
    (hl : lo = none ∧ l = 0 ∨ ∃ k, lo = some (.int k (l : Int))) (hu : hi = none ∧ u = n ∨ ∃ k, hi = some (.int k (u : Int))) (hlu : l ≤ u) (hun : u ≤ n) (hln : l < n) :
    (Instr.sliceAt t (.pointer (some ⟨g, off, none⟩)) lo hi none).run P w = .ok (.slice (some ⟨g, off + l, none⟩) (u - l) (n - l)) w := by
  obtain ⟨i0, hi0, hs0⟩ := Option.map_eq_some_iff.1 hsz
  have h2 : (0 : Int) ≤ l ∧ (l : Int) ≤ u := by omega
  have h3 : (0 : Int) ≤ u ∧ (u : Int) ≤ n := by omega
  have hne : ¬ n = l := by omega
  rcases hl with ⟨rfl, rfl⟩ | ⟨k1, rfl⟩ <;> rcases hu with ⟨rfl, rfl⟩ | ⟨k2, rfl⟩ <;>
    simp [Instr.sliceAt, Instr.sureAddr, Instr.sliceBounds, Instr.sliceBound, asIntOf, run_underlying ht, sizeOf, typeInfo, hi0, hs0, h2, h3, Addr.add_lit, hlu, hun, hne]
/-- 'arr[lo:hi]' of an array variable -/
theorem cut_var {ty : TypeId} {pos : String} {after : Array Edge} (d : Nat) (t e : TypeId) (n : Nat) (x : Operand) (lo hi : Option Operand) (ht : P.underlying t = some (.array n e)) (hsz : (P.info? e).map (·.size) = some 1)
    (g off : Nat) (hx : act.eval x = .pointer (some ⟨g, off, none⟩)) (l u : Nat)
    (hl : lo.map act.eval = none ∧ l = 0 ∨ ∃ k, lo.map act.eval = some (.int k (l : Int))) (hu : hi.map act.eval = none ∧ u = n ∨ ∃ k, hi.map act.eval = some (.int k (u : Int))) (hlu : l ≤ u) (hun : u ≤ n) (hln : l < n)
    (hK : wpList P ops Q rest (act.put (some d) (.slice (some ⟨g, off + l, none⟩) (u - l) (n - l))) w) :
    wpList P ops Q ({ dst := some d, op := .slice t x lo hi none, type := ty, pos := pos, after := after, guard := none } :: rest) act w := by
  refine wpList_plain rfl fun K hK' => ?_
  have hrun := run_cut_var (P := P) (w := w) t e n ht hsz g off l u (lo.map act.eval) (hi.map act.eval) hl hu hlu hun hln
  unfold Oper.wp
  simp only [execOp, Option.map_none, hx, Sem.run_bind, hrun, Result.andThen, Sem.run_pure]
  exact hK' _ _ hK
end
/-- the walk stops ahead of a copy -/
theorem hold_copy {P : Program} {w : World} {ops : Array Oper} {rest : List Oper} {act : Act} {Q : Exit → Act → World → Prop} {dst : Option Tmp} {ty : TypeId} {as_ : Array Operand} {ts : Array TypeId} {pos : String} {after : Array Edge} {g : Option (Nat × Bool)}
    (h : Hid (wpList P ops Q ({ dst := dst, op := .call { callee := .builtin .copy, args := as_, argTypes := ts }, type := ty, pos := pos, after := after, guard := g } :: rest) act w)) :
    wpList P ops Q ({ dst := dst, op := .call { callee := .builtin .copy, args := as_, argTypes := ts }, type := ty, pos := pos, after := after, guard := g } :: rest) act w := h
section quiet
variable {P : Program} {w : World} {ops : Array Oper} {rest : List Oper} {act : Act} {Q : Act → Prop} {C : World → Prop} {ty : TypeId} {pos : String} {after : Array Edge}
/-- an operation of a quiet walk whose value is known in every world of the class -/
theorem quiet_in {o : Oper} (v : Value) (hw : Region.wanted o (yielded ops act.tmps) = true) (h : ∀ w', C w' → (execOp act.eval o).run P w' = .ok (.value v) w') (hK : wpQuiet P ops C Q rest (act.put o.dst v)) : wpQuiet P ops C Q (o :: rest) act := by
  refine wpQuiet_step fun K hK' => ?_
  rw [if_pos hw]
  refine ⟨v, ?_, hK' _ hK⟩
  intro w' hC
  unfold Oper.quietAt
  rw [h w' hC]
  exact ⟨rfl, rfl⟩
/-- a call of a quiet walk -/
theorem quiet_call {o : Oper} (f : FuncId) (args : Array Value) (v : Value) (hw : Region.wanted o (yielded ops act.tmps) = true) (h : ∀ w', C w' → (execOp act.eval o).run P w' = .ok (.enter f args) w') (hc : ∀ w', C w' → Calls P f args w' (fun e w'' => e = .returned v ∧ C w''))
    (hK : wpQuiet P ops C Q rest (act.put o.dst v)) : wpQuiet P ops C Q (o :: rest) act := by
  refine wpQuiet_step fun K hK' => ?_
  rw [if_pos hw]
  refine ⟨v, ?_, hK' _ hK⟩
  intro w' hC
  unfold Oper.quietAt
  rw [h w' hC]
  exact ⟨rfl, hc w' hC⟩
/-- a whole array or struct is loaded -/
theorem quiet_load_box (d : Nat) (t : TypeId) (x : Operand) (e : TypeId) (g off : Nat) (old cs : List Value) (hag : IsAgg P t) (hsz : (P.info? t).map (·.size) = some cs.length) (hb : ∀ w', C w' → Box w' g e old) (hx : act.eval x = .pointer (some ⟨g, off, none⟩))
    (hc : ∀ j u, cs[j]? = some u → old[off + j]? = some u) (hK : wpQuiet P ops C Q rest (act.put (some d) (.agg cs.toArray))) :
    wpQuiet P ops C Q ({ dst := some d, op := .load t x, type := ty, pos := pos, after := after, guard := none } :: rest) act := by
  refine quiet_in _ (by simp [Region.wanted]) (fun w' hC => ?_) hK
  simp [execOp, hx, Instr.loadAt, Instr.sureAddr, run_loadVar_box hag hsz (hb w' hC) hc]
theorem quiet_cut_var (d : Nat) (t e : TypeId) (n : Nat) (x : Operand) (lo hi : Option Operand) (ht : P.underlying t = some (.array n e)) (hsz : (P.info? e).map (·.size) = some 1)
    (g off : Nat) (hx : act.eval x = .pointer (some ⟨g, off, none⟩)) (l u : Nat)
    (hl : lo.map act.eval = none ∧ l = 0 ∨ ∃ k, lo.map act.eval = some (.int k (l : Int))) (hu : hi.map act.eval = none ∧ u = n ∨ ∃ k, hi.map act.eval = some (.int k (u : Int))) (hlu : l ≤ u) (hun : u ≤ n) (hln : l < n)
    (hK : wpQuiet P ops C Q rest (act.put (some d) (.slice (some ⟨g, off + l, none⟩) (u - l) (n - l)))) :
    wpQuiet P ops C Q ({ dst := some d, op := .slice t x lo hi none, type := ty, pos := pos, after := after, guard := none } :: rest) act := by
  refine quiet_in _ (by simp [Region.wanted]) (fun w' hC => ?_) hK
  have hrun := run_cut_var (P := P) (w := w') t e n ht hsz g off l u (lo.map act.eval) (hi.map act.eval) hl hu hlu hun hln
  simp only [execOp, Option.map_none, hx, Sem.run_bind, hrun, Result.andThen, Sem.run_pure]
end quiet
theorem run_conv_str {P : Program} {w : World} {src dst e : TypeId} (hsr : P.underlying src = some (.slice e)) (he : P.underlying e = some (.int .u8)) (hd : P.underlying dst = some .string)
    {a : Option Addr} {n c : Nat} {l : List UInt8} (hs : Sl w 1 a n c (l.map B8)) : (convert src dst (.slice a n c)).run P w = .ok (.string ⟨l.toArray⟩) w := by
  obtain rfl := hs.n_eq
  cases a with
  | some p => exact run_convert_bytes_back w src dst e p c l hsr he hd (fun j hj => hs.cell p rfl j _ (by simp [hj]))
  | none =>
    have := hs.nil rfl
    have := hs.le
    have hl : l = [] := List.eq_nil_of_length_eq_zero (by omega)
    subst hl
    simp [convert, run_underlying hsr, run_underlying hd, run_underlying he, Conv.bytesToString]
    rfl
section quiet2
variable {P : Program} {w : World} {ops : Array Oper} {rest : List Oper} {act : Act} {Q : Act → Prop} {C : World → Prop} {ty : TypeId} {pos : String} {after : Array Edge}
theorem quiet_conv_str (d : Nat) (src dst : TypeId) (x : Operand) (e : TypeId) (hsr : P.underlying src = some (.slice e)) (he : P.underlying e = some (.int .u8)) (hd : P.underlying dst = some .string)
    (a : Option Addr) (n c : Nat) (l : List UInt8) (hx : act.eval x = .slice a n c) (hs : ∀ w', C w' → Sl w' 1 a n c (l.map B8))
    (hK : wpQuiet P ops C Q rest (act.put (some d) (.string ⟨l.toArray⟩))) :
    wpQuiet P ops C Q ({ dst := some d, op := .convert src dst x, type := ty, pos := pos, after := after, guard := none } :: rest) act := by
  refine quiet_in _ (by simp [Region.wanted]) (fun w' hC => ?_) hK
  simp [execOp, hx, run_conv_str hsr he hd (hs w' hC), Result.andThen]
end quiet2
section guarded
variable {P : Program} {w : World} {ops : Array Oper} {rest : List Oper} {act : Act} {Q : Exit → Act → World → Prop} {ty : TypeId} {pos : String} {after : Array Edge} {g : Option (Nat × Bool)}
theorem unguard_any {dst : Option Nat} {op : Op} (hw : Region.wanted { dst := dst, op := op, type := ty, pos := pos, after := after, guard := g } (yielded ops act.tmps) = true)
    (h : wpList P ops Q ({ dst := dst, op := op, type := ty, pos := pos, after := after, guard := none } :: rest) act w) :
    wpList P ops Q ({ dst := dst, op := op, type := ty, pos := pos, after := after, guard := g } :: rest) act w := by
  have h2 : Region.wanted { dst := dst, op := op, type := ty, pos := pos, after := after, guard := none } (yielded ops act.tmps) = true := rfl
  unfold wpList at h ⊢
  rw [if_pos h2] at h
  rw [if_pos hw]
  exact h
/-- a whole array or struct is loaded, guarded or not -/
theorem load_box_g (d : Nat) (t : TypeId) (x : Operand) (e : TypeId) (b off : Nat) (old cs : List Value) (hag : IsAgg P t) (hsz : (P.info? t).map (·.size) = some cs.length) (hb : Box w b e old) (hx : act.eval x = .pointer (some ⟨b, off, none⟩))
    (hc : ∀ j u, cs[j]? = some u → old[off + j]? = some u) (hw : Region.wanted { dst := some d, op := .load t x, type := ty, pos := pos, after := after, guard := g } (yielded ops act.tmps) = true)
    (hK : wpList P ops Q rest (act.put (some d) (.agg cs.toArray)) w) :
    wpList P ops Q ({ dst := some d, op := .load t x, type := ty, pos := pos, after := after, guard := g } :: rest) act w :=
  unguard_any hw (load_box d t x e b off old cs hag hsz hb hx hc hK)
/-- '==' of two arrays of bytes, guarded or not -/
theorem eql_bytes_g (d : Nat) (t : TypeId) (x y : Operand) (e n : Nat) (ht : P.underlying t = some (.array n e)) (he : P.underlying e = some (.int .u8)) (hsz : (P.info? e).map (·.size) = some 1) (hgt : P.eqGuardType P.depth t = false)
    (xs ys : List UInt8) (hx : act.eval x = .agg (xs.map B8).toArray) (hy : act.eval y = .agg (ys.map B8).toArray) (hxl : xs.length = n) (hyl : ys.length = n)
    (hw : Region.wanted { dst := some d, op := .binOp .eql t x y t, type := ty, pos := pos, after := after, guard := g } (yielded ops act.tmps) = true)
    (hK : wpList P ops Q rest (act.put (some d) (.bool (decide (xs = ys)))) w) :
    wpList P ops Q ({ dst := some d, op := .binOp .eql t x y t, type := ty, pos := pos, after := after, guard := g } :: rest) act w := by
  refine unguard_any hw (val_at rfl _ ?_ hK)
  have h1 := run_eqGuard_agg (P := P) (w := w) .eql t x y (xs.map B8).toArray (ys.map B8).toArray hgt
  have h2 := run_eql_arr (P := P) w t e n .u8 ht he hsz (xs.map fun d => (d.toNat : Int)) (ys.map fun d => (d.toNat : Int)) (by simpa using hxl) (by simpa using hyl)
  rw [← bytes_ints, ← bytes_ints] at h2
  have h3 : decide ((xs.map fun d => (d.toNat : Int)) = (ys.map fun d => (d.toNat : Int))) = decide (xs = ys) := decide_eq_decide.2 bytes_inj
  rw [h3] at h2
  simp only [execOp, hx, hy, Sem.run_bind, h1, h2, Result.andThen_ok, Sem.run_pure]
end guarded
/-- a string's bytes -/
theorem str_none {y : ByteArray} (h : y.size = 0) : y.toList.isEmpty = true := by
  rw [Lib.toList_data, List.isEmpty_iff, ← List.length_eq_zero_iff]; exact h
theorem str_some {y : ByteArray} (h : y.size ≠ 0) : y.toList.isEmpty = false := by
  rw [Lib.toList_data, Bool.eq_false_iff, ne_eq, List.isEmpty_iff, ← List.length_eq_zero_iff]; exact h
theorem ext_list (y : ByteArray) (k : Nat) : (y.extract k y.size).data.toList = y.data.toList.drop k := by
  rw [Lib.extract_data]
  apply List.take_of_length_le
  rw [List.length_drop]
  exact Nat.le_of_eq rfl
end Go.Dx
end

/- the text Types -/
section
/- The seat's numbers of types, and the laws on append at each slice type. -/
namespace Go.Proofs.Ytjdnmbapmobaaaa
open Go.RowKit Go.Dx

theorem info_int : (Try.prog.info? 3).map (fun i => (i.zero, i.size, i.bytes)) = some (some (.int .i64 0), 1, 8) := by kernel_rfl
theorem info_u8 : (Try.prog.info? 5).map (fun i => (i.zero, i.size, i.bytes)) = some (some (.int .u8 0), 1, 1) := by kernel_rfl


theorem size_int : (Try.prog.info? 3).map (·.size) = some 1 := by kernel_rfl
theorem size_u8 : (Try.prog.info? 5).map (·.size) = some 1 := by kernel_rfl
theorem size_str : (Try.prog.info? 9).map (·.size) = some 1 := by kernel_rfl

section
variable {w : World} {ops : Array Oper} {rest : List Oper} {o : Oper} {act : Act} {Q : Exit → Act → World → Prop}

/-- 'append(out, d)' on []byte -/
theorem app_b (hg : o.guard = none) (s x : Operand) (hop : o.op = Op.call { callee := Callee.builtin Builtin.append, args := #[s, x], argTypes := #[33, 33] })
    (w0 : World) (B : Nat) (a : Option Addr) (n c : Nat) (xs : List Value) (hs : act.eval s = .slice a n c) (hown : Own w B 5 1 a n c xs)
    (u : Int) (hx : act.eval x = .slice (some ⟨w.heap.size, 0, none⟩) 1 1)
    (hn : n + 1 ≤ 140737488355328) (hB : B ≤ w.heap.size) (hbel : Below B w0 w)
    (hK : ∀ a' c' w', Own w' B 5 1 a' (n + 1) c' (xs ++ [.int .u8 u]) → w.grownBy w' (a.map (·.block)) → Below B w0 w' → wpList Try.prog ops Q rest (act.put o.dst (.slice a' (n + 1) c')) w') :
    wpList Try.prog ops Q (o :: rest) act (w.alloc (.cells #[.int .u8 u] 5)) :=
  append_lit hg s x 33 hop 5 (.int .u8 0) 1 1 Try.underlying33 info_u8 rfl w0 B a n c xs hs hown 1 [.int .u8 u] hx rfl (by simp [Value.oneCell']) (by omega) (by unfold maxLen; omega) hB hbel hK

/-- 'append(out, n)' on []int -/
theorem app_i (hg : o.guard = none) (s x : Operand) (hop : o.op = Op.call { callee := Callee.builtin Builtin.append, args := #[s, x], argTypes := #[23, 23] })
    (w0 : World) (B : Nat) (a : Option Addr) (n c : Nat) (xs : List Value) (hs : act.eval s = .slice a n c) (hown : Own w B 3 1 a n c xs)
    (u : Int) (hx : act.eval x = .slice (some ⟨w.heap.size, 0, none⟩) 1 1)
    (hn : (n + 1) * 8 ≤ 140737488355328) (hB : B ≤ w.heap.size) (hbel : Below B w0 w)
    (hK : ∀ a' c' w', Own w' B 3 1 a' (n + 1) c' (xs ++ [.int .i64 u]) → w.grownBy w' (a.map (·.block)) → Below B w0 w' → wpList Try.prog ops Q rest (act.put o.dst (.slice a' (n + 1) c')) w') :
    wpList Try.prog ops Q (o :: rest) act (w.alloc (.cells #[.int .i64 u] 3)) :=
  append_lit hg s x 23 hop 3 (.int .i64 0) 1 8 Try.underlying23 info_int rfl w0 B a n c xs hs hown 1 [.int .i64 u] hx rfl (by simp [Value.oneCell']) hn (by unfold maxLen; omega) hB hbel hK


/-- 'append(out, ys...)' on []byte -/
theorem app_bs (hg : o.guard = none) (s x : Operand) (hop : o.op = Op.call { callee := Callee.builtin Builtin.append, args := #[s, x], argTypes := #[33, 33] })
    (w0 : World) (B : Nat) (a : Option Addr) (n c : Nat) (xs : List Value) (hs : act.eval s = .slice a n c) (hown : Own w B 5 1 a n c xs)
    (a2 : Option Addr) (m c2 : Nat) (ys : List UInt8) (hx : act.eval x = .slice a2 m c2) (hy : Sl w 1 a2 m c2 (ys.map B8))
    (hn : n + m ≤ 140737488355328) (hB : B ≤ w.heap.size) (hbel : Below B w0 w)
    (hK : ∀ a' c' w', Own w' B 5 1 a' (n + m) c' (xs ++ ys.map B8) → w.grownBy w' (a.map (·.block)) → Below B w0 w' → wpList Try.prog ops Q rest (act.put o.dst (.slice a' (n + m) c')) w') :
    wpList Try.prog ops Q (o :: rest) act w :=
  append_own hg s x 33 hop 5 (.int .u8 0) 1 1 Try.underlying33 info_u8 rfl w0 B a n c xs hs hown a2 m c2 (ys.map B8) hx hy (one_map _ (fun _ => rfl) _) (by omega) (by unfold maxLen; omega) hB hbel hK
/-- 'append(out, s...)' on []byte, s a string -/
theorem app_str (hg : o.guard = none) (s x : Operand) (hop : o.op = Op.call { callee := Callee.builtin Builtin.append, args := #[s, x], argTypes := #[33, 9] })
    (w0 : World) (B : Nat) (a : Option Addr) (n c : Nat) (xs : List Value) (hs : act.eval s = .slice a n c) (hown : Own w B 5 1 a n c xs)
    (y : ByteArray) (hx : act.eval x = .string y)
    (hn : n + y.size ≤ 140737488355328) (hB : B ≤ w.heap.size) (hbel : Below B w0 w)
    (hK : ∀ a' c' w', Own w' B 5 1 a' (n + y.size) c' (xs ++ y.data.toList.map B8) → w.grownBy w' (a.map (·.block)) → Below B w0 w' → wpList Try.prog ops Q rest (act.put o.dst (.slice a' (n + y.size) c')) w') :
    wpList Try.prog ops Q (o :: rest) act w :=
  append_src hg s x 33 9 hop 5 (.int .u8 0) 1 1 Try.underlying33 info_u8 rfl w0 B a n c xs hs hown (.string y) y.size (byteCells y) hx (Src.ofString w Try.underlying9 y) (by omega) (by unfold maxLen; omega) hB hbel hK
end
section
variable {w : World} {ops : Array Oper} {rest : List Oper} {act : Act} {Q : Exit → Act → World → Prop} {ty : TypeId} {pos : String} {after : Array Edge}

theorem idx_b (d : Nat) (x y : Operand) (a : Option Addr) (n c : Nat) (cs : List UInt8) (hx : act.eval x = .slice a n c) (hs : Sl w 1 a n c (cs.map B8)) (k : IntKind) (iv : Int) (i : Nat) (hy : act.eval y = .int k iv) (hiv : iv = (i : Int))
    (u : UInt8) (hu : cs[i]? = some u)
    (hK : ∀ b o, w.cell? ⟨b, o, none⟩ = some (B8 u) → b < w.heap.size → wpList Try.prog ops Q rest (act.put (some d) (.pointer (some ⟨b, o, none⟩))) w) :
    wpList Try.prog ops Q ({ dst := some d, op := .indexAddr 33 x y, type := ty, pos := pos, after := after, guard := none } :: rest) act w :=
  index_sl d 33 x y 5 Try.underlying33 size_u8 a n c _ hx hs k iv i hy hiv _ (by rw [List.getElem?_map, hu]; rfl) hK
theorem idx_i (d : Nat) (x y : Operand) (a : Option Addr) (n c : Nat) (cs : List Int) (hx : act.eval x = .slice a n c) (hs : Sl w 1 a n c (cs.map I64)) (k : IntKind) (iv : Int) (i : Nat) (hy : act.eval y = .int k iv) (hiv : iv = (i : Int))
    (u : Int) (hu : cs[i]? = some u)
    (hK : ∀ b o, w.cell? ⟨b, o, none⟩ = some (I64 u) → b < w.heap.size → wpList Try.prog ops Q rest (act.put (some d) (.pointer (some ⟨b, o, none⟩))) w) :
    wpList Try.prog ops Q ({ dst := some d, op := .indexAddr 23 x y, type := ty, pos := pos, after := after, guard := none } :: rest) act w :=
  index_sl d 23 x y 3 Try.underlying23 size_int a n c _ hx hs k iv i hy hiv _ (by rw [List.getElem?_map, hu]; rfl) hK
theorem cut_b (d : Nat) (x lo hi : Operand) (a : Option Addr) (n c : Nat) (cs : List UInt8) (hx : act.eval x = .slice a n c) (hs : Sl w 1 a n c (cs.map B8)) (kl ku : IntKind) (lv uv : Int) (l u : Nat) (hl : act.eval lo = .int kl lv) (hu : act.eval hi = .int ku uv)
    (hlv : lv = (l : Int)) (huv : uv = (u : Int)) (hlu : l ≤ u) (hun : u ≤ n)
    (hK : ∀ a', Sl w 1 a' (u - l) (c - l) (((cs.drop l).take (u - l)).map B8) → (∀ p, a' = some p → ∃ q, a = some q ∧ q.block = p.block) → wpList Try.prog ops Q rest (act.put (some d) (.slice a' (u - l) (c - l))) w) :
    wpList Try.prog ops Q ({ dst := some d, op := .slice 33 x (some lo) (some hi) none, type := ty, pos := pos, after := after, guard := none } :: rest) act w :=
  cut_sl d 33 x lo hi 5 Try.underlying33 1 size_u8 a n c _ hx hs kl ku lv uv l u hl hu hlv huv hlu hun (fun a' h => hK a' (by rw [Nat.mul_one, Nat.mul_one, ← List.map_drop, ← List.map_take] at h; exact h))
theorem cutlo_b (d : Nat) (x lo : Operand) (a : Option Addr) (n c : Nat) (cs : List UInt8) (hx : act.eval x = .slice a n c) (hs : Sl w 1 a n c (cs.map B8)) (kl : IntKind) (lv : Int) (l : Nat) (hl : act.eval lo = .int kl lv)
    (hlv : lv = (l : Int)) (hun : l ≤ n)
    (hK : ∀ a', Sl w 1 a' (n - l) (c - l) ((cs.drop l).map B8) → (∀ p, a' = some p → ∃ q, a = some q ∧ q.block = p.block) → wpList Try.prog ops Q rest (act.put (some d) (.slice a' (n - l) (c - l))) w) :
    wpList Try.prog ops Q ({ dst := some d, op := .slice 33 x (some lo) none none, type := ty, pos := pos, after := after, guard := none } :: rest) act w :=
  cut_lo d 33 x lo 5 Try.underlying33 1 size_u8 a n c _ hx hs kl lv l hl hlv hun (fun a' h => hK a' (by rw [Nat.mul_one, ← List.map_drop] at h; exact h))
theorem cuthi_b (d : Nat) (x hi : Operand) (a : Option Addr) (n c : Nat) (cs : List UInt8) (hx : act.eval x = .slice a n c) (hs : Sl w 1 a n c (cs.map B8)) (ku : IntKind) (uv : Int) (u : Nat) (hu : act.eval hi = .int ku uv)
    (huv : uv = (u : Int)) (hun : u ≤ n)
    (hK : Sl w 1 a u c ((cs.take u).map B8) → wpList Try.prog ops Q rest (act.put (some d) (.slice a u c)) w) :
    wpList Try.prog ops Q ({ dst := some d, op := .slice 33 x none (some hi) none, type := ty, pos := pos, after := after, guard := none } :: rest) act w :=
  cut_hi d 33 x hi 5 Try.underlying33 1 size_u8 a n c _ hx hs ku uv u hu huv hun (fun h => hK (by rw [Nat.mul_one, ← List.map_take] at h; exact h))
theorem to_str (d : Nat) (x : Operand) (a : Option Addr) (n c : Nat) (l : List UInt8) (hx : act.eval x = .slice a n c) (hs : Sl w 1 a n c (l.map B8))
    (hK : wpList Try.prog ops Q rest (act.put (some d) (.string ⟨l.toArray⟩)) w) :
    wpList Try.prog ops Q ({ dst := some d, op := .convert 33 9 x, type := ty, pos := pos, after := after, guard := none } :: rest) act w :=
  conv_str d 33 9 x 5 Try.underlying33 Try.underlying5 Try.underlying9 a n c l hx hs hK
theorem to_bytes (d : Nat) (x : Operand) (s : ByteArray) (hx : act.eval x = .string s) (hm : s.size ≤ maxLen)
    (hK : ∀ a c w', Sl w' 1 a s.size c (s.data.toList.map B8) → Below w.heap.size w w' → (∀ p, a = some p → w.heap.size ≤ p.block) → wpList Try.prog ops Q rest (act.put (some d) (.slice a s.size c)) w') :
    wpList Try.prog ops Q ({ dst := some d, op := .convert 9 33 x, type := ty, pos := pos, after := after, guard := none } :: rest) act w :=
  conv_bytes d 9 33 x 5 Try.underlying9 Try.underlying33 Try.underlying5 s hx hm hK
end
end Go.Proofs.Ytjdnmbapmobaaaa
end

/- the text Types2 -/
section
namespace Go.Proofs.Ytjdnmbapmobaaaa
open Go.RowKit Go.Dx

def zeroDig : Value := .agg (Array.replicate 16 (.int .u8 0))
section
variable {w : World} {ops : Array Oper} {rest : List Oper} {act : Act} {Q : Exit → Act → World → Prop} {ty : TypeId} {pos : String} {after : Array Edge}
end
section
variable {w : World} {ops : Array Oper} {rest : List Oper} {o : Oper} {act : Act} {Q : Exit → Act → World → Prop}
end
end Go.Proofs.Ytjdnmbapmobaaaa
end

/- the text Al -/
section
/- Boxes just made, strings cut and joined, stops for the walk. No program in sight but the seat's types. -/
set_option linter.unusedVariables false
namespace Go.Al
open Go.RowKit Go.Dx
def byB (l : List UInt8) : ByteArray := ⟨l.toArray⟩
theorem byB_size (l : List UInt8) : (byB l).size = l.length := by show l.toArray.size = _; rw [List.size_toArray]
theorem byB_data (l : List UInt8) : (byB l).data.toList = l := rfl
theorem byB_of (s : ByteArray) : byB s.data.toList = s := by cases s; rfl
theorem sblo (w : World) (o : Obj) : Below w.heap.size w (w.alloc o) := (Below.refl _ _).alloc (Nat.le_refl _) o
theorem blo3 {B : Nat} {w w' : World} (h : Below B w w') (hB : B ≤ w.heap.size) (o : Obj) : Below B w (w'.alloc o) := h.alloc (Nat.le_trans hB h.size) o
theorem allocs1 (w : World) (a : List Value) (t : TypeId) : ∃ w' g1, w' = w.alloc (.cells a.toArray t) ∧ g1 = w.heap.size ∧ Box w' g1 t a ∧ Below w.heap.size w w' ∧ g1 < w'.heap.size :=
  ⟨_, _, rfl, rfl, Box.new w t a.toArray, (Below.refl _ _).alloc (Nat.le_refl _) _, by simp⟩
theorem box_eq {w : World} {g g' : Nat} {t : TypeId} {cs : List Value} (h : Box w g t cs) (e : g = g') : Box w g' t cs := e ▸ h
theorem allocs2 (w : World) (a b : List Value) (t u : TypeId) : ∃ w' g1 g2, w' = (w.alloc (.cells a.toArray t)).alloc (.cells b.toArray u) ∧ g1 = w.heap.size ∧ g2 = w.heap.size + 1 ∧
    Box w' g1 t a ∧ Box w' g2 u b ∧ Below w.heap.size w w' ∧ g1 < g2 ∧ g2 < w'.heap.size :=
  ⟨_, _, _, rfl, rfl, rfl, (Box.new w t a.toArray).alloc _, box_eq (Box.new _ u b.toArray) (by simp), blo3 ((Below.refl _ _).alloc (Nat.le_refl _) _) (Nat.le_refl _) _, by simp, by simp⟩
theorem allocs3 (w : World) (a b c : List Value) (t u v : TypeId) : ∃ w' g1 g2 g3, w' = ((w.alloc (.cells a.toArray t)).alloc (.cells b.toArray u)).alloc (.cells c.toArray v) ∧ g1 = w.heap.size ∧ g2 = w.heap.size + 1 ∧
    g3 = w.heap.size + 1 + 1 ∧ Box w' g1 t a ∧ Box w' g2 u b ∧ Box w' g3 v c ∧ Below w.heap.size w w' ∧ g1 < g2 ∧ g2 < g3 ∧ g3 < w'.heap.size :=
  ⟨_, _, _, _, rfl, rfl, rfl, rfl, ((Box.new w t a.toArray).alloc _).alloc _, (box_eq (Box.new _ u b.toArray) (by simp)).alloc _, box_eq (Box.new _ v c.toArray) (by simp), blo3 (blo3 ((Below.refl _ _).alloc (Nat.le_refl _) _) (Nat.le_refl _) _) (Nat.le_refl _) _, by simp, by simp, by simp⟩
section
variable {P : Program} {w : World} {ops : Array Oper} {rest : List Oper} {act : Act} {Q : Exit → Act → World → Prop} {ty : TypeId} {pos : String} {after : Array Edge}
/-- 's + t' of strings -/
theorem str_add (d : Nat) (ta tb : TypeId) (x y : Operand) (s r q : ByteArray) (hx : act.eval x = .string s) (hy : act.eval y = .string r) (hsum : s.size + r.size ≤ 9223372036854775807) (hq : s ++ r = q)
    (hK : wpList P ops Q rest (act.put (some d) (.string q)) w) :
    wpList P ops Q ({ dst := some d, op := .binOp .add ta x y tb, type := ty, pos := pos, after := after, guard := none } :: rest) act w := by
  refine val_at rfl (.string q) ?_ hK
  have hrun := run_string_add_sum (P := P) w s r hsum
  rw [hq] at hrun
  simp [execOp, hx, hy, binOp, eqGuard, hrun, Result.andThen]
/-- 's[:hi]' of a string -/
theorem str_hi (d : Nat) (t : TypeId) (ht : P.underlying t = some .string) (x hi : Operand) (s r : ByteArray) (k : IntKind) (n : Nat) (hx : act.eval x = .string s) (hh : act.eval hi = .int k (n : Int)) (hn : n ≤ s.size) (hr : s.extract 0 n = r)
    (hK : wpList P ops Q rest (act.put (some d) (.string r)) w) :
    wpList P ops Q ({ dst := some d, op := .slice t x none (some hi) none, type := ty, pos := pos, after := after, guard := none } :: rest) act w := by
  refine val_at rfl (.string r) ?_ hK
  have h := run_slice_string_h (P := P) (w := w) (t := t) (s := s) ht k (n : Int) (by omega) (by omega)
  rw [Int.toNat_natCast, hr] at h
  have h' : (Instr.sliceAt t (.string s) none (some (.int k (n : Int))) none).run P w = .ok (.string r) w := by simp [Instr.sliceAt, run_underlying ht, h]
  simp only [execOp, Option.map_none, Option.map_some, hx, hh, Sem.run_bind, h', Result.andThen, Sem.run_pure]
/-- 's[lo:]' of a string -/
theorem str_lo (d : Nat) (t : TypeId) (ht : P.underlying t = some .string) (x lo : Operand) (s r : ByteArray) (k : IntKind) (n : Nat) (hx : act.eval x = .string s) (hh : act.eval lo = .int k (n : Int)) (hn : n ≤ s.size) (hr : s.extract n s.size = r)
    (hK : wpList P ops Q rest (act.put (some d) (.string r)) w) :
    wpList P ops Q ({ dst := some d, op := .slice t x (some lo) none none, type := ty, pos := pos, after := after, guard := none } :: rest) act w := by
  refine val_at rfl (.string r) ?_ hK
  have h := run_slice_string_l (P := P) (w := w) (t := t) (s := s) ht k (n : Int) (by omega) (by omega)
  rw [Int.toNat_natCast, hr] at h
  have h' : (Instr.sliceAt t (.string s) (some (.int k (n : Int))) none none).run P w = .ok (.string r) w := by simp [Instr.sliceAt, run_underlying ht, h]
  simp only [execOp, Option.map_none, Option.map_some, hx, hh, Sem.run_bind, h', Result.andThen, Sem.run_pure]
end
theorem _root_.Go.Dx.Box.sl_al {w : World} {g : Nat} {t : TypeId} {cs : List Value} {n : Nat} (h : Box w g t cs) (hn : cs.length = n) (hm : n ≤ maxLen) : Sl w 1 (some ⟨g, 0, none⟩) n n cs :=
  h.sl 0 n n 1 _ (by omega) (Nat.le_refl _) hm (fun j u hj => by rw [Nat.zero_add]; exact hj)
theorem byB_take (l : List UInt8) (n : Nat) : (byB l).extract 0 n = byB (l.take n) := by
  apply ByteArray.ext
  rw [ByteArray.data_extract]
  show l.toArray.extract 0 n = (l.take n).toArray
  simp
theorem byB_drop (l : List UInt8) (n : Nat) : (byB l).extract n (byB l).size = byB (l.drop n) := by
  apply ByteArray.ext
  rw [ByteArray.data_extract, byB_size]
  show l.toArray.extract n l.length = (l.drop n).toArray
  simp [List.take_of_length_le]
theorem byB_append (l r : List UInt8) : byB l ++ byB r = byB (l ++ r) := by
  apply ByteArray.ext
  rw [ByteArray.data_append]
  show l.toArray ++ r.toArray = (l ++ r).toArray
  simp
theorem hold_load {P : Program} {w : World} {ops : Array Oper} {rest : List Oper} {act : Act} {Q : Exit → Act → World → Prop} {dst : Option Tmp} {t ty : TypeId} {x : Operand} {pos : String} {after : Array Edge} {g : Option (Nat × Bool)}
    (h : Hid (wpList P ops Q ({ dst := dst, op := .load t x, type := ty, pos := pos, after := after, guard := g } :: rest) act w)) : wpList P ops Q ({ dst := dst, op := .load t x, type := ty, pos := pos, after := after, guard := g } :: rest) act w := h
theorem hold_store {P : Program} {w : World} {ops : Array Oper} {rest : List Oper} {act : Act} {Q : Exit → Act → World → Prop} {dst : Option Tmp} {t ty : TypeId} {x y : Operand} {pos : String} {after : Array Edge} {g : Option (Nat × Bool)}
    (h : Hid (wpList P ops Q ({ dst := dst, op := .store t x y, type := ty, pos := pos, after := after, guard := g } :: rest) act w)) : wpList P ops Q ({ dst := dst, op := .store t x y, type := ty, pos := pos, after := after, guard := g } :: rest) act w := h
theorem shold {p : Prop} (h : Hid p) : p := h.out
theorem own_ne {w : World} {B B' : Nat} {e e' : TypeId} {sz sz' : Nat} {p q : Addr} {n c n' c' : Nat} {cs cs' : List Value} (h : Own w B e sz (some p) n c cs) (h' : Own w B' e' sz' (some q) n' c' cs') (he : e ≠ e') : p.block ≠ q.block := by
  intro hb
  rcases h.2 with ⟨h1, _⟩ | ⟨g, cap, cur, h1, _, hg, _⟩
  · cases h1
  · rcases h'.2 with ⟨h2, _⟩ | ⟨g', cap', cur', h2, _, hg', _⟩
    · cases h2
    · injection h1 with h1
      injection h2 with h2
      injection h1 with h1
      injection h2 with h2
      subst h1 h2
      simp only at hb
      subst hb
      rw [hg] at hg'
      have hq := Option.some.inj hg'
      injection hq with _ hq _
      exact he hq
theorem own_zero {w : World} {B : Nat} {e : TypeId} {sz : Nat} {a : Option Addr} {n c : Nat} {cs : List Value} (h : Own w B e sz a n c cs) (hn : 0 < n) : ∃ g, a = some ⟨g, 0, none⟩ := by
  rcases h.2 with ⟨_, h0⟩ | ⟨g, cap, cur, hv, _⟩
  · omega
  · injection hv with h1; exact ⟨g, h1⟩
theorem cell_blw {w w' : World} {a : Addr} {v : Value} (h : w.cell? a = some v) (hb : Below w.heap.size w w') : w'.cell? a = some v := by
  rw [hb.cell (World.block_lt_of_cell? w _ h)]; exact h
section
variable {P : Program} {w : World} {ops : Array Oper} {rest : List Oper} {act : Act} {Q : Exit → Act → World → Prop} {ty : TypeId} {pos : String} {after : Array Edge}
/-- 'xs[i]', the address: elements of sz cells, the slice begins its block -/
theorem index_own (d : Nat) (t : TypeId) (x y : Operand) (sz : Nat) (e : TypeId) (ht : P.underlying t = some (.slice e)) (hsz : (P.info? e).map (·.size) = some sz)
    (g n c : Nat) (i : Nat) (iv : Int) (hx : act.eval x = .slice (some ⟨g, 0, none⟩) n c) (hy : act.eval y = .int .i64 iv) (hiv : iv = (i : Int)) (hi : i < n)
    (hK : wpList P ops Q rest (act.put (some d) (.pointer (some ⟨g, i * sz, none⟩))) w) :
    wpList P ops Q ({ dst := some d, op := .indexAddr t x y, type := ty, pos := pos, after := after, guard := none } :: rest) act w := by
  refine wpList_plain rfl fun K hK' => ?_
  obtain ⟨i0, hi0, hs0⟩ := Option.map_eq_some_iff.1 hsz
  subst hiv
  have hrun : (Instr.indexAt t (.slice (some ⟨g, 0, none⟩) n c) (.int .i64 (i : Int))).run P w = .ok (.pointer (some ⟨g, i * sz, none⟩)) w := by
    simp [Instr.indexAt, asIntOf, run_underlying ht, sizeOf, typeInfo, hi0, hs0, hi, Addr.add_lit]
  unfold Oper.wp
  simp [execOp, hx, hy, hrun, Result.andThen]
  exact hK' _ _ hK
end
theorem str_lo_z {P : Program} {w : World} {ops : Array Oper} {rest : List Oper} {act : Act} {Q : Exit → Act → World → Prop} {ty : TypeId} {pos : String} {after : Array Edge} (d : Nat) (t : TypeId) (ht : P.underlying t = some .string) (x lo : Operand) (s r : ByteArray) (k : IntKind) (n : Nat) (z : Int) (hz : z = (n : Int)) (hx : act.eval x = .string s) (hh : act.eval lo = .int k z) (hn : n ≤ s.size) (hr : s.extract n s.size = r)
    (hK : wpList P ops Q rest (act.put (some d) (.string r)) w) :
    wpList P ops Q ({ dst := some d, op := .slice t x (some lo) none none, type := ty, pos := pos, after := after, guard := none } :: rest) act w := by
  subst hz
  exact str_lo d t ht x lo s r k n hx hh hn hr hK
theorem str_hi_z {P : Program} {w : World} {ops : Array Oper} {rest : List Oper} {act : Act} {Q : Exit → Act → World → Prop} {ty : TypeId} {pos : String} {after : Array Edge} (d : Nat) (t : TypeId) (ht : P.underlying t = some .string) (x hi : Operand) (s r : ByteArray) (k : IntKind) (n : Nat) (z : Int) (hz : z = (n : Int)) (hx : act.eval x = .string s) (hh : act.eval hi = .int k z) (hn : n ≤ s.size) (hr : s.extract 0 n = r)
    (hK : wpList P ops Q rest (act.put (some d) (.string r)) w) :
    wpList P ops Q ({ dst := some d, op := .slice t x none (some hi) none, type := ty, pos := pos, after := after, guard := none } :: rest) act w := by
  subst hz
  exact str_hi d t ht x hi s r k n hx hh hn hr hK
theorem box_at {α : Type} {f : α → Value} {l : List α} {i : Nat} {x : α} (h : l[i]? = some x) : (l.map f)[i]? = some (f x) := by rw [List.getElem?_map, h]; rfl
end Go.Al
end

/- the text K2 -/
section
/- Chapter 37: the seal. -/
set_option linter.unusedVariables false
namespace Go.Proofs.Ytjdnmbapmobaaaa
open Go.RowKit Go.Dx Go.Al
abbrev V64 (x : UInt64) : Value := .int .u64 (x.toNat : Int)
theorem x_xor (x y : UInt64) : bits .xor .u64 (x.toNat : Int) (y.toNat : Int) = ((x ^^^ y).toNat : Int) := by
  rw [u64_xor_nat _ _ (UInt64.toNat_lt x) (UInt64.toNat_lt y), UInt64.toNat_xor]
theorem x_mul (x : UInt64) : (x.toNat : Int) * 1099511628211 % 18446744073709551616 = ((x * 1099511628211).toNat : Int) := by
  rw [UInt64.toNat_mul]
  have : (1099511628211 : UInt64).toNat = 1099511628211 := by decide
  rw [this]
  omega
theorem x_wrap (c : UInt8) : IntKind.u64.wrap (c.toNat : Int) = (c.toNat : Int) := by
  have := UInt8.toNat_lt c
  rw [IntKind.wrap_u64]; omega
theorem x_step (h : UInt64) (c : UInt8) : ∃ X : Nat, Hid (bits .xor .u64 (h.toNat : Int) (c.toNat : Int) = (X : Int)) ∧ Hid (IntKind.u64.wrap ((X : Int) * 1099511628211) = ((fnvStep h c).toNat : Int)) := by
  refine ⟨(h ^^^ UInt64.ofNat c.toNat).toNat, ?_, by show IntKind.u64.wrap _ = _; rw [IntKind.wrap_u64]; exact x_mul _⟩
  have hc := UInt8.toNat_lt c
  have e : (UInt64.ofNat c.toNat).toNat = c.toNat := by rw [UInt64.toNat_ofNat']; omega
  have h1 := x_xor h (UInt64.ofNat c.toNat)
  rw [e] at h1
  exact h1
/-- eight cells, the first k of them the seal's -/
def sealA (n k : Nat) : List UInt8 := sealTo n k ++ List.replicate (8 - k) 0
theorem sealA_len {n k : Nat} (h : k ≤ 8) : (sealA n k).length = 8 := by unfold sealA; rw [List.length_append, sealTo_len, List.length_replicate]; omega
theorem sealA_set {n k : Nat} (h : k < 8) : ((sealA n k).map B8).set k (B8 (byteN n k)) = (sealA n (k + 1)).map B8 := by
  rw [← List.map_set]
  congr 1
  unfold sealA
  rw [List.set_append_right _ _ (by rw [sealTo_len]; omega), sealTo_len, Nat.sub_self, show 8 - k = (8 - (k + 1)) + 1 by omega, List.replicate_succ, List.set_cons_zero, sealTo_succ, List.append_assoc]
  rfl
def zero8 : List UInt8 := List.replicate 8 0
theorem zero_8 (W : World) : (zeroValue 79).run Try.prog W = .ok (.agg (zero8.map B8).toArray) W := by kernel_rfl
theorem size_8' : (Try.prog.info? 79).map (·.size) = some 8 := by kernel_rfl
theorem isAgg_8 : IsAgg Try.prog 79 := .inl ⟨_, _, Try.underlying79⟩
theorem byteN_int (n k : Nat) : IntKind.u8.wrap ((n : Int) / 2 ^ (8 * k)) = ((byteN n k).toNat : Int) := by
  unfold byteN
  rw [UInt8.toNat_ofNat', IntKind.wrap_u8', shift_int]
  omega
set_option maxRecDepth 100000 in
set_option maxHeartbeats 2000000 in
theorem lk_seal (key : UInt64) (l : List UInt8) (a : Option Addr) (n c : Nat) (w : World) (hs : Sl w 1 a n c (l.map B8)) {R : List UInt8} (hR : sealB key l = R) :
    Calls Try.prog 41 #[V64 key, .slice a n c] w fun e w' => e = .returned (.agg (R.map B8).toArray) ∧ Below w.heap.size w w' := by
  have hn := hs.n_eq
  obtain ⟨Z, hZ⟩ : ∃ Z, Hid (zero8 = Z) := ⟨_, rfl⟩
  have h16 := zero_8
  rw [hZ.out] at h16
  have hZl : Hid (Z.length = 8) := hide (by rw [← hZ.out]; rfl)
  have hZA : Hid (∀ m, Z = sealA m 0) := hide (fun m => by rw [← hZ.out]; rfl)
  have hRl : Hid (R.length = 8) := hide (by rw [← hR]; exact sealB_len _ _)
  have HR := hide hR
  have hzR : Hid ((Try.prog.info? 79).map (·.size) = some (R.map B8).length) := hide (by rw [List.length_map, hRl.out]; exact size_8')
  have hk := x_xor 14695981039346656037 key
  have hk0 : ((14695981039346656037 : UInt64).toNat : Int) = 14695981039346656037 := by decide
  rw [hk0, show 14695981039346656037 ^^^ key = fnv0 key from rfl] at hk
  clear hR hk0
  go_enter Try.func41, Try.ntmps41
  go_upto_region 2 with fail
  obtain ⟨w1, G4, hw1, e1, x4, b1, l1⟩ := allocs1 w (Z.map B8) 79
  rw [← hw1, ← e1]
  have l0 : w.heap.size ≤ G4 := Nat.le_of_eq e1.symm
  clear hw1 e1 hk
  have hs1 := hs.below b1
  have HN := hide hn
  have hll : l.length ≤ n := Nat.le_of_eq hn.symm
  have hmx : n ≤ 9223372036854775807 := by have h1 := hs1.le; have h2 := hs1.cap; unfold maxLen at h2; omega
  clear hs hn
  go_wp2_with fail
  go_loopg [5, 14] l.length (fun gh h v w' => ∃ k : Nat, k ≤ l.length ∧ gh = l.length - k ∧ h = V64 (fnvFrom (fnv0 key) (l.take k)) ∧ v = .int .i64 (k : Int) ∧ w1 = w')
  case atStart => exact ⟨0, by omega, by omega, rfl, rfl, rfl⟩
  case round =>
    obtain ⟨k, hk, hg, rfl, rfl, rfl⟩ := hrel
    have HG := hide hg
    clear hg
    by_cases hlt : k < l.length
    · obtain ⟨u, hu⟩ : ∃ u, l[k]? = some u := ⟨l[k], by simp⟩
      have HT := hide (fnvFrom_take (fnv0 key) hu)
      obtain ⟨H, hH⟩ : ∃ H, Hid (fnvFrom (fnv0 key) (l.take k) = H) := ⟨_, rfl⟩
      rw [hH.out] at HT ⊢
      obtain ⟨X, hX1, hX2⟩ := x_step H u
      obtain ⟨b, o, rfl, _, hc⟩ := hs1.ex (by rw [List.length_map]; omega)
      have q1 := hc k (B8 u) (box_at hu)
      have d0 : decide ((k : Int) < (n : Int)) = true := decide_eq_true (by omega)
      have d1 : k < n := by omega
      clear hc hu
      have hX0 := x_wrap u
      have hX1' := hX1.out
      have hX2' := hX2.out
      go_wp2_with fail
      go_roundg (l.length - (k + 1))
      case measure => have := HG.out; omega
      case rel => exact ⟨k + 1, by omega, rfl, by rw [HT.out], by go_num, rfl⟩
    · have hkl : l.take k = l := List.take_of_length_le (by omega)
      have hkn : k = n := by have := HN.out; omega
      have d0 : decide ((k : Int) < (n : Int)) = false := decide_eq_false (by omega)
      have d1 : decide (k < n) = false := decide_eq_false (by omega)
      obtain ⟨N, hN⟩ : ∃ N, Hid ((fnv key l).toNat = N) := ⟨_, rfl⟩
      have hNe : ((fnvFrom (fnv0 key) (l.take k)).toNat : Int) = (N : Int) := by rw [hkl]; exact congrArg Int.ofNat hN.out
      rw [show V64 (fnvFrom (fnv0 key) (l.take k)) = Value.int .u64 (N : Int) from congrArg (Value.int IntKind.u64) hNe]
      have HRN : Hid (sealTo N 8 = R) := hide (by rw [← hN.out]; exact HR.out)
      clear hkl hNe hkn
      go_upto_region 8 with fail
      obtain ⟨w2, G8, hw2, e2, x8, b2, l2⟩ := allocs1 w1 (Z.map B8) 79
      rw [← hw2, ← e2]
      have x4 := x4.under b2
      have b2 := b1.trans (b2.mono b1.size)
      have l3 : w1.heap.size ≤ G8 := Nat.le_of_eq e2.symm
      clear hw2 e2 b1 d0 d1
      rw [hZA.out N] at x8
      go_wp2_with fail
      go_loopg [24] 8 (fun gh v w' => ∃ j : Nat, j ≤ 8 ∧ gh = 8 - j ∧ v = .int .i64 (j : Int) ∧ Box w' G8 79 ((sealA N j).map B8) ∧ Box w' G4 79 (Z.map B8) ∧ Below w.heap.size w w')
      case atStart => exact ⟨0, by omega, by omega, rfl, x8, x4, b2⟩
      case round =>
        clear x8 x4 b2
        obtain ⟨j, hj, hg, rfl, x8, x4, b2⟩ := hrel
        have HG2 := hide hg
        clear hg
        by_cases hlt2 : j < 8
        · have f3 := x8.free j
          have q3 : ∃ z, wr.cell? ⟨G8, j, none⟩ = some (B8 z) := ⟨_, x8.at_ (box_at (List.getElem?_eq_getElem (by rw [sealA_len hj]; exact hlt2)))⟩
          obtain ⟨z, q3⟩ := q3
          have d0 : decide ((j : Int) < 8) = true := decide_eq_true (by omega)
          have hb8 := byteN_int N j
          go_wp2_with fail
          go_roundg (8 - (j + 1))
          case measure => have := HG2.out; omega
          case rel =>
            have x8' := x8.put j (B8 (byteN N j))
            rw [sealA_set hlt2] at x8'
            refine ⟨j + 1, by omega, rfl, by go_num, ?_, x4.far (by simp; omega) _, b2.setCell (by simp; omega) _⟩
            first | exact x8' | (simpa using x8')
        · obtain rfl : j = 8 := by omega
          have d0 : decide ((8 : Int) < 8) = false := by decide
          have e8 : sealA N 8 = R := by rw [← HRN.out]; unfold sealA; simp
          rw [e8] at x8
          clear e8
          go_wp2_with (first
            | (with_reducible refine load_box 35 79 _ 79 G8 0 (R.map B8) (R.map B8) isAgg_8 hzR.out x8 rfl (fun j u hj => by rw [Nat.zero_add]; exact hj) ?_)
            | (with_reducible refine hold_store ?_))
          refine hide ?_
          refine store_all 79 _ _ 79 G4 (Z.map B8) (R.map B8) (.agg (R.map B8).toArray) hzR.out x4 (by rfl) (by rfl) rfl (by rw [List.length_map, hRl.out, List.length_map, hZl.out]) (one_map _ (fun _ => rfl) _) ?_
          intro w9 x9 hgr hsz'
          go_wp2_with fail
          refine bodyPost_ret (run_results_cell rfl rfl isAgg_8 hzR.out x9) rfl ⟨rfl, ?_⟩
          exact b2.grown hgr b2.size (fun k hk => by cases hk; omega)
end Go.Proofs.Ytjdnmbapmobaaaa
end

/- the text B1 -/
section
/- Chapter 06, in plain Lean: characters, cells, rules, tables, and the error of tables. No program in sight. -/
namespace Go.Dx

def isS (c : UInt8) : Bool := decide (97 ≤ c.toNat) && decide (c.toNat ≤ 122)
def isC (c : UInt8) : Bool := decide (65 ≤ c.toNat) && decide (c.toNat ≤ 90)
def isL (c : UInt8) : Bool := isS c || isC c
def low (c : UInt8) : UInt8 := if isC c then c + 32 else c
def isD (c : UInt8) : Bool := decide (48 ≤ c.toNat) && decide (c.toNat ≤ 57)
def isW (c : UInt8) : Bool := decide (32 ≤ c.toNat) && decide (c.toNat ≤ 126)
def cellOk (c : UInt8) : Bool := decide (1 ≤ c.toNat) && decide (c.toNat ≤ 63)
def okCells (l : List UInt8) : Bool := l.all cellOk
def indic (l : List UInt8) : Bool := decide (1 ≤ l.length) && decide (l.length ≤ 4) && okCells l
def chars (s : ByteArray) : List UInt8 := s.data.toList
def small (s : ByteArray) : Bool := (chars s).all isS

structure Ru where
  text : ByteArray
  whr : Int
  cells : List UInt8

def oneMark (s : ByteArray) : Bool := match chars s with
  | [c] => isW c && !isL c && !isD c
  | _ => false
def ruOk (r : Ru) : Bool :=
  decide (1 ≤ r.text.size) && decide (r.text.size ≤ 8) && decide (0 ≤ r.whr) && decide (r.whr ≤ 3) && indic r.cells && (small r.text || oneMark r.text && decide (r.whr = 0))

structure Ta where
  l0 : List Ru
  l1 : List Ru
  dig : List UInt8
  cap : List UInt8
  num : List UInt8
  fin : List UInt8
  sw : List UInt8

def nameOf (r : Ru) : List UInt8 × Int := (chars r.text, r.whr)
def dupB (l : List Ru) : Bool := !decide (l.map nameOf).Nodup
def ownB (l : List Ru) (c : UInt8) : Bool := decide (([c], (0 : Int)) ∈ l.map nameOf)
def missB (l : List Ru) : Bool := (List.range 26).any fun k => !ownB l (UInt8.ofNat (97 + k))
def goodT (t : Ta) : Bool :=
  decide (t.dig.length = 10) && okCells t.dig && indic t.cap && indic t.num && indic t.fin && indic t.sw && t.l0.all ruOk && t.l1.all ruOk
def validE (t : Ta) : Int :=
  if 96 < t.l0.length ∨ 96 < t.l1.length then 4
  else if goodT t = false then 1
  else if (dupB t.l0 || dupB t.l1) = true then 7
  else if (missB t.l0 || missB t.l1) = true then 6 else 0

structure Sy where
  lang : Int
  c : UInt8
  deriving DecidableEq
def symOk (x : Sy) : Bool := (decide (x.lang = 0) || decide (x.lang = 1)) && isW x.c
def goodS (l : List Sy) : Bool := l.all symOk

/-- the characters at i - 1 and i belong to one word -/
def inWord (l : List Sy) (i : Nat) : Bool := match i with
  | 0 => false
  | k + 1 => match l[k]?, l[k + 1]? with
    | some x, some y => isL x.c && isL y.c && decide (x.lang = y.lang)
    | _, _ => false
/-- the characters of a rule stand at a place: the first one may be a capital -/
def sameAt (g : Int) : Bool → List UInt8 → List Sy → Bool
  | _, [], _ => true
  | _, _ :: _, [] => false
  | b, u :: s, x :: l => decide (low x.c = u) && decide (x.lang = g) && (b || !isC x.c) && sameAt g false s l
def placeOk (r : Ru) (l : List Sy) (i : Nat) : Bool :=
  !small r.text || (if r.whr = 1 then !inWord l i && !inWord l (i + r.text.size) else if r.whr = 2 then !inWord l i && inWord l (i + r.text.size) else if r.whr = 3 then inWord l i else true)
def fitsB (r : Ru) (l : List Sy) (i : Nat) : Bool :=
  match l[i]? with
  | none => decide (r.text.size = 0)
  | some x => sameAt x.lang true (chars r.text) (l.drop i) && placeOk r l i

structure St where
  lang : Int
  num : Bool
  wrd : Bool
  deriving DecidableEq
structure Stp where
  dst : St
  len : Int
  cells : List UInt8
  rule : Int
  deriving DecidableEq
def headC (t : Ta) (s : St) (x : Sy) : List UInt8 := (if s.num && isL x.c then t.fin else []) ++ (if isC x.c then t.cap else [])
def ruleSteps (t : Ta) (s : St) (x : Sy) (l : List Sy) (i : Nat) : Nat → List Ru → List Stp
  | _, [] => []
  | k, r :: rs => (if fitsB r l i then [⟨⟨x.lang, false, isL x.c⟩, (r.text.size : Int), headC t s x ++ r.cells, (k : Int)⟩] else []) ++ ruleSteps t s x l i (k + 1) rs
def langOf (t : Ta) (g : Int) : List Ru := if g = 0 then t.l0 else t.l1
def nextL (t : Ta) (s : St) (l : List Sy) (i : Nat) (x : Sy) : List Stp :=
  if x.lang ≠ s.lang then [⟨⟨x.lang, false, false⟩, 0, t.sw, -1⟩]
  else if isD x.c then [⟨⟨x.lang, true, false⟩, 1, (if s.num then [] else t.num) ++ [t.dig.getD (x.c.toNat - 48) 0], -1⟩]
  else ruleSteps t s x l i 0 (langOf t x.lang)
def stepsL (t : Ta) (s : St) (l : List Sy) (i : Int) : List Stp :=
  if validE t = 0 ∧ (s.lang = 0 ∨ s.lang = 1) ∧ 0 ≤ i ∧ goodS l = true then
    match l[i.toNat]? with
    | none => []
    | some x => nextL t s l i.toNat x
  else []
end Go.Dx
end

/- the text BMap -/
section
/- A map that the call makes, whose keys are structs of a string and a number, and whose elements are all true: a set. No program in sight. -/
set_option linter.unusedSimpArgs false
set_option linter.unusedVariables false
namespace Go.Dx
open Go.RowKit

abbrev nameV (n : ByteArray × Int) : Value := .agg #[.string n.1, .int .i64 n.2]
/-- the key type is a struct of a string and an int -/
structure NameKey (P : Program) (K : TypeId) : Prop where
  ex : ∃ f0 f1 : Field, P.underlying K = some (.struct #[f0, f1]) ∧ f0.name ≠ "_" ∧ f1.name ≠ "_" ∧ f0.offset = 0 ∧ f1.offset = 1 ∧ P.underlying f0.type = some .string ∧ P.underlying f1.type = some (.int .i64)
  held : P.stoodInHeld K = false

theorem run_part_one {P : Program} {w : World} {t : TypeId} {xs : Array Value} {off : Nat} {v : Value} {d : TypeDesc} (hd : P.underlying t = some d) (hp : d = .string ∨ d = .int .i64) (hx : xs[off]? = some v) : (part t xs off).run P w = .ok v w := by
  rcases hp with rfl | rfl <;> simp [part, isAgg, run_underlying hd, hx]

theorem name_eq {P : Program} {K : TypeId} (h : NameKey P K) (w : World) (n m : ByteArray × Int) : (Op.equal K (nameV n) (nameV m)).run P w = .ok (n.1.toList == m.1.toList && n.2 == m.2) w := by
  obtain ⟨f0, f1, hu, h0, h1, o0, o1, u0, u1⟩ := h.ex
  have hf : P.fieldsOf K = #[f0, f1] := by simp [Program.fieldsOf, hu]
  have hrun := run_equalIn_struct w (P := P) 9999 K #[.string n.1, .int .i64 n.2] #[.string m.1, .int .i64 m.2] (by rw [hf]; exact hu) h.held
  rw [hf] at hrun
  have a0 := fun (xs : Array Value) (v : Value) (hx : xs[0]? = some v) => run_part_one (w := w) u0 (.inl rfl) hx
  have a1 := fun (xs : Array Value) (v : Value) (hx : xs[1]? = some v) => run_part_one (w := w) u1 (.inr rfl) hx
  have e1 := a0 #[.string n.1, .int .i64 n.2] (.string n.1) rfl
  have e2 := a0 #[.string m.1, .int .i64 m.2] (.string m.1) rfl
  have e3 := a1 #[.string n.1, .int .i64 n.2] (.int .i64 n.2) rfl
  have e4 := a1 #[.string m.1, .int .i64 m.2] (.int .i64 m.2) rfl
  have q1 := run_equalIn_string w (P := P) 9998 f0.type n.1 m.1 u0
  have q2 := run_equalIn_int w (P := P) 9998 f1.type .i64 .i64 n.2 m.2 u1
  show (Op.equalIn 10000 K (nameV n) (nameV m)).run P w = _
  rw [hrun]
  simp only [Op.eqFields, h0, h1, o0, o1, e1, e2, e3, e4, q1, q2, Sem.run_bind, Result.andThen_ok, ne_eq, not_false_eq_true, if_true]
  simp only [show (9999 : Nat) = 9998 + 1 from rfl, q1, q2, Result.andThen_ok]
  cases hq : (n.1.toList == m.1.toList)
  · simp
  · cases hq2 : (n.2 == m.2) <;> simp [e3, e4, q2, hq2]

theorem name_key {P : Program} {K : TypeId} (h : NameKey P K) (w : World) (b : Bool) (n : ByteArray × Int) : (Instr.checkKey b 10000 K (nameV n)).run P w = .ok () w := by
  obtain ⟨f0, f1, hu, h0, h1, o0, o1, u0, u1⟩ := h.ex
  have e1 := run_part_one (P := P) (w := w) (xs := #[.string n.1, .int .i64 n.2]) u0 (.inl rfl) (off := 0) (v := .string n.1) rfl
  have e3 := run_part_one (P := P) (w := w) (xs := #[.string n.1, .int .i64 n.2]) u1 (.inr rfl) (off := 1) (v := .int .i64 n.2) rfl
  have c1 : ∀ k, (Instr.checkKey b (k + 1) f0.type (.string n.1)).run P w = .ok () w := fun k => by simp [Instr.checkKey, run_underlying u0]
  have c2 : ∀ k, (Instr.checkKey b (k + 1) f1.type (.int .i64 n.2)).run P w = .ok () w := fun k => by simp [Instr.checkKey, run_underlying u1]
  have key : ∀ k, (Instr.checkKey b (k + 2) K (nameV n)).run P w = .ok () w := fun k => by
    rw [Instr.checkKey]
    simp [run_underlying hu, h0, h1, o0, o1, e1, e3, c1, c2]
  exact key 9998

/-- a set that the call has made -/
structure NSet (w : World) (b : Nat) (ns : List (ByteArray × Int)) : Prop where
  ex : ∃ es clock, w.heap[b]? = some (.map es clock) ∧ es.toList.map (fun e => (e.key, e.val)) = ns.map (fun n => (nameV n, Value.bool true))
def isIn (ns : List (ByteArray × Int)) (n : ByteArray × Int) : Bool := ns.any fun m => n.1.toList == m.1.toList && n.2 == m.2

theorem NSet.new (w : World) : NSet (w.alloc (.map #[] 0)) w.heap.size [] := ⟨#[], 0, heap_alloc_new w _, rfl⟩
theorem NSet.lt {w : World} {b : Nat} {ns : List (ByteArray × Int)} (h : NSet w b ns) : b < w.heap.size := by
  obtain ⟨es, clock, hb, _⟩ := h.ex
  exact (Array.getElem?_eq_some_iff.1 hb).1
theorem NSet.kept {w w' : World} {row : Option Nat} {b : Nat} {ns : List (ByteArray × Int)} (h : NSet w b ns) (hg : w.grownBy w' row) (hne : some b ≠ row) : NSet w' b ns := by
  have hlt := h.lt
  obtain ⟨es, clock, hb, he⟩ := h.ex
  exact ⟨es, clock, (hg.block b hlt hne).trans hb, he⟩
theorem NSet.below {w w' : World} {b : Nat} {ns : List (ByteArray × Int)} (h : NSet w b ns) (hg : Below w.heap.size w w') : NSet w' b ns := by
  have hlt := h.lt
  obtain ⟨es, clock, hb, he⟩ := h.ex
  exact ⟨es, clock, (hg.block b hlt).trans hb, he⟩
theorem NSet.alloc {w : World} {b : Nat} {ns : List (ByteArray × Int)} (h : NSet w b ns) (o : Obj) : NSet (w.alloc o) b ns := h.below ((Below.refl _ _).alloc (Nat.le_refl _) _)
theorem NSet.set {w : World} {b : Nat} {ns : List (ByteArray × Int)} (h : NSet w b ns) (p : Addr) (v : Value) (hp : p.block ≠ b) : NSet (w.setCell p v) b ns := by
  obtain ⟨es, clock, hb, he⟩ := h.ex
  exact ⟨es, clock, (Below.heap_setCell w p v b (fun e => hp e.symm)).trans hb, he⟩

theorem find_names {P : Program} {K : TypeId} (h : NameKey P K) (w : World) (n : ByteArray × Int) : ∀ (es : List MapEntry) (ns : List (ByteArray × Int)) (i : Nat), es.map (fun e => (e.key, e.val)) = ns.map (fun n => (nameV n, Value.bool true)) →
    ∃ r, (Instr.findAsking K (nameV n) es i).run P w = .ok r w ∧ r.map (·.2) = if isIn ns n then some (Value.bool true) else none := by
  intro es
  induction es with
  | nil =>
    intro ns i he
    cases ns with
    | nil => exact ⟨none, by simp [Instr.findAsking], rfl⟩
    | cons m ns => cases he
  | cons e es ih =>
    intro ns i he
    cases ns with
    | nil => cases he
    | cons m ns =>
      rw [List.map_cons, List.map_cons] at he
      injection he with h1 h2
      injection h1 with hk hv
      have hq := name_eq h w n m
      cases hc : (n.1.toList == m.1.toList && n.2 == m.2)
      · obtain ⟨r, hr, hr2⟩ := ih ns (i + 1) h2
        refine ⟨r, ?_, ?_⟩
        · rw [hc] at hq
          simp only [Instr.findAsking, hk, Sem.run_bind, hq, Result.andThen_ok, Bool.false_eq_true, if_false]
          exact hr
        · rw [hr2]; simp only [isIn, List.any_cons, hc, Bool.false_or]; rfl
      · refine ⟨some (i, e.val), ?_, ?_⟩
        · rw [hc] at hq
          simp only [Instr.findAsking, hk, Sem.run_bind, hq, Result.andThen_ok, if_true, Sem.run_pure]
        · simp only [isIn, List.any_cons, hc, Bool.true_or, if_true, Option.map_some, hv]

theorem find_key {P : Program} {K : TypeId} (h : NameKey P K) (w : World) (n : ByteArray × Int) (es : List MapEntry) (ns : List (ByteArray × Int)) (he : es.map (fun e => (e.key, e.val)) = ns.map (fun n => (nameV n, Value.bool true))) :
    ∃ r, (Instr.findKey K (nameV n) es).run P w = .ok r w ∧ r.map (·.2) = if isIn ns n then some (Value.bool true) else none := by
  obtain ⟨f0, f1, hu, _⟩ := h.ex
  cases es with
  | nil =>
    cases ns with
    | nil => exact ⟨none, by simp [Instr.findKey, run_underlying hu, Instr.findNow], rfl⟩
    | cons m ns => cases he
  | cons e es =>
    obtain ⟨r, hr, hr2⟩ := find_names h w n (e :: es) ns 0 he
    refine ⟨r, ?_, hr2⟩
    have hk : e.key = nameV (ns.headD n) := by
      cases ns with
      | nil => cases he
      | cons m ns => injection he with h1 _; injection h1
    have hf : Instr.findNow (.struct #[f0, f1]) (nameV n) (e :: es) 0 = none := by
      simp [Instr.findNow, hk, Instr.sameNow]
    simp only [Instr.findKey, Sem.run_bind, run_underlying hu, Result.andThen_ok, hf]
    exact hr

section
variable {P : Program} {w : World} {ops : Array Oper} {rest : List Oper} {o : Oper} {a : Act} {Q : Exit → Act → World → Prop}
/-- 'm[k]' -/
theorem look_name {K : TypeId} (hK0 : NameKey P K) (hg : o.guard = none) (m x : Operand) (t e : TypeId) (hop : o.op = Op.lookup t m x false) (ht : P.underlying t = some (.map K e))
    (hz : ∀ w, (zeroValue e).run P w = .ok (.bool false) w) (b : Nat) (ns : List (ByteArray × Int)) (hm : a.eval m = .map (some b)) (hown : NSet w b ns) (n : ByteArray × Int) (hx : a.eval x = nameV n)
    (hK : wpList P ops Q rest (a.put o.dst (.bool (isIn ns n))) w) : wpList P ops Q (o :: rest) a w := by
  refine wpList_plain hg fun K' hK' => ?_
  obtain ⟨es, clock, hb, he⟩ := hown.ex
  obtain ⟨r, hr, hr2⟩ := find_key hK0 w n es.toList ns he
  have hrun : (Instr.lookup t (.map (some b)) (nameV n) false).run P w = .ok (.bool (isIn ns n)) w := by
    have hck := name_key hK0 w es.isEmpty n
    cases r with
    | none =>
      cases hi : isIn ns n
      · simp [Instr.lookup, run_underlying ht, MapKept.run_getObj_map hb, hck, hr, hz]
      · rw [hi] at hr2; cases hr2
    | some q =>
      cases hi : isIn ns n
      · rw [hi] at hr2; cases hr2
      · rw [hi] at hr2
        have : q.2 = .bool true := by simpa using hr2
        obtain ⟨q1, q2⟩ := q
        subst this
        simp [Instr.lookup, run_underlying ht, MapKept.run_getObj_map hb, hck, hr]
  unfold Oper.wp
  simp [execOp, hop, hm, hx, hrun, Result.andThen]
  exact hK' _ _ hK
/-- 'm[k] = true', k new -/
theorem put_name {K : TypeId} (hK0 : NameKey P K) (hg : o.guard = none) (m x v : Operand) (t e : TypeId) (hop : o.op = Op.mapUpdate t m x v) (ht : P.underlying t = some (.map K e))
    (b : Nat) (ns : List (ByteArray × Int)) (hm : a.eval m = .map (some b)) (hown : NSet w b ns) (n : ByteArray × Int) (hx : a.eval x = nameV n) (hv : a.eval v = .bool true) (hnew : isIn ns n = false)
    (hK : ∀ w', NSet w' b (ns ++ [n]) → w.grownBy w' (some b) → w'.heap.size = w.heap.size → wpList P ops Q rest (a.put o.dst undef) w') : wpList P ops Q (o :: rest) a w := by
  refine wpList_plain hg fun K' hK' => ?_
  obtain ⟨es, clock, hb, he⟩ := hown.ex
  obtain ⟨r, hr, hr2⟩ := find_key hK0 w n es.toList ns he
  rw [hnew] at hr2
  have hrn : r = none := by cases r with
    | none => rfl
    | some q => cases hr2
  subst hrn
  have hck := name_key hK0 w false n
  have hlt := hown.lt
  obtain ⟨w', hw'⟩ : ∃ w', w' = { w with heap := w.heap.setIfInBounds b (.map (es.push { key := nameV n, val := .bool true, born := clock }) (clock + 1)) } := ⟨_, rfl⟩
  have hrun : (Instr.mapUpdate t (.map (some b)) (nameV n) (.bool true)).run P w = .ok () w' := by
    subst hw'
    simp [Instr.mapUpdate, run_underlying ht, MapKept.run_getObj_map hb, MapKept.run_setObj_map _ hb, hck, hr]
  unfold Oper.wp
  simp [execOp, hop, hm, hx, hv, hrun, Result.andThen]
  refine hK' _ _ (hK w' ?_ ?_ ?_)
  · refine ⟨_, clock + 1, by rw [hw']; simp [Array.getElem?_setIfInBounds, hlt]; rfl, ?_⟩
    simp [he]
  · rw [hw']
    refine ⟨rfl, rfl, rfl, by simp, fun k hk hne => ?_⟩
    simp only [Array.getElem?_setIfInBounds]
    rw [if_neg (fun e => hne (by rw [e]))]
  · rw [hw']; simp
end
end Go.Dx
end

/- the text B2 -/
section
/- Chapter 06, in plain Lean: laws on names, on the error of tables, and on where a rule fits. No program in sight. -/
namespace Go.Dx

abbrev nmOf (r : Ru) : ByteArray × Int := (r.text, r.whr)
theorem isIn_eq (l : List Ru) (n : ByteArray × Int) : isIn (l.map nmOf) n = decide ((chars n.1, n.2) ∈ l.map nameOf) := by
  rw [Bool.eq_iff_iff]
  simp only [isIn, List.any_map, List.any_eq_true, decide_eq_true_eq, List.mem_map, nameOf, Function.comp, Bool.and_eq_true, beq_iff_eq, ByteArray.toList_eq, chars, Prod.mk.injEq]
  constructor
  · rintro ⟨r, hr, h1, h2⟩; exact ⟨r, hr, h1.symm, h2.symm⟩
  · rintro ⟨r, hr, h1, h2⟩; exact ⟨r, hr, h1.symm, h2.symm⟩
/-- the first k names are all different -/
def apart (l : List Ru) (k : Nat) : Prop := ((l.take k).map nameOf).Nodup
theorem apart_zero (l : List Ru) : apart l 0 := by simp [apart]
theorem take_succ_get {α : Type} {l : List α} {k : Nat} {x : α} (h : l[k]? = some x) : l.take (k + 1) = l.take k ++ [x] := by
  rw [List.take_add_one, h]; rfl
theorem apart_step {l : List Ru} {k : Nat} {r : Ru} (h : l[k]? = some r) (ha : apart l k) (hn : isIn ((l.take k).map nmOf) (nmOf r) = false) : apart l (k + 1) := by
  rw [isIn_eq] at hn
  simp only [decide_eq_false_iff_not] at hn
  unfold apart at ha ⊢
  rw [take_succ_get h, List.map_append, List.nodup_append]
  refine ⟨ha, by simp, ?_⟩
  intro a h1 b h2 e
  simp only [List.map_cons, List.map_nil, List.mem_singleton] at h2
  subst h2; subst e
  exact hn h1
theorem dup_of {l : List Ru} {k : Nat} {r : Ru} (h : l[k]? = some r) (hn : isIn ((l.take k).map nmOf) (nmOf r) = true) : dupB l = true := by
  rw [isIn_eq] at hn
  simp only [decide_eq_true_eq] at hn
  unfold dupB
  simp only [Bool.not_eq_true', decide_eq_false_iff_not]
  intro hd
  have hk := (List.getElem?_eq_some_iff.1 h).1
  have hs : (l.take (k + 1)).Sublist l := List.take_sublist _ _
  have := (hs.map nameOf).nodup hd
  rw [take_succ_get h, List.map_append, List.nodup_append] at this
  exact this.2.2 _ hn _ (by simp [nameOf]) rfl
theorem apart_all {l : List Ru} (h : apart l l.length) : dupB l = false := by
  unfold apart at h
  rw [List.take_length] at h
  simp [dupB, h]
theorem own_in (l : List Ru) (c : UInt8) (s : ByteArray) (hs : chars s = [c]) : isIn (l.map nmOf) (s, 0) = ownB l c := by
  rw [isIn_eq]
  simp only [hs, ownB]
/-- the first k letters have rules of their own in both languages -/
def ownTo (l : List Ru) (k : Nat) : Prop := ∀ j, j < k → ownB l (UInt8.ofNat (97 + j)) = true
theorem ownTo_step {l : List Ru} {k : Nat} (h : ownTo l k) (h2 : ownB l (UInt8.ofNat (97 + k)) = true) : ownTo l (k + 1) := by
  intro j hj
  by_cases e : j = k
  · subst e; exact h2
  · exact h j (by omega)
theorem miss_of {l : List Ru} {k : Nat} (hk : k < 26) (h : ownB l (UInt8.ofNat (97 + k)) = false) : missB l = true := by
  unfold missB
  rw [List.any_eq_true]
  exact ⟨k, by simpa using hk, by rw [h]; rfl⟩
theorem miss_no {l : List Ru} (h : ownTo l 26) : missB l = false := by
  unfold missB
  rw [List.any_eq_false]
  intro k hk
  rw [h k (by simpa using hk)]; simp

/-- 'i is a place of a letter in the language g' -/
def inAt (l : List Sy) (g : Int) (i : Int) : Bool := decide (0 ≤ i) && match l[i.toNat]? with
  | some x => decide (x.lang = g) && isL x.c
  | none => false
structure IsLo (l : List Sy) (g : Int) (i a : Int) : Prop where
  le : a ≤ i
  all : ∀ j, a ≤ j → j < i → inAt l g j = true
  no : inAt l g (a - 1) = false
structure IsHi (l : List Sy) (g : Int) (i b : Int) : Prop where
  le : i ≤ b
  all : ∀ j, i ≤ j → j < b → inAt l g j = true
  no : inAt l g b = false
theorem lo_cmp {l : List Sy} {g : Int} {i a : Int} (h : IsLo l g i a) : decide (a < i) = inAt l g (i - 1) := by
  cases hi : inAt l g (i - 1)
  · have : ¬ a < i := fun hl => by rw [h.all (i - 1) (by omega) (by omega)] at hi; cases hi
    simp [this]
  · have : a < i := by
      have := h.le
      have hn := h.no
      by_cases e : a = i
      · rw [e, hi] at hn; cases hn
      · omega
    simp [this]
theorem hi_cmp {l : List Sy} {g : Int} {i b : Int} (h : IsHi l g i b) (n : Nat) (hn : ∀ j, i ≤ j → j < i + n → inAt l g j = true) : i + n ≤ b ∧ decide (i + n < b) = inAt l g (i + n) := by
  have hb : i + n ≤ b := by
    have h1 := h.no
    have h2 := h.le
    by_cases e : b < i + n
    · rw [hn b h2 e] at h1; cases h1
    · omega
  refine ⟨hb, ?_⟩
  cases hi : inAt l g (i + n)
  · have : ¬ i + n < b := fun hl => by rw [h.all (i + n) (by omega) hl] at hi; cases hi
    simp [this]
  · have : i + n < b := by
      have hn := h.no
      by_cases e : b = i + n
      · rw [e, hi] at hn; cases hn
      · omega
    simp [this]
theorem inAt_nat (l : List Sy) (g : Int) (k : Nat) : inAt l g (k : Int) = match l[k]? with
  | some x => decide (x.lang = g) && isL x.c
  | none => false := by
  unfold inAt
  simp
theorem isS_low {c : UInt8} (h : isS (low c) = true) : isL c = true := by
  unfold low at h
  by_cases hc : isC c = true
  · simp [isL, hc]
  · rw [if_neg hc] at h
    simp [isL, h]
theorem same_letters {g : Int} : ∀ (s : List UInt8) (b : Bool) (l : List Sy), sameAt g b s l = true → s.all isS = true → ∀ j, j < s.length → ∃ x, l[j]? = some x ∧ x.lang = g ∧ isL x.c = true := by
  intro s
  induction s with
  | nil => intro b l _ _ j hj; cases hj
  | cons u s ih =>
    intro b l h hs j hj
    cases l with
    | nil => cases h
    | cons x l =>
      simp only [sameAt, Bool.and_eq_true, decide_eq_true_eq] at h
      obtain ⟨⟨⟨h1, h2⟩, h3⟩, h4⟩ := h
      rw [List.all_cons, Bool.and_eq_true] at hs
      cases j with
      | zero => exact ⟨x, rfl, h2, isS_low (by rw [h1]; exact hs.1)⟩
      | succ j =>
        obtain ⟨y, hy, h5⟩ := ih false l h4 hs.2 j (by simpa using hj)
        exact ⟨y, by simpa using hy, h5⟩
/-- what the program asks of the word at a place is what the reference asks -/
theorem place_eq {r : Ru} {l : List Sy} {i : Nat} {x : Sy} (hx : l[i]? = some x) (hs : sameAt x.lang true (chars r.text) (l.drop i) = true) (hm : small r.text = true) (h1 : 1 ≤ r.text.size)
    {a b : Int} (ha : IsLo l x.lang i a) (hb : IsHi l x.lang i b) :
    inWord l i = decide (a < (i : Int)) ∧ (i : Int) + r.text.size ≤ b ∧ inWord l (i + r.text.size) = decide ((i : Int) + r.text.size < b) := by
  have hlen : (chars r.text).length = r.text.size := Array.length_toList
  have hin : ∀ j, j < r.text.size → ∃ y, l[i + j]? = some y ∧ y.lang = x.lang ∧ isL y.c = true := by
    intro j hj
    obtain ⟨y, hy, h2⟩ := same_letters _ _ _ hs hm j (by rw [hlen]; exact hj)
    exact ⟨y, by rw [← List.getElem?_drop]; exact hy, h2⟩
  have hall : ∀ j, (i : Int) ≤ j → j < (i : Int) + r.text.size → inAt l x.lang j = true := by
    intro j h2 h3
    obtain ⟨y, hy, h4, h5⟩ := hin (j - i).toNat (by omega)
    have e : j = ((i + (j - i).toNat : Nat) : Int) := by omega
    rw [e, inAt_nat, hy]
    simp [h4, h5]
  obtain ⟨hb1, hb2⟩ := hi_cmp hb r.text.size hall
  obtain ⟨y0, hy0, g0, k0⟩ := hin 0 (by omega)
  rw [Nat.add_zero, hx] at hy0
  obtain rfl := Option.some.inj hy0
  refine ⟨?_, hb1, ?_⟩
  · rw [lo_cmp ha]
    cases i with
    | zero => simp [inWord, inAt]
    | succ k =>
      have e : ((k + 1 : Nat) : Int) - 1 = (k : Int) := by omega
      rw [e, inAt_nat]
      simp only [inWord, hx]
      cases l[k]? with
      | none => rfl
      | some z => simp only [k0, Bool.and_true]; rw [Bool.and_comm]
  · rw [hb2]
    obtain ⟨z, hz, g1, k1⟩ := hin (r.text.size - 1) (by omega)
    have e1 : i + r.text.size = (i + (r.text.size - 1)) + 1 := by omega
    have e2 : (i : Int) + r.text.size = (((i + (r.text.size - 1)) + 1 : Nat) : Int) := by omega
    rw [e2, inAt_nat, e1]
    simp only [inWord, hz]
    cases hq : l[i + (r.text.size - 1) + 1]? with
    | none => rfl
    | some q =>
      simp only [g1]
      rw [k1, Bool.true_and, Bool.and_comm]
      congr 1
      rw [decide_eq_decide]
      exact ⟨fun h => h.symm, fun h => h.symm⟩
theorem same_len {g : Int} : ∀ (s : List UInt8) (b : Bool) (l : List Sy), sameAt g b s l = true → s.length ≤ l.length := by
  intro s
  induction s with
  | nil => intro b l _; exact Nat.zero_le _
  | cons u s ih =>
    intro b l h
    cases l with
    | nil => cases h
    | cons x l =>
      simp only [sameAt, Bool.and_eq_true] at h
      have := ih false l h.2
      simp; omega
end Go.Dx
end
