/- The order of encodings. No Go. -/
import Derived.Test.YtalicdpocgomkaaPure4
namespace Go.Dx

/-- byte by byte -/
def lexLt : List UInt8 → List UInt8 → Bool
  | _, [] => false
  | [], _ :: _ => true
  | x :: xs, y :: ys => if x.toNat < y.toNat then true else if y.toNat < x.toNat then false else lexLt xs ys
theorem lexLt_irrefl : ∀ l, lexLt l l = false
  | [] => rfl
  | x :: xs => by unfold lexLt; rw [if_neg (by omega), if_neg (by omega)]; exact lexLt_irrefl xs
theorem lexLt_asymm : ∀ {a b : List UInt8}, lexLt a b = true → lexLt b a = false
  | _, [], h => by cases ‹List UInt8› <;> simp [lexLt] at h
  | [], _ :: _, _ => rfl
  | x :: xs, y :: ys, h => by
    unfold lexLt at h ⊢
    by_cases h1 : x.toNat < y.toNat
    · rw [if_neg (by omega), if_pos h1]
    · rw [if_neg h1] at h
      by_cases h2 : y.toNat < x.toNat
      · rw [if_pos h2] at h; cases h
      · rw [if_neg h2] at h
        rw [if_neg h2, if_neg h1]
        exact lexLt_asymm h
/-- of one length: as the numbers -/
theorem lexLt_val : ∀ {a b : List UInt8}, a.length = b.length → (lexLt a b = true ↔ val a < val b)
  | [], [], _ => by simp [lexLt]
  | x :: xs, y :: ys, h => by
    have hl : xs.length = ys.length := by simpa using h
    have ih := lexLt_val hl
    have h1 := val_lt xs
    have h2 := val_lt ys
    rw [val_first, val_first, hl]
    rw [hl] at h1
    generalize 256 ^ ys.length = p at *
    unfold lexLt
    by_cases c1 : x.toNat < y.toNat
    · rw [if_pos c1]
      have : (x.toNat + 1) * p ≤ y.toNat * p := Nat.mul_le_mul_right _ c1
      rw [Nat.add_mul] at this
      exact ⟨fun _ => by omega, fun _ => rfl⟩
    · rw [if_neg c1]
      by_cases c2 : y.toNat < x.toNat
      · rw [if_pos c2]
        have : (y.toNat + 1) * p ≤ x.toNat * p := Nat.mul_le_mul_right _ c2
        rw [Nat.add_mul] at this
        exact ⟨fun h => (by cases h), fun h => by omega⟩
      · rw [if_neg c2, ih]
        have : x.toNat = y.toNat := by omega
        rw [this]
        omega
theorem val_flip : ∀ l : List UInt8, val (l.map (flp true)) + val l + 1 = 256 ^ l.length
  | [] => rfl
  | x :: xs => by
    have ih := val_flip xs
    rw [List.map_cons, val_first, val_first, List.length_map, List.length_cons, Nat.pow_succ]
    have hx := flp_neg x
    have hb := UInt8.toNat_lt x
    have hx2 : (flp true x).toNat = 255 - x.toNat := by omega
    rw [hx2]
    generalize 256 ^ xs.length = p at *
    have : (255 - x.toNat) * p + x.toNat * p = 255 * p := by rw [← Nat.add_mul]; congr 1; omega
    omega
theorem klen_mono {a b : Nat} (h : a ≤ b) (hb : b < 18446744073709551616) : klen a ≤ klen b := by
  have h1 := len_klen (m := a) (by omega)
  have h2 := len_klen hb
  generalize klen a = k at *
  generalize klen b = j at *
  refine Nat.le_of_not_lt fun hlt => ?_
  rcases h1.2.2 with h0 | h0
  · omega
  · have h3 : 256 ^ j ≤ 256 ^ (k - 1) := Nat.pow_le_pow_right (by omega) (by omega)
    have h4 := h2.2.1
    omega
theorem lex_cons_lt {x y : UInt8} {xs ys : List UInt8} (h : x.toNat < y.toNat) : lexLt (x :: xs) (y :: ys) = true := by unfold lexLt; rw [if_pos h]
theorem lex_cons_eq {x : UInt8} {xs ys : List UInt8} : lexLt (x :: xs) (x :: ys) = lexLt xs ys := by rw [lexLt]; rw [if_neg (by omega), if_neg (by omega)]
/-- P1.7 -/
theorem enc_lt {m n : Int} (m0 : -9223372036854775808 ≤ m) (n1 : n ≤ 9223372036854775807) (h : m < n) : lexLt (encInt m) (encInt n) = true := by
  have hLm := len_klen (m := mag m) (by have := mag_lt m0 (by omega); omega)
  have hLn := len_klen (m := mag n) (by have := mag_lt (n := n) (by omega) n1; omega)
  unfold encInt
  by_cases hm : m < 0
  · by_cases hn : n < 0
    · have hmn : mag n < mag m := by unfold mag; rw [if_pos hm, if_pos hn]; omega
      have hk := klen_mono (Nat.le_of_lt hmn) (by have := mag_lt m0 (by omega); have := mag_lt (n := n) (by omega) n1; omega)
      rw [decide_eq_true hm, decide_eq_true hn]
      have e1 := hd_neg (klen (mag m)) hLm.1
      have e2 := hd_neg (klen (mag n)) hLn.1
      by_cases hke : klen (mag n) = klen (mag m)
      · rw [← hke]
        rw [lex_cons_eq, lexLt_val (by simp [digs_length])]
        have f1 := val_flip (digs (mag m) (klen (mag n)) (klen (mag n)))
        have f2 := val_flip (digs (mag n) (klen (mag n)) (klen (mag n)))
        rw [digs_length] at f1 f2
        rw [val_digs (by rw [hke]; exact hLm.2.1)] at f1
        rw [val_digs hLn.2.1] at f2
        omega
      · exact lex_cons_lt (by have h1 := hLm.1; have h2 := hLn.1; omega)
    · rw [decide_eq_true hm, decide_eq_false hn]
      have e1 := hd_neg (klen (mag m)) hLm.1
      have e2 := hd_pos (klen (mag n)) hLn.1
      exact lex_cons_lt (by have h1 := hLm.1; have h2 := hLn.1; omega)
  · have hn : ¬ n < 0 := by omega
    have hmn : mag m < mag n := by unfold mag; rw [if_neg hm, if_neg hn]; omega
    have hk := klen_mono (Nat.le_of_lt hmn) (by have := mag_lt m0 (by omega); have := mag_lt (n := n) (by omega) n1; omega)
    rw [decide_eq_false hm, decide_eq_false hn]
    have e1 := hd_pos (klen (mag m)) hLm.1
    have e2 := hd_pos (klen (mag n)) hLn.1
    by_cases hke : klen (mag n) = klen (mag m)
    · rw [← hke]
      rw [lex_cons_eq, lexLt_val (by simp [digs_length])]
      have hid : ∀ l : List UInt8, l.map (flp false) = l := fun l => by
        have : (flp false) = id := by funext d; exact flp_pos d
        rw [this, List.map_id]
      rw [hid, hid, val_digs (by rw [hke]; exact hLm.2.1), val_digs hLn.2.1]
      exact hmn
    · exact lex_cons_lt (by have h1 := hLm.1; have h2 := hLn.1; omega)
theorem enc_lex {m n : Int} (m0 : -9223372036854775808 ≤ m) (m1 : m ≤ 9223372036854775807) (n0 : -9223372036854775808 ≤ n) (n1 : n ≤ 9223372036854775807) : lexLt (encInt m) (encInt n) = decide (m < n) := by
  rcases Int.lt_trichotomy m n with h | h | h
  · rw [enc_lt m0 n1 h, decide_eq_true h]
  · subst h; rw [lexLt_irrefl, decide_eq_false (by omega)]
  · rw [lexLt_asymm (enc_lt n0 m1 h), decide_eq_false (by omega)]
theorem enc_inj {m n : Int} (m0 : -9223372036854775808 ≤ m) (m1 : m ≤ 9223372036854775807) (n0 : -9223372036854775808 ≤ n) (n1 : n ≤ 9223372036854775807) : encInt m = encInt n ↔ m = n := by
  refine ⟨fun h => ?_, fun h => by rw [h]⟩
  have h1 := decInt_enc m0 m1 []
  have h2 := decInt_enc n0 n1 []
  rw [h, h2] at h1
  exact (congrArg Prod.fst h1).symm
/-- no encoding begins another -/
theorem enc_prefix {m n : Int} (m0 : -9223372036854775808 ≤ m) (m1 : m ≤ 9223372036854775807) (n0 : -9223372036854775808 ≤ n) (n1 : n ≤ 9223372036854775807) :
    (encInt m).take (min (encInt m).length (encInt n).length) = (encInt n).take (min (encInt m).length (encInt n).length) ↔ m = n := by
  refine ⟨fun h => ?_, fun h => by rw [h]⟩
  rcases Nat.le_total (encInt m).length (encInt n).length with hl | hl
  · rw [Nat.min_eq_left hl, List.take_length] at h
    have h1 := decInt_enc m0 m1 ((encInt n).drop (encInt m).length)
    have h2 := decInt_enc n0 n1 []
    have e : encInt m ++ (encInt n).drop (encInt m).length = encInt n := by
      conv => lhs; lhs; rw [h]
      exact List.take_append_drop _ _
    rw [e] at h1
    rw [List.append_nil, h1] at h2
    exact congrArg Prod.fst h2
  · rw [Nat.min_eq_right hl, List.take_length] at h
    have h1 := decInt_enc n0 n1 ((encInt m).drop (encInt n).length)
    have h2 := decInt_enc m0 m1 []
    have e : encInt n ++ (encInt m).drop (encInt n).length = encInt m := by
      conv => lhs; lhs; rw [← h]
      exact List.take_append_drop _ _
    rw [e] at h1
    rw [List.append_nil, h1] at h2
    exact (congrArg Prod.fst h2).symm
end Go.Dx
