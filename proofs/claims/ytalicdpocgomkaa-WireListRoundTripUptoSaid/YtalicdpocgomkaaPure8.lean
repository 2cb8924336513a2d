/- Proper prefixes of encodings ask for more. No Go. -/
import Derived.Test.YtalicdpocgomkaaPure6
import Derived.Test.YtalicdpocgomkaaPure4
namespace Go.Dx

theorem cnt_more_enc {N : Nat} (hN : N ≤ 9223372036854775807) {size : Int} {i : Nat} (r : List UInt8) (hi : i < (encInt (N : Int)).length) : cntErr ((encInt (N : Int) ++ r).take i) size = 3 := by
  have h := decInt_cut (n := (N : Int)) (by omega) (by omega) hi
  rw [List.take_append_of_le_length (by omega)]
  unfold cntErr
  rw [h, if_pos (by decide)]
theorem cnt_more {N : Nat} (hN : N ≤ 9223372036854775807) {S : Nat} (h1 : 1 ≤ S) (t : List UInt8) (ht : t.length < N * S) : cntErr (encInt (N : Int) ++ t) (S : Int) = 3 := by
  have hd := decInt_enc (n := (N : Int)) (by omega) (by omega) t
  unfold cntErr
  rw [hd, if_neg (by simp), if_neg (by simp only; omega), if_pos]
  simp only
  rw [List.length_append]
  have e : (((encInt (N : Int)).length + t.length : Nat) : Int) - ((encInt (N : Int)).length : Int) = (t.length : Int) := by omega
  rw [e]
  have h3 : t.length / S < N := (Nat.div_lt_iff_lt_mul (by omega)).2 ht
  have h4 : (t.length : Int) / (S : Int) = ((t.length / S : Nat) : Int) := by simp
  rw [h4]
  omega
theorem take_enc {N : Nat} (r : List UInt8) {i : Nat} (hi : (encInt (N : Int)).length ≤ i) : (encInt (N : Int) ++ r).take i = encInt (N : Int) ++ r.take (i - (encInt (N : Int)).length) := by
  rw [List.take_append, List.take_of_length_le hi]

/-- what lacks its end asks for more -/
def Cuts {α : Type} (P : α → Prop) (f : List UInt8 → α × Int × Int) (enc : α → List UInt8) : Prop := ∀ x i, P x → i < (enc x).length → (f ((enc x).take i)).2.2 = 3
theorem cuts_int : Cuts (fun x => -9223372036854775808 ≤ x ∧ x ≤ 9223372036854775807) decInt encInt := fun x i h hi => by rw [decInt_cut h.1 h.2 hi]
theorem cuts_bytes : Cuts (fun s : ByteArray => s.size ≤ 9223372036854775807) decBytes (fun s => encBytes s.data.toList) := fun s i hs hi => by
  have hl : s.data.toList.length = s.size := Array.length_toList
  simp only [encBytes] at hi ⊢
  rw [hl] at hi ⊢
  rw [List.length_append, hl] at hi
  have hs : s.size ≤ 9223372036854775807 := hs
  have hc : cntErr ((encInt (s.size : Int) ++ s.data.toList).take i) 1 = 3 := by
    by_cases h : i < (encInt (s.size : Int)).length
    · exact cnt_more_enc hs _ h
    · rw [take_enc _ (by omega)]
      exact cnt_more (S := 1) hs (by omega) _ (by rw [List.length_take, hl]; omega)
  unfold decBytes
  rw [if_neg (by rw [hc]; decide), hc]

theorem cut_at {α : Type} (enc : α → List UInt8) : ∀ (xs : List α) (j : Nat), j < (xs.flatMap enc).length →
    ∃ (k : Nat) (hk : k < xs.length) (m : Nat), m < (enc xs[k]).length ∧ (xs.flatMap enc).take j = (xs.take k).flatMap enc ++ (enc xs[k]).take m
  | [], j, h => by simp at h
  | x :: xs, j, h => by
    rw [List.flatMap_cons, List.length_append] at h
    by_cases hj : j < (enc x).length
    · refine ⟨0, by simp, j, by simpa using hj, ?_⟩
      rw [List.flatMap_cons, List.take_append_of_le_length (by omega)]
      simp
    · obtain ⟨k, hk, m, hm, e⟩ := cut_at enc xs (j - (enc x).length) (by omega)
      refine ⟨k + 1, by simpa using hk, m, by simpa using hm, ?_⟩
      rw [List.flatMap_cons, List.take_append, List.take_of_length_le (by omega), e]
      simp
theorem decSeq_cut {α : Type} {P : α → Prop} {f : List UInt8 → α × Int × Int} {enc : α → List UInt8} (hf : Round P f enc) (hc : Cuts P f enc) (xs : List α) (hP : ∀ x ∈ xs, P x) (hN : xs.length ≤ 9223372036854775807)
    {i : Nat} (hi : i < (encInt (xs.length : Int) ++ xs.flatMap enc).length) : decSeq f ((encInt (xs.length : Int) ++ xs.flatMap enc).take i) = ([], 0, 3) := by
  rw [List.length_append] at hi
  by_cases h : i < (encInt (xs.length : Int)).length
  · rw [decSeq_cnt (by rw [cnt_more_enc hN _ h]; decide), cnt_more_enc hN _ h]
  · rw [take_enc _ (by omega)]
    generalize hj : i - (encInt (xs.length : Int)).length = j
    have hj2 : j < (xs.flatMap enc).length := by omega
    by_cases hlt : j < xs.length * 1
    · have h3 : cntErr (encInt (xs.length : Int) ++ (xs.flatMap enc).take j) 1 = 3 := cnt_more (S := 1) hN (by omega) _ (by rw [List.length_take]; omega)
      rw [decSeq_cnt (by rw [h3]; decide), h3]
    · have h0 : cntErr (encInt (xs.length : Int) ++ (xs.flatMap enc).take j) 1 = 0 := cnt_round hN (by omega) (by rw [List.length_take]; show _ * 1 ≤ _; omega)
      have hd := decInt_enc (n := (xs.length : Int)) (by omega) (by omega) ((xs.flatMap enc).take j)
      obtain ⟨k, hk, m, hm, e⟩ := cut_at enc xs j hj2
      have hs := seqTo_round hf (encInt (xs.length : Int)) ((enc xs[k]).take m) (xs.take k) (fun x hx => hP x (List.mem_of_mem_take hx)) k (by rw [List.length_take]; omega)
      rw [List.take_take, Nat.min_self] at hs
      rw [e]
      rw [e] at h0 hd
      have hdrop : (encInt (xs.length : Int) ++ ((xs.take k).flatMap enc ++ (enc xs[k]).take m)).drop ((encInt (xs.length : Int)).length + ((xs.take k).flatMap enc).length) = (enc xs[k]).take m := by
        rw [← List.append_assoc, ← List.length_append, List.drop_left]
      have h3 := hc xs[k] m (hP _ (List.getElem_mem hk)) hm
      have hst := seqTo_stop hs (by rw [hdrop, h3]; decide)
      rw [hdrop, h3] at hst
      exact decSeq_err h0 (by rw [hd]) (by rw [hd]) hk (by decide) hst
end Go.Dx
