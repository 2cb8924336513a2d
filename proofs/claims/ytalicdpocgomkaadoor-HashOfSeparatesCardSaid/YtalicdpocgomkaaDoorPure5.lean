/- What is decoded was encoded: strings and lists. No Go. -/
import Derived.Test.YtalicdpocgomkaaDoorPure4
namespace Go.Dx

theorem decInt_range (b : List UInt8) : -9223372036854775808 ≤ (decInt b).1 ∧ (decInt b).1 ≤ 9223372036854775807 := by
  by_cases h : (decInt b).2.2 = 0
  · obtain ⟨_, _, h1, h2⟩ := decInt_used h; exact ⟨h1, h2⟩
  · rw [decInt_err h]; simp
/-- a decoder and its encoder -/
def Canon {α : Type} (f : List UInt8 → α × Int × Int) (enc : α → List UInt8) : Prop :=
  ∀ b, (f b).2.2 = 0 → 0 ≤ (f b).2.1 ∧ (f b).2.1 ≤ b.length ∧ enc (f b).1 = b.take (f b).2.1.toNat
theorem canon_int : Canon decInt encInt := fun b h => by
  obtain ⟨h1, h2, _, _⟩ := decInt_used h
  exact ⟨by omega, h2, decInt_canon h⟩
theorem canon_bytes : Canon decBytes fun s => encBytes s.data.toList := fun b h => by
  by_cases hE : cntErr b 1 = 0
  · obtain ⟨A, N, e1, e2, e3, hA, hAN, hN⟩ := cnt_facts (by omega) hE
    have hc := decInt_canon e3
    rw [e1, e2] at hc
    simp at hAN hc
    unfold decBytes
    rw [if_pos hE, e1, e2]
    simp only [Int.toNat_natCast]
    refine ⟨by omega, by omega, ?_⟩
    rw [show ((A : Int) + (N : Int)).toNat = A + N by omega, List.take_add]
    unfold encBytes
    rw [List.length_take, List.length_drop, show min N (b.length - A) = N by omega, hc]
  · unfold decBytes at h
    rw [if_neg hE] at h
    exact absurd h hE
theorem seqTo_canon {α : Type} {f : List UInt8 → α × Int × Int} {enc : α → List UInt8} (hf : Canon f enc) {l : List UInt8} {A : Nat} (hA : A ≤ l.length) :
    ∀ {k : Nat} {xs : List α} {B : Nat}, seqTo f l A k = (xs, B, 0) → A ≤ B ∧ B ≤ l.length ∧ xs.flatMap enc = (l.drop A).take (B - A)
  | 0, xs, B, h => by
    simp [seqTo] at h
    obtain ⟨rfl, rfl⟩ := h
    exact ⟨Nat.le_refl _, hA, by simp⟩
  | k + 1, xs, B, h => by
    by_cases h0 : (seqTo f l A k).2.2 = 0
    · obtain ⟨h1, h2, h3⟩ := seqTo_canon hf hA (k := k) (xs := (seqTo f l A k).1) (B := (seqTo f l A k).2.1) (by rw [← h0])
      by_cases he : (f (l.drop (seqTo f l A k).2.1)).2.2 = 0
      · have hs := seqTo_step (k := k) (xs := (seqTo f l A k).1) (B := (seqTo f l A k).2.1) (by rw [← h0]) he
        rw [hs] at h
        injection h with g1 g2
        injection g2 with g2 g3
        obtain ⟨c1, c2, c3⟩ := hf _ he
        generalize seqTo f l A k = r at *
        obtain ⟨U, hU⟩ := Int.eq_ofNat_of_zero_le c1
        rw [hU] at c2 c3 g2
        rw [List.length_drop] at c2
        simp only [Int.toNat_natCast] at c3 g2
        subst g1 g2
        refine ⟨by omega, by omega, ?_⟩
        rw [List.flatMap_append, h3, List.flatMap_cons, List.flatMap_nil, List.append_nil, c3, show r.2.1 + U - A = (r.2.1 - A) + U by omega, List.take_add, List.drop_drop,
          show A + (r.2.1 - A) = r.2.1 by omega]
      · have hs := seqTo_stop (k := k) (xs := (seqTo f l A k).1) (B := (seqTo f l A k).2.1) (by rw [← h0]) he
        rw [hs] at h
        injection h with g1 g2
        injection g2 with g2 g3
        exact absurd g3 he
    · have := seqTo_err h0 1
      rw [this] at h
      rw [h] at h0
      exact absurd rfl h0
theorem decSeq_bad {α : Type} {f : List UInt8 → α × Int × Int} {l : List UInt8} (h : (decSeq f l).2.2 ≠ 0) : decSeq f l = ([], 0, (decSeq f l).2.2) := by
  unfold decSeq at *
  by_cases hE : cntErr l 1 = 0
  · rw [if_neg (by simp [hE])] at h ⊢
    by_cases hr : (seqTo f l (decInt l).2.1.toNat (decInt l).1.toNat).2.2 = 0
    · rw [if_neg (by simp [hr])] at h; exact absurd rfl h
    · simp only [if_pos hr]
  · simp only [if_pos hE]
theorem decSeq_canon {α : Type} {f : List UInt8 → α × Int × Int} {enc : α → List UInt8} (hf : Canon f enc) {l : List UInt8} (h : (decSeq f l).2.2 = 0) :
    0 ≤ (decSeq f l).2.1 ∧ (decSeq f l).2.1 ≤ l.length ∧ encInt ((decSeq f l).1.length : Nat) ++ (decSeq f l).1.flatMap enc = l.take (decSeq f l).2.1.toNat ∧ (decSeq f l).1.length ≤ l.length := by
  by_cases hE : cntErr l 1 = 0
  · obtain ⟨A, N, e1, e2, e3, hA, hAN, hN⟩ := cnt_facts (by omega) hE
    have hc := decInt_canon e3
    rw [e1, e2] at hc
    simp at hAN hc
    by_cases h0 : (seqTo f l A N).2.2 = 0
    · have hs : seqTo f l A N = ((seqTo f l A N).1, (seqTo f l A N).2.1, 0) := by rw [← h0]
      have hlen := seqTo_len hs
      obtain ⟨h1, h2, h3⟩ := seqTo_canon hf (by omega) hs
      rw [decSeq_ok hE e1 e2 hs]
      refine ⟨by simp, by simpa using h2, ?_, by simp only; omega⟩
      simp only [Int.toNat_natCast]
      rw [hlen, h3, hc, show (seqTo f l A N).2.1 = A + ((seqTo f l A N).2.1 - A) by omega, List.take_add, Nat.add_sub_cancel_left]
    · exfalso
      apply h0
      unfold decSeq at h
      rw [if_neg (by simp [hE]), e1, e2] at h
      simp only [Int.toNat_natCast] at h
      rw [if_pos h0] at h
      exact h
  · rw [decSeq_cnt hE] at h
    exact absurd h hE
theorem seqTo_all {α : Type} {f : List UInt8 → α × Int × Int} {P : α → Prop} (hP : ∀ b, P (f b).1) {l : List UInt8} {A : Nat} : ∀ k, ∀ x ∈ (seqTo f l A k).1, P x
  | 0 => by intro x hx; simp [seqTo] at hx
  | k + 1 => by
    intro x hx
    have ih := seqTo_all hP (l := l) (A := A) k
    unfold seqTo at hx
    simp only at hx
    split at hx
    · exact ih x hx
    · split at hx
      · simp at hx
      · rw [List.mem_append] at hx
        rcases hx with hx | hx
        · exact ih x hx
        · simp at hx; subst hx; exact hP _
theorem decSeq_all {α : Type} {f : List UInt8 → α × Int × Int} {P : α → Prop} (hP : ∀ b, P (f b).1) (l : List UInt8) : ∀ x ∈ (decSeq f l).1, P x := by
  intro x hx
  unfold decSeq at hx
  split at hx
  · simp at hx
  · simp only at hx
    split at hx
    · simp at hx
    · exact seqTo_all hP _ x hx
theorem encBytes_len (l : List UInt8) : l.length ≤ (encBytes l).length := by unfold encBytes; rw [List.length_append]; omega
theorem mem_flatMap_len {α : Type} (enc : α → List UInt8) : ∀ (xs : List α) (x : α), x ∈ xs → (enc x).length ≤ (xs.flatMap enc).length
  | y :: ys, x, h => by
    rw [List.flatMap_cons, List.length_append]
    rcases List.mem_cons.1 h with rfl | h
    · omega
    · have := mem_flatMap_len enc ys x h; omega
/-- the lists that are decoded are short -/
theorem decInts_short (l : List UInt8) : (encInts (decSeq decInt l).1).length ≤ l.length + 9 ∧ (decSeq decInt l).1.length ≤ l.length := by
  by_cases h : (decSeq decInt l).2.2 = 0
  · obtain ⟨h1, h2, h3, h4⟩ := decSeq_canon canon_int h
    refine ⟨?_, h4⟩
    unfold encInts
    rw [h3, List.length_take]
    omega
  · rw [decSeq_bad h]
    refine ⟨?_, by simp⟩
    show (encInt 0 ++ []).length ≤ _
    have := encInt_le 0
    simp
    omega
theorem decStrs_short (l : List UInt8) : (encStrs (decSeq decBytes l).1).length ≤ l.length + 9 ∧ (decSeq decBytes l).1.length ≤ l.length ∧ ∀ s ∈ (decSeq decBytes l).1, s.size ≤ l.length := by
  by_cases h : (decSeq decBytes l).2.2 = 0
  · obtain ⟨h1, h2, h3, h4⟩ := decSeq_canon canon_bytes h
    have h5 := congrArg List.length h3
    rw [List.length_append, List.length_take] at h5
    refine ⟨?_, h4, fun s hs => ?_⟩
    · unfold encStrs
      rw [h3, List.length_take]
      omega
    · have h6 := mem_flatMap_len (fun s : ByteArray => encBytes s.data.toList) _ s hs
      have h7 := encBytes_len s.data.toList
      have h8 : s.data.toList.length = s.size := Array.length_toList
      omega
  · rw [decSeq_bad h]
    refine ⟨?_, by simp, by simp⟩
    show (encInt 0 ++ []).length ≤ _
    have := encInt_le 0
    simp
    omega
theorem decBytes_short (l : List UInt8) : (decBytes l).1.size ≤ l.length := by
  by_cases h : (decBytes l).2.2 = 0
  · obtain ⟨h1, h2, h3⟩ := canon_bytes l h
    have h5 := congrArg List.length h3
    have h7 := encBytes_len (decBytes l).1.data.toList
    have h8 : (decBytes l).1.data.toList.length = (decBytes l).1.size := Array.length_toList
    rw [List.length_take] at h5
    simp only at h5
    omega
  · unfold decBytes at *
    split
    · rename_i hE; rw [if_pos hE] at h; exact absurd rfl h
    · exact Nat.zero_le _
end Go.Dx
