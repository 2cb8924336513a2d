/- Sequences of decodings. No Go. -/
import Derived.Test.YtalicdpocgomkaaDoorPure2
namespace Go.Dx

/-- k decodings, one behind the other, from A on: the values, the place behind them, the error of the first that fails -/
def seqTo {α : Type} (f : List UInt8 → α × Int × Int) (l : List UInt8) (A : Nat) : Nat → List α × Nat × Int
  | 0 => ([], A, 0)
  | k + 1 =>
    let r := seqTo f l A k
    if r.2.2 ≠ 0 then r
    else
      let x := f (l.drop r.2.1)
      if x.2.2 ≠ 0 then ([], 0, x.2.2) else (r.1 ++ [x.1], r.2.1 + x.2.1.toNat, 0)
def decSeq {α : Type} (f : List UInt8 → α × Int × Int) (l : List UInt8) : List α × Int × Int :=
  if cntErr l 1 ≠ 0 then ([], 0, cntErr l 1)
  else
    let r := seqTo f l (decInt l).2.1.toNat (decInt l).1.toNat
    if r.2.2 ≠ 0 then ([], 0, r.2.2) else (r.1, (r.2.1 : Int), 0)

theorem seqTo_err {α : Type} {f : List UInt8 → α × Int × Int} {l : List UInt8} {A k : Nat} (h : (seqTo f l A k).2.2 ≠ 0) : ∀ m, seqTo f l A (k + m) = seqTo f l A k
  | 0 => rfl
  | m + 1 => by
    have ih := seqTo_err h m
    show (let r := seqTo f l A (k + m); if r.2.2 ≠ 0 then r else _) = _
    simp only
    rw [ih, if_pos h]
theorem seqTo_stop {α : Type} {f : List UInt8 → α × Int × Int} {l : List UInt8} {A k : Nat} {xs : List α} {B : Nat} (h : seqTo f l A k = (xs, B, 0)) (he : (f (l.drop B)).2.2 ≠ 0) :
    seqTo f l A (k + 1) = ([], 0, (f (l.drop B)).2.2) := by
  show (let r := seqTo f l A k; if r.2.2 ≠ 0 then r else _) = _
  simp only [h]
  rw [if_neg (by simp), if_pos he]
theorem seqTo_step {α : Type} {f : List UInt8 → α × Int × Int} {l : List UInt8} {A k : Nat} {xs : List α} {B : Nat} (h : seqTo f l A k = (xs, B, 0)) (he : (f (l.drop B)).2.2 = 0) :
    seqTo f l A (k + 1) = (xs ++ [(f (l.drop B)).1], B + (f (l.drop B)).2.1.toNat, 0) := by
  show (let r := seqTo f l A k; if r.2.2 ≠ 0 then r else _) = _
  simp only [h]
  rw [if_neg (by simp), if_neg (by simp [he])]
theorem decSeq_cnt {α : Type} {f : List UInt8 → α × Int × Int} {l : List UInt8} (h : cntErr l 1 ≠ 0) : decSeq f l = ([], 0, cntErr l 1) := by unfold decSeq; rw [if_pos h]
theorem decSeq_err {α : Type} {f : List UInt8 → α × Int × Int} {l : List UInt8} {A N k : Nat} (h : cntErr l 1 = 0) (hA : (decInt l).2.1 = (A : Int)) (hN : (decInt l).1 = (N : Int)) {E : Int} (hk : k < N) (hE : E ≠ 0)
    (hs : seqTo f l A (k + 1) = ([], 0, E)) : decSeq f l = ([], 0, E) := by
  unfold decSeq
  rw [if_neg (by simp [h]), hA, hN]
  obtain ⟨m, rfl⟩ : ∃ m, N = (k + 1) + m := ⟨N - (k + 1), by omega⟩
  have := seqTo_err (f := f) (l := l) (A := A) (k := k + 1) (by rw [hs]; exact hE) m
  simp only [Int.toNat_natCast]
  rw [this, hs]
  simp [hE]
theorem decSeq_ok {α : Type} {f : List UInt8 → α × Int × Int} {l : List UInt8} {A N : Nat} (h : cntErr l 1 = 0) (hA : (decInt l).2.1 = (A : Int)) (hN : (decInt l).1 = (N : Int)) {xs : List α} {B : Nat}
    (hs : seqTo f l A N = (xs, B, 0)) : decSeq f l = (xs, (B : Int), 0) := by
  unfold decSeq
  rw [if_neg (by simp [h]), hA, hN]
  simp [hs]
theorem seqTo_len {α : Type} {f : List UInt8 → α × Int × Int} {l : List UInt8} {A : Nat} : ∀ {k : Nat} {xs : List α} {B : Nat}, seqTo f l A k = (xs, B, 0) → xs.length = k
  | 0, xs, B, h => by simp [seqTo] at h; obtain ⟨rfl, _⟩ := h; rfl
  | k + 1, xs, B, h => by
    by_cases h0 : (seqTo f l A k).2.2 = 0
    · by_cases he : (f (l.drop (seqTo f l A k).2.1)).2.2 = 0
      · have := seqTo_step (k := k) (xs := (seqTo f l A k).1) (B := (seqTo f l A k).2.1) (by rw [← h0]) he
        rw [this] at h
        injection h with h1 h2
        rw [← h1, List.length_append, seqTo_len (k := k) (xs := (seqTo f l A k).1) (B := (seqTo f l A k).2.1) (by rw [← h0])]
        rfl
      · have := seqTo_stop (k := k) (xs := (seqTo f l A k).1) (B := (seqTo f l A k).2.1) (by rw [← h0]) he
        rw [this] at h
        injection h with h1 h2
        injection h2 with h2 h3
        exact absurd h3 he
    · have := seqTo_err h0 1
      rw [this] at h
      rw [h] at h0
      exact absurd rfl h0
theorem decBytes_used {l : List UInt8} (h : (decBytes l).2.2 = 0) : 1 ≤ (decBytes l).2.1 ∧ (decBytes l).2.1 ≤ l.length := by
  by_cases hE : cntErr l 1 = 0
  · obtain ⟨A, N, e1, e2, e3, hA, hAN, hN⟩ := cnt_facts (by omega) hE
    unfold decBytes
    rw [if_pos hE, e1, e2]
    simp at hAN ⊢
    omega
  · unfold decBytes at h
    rw [if_neg hE] at h
    exact absurd h hE
end Go.Dx
