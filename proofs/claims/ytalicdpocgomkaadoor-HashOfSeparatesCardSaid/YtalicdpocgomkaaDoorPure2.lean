/- The plain mathematics of layer 1, lists. No Go. -/
import Derived.Test.YtalicdpocgomkaaDoorPure1
namespace Go.Dx

def encBytes (l : List UInt8) : List UInt8 := encInt l.length ++ l
def encInts (l : List Int) : List UInt8 := encInt l.length ++ l.flatMap encInt
def encStrs (x : List ByteArray) : List UInt8 := encInt x.length ++ x.flatMap fun s => encBytes s.data.toList
def encDigs (x : List (List UInt8)) : List UInt8 := encInt x.length ++ x.flatMap id

/-- what decoding a string returns -/
def decBytes (l : List UInt8) : ByteArray × Int × Int :=
  if cntErr l 1 = 0 then (⟨((l.drop (decInt l).2.1.toNat).take (decInt l).1.toNat).toArray⟩, (decInt l).2.1 + (decInt l).1, 0) else (⟨#[]⟩, 0, cntErr l 1)

theorem cnt_facts {l : List UInt8} {size : Int} (h1 : 1 ≤ size) (h : cntErr l size = 0) :
    ∃ A N : Nat, (decInt l).2.1 = (A : Int) ∧ (decInt l).1 = (N : Int) ∧ (decInt l).2.2 = 0 ∧ 1 ≤ A ∧ A + N * size.toNat ≤ l.length ∧ N ≤ l.length := by
  unfold cntErr at h
  by_cases hE : (decInt l).2.2 = 0
  · obtain ⟨u1, u2, u3, u4⟩ := decInt_used hE
    rw [if_neg (by simp [hE])] at h
    by_cases hN : (decInt l).1 < 0
    · rw [if_pos hN] at h; omega
    · rw [if_neg hN] at h
      by_cases hq : ((l.length : Int) - (decInt l).2.1) / size < (decInt l).1
      · rw [if_pos hq] at h; omega
      · obtain ⟨A, hA⟩ := Int.eq_ofNat_of_zero_le (a := (decInt l).2.1) (by omega)
        obtain ⟨N, hN'⟩ := Int.eq_ofNat_of_zero_le (a := (decInt l).1) (by omega)
        obtain ⟨S, hS⟩ := Int.eq_ofNat_of_zero_le (a := size) (by omega)
        rw [hA, hN'] at hq
        have hq2 : (N : Int) * size ≤ (l.length : Int) - A := (Int.le_ediv_iff_mul_le (by omega)).1 (by omega)
        subst hS
        have hq3 : N * S ≤ l.length - A := by
          have : ((N * S : Nat) : Int) ≤ (l.length : Int) - A := by simpa using hq2
          omega
        have hS1 : 1 ≤ S := by omega
        have hNS : N * 1 ≤ N * S := Nat.mul_le_mul_left _ hS1
        refine ⟨A, N, hA, hN', hE, by omega, ?_, by omega⟩
        simp only [Int.toNat_natCast]
        omega
  · rw [if_pos hE] at h; exact absurd h hE
end Go.Dx
