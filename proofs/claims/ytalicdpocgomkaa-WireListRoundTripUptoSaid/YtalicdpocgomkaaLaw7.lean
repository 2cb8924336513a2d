import Derived.Test.YtalicdpocgomkaaLaw1
import Derived.Test.YtalicdpocgomkaaPure8
import Derived.SizedLaws
namespace Go.Proofs.Ytalicdpocgomkaa
open Go.RowKit Go.Dx

def total (xs : List ByteArray) : Nat := (xs.map (·.size)).sum
theorem ret_dec {p q : Prop} [Decidable p] [Decidable q] (h : p ↔ q) : Ending.returned (.bool (decide p)) = .returned (.bool (decide q)) := by rw [decide_eq_decide.2 h]
theorem total_snoc (xs : List ByteArray) (y : ByteArray) : total (xs ++ [y]) = total xs + y.size := by simp [total]
theorem total_take {xs : List ByteArray} {k : Nat} {y : ByteArray} (h : xs[k]? = some y) : total (xs.take (k + 1)) = total (xs.take k) + y.size := by
  rw [List.take_add_one, h]; exact total_snoc _ _
theorem total_take_le (xs : List ByteArray) (k : Nat) : total (xs.take k) ≤ total xs := by
  have h : total xs = total (xs.take k) + total (xs.drop k) := by
    conv => lhs; rw [← List.take_append_drop k xs]
    simp only [total, List.map_append, List.sum_append]
  omega
theorem total_le {xs : List ByteArray} {M : Nat} (h : ∀ x ∈ xs, x.size ≤ M) : total xs ≤ xs.length * M := by
  induction xs with
  | nil => simp [total]
  | cons x xs ih =>
    have h1 := h x List.mem_cons_self
    have h2 := ih fun y hy => h y (List.mem_cons_of_mem _ hy)
    simp only [total, List.map_cons, List.sum_cons, List.length_cons, Nat.add_mul] at *
    omega

set_option maxHeartbeats 400000 in
theorem few_any (xs : List ByteArray) (hB : xs.length + total xs ≤ 9000000000000000000) {a : Option Addr} {n c : Nat} {w : World} (hs : Sl w 1 a n c (xs.map Value.string)) :
    Calls Try.prog 56 #[.slice a n c] w fun e w' => e = .returned (.bool (decide (xs.length + total xs ≤ 2000))) ∧ w = w' := by
  obtain rfl := hs.n_eq
  have hm := Nat.le_trans hs.le hs.cap
  unfold maxLen at hm
  go_enter Try.func56, Try.ntmps56
  go_wp2
  go_loopg [3, 10] xs.length (fun g x i w' => ∃ k : Nat, k ≤ xs.length ∧ g = xs.length - k ∧ i = .int .i64 k ∧ x = .int .i64 ((xs.length + total (xs.take k) : Nat) : Int) ∧ w = w')
  case atStart => exact ⟨0, by omega, by omega, rfl, by simp [total], rfl⟩
  case round =>
    obtain ⟨k, hk, hg, rfl, rfl, rfl⟩ := hrel
    have HG := hide hg
    clear hg
    have ht := total_take_le xs k
    by_cases hlt : k < xs.length
    · obtain ⟨b, o, rfl, hb, hc⟩ := hs.ex (by simp; omega)
      obtain ⟨y, hy⟩ : ∃ y, xs[k]? = some y := ⟨xs[k], by simp [hlt]⟩
      have hy1 : w.cell? ⟨b, o + k, none⟩ = some (Value.string y) := hc k _ (by rw [List.getElem?_map, hy]; rfl)
      have ht2 := total_take_le xs (k + 1)
      have e := total_take hy
      have hy2 : y.size ≤ total xs := by omega
      have hsum : total (xs.take k) + y.size ≤ total xs := by omega
      have HE := hide e
      clear hc hy e ht2
      generalize total (xs.take k) = T at *
      go_wp2
      go_roundg (xs.length - (k + 1))
      case measure => have := HG.out; omega
      case rel => exact ⟨k + 1, by omega, rfl, by go_num, by rw [HE.out]; congr 1; omega, rfl⟩
    · obtain rfl : k = xs.length := by omega
      obtain ⟨T, HT⟩ : ∃ T, Hid (total xs = T) := ⟨_, rfl⟩
      rw [List.take_length, HT.out]
      rw [HT.out] at hB
      clear ht
      go_wp2
      go_ret
      exact ⟨by rw [HT.out]; exact ret_dec (by omega), rfl⟩
end Go.Proofs.Ytalicdpocgomkaa
