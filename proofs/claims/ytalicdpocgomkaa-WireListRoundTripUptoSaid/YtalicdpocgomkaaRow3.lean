/- What the bound of the upto rows gives. -/
import Derived.Test.YtalicdpocgomkaaRows
import Derived.Test.YtalicdpocgomkaaLaw7
namespace Go.Proofs.Ytalicdpocgomkaa
open Go.RowKit Go.Dx

theorem bulk_each {H : Type} {ds : List (DataW H)} (hk : Rows.uptoSmall H ds = true) (j : Nat) (d : DataW H) (hd : ds[j]? = some d) : Rows.uptoBulk d ≤ 1048576 := by
  have h : Rows.uptoBulkAll ds ≤ 1048576 := of_decide_eq_true hk
  refine Nat.le_trans ?_ h
  clear h hk
  induction ds generalizing j with
  | nil => simp at hd
  | cons x l ih =>
    simp only [Rows.uptoBulkAll]
    cases j with
    | zero => simp at hd; subst hd; omega
    | succ j => have := ih j (by simpa using hd); omega
theorem strs_bulk {H : Type} {l : List ByteArray} {d : DataW H} (h : l = [] ∨ ∃ sp, d = .slice (l.map fun s => .lit (.string s.data.toList)) sp) (hb : Rows.uptoBulk d ≤ 1048576) : l.length + total l ≤ 1048576 := by
  rcases h with rfl | ⟨sp, rfl⟩
  · simp [total]
  · simp only [Rows.uptoBulk] at hb
    have e : ∀ l : List ByteArray, Rows.uptoBulkAll (l.map fun s => DataW.lit (H := H) (.string s.data.toList)) = l.length + total l := by
      intro l
      induction l with
      | nil => simp [Rows.uptoBulkAll, total]
      | cons x l ih =>
        simp only [List.map_cons, Rows.uptoBulkAll, ih, Rows.uptoBulk, List.length_cons, total, List.sum_cons]
        have : x.data.toList.length = x.size := Array.length_toList
        omega
    rw [e] at hb
    omega
end Go.Proofs.Ytalicdpocgomkaa
