/- A region that draws its order: a head of operations that look at no memory, and a tail whose order is fixed: walked once. No program in sight. -/
import Derived.Test.YtalicdpocgomkaaDoorQTail
set_option linter.unusedVariables false
namespace Go.Dx
open Go.RowKit
section
variable {P : Program} {ops : Array Oper} {md : Region.Mode}

def wpPure (P : Program) (ops : Array Oper) (K : Act → Prop) : List Oper → Act → Prop
  | [], a => K a
  | o :: rest, a => ∃ v, Yields P ops o v a ∧ wpPure P ops K rest (a.put o.dst v)
theorem pure_cons {K : Act → Prop} {o : Oper} {rest : List Oper} {a : Act} {v : Value} (hw : Region.wanted o (yielded ops a.tmps) = true) (h : ∀ w, (execOp a.eval o).run P w = .ok (.value v) w) (hK : wpPure P ops K rest (a.put o.dst v)) : wpPure P ops K (o :: rest) a :=
  ⟨v, .inl ⟨hw, h⟩, hK⟩
theorem pure_skip {K : Act → Prop} {o : Oper} {rest : List Oper} {a : Act} (hw : Region.wanted o (yielded ops a.tmps) = false) (hK : wpPure P ops K rest (a.put o.dst undef)) : wpPure P ops K (o :: rest) a :=
  ⟨undef, .inr ⟨hw, rfl⟩, hK⟩

theorem wpAny_pure {Q : Exit → Act → World → Prop} {w : World} (hQ : ∀ c a d v w, Q (.panic c) (Act.put a (some d) v) w → Q (.panic c) a w) (hs : Region.noSelect ops = true) (tl : List Oper) (n : Nat) (htl : ∀ j, tl[j]? = ops[n + j]?) :
    ∀ (l : List Oper) (k : Nat) (listed : Array Bool) (a : Act), (∀ j, j < l.length → l[j]? = ops[k + j]?) → k + l.length = n → Region.lexHead md ops tl.length l.length k listed = true →
    wpPure P ops (fun a' => wpList P ops Q tl a' w) l a → wpAny P md ops Q (l.length + tl.length) listed a w
  | [], k, listed, a, _, hk, hB, h => by
    have : k = n := by simpa using hk
    subst this
    rw [List.length_nil, Nat.zero_add]
    exact wpAny_of_seq (md := md) (Q' := Q) tl k listed a w htl (by simpa [Region.lexHead] using hB) h
  | o :: l, k, listed, a, hl, hk, hB, h => by
    have h0 : ops[k]? = some o := by simpa using (hl 0 (by simp)).symm
    simp only [List.length_cons, Region.lexHead, Bool.and_eq_true] at hB
    obtain ⟨⟨hr, hf⟩, hB'⟩ := hB
    obtain ⟨v, hy, hK⟩ := h
    rw [List.length_cons, show l.length + 1 + tl.length = (l.length + tl.length) + 1 by omega]
    exact wpAny_take h0 hs hf hr (fun c a w hq => by
      cases hdst : o.dst with
      | none => rw [hdst] at hq; exact hq
      | some d => rw [hdst] at hq; exact hQ c a d v w hq) hy
      (wpAny_pure hQ hs tl n htl l (k + 1) _ _ (fun j hj => by have := hl (j + 1) (by simp; omega); simpa [Nat.add_assoc, Nat.add_comm 1 j] using this) (by simp only [List.length_cons] at hk; omega) hB' hK)

def pureTailB (l : List Oper) (n : Nat) : Bool := Region.noSelect l.toArray && decide (n ≤ l.length) && Region.lexHead .any l.toArray (l.length - n) n 0 (Array.replicate l.length false)
theorem wp_region_pure_tail {id : Nat} {Q : Exit → Act → World → Prop} {a : Act} {w : World} {l : List Oper} (n : Nat) (hm : P.follows .mixedOrders = true) (hB : pureTailB l n = true)
    (hQ : ∀ c a d v w, Q (.panic c) (Act.put a (some d) v) w → Q (.panic c) a w)
    (h : wpPure P l.toArray (fun a' => wpList P l.toArray Q (l.drop n) a' w.drew) (l.take n) a) : (Code.region id l.toArray true).wp P Q a w := by
  simp only [pureTailB, Bool.and_eq_true, decide_eq_true_eq] at hB
  obtain ⟨⟨hsel, hn⟩, hlex⟩ := hB
  have htl : (l.take n).length = n := by simp; omega
  have hdl : (l.drop n).length = l.length - n := by simp
  refine wp_region_any hm ?_
  have := wpAny_pure (md := .any) (w := w.drew) hQ hsel (l.drop n) n (fun j => by simp [List.getElem?_drop]) (l.take n) 0 (Array.replicate l.length false) a (fun j hj => by
    have hj' : j < n := by rw [htl] at hj; exact hj
    simp [hj']) (by rw [htl, Nat.zero_add]) (by rw [htl, hdl]; exact hlex) h
  rw [htl, hdl, show n + (l.length - n) = l.toArray.size by simp; omega] at this
  have e : l.toArray.size = l.length := by simp
  rw [e] at this ⊢
  exact this
end
end Go.Dx
