/- An argument that is an array of two integers. No program. -/
import Derived.Test.YtalicdpocgomkaaDoorRow2
set_option linter.unusedVariables false
namespace Go.Dx
open Go.RowKit Go.WideShapes Go.ChangeShapes
theorem okWide_arr {P : Program} {W : World} {r : Reach} {base : Nat} {t e n : TypeId} {v : Value} (ht : P.underlying t = some (.array n e)) (h : Value.okWide P W r base t v) : ∃ cs, v = .agg cs := by
  simp only [Value.okWide, ht] at h
  obtain ⟨cs, rfl, _⟩ := h
  exact ⟨cs, rfl⟩
theorem open_arr2 {P : Program} {H : Type} {enc : TypeId × Value → H} {w : World} {t e : TypeId} {k : IntKind} {base : Nat} {spare : Nat → Bool} {held : Bool} {cs : Array Value} {d : DataW H} {p : List MemPlace} (ht : P.underlying t = some (.array 2 e)) (he : P.underlying e = some (.int k)) (hc : P.cellsOf e = 1) (hct : P.cellsOf t = 2)
    (h : DataW.Trod enc P w base spare held t (.agg cs) d p) : ∃ x y : Int, cs = #[.int k x, .int k y] ∧ (Lit.int k x).wf = true ∧ (Lit.int k y).wf = true := by
  obtain ⟨f, hf⟩ := h
  have h1 := trod_arr ht he hc hct hf
  obtain ⟨x, hx, wx⟩ := h1.2 0 (by decide)
  obtain ⟨y, hy, wy⟩ := h1.2 1 (by decide)
  refine ⟨x, y, ?_, wx, wy⟩
  have hl := h1.1
  obtain ⟨l⟩ := cs
  simp only [Value.cells] at hl hx hy
  match l, hl, hx, hy with
  | [a, b], _, hx, hy =>
    simp at hx hy
    rw [hx, hy]
end Go.Dx
