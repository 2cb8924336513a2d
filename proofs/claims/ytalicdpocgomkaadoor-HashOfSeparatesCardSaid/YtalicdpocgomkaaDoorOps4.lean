/- Regions that draw their order and whose callees make memory of their own: walked once, at the class 'whatever came on top'. No program in sight. -/
import Derived.Test.YtalicdpocgomkaaDoorOps3
set_option linter.unusedVariables false
namespace Go.Dx
open Go.RowKit

/-- the worlds on top of w -/
structure OnTop (w : World) where
  v : World
  h : Below w.heap.size w v
theorem wp_region_below {P : Program} {id : Nat} {Q : Exit → Act → World → Prop} {a : Act} {w : World} {l : List Oper} (hm : P.follows .mixedOrders = true) (hB : Region.lexB .any l.toArray = true)
    (h : wpQuiet P l.toArray (fun w' => ∃ p : OnTop w, w' = p.v) (fun a' => ∀ w', (∃ p : OnTop w, w' = p.v) → Q .normal a' w') l a) : (Code.region id l.toArray true).wp P Q a w :=
  wp_region_quiet (C := fun w' => ∃ p : OnTop w, w' = p.v) hm hB ⟨⟨w.drewN 1, Still.below 1⟩, rfl⟩ (by simpa using h)
theorem onTop_call {P : Program} {f : FuncId} {args : Array Value} {w : World} {p : OnTop w} {v : Value}
    (h : Calls P f args p.v fun e w' => e = .returned v ∧ Below p.v.heap.size p.v w') : Calls P f args p.v fun e w'' => e = .returned v ∧ ∃ q : OnTop w, w'' = q.v :=
  h.mono fun _ w'' ⟨he, hb⟩ => ⟨he, ⟨w'', p.h.trans (hb.mono p.h.size)⟩, rfl⟩
section
variable {P : Program} {C : World → Prop} {ops : Array Oper} {rest : List Oper} {act : Act} {Q : Act → Prop}
/-- an operation of a quiet walk whose value is known, at whatever class of worlds, guarded or not -/
theorem quiet_at {o : Oper} (v : Value) (hw : Region.wanted o (yielded ops act.tmps) = true) (h : ∀ w, (execOp act.eval o).run P w = .ok (.value v) w)
    (hK : wpQuiet P ops C Q rest (act.put o.dst v)) : wpQuiet P ops C Q (o :: rest) act := by
  refine wpQuiet_step fun K hK' => ?_
  rw [if_pos hw]
  refine ⟨v, ?_, hK' _ hK⟩
  intro w' _
  unfold Oper.quietAt
  rw [h w']
  exact ⟨rfl, rfl⟩
end
end Go.Dx
