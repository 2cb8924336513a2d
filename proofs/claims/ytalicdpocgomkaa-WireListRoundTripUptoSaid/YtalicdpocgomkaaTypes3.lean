import Derived.Test.YtalicdpocgomkaaTypes2
import Derived.Test.YtalicdpocgomkaaOps3
namespace Go.Proofs.Ytalicdpocgomkaa
open Go.RowKit Go.Dx
section
variable {w : World} {ops : Array Oper} {rest : List Oper} {o : Oper} {act : Act} {Q : Exit → Act → World → Prop} {ty : TypeId} {pos : String} {after : Array Edge}
theorem cutfull_b (d : Nat) (x hi mx : Operand) (a : Option Addr) (n c : Nat) (cs : List Value) (hx : act.eval x = .slice a n c) (hs : Sl w 1 a n c cs) (ku km : IntKind) (uv mv : Int) (hu : act.eval hi = .int ku uv) (hm : act.eval mx = .int km mv)
    (huv : uv = (n : Int)) (hmv : mv = (n : Int))
    (hK : Sl w 1 a n n cs → wpList Try.prog ops Q rest (act.put (some d) (.slice a n n)) w) :
    wpList Try.prog ops Q ({ dst := some d, op := .slice 23 x none (some hi) (some mx), type := ty, pos := pos, after := after, guard := none } :: rest) act w :=
  cut_full d 23 x hi mx 5 Try.underlying23 1 size_u8 a n c hx hs.le ku km uv mv hu hm huv hmv (fun h => by have := hs.nil h; have := hs.le; omega)
    (hK ⟨hs.len, Nat.le_refl _, Nat.le_trans hs.le hs.cap, fun h => by have := hs.nil h; have := hs.le; omega, hs.cell⟩)
theorem appfull_b (hg : o.guard = none) (s x : Operand) (hop : o.op = Op.call { callee := Callee.builtin Builtin.append, args := #[s, x], argTypes := #[23, 23] })
    (a : Option Addr) (n : Nat) (xs : List UInt8) (hs : act.eval s = .slice a n n) (hxs : Sl w 1 a n n (xs.map B8))
    (a2 : Option Addr) (m c2 : Nat) (ys : List UInt8) (hx : act.eval x = .slice a2 m c2) (hy : Sl w 1 a2 m c2 (ys.map B8))
    (hn : n + m ≤ 140737488355328)
    (hK : ∀ a' c' w', Sl w' 1 a' (n + m) c' ((xs ++ ys).map B8) → Below w.heap.size w w' → wpList Try.prog ops Q rest (act.put o.dst (.slice a' (n + m) c')) w') :
    wpList Try.prog ops Q (o :: rest) act w :=
  append_full hg s x 23 hop 5 (.int .u8 0) 1 1 Try.underlying23 info_u8 rfl a n _ hs hxs a2 m c2 _ hx hy (one_map _ (fun _ => rfl) _) (by omega) (by unfold maxLen; omega)
    (fun a' c' w' h1 h2 => hK a' c' w' (by rw [List.map_append]; exact h1) h2)
end
end Go.Proofs.Ytalicdpocgomkaa
