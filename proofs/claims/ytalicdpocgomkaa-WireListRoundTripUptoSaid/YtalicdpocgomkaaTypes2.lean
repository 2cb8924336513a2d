import Derived.Test.YtalicdpocgomkaaTypes
import Derived.Test.YtalicdpocgomkaaOps2
namespace Go.Proofs.Ytalicdpocgomkaa
open Go.RowKit Go.Dx

def zeroDig : Value := .agg (Array.replicate 16 (.int .u8 0))
theorem info_dig : (Try.prog.info? 116).map (fun i => (i.zero, i.size, i.bytes)) = some (some zeroDig, 16, 16) := by kernel_rfl
section
variable {w : World} {ops : Array Oper} {rest : List Oper} {act : Act} {Q : Exit → Act → World → Prop} {ty : TypeId} {pos : String} {after : Array Edge}
theorem build_dig (d : Nat) (x : Operand) (us : List Value) (hx : act.eval x = .agg us.toArray) (hl : us.length = 16)
    (hK : wpList Try.prog ops Q rest (act.put (some d) (.slice (some ⟨w.heap.size, 0, none⟩) 1 1)) (w.alloc (.cells us.toArray 116))) :
    wpList Try.prog ops Q ({ dst := some d, op := .buildSlice 70 1 #[(0, x)], type := ty, pos := pos, after := after, guard := none } :: rest) act w :=
  build_one d 70 x 116 Try.underlying70 zeroDig 16 16 info_dig rfl (by decide) (by decide) _ us hx rfl hl hK
theorem arr_dig (d : Nat) (x : Operand) (a : Option Addr) (len c : Nat) (hx : act.eval x = .slice a len c) (hn : 16 ≤ len)
    (hK : wpList Try.prog ops Q rest (act.put (some d) (.pointer a)) w) :
    wpList Try.prog ops Q ({ dst := some d, op := .sliceToArrayPointer 116 x, type := ty, pos := pos, after := after, guard := none } :: rest) act w :=
  to_array d 116 x 16 _ Try.underlying116 a len c hx hn hK
end
section
variable {w : World} {ops : Array Oper} {rest : List Oper} {o : Oper} {act : Act} {Q : Exit → Act → World → Prop}
/-- 'append(out, d)' on []Digest -/
theorem app_d (hg : o.guard = none) (s x : Operand) (hop : o.op = Op.call { callee := Callee.builtin Builtin.append, args := #[s, x], argTypes := #[70, 70] })
    (w0 : World) (B : Nat) (a : Option Addr) (n c : Nat) (xs : List Value) (hs : act.eval s = .slice a n c) (hown : Own w B 116 16 a n c xs)
    (us : List UInt8) (hl : us.length = 16) (hx : act.eval x = .slice (some ⟨w.heap.size, 0, none⟩) 1 1)
    (hn : (n + 1) * 16 ≤ 140737488355328) (hB : B ≤ w.heap.size) (hbel : Below B w0 w)
    (hK : ∀ a' c' w', Own w' B 116 16 a' (n + 1) c' (xs ++ us.map B8) → w.grownBy w' (a.map (·.block)) → Below B w0 w' → wpList Try.prog ops Q rest (act.put o.dst (.slice a' (n + 1) c')) w') :
    wpList Try.prog ops Q (o :: rest) act (w.alloc (.cells (us.map B8).toArray 116)) :=
  append_lit hg s x 70 hop 116 zeroDig 16 16 Try.underlying70 info_dig rfl w0 B a n c xs hs hown 1 (us.map B8) hx (by simp [hl]) (one_map _ (fun _ => rfl) _) hn (by unfold maxLen; omega) hB hbel hK
end
end Go.Proofs.Ytalicdpocgomkaa
