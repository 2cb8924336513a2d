/- The seat's numbers of types, and the laws on append at each slice type. -/
import Derived.Test.YtalicdpocgomkaaDoorChecked
import Derived.Test.YtalicdpocgomkaaDoorOps
namespace Go.Proofs.YtalicdpocgomkaaDoor
open Go.RowKit Go.Dx

theorem info_int : (Tryd.prog.info? 3).map (fun i => (i.zero, i.size, i.bytes)) = some (some (.int .i64 0), 1, 8) := by kernel_rfl
theorem info_u8 : (Tryd.prog.info? 5).map (fun i => (i.zero, i.size, i.bytes)) = some (some (.int .u8 0), 1, 1) := by kernel_rfl


theorem info_str : (Tryd.prog.info? 9).map (fun i => (i.zero, i.size, i.bytes)) = some (some (.string ⟨#[]⟩), 1, 16) := by kernel_rfl
theorem size_int : (Tryd.prog.info? 3).map (·.size) = some 1 := by kernel_rfl
theorem size_u8 : (Tryd.prog.info? 5).map (·.size) = some 1 := by kernel_rfl
theorem size_dig : (Tryd.prog.info? 44).map (·.size) = some 16 := by kernel_rfl
theorem size_str : (Tryd.prog.info? 9).map (·.size) = some 1 := by kernel_rfl

section
variable {w : World} {ops : Array Oper} {rest : List Oper} {o : Oper} {act : Act} {Q : Exit → Act → World → Prop}

/-- 'append(out, d)' on []byte -/
theorem app_b (hg : o.guard = none) (s x : Operand) (hop : o.op = Op.call { callee := Callee.builtin Builtin.append, args := #[s, x], argTypes := #[22, 22] })
    (w0 : World) (B : Nat) (a : Option Addr) (n c : Nat) (xs : List Value) (hs : act.eval s = .slice a n c) (hown : Own w B 5 1 a n c xs)
    (u : Int) (hx : act.eval x = .slice (some ⟨w.heap.size, 0, none⟩) 1 1)
    (hn : n + 1 ≤ 140737488355328) (hB : B ≤ w.heap.size) (hbel : Below B w0 w)
    (hK : ∀ a' c' w', Own w' B 5 1 a' (n + 1) c' (xs ++ [.int .u8 u]) → w.grownBy w' (a.map (·.block)) → Below B w0 w' → wpList Tryd.prog ops Q rest (act.put o.dst (.slice a' (n + 1) c')) w') :
    wpList Tryd.prog ops Q (o :: rest) act (w.alloc (.cells #[.int .u8 u] 5)) :=
  append_lit hg s x 22 hop 5 (.int .u8 0) 1 1 Tryd.underlying22 info_u8 rfl w0 B a n c xs hs hown 1 [.int .u8 u] hx rfl (by simp [Value.oneCell']) (by omega) (by unfold maxLen; omega) hB hbel hK


/-- 'append(out, s)' on []string -/
theorem app_s (hg : o.guard = none) (s x : Operand) (hop : o.op = Op.call { callee := Callee.builtin Builtin.append, args := #[s, x], argTypes := #[27, 27] })
    (w0 : World) (B : Nat) (a : Option Addr) (n c : Nat) (xs : List Value) (hs : act.eval s = .slice a n c) (hown : Own w B 9 1 a n c xs)
    (u : ByteArray) (hx : act.eval x = .slice (some ⟨w.heap.size, 0, none⟩) 1 1)
    (hn : (n + 1) * 16 ≤ 140737488355328) (hB : B ≤ w.heap.size) (hbel : Below B w0 w)
    (hK : ∀ a' c' w', Own w' B 9 1 a' (n + 1) c' (xs ++ [.string u]) → w.grownBy w' (a.map (·.block)) → Below B w0 w' → wpList Tryd.prog ops Q rest (act.put o.dst (.slice a' (n + 1) c')) w') :
    wpList Tryd.prog ops Q (o :: rest) act (w.alloc (.cells #[.string u] 9)) :=
  append_lit hg s x 27 hop 9 (.string ⟨#[]⟩) 1 16 Tryd.underlying27 info_str rfl w0 B a n c xs hs hown 1 [.string u] hx rfl (by simp [Value.oneCell']) hn (by unfold maxLen; omega) hB hbel hK

/-- 'append(out, ys...)' on []byte -/
theorem app_bs (hg : o.guard = none) (s x : Operand) (hop : o.op = Op.call { callee := Callee.builtin Builtin.append, args := #[s, x], argTypes := #[22, 22] })
    (w0 : World) (B : Nat) (a : Option Addr) (n c : Nat) (xs : List Value) (hs : act.eval s = .slice a n c) (hown : Own w B 5 1 a n c xs)
    (a2 : Option Addr) (m c2 : Nat) (ys : List UInt8) (hx : act.eval x = .slice a2 m c2) (hy : Sl w 1 a2 m c2 (ys.map B8))
    (hn : n + m ≤ 140737488355328) (hB : B ≤ w.heap.size) (hbel : Below B w0 w)
    (hK : ∀ a' c' w', Own w' B 5 1 a' (n + m) c' (xs ++ ys.map B8) → w.grownBy w' (a.map (·.block)) → Below B w0 w' → wpList Tryd.prog ops Q rest (act.put o.dst (.slice a' (n + m) c')) w') :
    wpList Tryd.prog ops Q (o :: rest) act w :=
  append_own hg s x 22 hop 5 (.int .u8 0) 1 1 Tryd.underlying22 info_u8 rfl w0 B a n c xs hs hown a2 m c2 (ys.map B8) hx hy (one_map _ (fun _ => rfl) _) (by omega) (by unfold maxLen; omega) hB hbel hK
/-- 'append(out, s...)' on []byte, s a string -/
theorem app_str (hg : o.guard = none) (s x : Operand) (hop : o.op = Op.call { callee := Callee.builtin Builtin.append, args := #[s, x], argTypes := #[22, 9] })
    (w0 : World) (B : Nat) (a : Option Addr) (n c : Nat) (xs : List Value) (hs : act.eval s = .slice a n c) (hown : Own w B 5 1 a n c xs)
    (y : ByteArray) (hx : act.eval x = .string y)
    (hn : n + y.size ≤ 140737488355328) (hB : B ≤ w.heap.size) (hbel : Below B w0 w)
    (hK : ∀ a' c' w', Own w' B 5 1 a' (n + y.size) c' (xs ++ y.data.toList.map B8) → w.grownBy w' (a.map (·.block)) → Below B w0 w' → wpList Tryd.prog ops Q rest (act.put o.dst (.slice a' (n + y.size) c')) w') :
    wpList Tryd.prog ops Q (o :: rest) act w :=
  append_src hg s x 22 9 hop 5 (.int .u8 0) 1 1 Tryd.underlying22 info_u8 rfl w0 B a n c xs hs hown (.string y) y.size (byteCells y) hx (Src.ofString w Tryd.underlying9 y) (by omega) (by unfold maxLen; omega) hB hbel hK
end
section
variable {w : World} {ops : Array Oper} {rest : List Oper} {act : Act} {Q : Exit → Act → World → Prop} {ty : TypeId} {pos : String} {after : Array Edge}

theorem idx_b (d : Nat) (x y : Operand) (a : Option Addr) (n c : Nat) (cs : List UInt8) (hx : act.eval x = .slice a n c) (hs : Sl w 1 a n c (cs.map B8)) (k : IntKind) (iv : Int) (i : Nat) (hy : act.eval y = .int k iv) (hiv : iv = (i : Int))
    (u : UInt8) (hu : cs[i]? = some u)
    (hK : ∀ b o, w.cell? ⟨b, o, none⟩ = some (B8 u) → b < w.heap.size → wpList Tryd.prog ops Q rest (act.put (some d) (.pointer (some ⟨b, o, none⟩))) w) :
    wpList Tryd.prog ops Q ({ dst := some d, op := .indexAddr 22 x y, type := ty, pos := pos, after := after, guard := none } :: rest) act w :=
  index_sl d 22 x y 5 Tryd.underlying22 size_u8 a n c _ hx hs k iv i hy hiv _ (by rw [List.getElem?_map, hu]; rfl) hK
theorem idx_s (d : Nat) (x y : Operand) (a : Option Addr) (n c : Nat) (cs : List ByteArray) (hx : act.eval x = .slice a n c) (hs : Sl w 1 a n c (cs.map Value.string)) (k : IntKind) (iv : Int) (i : Nat) (hy : act.eval y = .int k iv) (hiv : iv = (i : Int))
    (u : ByteArray) (hu : cs[i]? = some u)
    (hK : ∀ b o, w.cell? ⟨b, o, none⟩ = some (Value.string u) → b < w.heap.size → wpList Tryd.prog ops Q rest (act.put (some d) (.pointer (some ⟨b, o, none⟩))) w) :
    wpList Tryd.prog ops Q ({ dst := some d, op := .indexAddr 27 x y, type := ty, pos := pos, after := after, guard := none } :: rest) act w :=
  index_sl d 27 x y 9 Tryd.underlying27 size_str a n c _ hx hs k iv i hy hiv _ (by rw [List.getElem?_map, hu]; rfl) hK
theorem cut_b (d : Nat) (x lo hi : Operand) (a : Option Addr) (n c : Nat) (cs : List UInt8) (hx : act.eval x = .slice a n c) (hs : Sl w 1 a n c (cs.map B8)) (kl ku : IntKind) (lv uv : Int) (l u : Nat) (hl : act.eval lo = .int kl lv) (hu : act.eval hi = .int ku uv)
    (hlv : lv = (l : Int)) (huv : uv = (u : Int)) (hlu : l ≤ u) (hun : u ≤ n)
    (hK : ∀ a', Sl w 1 a' (u - l) (c - l) (((cs.drop l).take (u - l)).map B8) → (∀ p, a' = some p → ∃ q, a = some q ∧ q.block = p.block) → wpList Tryd.prog ops Q rest (act.put (some d) (.slice a' (u - l) (c - l))) w) :
    wpList Tryd.prog ops Q ({ dst := some d, op := .slice 22 x (some lo) (some hi) none, type := ty, pos := pos, after := after, guard := none } :: rest) act w :=
  cut_sl d 22 x lo hi 5 Tryd.underlying22 1 size_u8 a n c _ hx hs kl ku lv uv l u hl hu hlv huv hlu hun (fun a' h => hK a' (by rw [Nat.mul_one, Nat.mul_one, ← List.map_drop, ← List.map_take] at h; exact h))
theorem cutlo_b (d : Nat) (x lo : Operand) (a : Option Addr) (n c : Nat) (cs : List UInt8) (hx : act.eval x = .slice a n c) (hs : Sl w 1 a n c (cs.map B8)) (kl : IntKind) (lv : Int) (l : Nat) (hl : act.eval lo = .int kl lv)
    (hlv : lv = (l : Int)) (hun : l ≤ n)
    (hK : ∀ a', Sl w 1 a' (n - l) (c - l) ((cs.drop l).map B8) → (∀ p, a' = some p → ∃ q, a = some q ∧ q.block = p.block) → wpList Tryd.prog ops Q rest (act.put (some d) (.slice a' (n - l) (c - l))) w) :
    wpList Tryd.prog ops Q ({ dst := some d, op := .slice 22 x (some lo) none none, type := ty, pos := pos, after := after, guard := none } :: rest) act w :=
  cut_lo d 22 x lo 5 Tryd.underlying22 1 size_u8 a n c _ hx hs kl lv l hl hlv hun (fun a' h => hK a' (by rw [Nat.mul_one, ← List.map_drop] at h; exact h))
theorem cuthi_b (d : Nat) (x hi : Operand) (a : Option Addr) (n c : Nat) (cs : List UInt8) (hx : act.eval x = .slice a n c) (hs : Sl w 1 a n c (cs.map B8)) (ku : IntKind) (uv : Int) (u : Nat) (hu : act.eval hi = .int ku uv)
    (huv : uv = (u : Int)) (hun : u ≤ n)
    (hK : Sl w 1 a u c ((cs.take u).map B8) → wpList Tryd.prog ops Q rest (act.put (some d) (.slice a u c)) w) :
    wpList Tryd.prog ops Q ({ dst := some d, op := .slice 22 x none (some hi) none, type := ty, pos := pos, after := after, guard := none } :: rest) act w :=
  cut_hi d 22 x hi 5 Tryd.underlying22 1 size_u8 a n c _ hx hs ku uv u hu huv hun (fun h => hK (by rw [Nat.mul_one, ← List.map_take] at h; exact h))
theorem load_dig (d : Nat) (x : Operand) (p : Addr) (hx : act.eval x = .pointer (some p)) (cs : List Value) (hl : cs.length = 16) (hc : ∀ j u, cs[j]? = some u → w.cell? (p.add j) = some u)
    (hK : wpList Tryd.prog ops Q rest (act.put (some d) (.agg cs.toArray)) w) :
    wpList Tryd.prog ops Q ({ dst := some d, op := .load 44 x, type := ty, pos := pos, after := after, guard := none } :: rest) act w :=
  load_agg d 44 x 16 size_dig _ _ Tryd.underlying44 p hx cs hl hc hK
theorem store_dig (e : TypeId) (x y : Operand) (zs : Array Value)
    (hx : act.eval x = .pointer (some ⟨w.heap.size, 0, none⟩)) (cs : List Value) (hy : act.eval y = .agg cs.toArray) (hl : cs.length = 16) (hz : zs.size = 16) (h1 : ∀ u ∈ cs, u.oneCell' = true)
    (hK : wpList Tryd.prog ops Q rest act (w.alloc (.cells cs.toArray e))) :
    wpList Tryd.prog ops Q ({ dst := none, op := .store 44 x y, type := ty, pos := pos, after := after, guard := none } :: rest) act (w.alloc (.cells zs e)) :=
  store_fresh 44 e x y 16 size_dig zs hx _ cs hy rfl hl hz h1 hK
theorem to_str (d : Nat) (x : Operand) (a : Option Addr) (n c : Nat) (l : List UInt8) (hx : act.eval x = .slice a n c) (hs : Sl w 1 a n c (l.map B8))
    (hK : wpList Tryd.prog ops Q rest (act.put (some d) (.string ⟨l.toArray⟩)) w) :
    wpList Tryd.prog ops Q ({ dst := some d, op := .convert 22 9 x, type := ty, pos := pos, after := after, guard := none } :: rest) act w :=
  conv_str d 22 9 x 5 Tryd.underlying22 Tryd.underlying5 Tryd.underlying9 a n c l hx hs hK
theorem to_bytes (d : Nat) (x : Operand) (s : ByteArray) (hx : act.eval x = .string s) (hm : s.size ≤ maxLen)
    (hK : ∀ a c w', Sl w' 1 a s.size c (s.data.toList.map B8) → Below w.heap.size w w' → (∀ p, a = some p → w.heap.size ≤ p.block) → wpList Tryd.prog ops Q rest (act.put (some d) (.slice a s.size c)) w') :
    wpList Tryd.prog ops Q ({ dst := some d, op := .convert 9 22 x, type := ty, pos := pos, after := after, guard := none } :: rest) act w :=
  conv_bytes d 9 22 x 5 Tryd.underlying9 Tryd.underlying22 Tryd.underlying5 s hx hm hK
end
end Go.Proofs.YtalicdpocgomkaaDoor
