/- The contracts of the functions that the law reaches, joined into one text. -/
import Derived.WalkKit
import Derived.Lib.Hide
import Derived.Deep.LoopGhost
import Derived.Deep.DeepCutAuto
import Derived.Deep.AppendSrc
import Derived.Deep.QuietTactic
import Derived.BigQuiet
import Derived.Deep.RegionWith
import Derived.MapKept
import Derived.Laws.IdiomStrings
import Derived.Test.YtkjcbneanaeleaaChecked
import Derived.Lib.Strings
import Derived.WideShapes
set_option linter.unusedVariables false
set_option linter.unusedSimpArgs false

/- the text Mem -/
section
/- Memory words shared by all walks of this seat: what a slice reads as, what a call owns, and the laws on append in the walk's form. No program in sight. -/
namespace Go.Dx
open Go.RowKit

/-- a byte, an int as a cell -/
abbrev B8 (d : UInt8) : Value := .int .u8 (d.toNat : Int)
abbrev I64 (n : Int) : Value := .int .i64 n
theorem one_map {α : Type} (f : α → Value) (hf : ∀ x, (f x).oneCell' = true) (l : List α) : ∀ u ∈ l.map f, u.oneCell' = true := by
  intro u hu
  obtain ⟨x, _, rfl⟩ := List.mem_map.1 hu
  exact hf x
theorem hide {p : Prop} (h : p) : Hid p := h

/-- The slice value '.slice a n c' reads as the flat cells cs: n elements of sz cells each. -/
structure Sl (w : World) (sz : Nat) (a : Option Addr) (n c : Nat) (cs : List Value) : Prop where
  len : cs.length = n * sz
  le : n ≤ c
  cap : c ≤ maxLen
  nil : a = none → c = 0
  cell : ∀ p, a = some p → ∀ j u, cs[j]? = some u → w.cell? (p.add j) = some u

theorem Sl.n_eq {α : Type} {f : α → Value} {w : World} {a : Option Addr} {n c : Nat} {l : List α} (h : Sl w 1 a n c (l.map f)) : n = l.length := by
  have := h.len; simp at this; omega
theorem Sl.take {w : World} {a : Option Addr} {n c : Nat} {cs : List Value} (h : Sl w 1 a n c cs) (k : Nat) (hk : k ≤ n) : Sl w 1 a k c (cs.take k) := by
  have h1 := h.len
  have h2 := h.le
  refine ⟨by rw [List.length_take]; omega, by omega, h.cap, h.nil, fun p hp j u hj => h.cell p hp j u ?_⟩
  rw [List.getElem?_take] at hj
  split at hj
  · exact hj
  · cases hj
theorem Sl.ex {w : World} {sz : Nat} {a : Option Addr} {n c : Nat} {cs : List Value} (h : Sl w sz a n c cs) (h0 : 0 < cs.length) :
    ∃ b off, a = some ⟨b, off, none⟩ ∧ b < w.heap.size ∧ ∀ j u, cs[j]? = some u → w.cell? ⟨b, off + j, none⟩ = some u := by
  cases a with
  | none =>
    have := h.nil rfl
    have h1 := h.len
    have h2 := h.le
    have : n = 0 := by omega
    subst this
    simp at h1
    simp [h1] at h0
  | some p =>
    obtain ⟨b, off, spot⟩ := p
    have h1 := h.cell _ rfl 0 (cs[0]'h0) (by simp)
    have hs : spot = none := by simpa [Addr.add] using World.cell?_spot h1
    subst hs
    refine ⟨b, off, rfl, ?_, fun j u hj => ?_⟩
    · have := World.block_lt_of_cell? w _ h1
      simpa [Addr.add] using this
    · have := h.cell _ rfl j u hj
      rwa [Addr.add_lit] at this

theorem Sl.below {w w' : World} {sz : Nat} {a : Option Addr} {n c : Nat} {cs : List Value} (h : Sl w sz a n c cs) (hb : Below w.heap.size w w') : Sl w' sz a n c cs :=
  ⟨h.len, h.le, h.cap, h.nil, fun p hp j u hj => by
    have h1 := h.cell p hp j u hj
    rw [hb.cell (World.block_lt_of_cell? w _ h1)]
    exact h1⟩

theorem Sl.grown {w w' : World} {row : Option Nat} {sz : Nat} {a : Option Addr} {n c : Nat} {cs : List Value} (h : Sl w sz a n c cs) (hb : w.grownBy w' row) (hr : ∀ p, a = some p → some p.block ≠ row) : Sl w' sz a n c cs :=
  ⟨h.len, h.le, h.cap, h.nil, fun p hp j u hj => by
    have h1 := h.cell p hp j u hj
    refine hb.cell h1 ?_
    have : (p.add j).block = p.block := by unfold Addr.add; split <;> rfl
    rw [this]
    exact hr p hp⟩

theorem Sl.alloc {w : World} {sz : Nat} {a : Option Addr} {n c : Nat} {cs : List Value} (h : Sl w sz a n c cs) (o : Obj) : Sl (w.alloc o) sz a n c cs :=
  h.below ((Below.refl _ _).alloc (Nat.le_refl _) _)

theorem Sl.drew {w : World} {sz : Nat} {a : Option Addr} {n c : Nat} {cs : List Value} (h : Sl w sz a n c cs) : Sl w.drew sz a n c cs := ⟨h.len, h.le, h.cap, h.nil, h.cell⟩

theorem Sl.empty (w : World) (sz : Nat) : Sl w sz none 0 0 [] := ⟨by simp, Nat.le_refl _, Nat.zero_le _, fun _ => rfl, fun _ h => by cases h⟩

/-- What the call owns: the slice '.slice a n c' begins a row of its own, from block B on. -/
def Own (w : World) (B : Nat) (e : TypeId) (sz : Nat) (a : Option Addr) (n c : Nat) (cs : List Value) : Prop := w.ownsRow B e sz (.slice a n c) n cs

theorem Own.nil (w : World) (B : Nat) (e : TypeId) (sz : Nat) : Own w B e sz none 0 0 [] := World.ownsRow_nil w B e sz

theorem Own.len {w : World} {B : Nat} {e : TypeId} {sz : Nat} {a : Option Addr} {n c : Nat} {cs : List Value} (h : Own w B e sz a n c cs) : cs.length = n * sz := h.1

theorem Own.sl {w : World} {B : Nat} {e : TypeId} {sz : Nat} {a : Option Addr} {n c : Nat} {cs : List Value} (h : Own w B e sz a n c cs) : Sl w sz a n c cs := by
  refine ⟨h.1, ?_, ?_, ?_, ?_⟩
  · rcases h.2 with ⟨h1, h2⟩ | ⟨g, cap, cur, h1, _, _, h2, _⟩
    · omega
    · injection h1 with _ _ h1; omega
  · rcases h.2 with ⟨h1, h2⟩ | ⟨g, cap, cur, h1, _, _, _, h2, _⟩
    · injection h1 with _ _ h1; unfold maxLen; omega
    · injection h1 with _ _ h1; omega
  · intro ha
    rcases h.2 with ⟨h1, h2⟩ | ⟨g, cap, cur, h1, _, _, h2, _⟩
    · injection h1
    · injection h1 with h1; rw [ha] at h1; cases h1
  · intro p hp j u hj
    subst hp
    have h2 := h.2
    have hg : (Value.slice (some p) n c).ownBlock = some p.block := rfl
    have := World.ownsRow.cells h hg j u hj
    rcases h.2 with ⟨h1, _⟩ | ⟨g, cap, cur, h1, _⟩
    · cases h1
    · injection h1 with h1
      injection h1 with h1
      subst h1
      exact this

theorem Own.base {w : World} {B : Nat} {e : TypeId} {sz : Nat} {p : Addr} {n c : Nat} {cs : List Value} (h : Own w B e sz (some p) n c cs) : B ≤ p.block ∧ p.block < w.heap.size :=
  World.ownsRow.lt h p.block rfl

theorem Own.below {w w' : World} {B : Nat} {e : TypeId} {sz : Nat} {a : Option Addr} {n c : Nat} {cs : List Value} (h : Own w B e sz a n c cs) (hb : Below w.heap.size w w') : Own w' B e sz a n c cs := by
  refine ⟨h.1, ?_⟩
  rcases h.2 with h2 | ⟨g, cap, cur, h1, h2, h3, r⟩
  · exact .inl h2
  · refine .inr ⟨g, cap, cur, h1, h2, ?_, r⟩
    rw [hb.block g (Array.getElem?_eq_some_iff.1 h3).1]
    exact h3

theorem Own.mono {w : World} {B B' : Nat} {e : TypeId} {sz : Nat} {a : Option Addr} {n c : Nat} {cs : List Value} (h : Own w B e sz a n c cs) (hb : B' ≤ B) : Own w B' e sz a n c cs := by
  refine ⟨h.1, ?_⟩
  rcases h.2 with h2 | ⟨g, cap, cur, h1, h2, r⟩
  · exact .inl h2
  · exact .inr ⟨g, cap, cur, h1, by omega, r⟩

theorem Own.alloc {w : World} {B : Nat} {e : TypeId} {sz : Nat} {a : Option Addr} {n c : Nat} {cs : List Value} (h : Own w B e sz a n c cs) (o : Obj) : Own (w.alloc o) B e sz a n c cs :=
  World.ownsRow.alloc h o

theorem Own.drew {w : World} {B : Nat} {e : TypeId} {sz : Nat} {a : Option Addr} {n c : Nat} {cs : List Value} (h : Own w B e sz a n c cs) : Own w.drew B e sz a n c cs := h

theorem Own.kept {w w' : World} {row : Option Nat} {B : Nat} {e : TypeId} {sz : Nat} {a : Option Addr} {n c : Nat} {cs : List Value} (h : Own w B e sz a n c cs) (hg : w.grownBy w' row) (hne : ∀ p, a = some p → some p.block ≠ row) : Own w' B e sz a n c cs := by
  refine World.ownsRow.kept h hg ?_
  cases a with
  | none => exact .inl rfl
  | some p => exact .inr (hne p rfl)

/-- a literal slice just built -/
theorem Own.built (w : World) (B : Nat) (e : TypeId) (sz n : Nat) (us : Array Value) (hB : B ≤ w.heap.size) (hn : us.size = n * sz) (hm : n ≤ maxLen) :
    Own (w.alloc (.cells us e)) B e sz (some ⟨w.heap.size, 0, none⟩) n n us.toList :=
  ⟨by simpa using hn, .inr ⟨w.heap.size, n, us, rfl, hB, heap_alloc_new w _, Nat.le_refl _, hm, hn, by rw [← hn, ← Array.length_toList]; exact List.take_length⟩⟩

theorem ownBlock_of (a : Option Addr) (n c : Nat) : (Value.slice a n c).ownBlock = a.map (·.block) := by cases a <;> rfl

theorem undrew {B : Nat} {w w' : World} (h : Below B w.drew w') : Below B w w' := ⟨h.os, h.tape, h.output, h.size, h.block⟩
theorem undrewN {B n : Nat} {w w' : World} (h : Below B (w.drewN n) w') : Below B w w' := ⟨h.os, h.tape, h.output, h.size, h.block⟩

section laws
variable {P : Program} {w : World} {ops : Array Oper} {rest : List Oper} {o : Oper} {act : Act} {Q : Exit → Act → World → Prop}

theorem Sl.src {sz : Nat} {a : Option Addr} {m c : Nat} {ys : List Value} (h : Sl w sz a m c ys) {tx e' : TypeId} (hk : P.underlying tx = some (.slice e')) (h1 : ∀ u ∈ ys, u.oneCell' = true) : Src P sz tx (.slice a m c) m ys w := by
  cases a with
  | some ad => exact Src.ofSlice w hk ad m c ys h.len (h.cell ad rfl) h1
  | none =>
    have hc := h.nil rfl
    have hle := h.le
    obtain rfl : m = 0 := by omega
    have hnews : ys = [] := List.eq_nil_of_length_eq_zero (by simpa using h.len)
    subst hnews
    exact Src.ofNil w hk c

theorem run_append_any (base : Nat) (t tx ty e : TypeId) (i : TypeInfo) (z : Value) (ht : P.underlying t = some (.slice e)) (hi : P.info? e = some i) (hz : i.zero = some z)
    (hzs : z.cells.size = i.size) (a : Option Addr) (n c : Nat) (xs : List Value) (hown : Own w base e i.size a n c xs)
    (x : Value) (m : Nat) (news : List Value) (hs : Src P i.size tx x m news w)
    (h63 : n + m ≤ maxLen) (hbytes : (n + m) * i.bytes ≤ 140737488355328) (hbase : base ≤ w.heap.size) :
    ∃ a' c' w', (Builtin.append_ #[t, tx] ty #[.slice a n c, x]).run P w = .ok (.slice a' (n + m) c') w' ∧ Own w' base e i.size a' (n + m) c' (xs ++ news) ∧ w.grownBy w' (a.map (·.block)) := by
  have hsmall : n + m ≤ 9223372036854775807 := by simp only [maxLen] at h63; omega
  have hlen : (xs ++ news).length = (n + m) * i.size := by rw [List.length_append, hown.1, hs.newsLen, Nat.add_mul]
  have hold : (Builtin.firstCells i.size n (.slice a n c)).run P w.drew = .ok xs.toArray w.drew := by
    have hsl := hown.sl
    cases a with
    | none =>
      have := hsl.nil rfl
      have := hsl.le
      obtain rfl : n = 0 := by omega
      have hnews : xs = [] := List.eq_nil_of_length_eq_zero (by simpa using hsl.len)
      subst hnews
      exact run_firstCells_none w.drew i.size 0 0 c
    | some p => exact run_firstCells_some w.drew i.size n p n c xs hsl.len (by simpa using hsl.cell p rfl)
  by_cases hroom : n + m ≤ c
  · rcases hown.2 with ⟨h1, h2⟩ | ⟨g, cap, cur, h1, hbg, hg, hnc, hcm, hcs, htake⟩
    · injection h1 with h1 h3 h4
      subst h1 h3 h4
      obtain rfl : m = 0 := by omega
      have hx : xs = [] := List.eq_nil_of_length_eq_zero (by simpa using hown.1)
      have hnews : news = [] := List.eq_nil_of_length_eq_zero (by simpa using hs.newsLen)
      subst hx hnews
      refine ⟨none, 0, w, ?_, Own.nil w base e i.size, World.grownBy.refl _ _⟩
      rcases hs.kind with ⟨e', hk⟩ | hk <;> simp [Builtin.append_, run_underlying ht, run_underlying hk, sizeOf, typeInfo, hi, hs.len, hs.cells]
    · injection h1 with h1 h3 h4
      subst h1 h4
      have hfit : n * i.size + news.length ≤ cur.size := by rw [hs.newsLen, hcs, ← Nat.add_mul]; exact Nat.mul_le_mul_right _ hroom
      have hst := run_storeCells_at P g (n * i.size) e news 0 cur w hg (by simpa using hfit) hs.one
      simp only [Nat.add_zero] at hst
      refine ⟨some ⟨g, 0, none⟩, c, w.setRow g (cur.toList.take (n * i.size) ++ news ++ cur.toList.drop (n * i.size + news.length)).toArray, ?_, ⟨hlen, .inr ⟨g, c, _, rfl, hbg, setRow_heap w g cur _ e _ hg, hroom, hcm, ?_, ?_⟩⟩, ⟨rfl, rfl, rfl, by simp, fun k _ hk => setRow_other w g k _ (fun e => hk (by simp [e]))⟩⟩
      · rcases hs.kind with ⟨e', hk⟩ | hk <;> simp [Builtin.append_, run_underlying ht, run_underlying hk, sizeOf, typeInfo, hi, hs.len, hroom, hs.cells, Addr.add_lit, hst]
      · simp only [List.size_toArray, List.length_append, List.length_take, List.length_drop, Array.length_toList]
        omega
      · rw [htake, ← hlen]
        exact List.take_left
  · have hr := run_append_grow_src (P := P) w t tx ty e i z ht hi hz a n c xs hold x m news hs (by omega) (by omega) (growslice_fits (by omega) hbytes)
    have hge := grownCap_ge w (n + m) c e
    have hcm : grownCap w (n + m) c e ≤ maxLen := grownCap_le_maxLen w (n + m) c e h63
    refine ⟨_, _, _, hr, ⟨hlen, .inr ⟨w.heap.size, _, _, rfl, hbase, heap_alloc_new w.drew _, hge, hcm, ?_, ?_⟩⟩, ⟨rfl, rfl, rfl, by simp, fun k hk _ => Below.heap_alloc w.drew _ k hk⟩⟩
    · simp only [Array.size_append, List.size_toArray, size_zeroCells, hzs, hlen, ← Nat.add_mul]
      congr 1
      omega
    · simp only [Array.toList_append, List.append_assoc]
      rw [← List.append_assoc, ← hlen]
      exact List.take_left

/-- 'append(out, x...)', out owned, whatever x is: the general law. -/
theorem append_src (hg : o.guard = none) (s x : Operand) (t tx : TypeId) (hop : o.op = Op.call { callee := Callee.builtin Builtin.append, args := #[s, x], argTypes := #[t, tx] })
    (e : TypeId) (z : Value) (sz bytes : Nat) (ht : P.underlying t = some (.slice e)) (hi : (P.info? e).map (fun i => (i.zero, i.size, i.bytes)) = some (some z, sz, bytes)) (hz : z.cells.size = sz)
    (w0 : World) (B : Nat) (a : Option Addr) (n c : Nat) (xs : List Value) (hs : act.eval s = .slice a n c) (hown : Own w B e sz a n c xs)
    (v : Value) (m : Nat) (ys : List Value) (hx : act.eval x = v) (hy : Src P sz tx v m ys w)
    (hn : (n + m) * bytes ≤ 140737488355328) (hn2 : n + m ≤ maxLen) (hB : B ≤ w.heap.size) (hbel : Below B w0 w)
    (hK : ∀ a' c' w', Own w' B e sz a' (n + m) c' (xs ++ ys) → w.grownBy w' (a.map (·.block)) → Below B w0 w' → wpList P ops Q rest (act.put o.dst (.slice a' (n + m) c')) w') :
    wpList P ops Q (o :: rest) act w := by
  obtain ⟨i, hi0, hz0, hz1, hz2⟩ := info_parts hi
  subst hz1 hz2
  clear hi
  obtain ⟨a', c', w', hrun, ho, hgr⟩ := run_append_any B t tx o.type e i z ht hi0 hz0 hz a n c xs hown v m ys hy hn2 hn hB
  refine wpList_plain hg fun K hK' => ?_
  unfold Oper.wp
  simp [execOp, hop, resolve, invoke, builtin, hs, hx, hrun, Result.andThen]
  refine hK' _ _ (hK a' c' w' ho hgr (hbel.grown hgr hB ?_))
  intro k hk
  cases a with
  | none => cases hk
  | some p => injection hk with hk; subst hk; exact hown.base.1

/-- 'append(out, ys...)', out owned, ys a slice. -/
theorem append_own (hg : o.guard = none) (s x : Operand) (t : TypeId) (hop : o.op = Op.call { callee := Callee.builtin Builtin.append, args := #[s, x], argTypes := #[t, t] })
    (e : TypeId) (z : Value) (sz bytes : Nat) (ht : P.underlying t = some (.slice e)) (hi : (P.info? e).map (fun i => (i.zero, i.size, i.bytes)) = some (some z, sz, bytes)) (hz : z.cells.size = sz)
    (w0 : World) (B : Nat) (a : Option Addr) (n c : Nat) (xs : List Value) (hs : act.eval s = .slice a n c) (hown : Own w B e sz a n c xs)
    (a2 : Option Addr) (m c2 : Nat) (ys : List Value) (hx : act.eval x = .slice a2 m c2) (hy : Sl w sz a2 m c2 ys) (h1 : ∀ u ∈ ys, u.oneCell' = true)
    (hn : (n + m) * bytes ≤ 140737488355328) (hn2 : n + m ≤ maxLen) (hB : B ≤ w.heap.size) (hbel : Below B w0 w)
    (hK : ∀ a' c' w', Own w' B e sz a' (n + m) c' (xs ++ ys) → w.grownBy w' (a.map (·.block)) → Below B w0 w' → wpList P ops Q rest (act.put o.dst (.slice a' (n + m) c')) w') :
    wpList P ops Q (o :: rest) act w :=
  append_src hg s x t t hop e z sz bytes ht hi hz w0 B a n c xs hs hown _ m ys hx (hy.src ht h1) hn hn2 hB hbel hK

/-- 'append(out, u, ..)': what is appended lies in a block that was laid just before. -/
theorem append_lit (hg : o.guard = none) (s x : Operand) (t : TypeId) (hop : o.op = Op.call { callee := Callee.builtin Builtin.append, args := #[s, x], argTypes := #[t, t] })
    (e : TypeId) (z : Value) (sz bytes : Nat) (ht : P.underlying t = some (.slice e)) (hi : (P.info? e).map (fun i => (i.zero, i.size, i.bytes)) = some (some z, sz, bytes)) (hz : z.cells.size = sz)
    (w0 : World) (B : Nat) (a : Option Addr) (n c : Nat) (xs : List Value) (hs : act.eval s = .slice a n c) (hown : Own w B e sz a n c xs)
    (m : Nat) (us : List Value) (hx : act.eval x = .slice (some ⟨w.heap.size, 0, none⟩) m m) (hu : us.length = m * sz) (h1 : ∀ u ∈ us, u.oneCell' = true)
    (hn : (n + m) * bytes ≤ 140737488355328) (hn2 : n + m ≤ maxLen) (hB : B ≤ w.heap.size) (hbel : Below B w0 w)
    (hK : ∀ a' c' w', Own w' B e sz a' (n + m) c' (xs ++ us) → w.grownBy w' (a.map (·.block)) → Below B w0 w' → wpList P ops Q rest (act.put o.dst (.slice a' (n + m) c')) w') :
    wpList P ops Q (o :: rest) act (w.alloc (.cells us.toArray e)) := by
  refine append_own hg s x t hop e z sz bytes ht hi hz w0 B a n c xs hs (hown.alloc _) _ m m us hx ?_ h1 hn hn2 (by simp; omega) (hbel.alloc hB _) ?_
  · have := (Own.built w 0 e sz m us.toArray (Nat.zero_le _) (by simpa using hu) (by omega)).sl
    simpa using this
  · intro a' c' w' ho hgr hb
    refine hK a' c' w' ho ⟨hgr.os, hgr.tape, hgr.output, ?_, ?_⟩ hb
    · have := hgr.size; simp at this; omega
    · intro k hk hne
      rw [hgr.block k (by simp; omega) hne]
      rw [Below.heap_alloc _ _ _ hk]
/-- What a call hands back that returns a slice of its own. -/
def Gives (e : TypeId) (sz n : Nat) (cs : List Value) (w : World) (r : Ending) (w' : World) : Prop :=
  ∃ a c, r = .returned (.slice a n c) ∧ Own w' w.heap.size e sz a n c cs ∧ Below w.heap.size w w'
/-- What a call hands back that only reads. -/
def Still (v : Value) (w : World) (r : Ending) (w' : World) : Prop := r = .returned v ∧ ∃ n, w' = w.drewN n
theorem Still.below {w : World} (n : Nat) : Below w.heap.size w (w.drewN n) := ⟨rfl, rfl, rfl, Nat.le_refl _, fun _ _ => rfl⟩
end laws
end Go.Dx
end

/- the text B1 -/
section
/- Chapter 06, in plain Lean: characters, cells, rules, tables, and the error of tables. No program in sight. -/
namespace Go.Dx

def isS (c : UInt8) : Bool := decide (97 ≤ c.toNat) && decide (c.toNat ≤ 122)
def isC (c : UInt8) : Bool := decide (65 ≤ c.toNat) && decide (c.toNat ≤ 90)
def isL (c : UInt8) : Bool := isS c || isC c
def low (c : UInt8) : UInt8 := if isC c then c + 32 else c
def isD (c : UInt8) : Bool := decide (48 ≤ c.toNat) && decide (c.toNat ≤ 57)
def isW (c : UInt8) : Bool := decide (32 ≤ c.toNat) && decide (c.toNat ≤ 126)
def cellOk (c : UInt8) : Bool := decide (1 ≤ c.toNat) && decide (c.toNat ≤ 63)
def okCells (l : List UInt8) : Bool := l.all cellOk
def indic (l : List UInt8) : Bool := decide (1 ≤ l.length) && decide (l.length ≤ 4) && okCells l
def chars (s : ByteArray) : List UInt8 := s.data.toList
def small (s : ByteArray) : Bool := (chars s).all isS

structure Ru where
  text : ByteArray
  whr : Int
  cells : List UInt8

def oneMark (s : ByteArray) : Bool := match chars s with
  | [c] => isW c && !isL c && !isD c
  | _ => false
def ruOk (r : Ru) : Bool :=
  decide (1 ≤ r.text.size) && decide (r.text.size ≤ 8) && decide (0 ≤ r.whr) && decide (r.whr ≤ 3) && indic r.cells && (small r.text || oneMark r.text && decide (r.whr = 0))

structure Ta where
  l0 : List Ru
  l1 : List Ru
  dig : List UInt8
  cap : List UInt8
  num : List UInt8
  fin : List UInt8
  sw : List UInt8

def nameOf (r : Ru) : List UInt8 × Int := (chars r.text, r.whr)
def dupB (l : List Ru) : Bool := !decide (l.map nameOf).Nodup
def ownB (l : List Ru) (c : UInt8) : Bool := decide (([c], (0 : Int)) ∈ l.map nameOf)
def missB (l : List Ru) : Bool := (List.range 26).any fun k => !ownB l (UInt8.ofNat (97 + k))
def goodT (t : Ta) : Bool :=
  decide (t.dig.length = 10) && okCells t.dig && indic t.cap && indic t.num && indic t.fin && indic t.sw && t.l0.all ruOk && t.l1.all ruOk
def validE (t : Ta) : Int :=
  if 96 < t.l0.length ∨ 96 < t.l1.length then 4
  else if goodT t = false then 1
  else if (dupB t.l0 || dupB t.l1) = true then 7
  else if (missB t.l0 || missB t.l1) = true then 6 else 0

structure Sy where
  lang : Int
  c : UInt8
  deriving DecidableEq
def symOk (x : Sy) : Bool := (decide (x.lang = 0) || decide (x.lang = 1)) && isW x.c
def goodS (l : List Sy) : Bool := l.all symOk

/-- the characters at i - 1 and i belong to one word -/
def inWord (l : List Sy) (i : Nat) : Bool := match i with
  | 0 => false
  | k + 1 => match l[k]?, l[k + 1]? with
    | some x, some y => isL x.c && isL y.c && decide (x.lang = y.lang)
    | _, _ => false
/-- the characters of a rule stand at a place: the first one may be a capital -/
def sameAt (g : Int) : Bool → List UInt8 → List Sy → Bool
  | _, [], _ => true
  | _, _ :: _, [] => false
  | b, u :: s, x :: l => decide (low x.c = u) && decide (x.lang = g) && (b || !isC x.c) && sameAt g false s l
def placeOk (r : Ru) (l : List Sy) (i : Nat) : Bool :=
  !small r.text || (if r.whr = 1 then !inWord l i && !inWord l (i + r.text.size) else if r.whr = 2 then !inWord l i && inWord l (i + r.text.size) else if r.whr = 3 then inWord l i else true)
def fitsB (r : Ru) (l : List Sy) (i : Nat) : Bool :=
  match l[i]? with
  | none => decide (r.text.size = 0)
  | some x => sameAt x.lang true (chars r.text) (l.drop i) && placeOk r l i

structure St where
  lang : Int
  num : Bool
  wrd : Bool
  deriving DecidableEq
structure Stp where
  dst : St
  len : Int
  cells : List UInt8
  rule : Int
  deriving DecidableEq
def headC (t : Ta) (s : St) (x : Sy) : List UInt8 := (if s.num && isL x.c then t.fin else []) ++ (if isC x.c then t.cap else [])
def ruleSteps (t : Ta) (s : St) (x : Sy) (l : List Sy) (i : Nat) : Nat → List Ru → List Stp
  | _, [] => []
  | k, r :: rs => (if fitsB r l i then [⟨⟨x.lang, false, isL x.c⟩, (r.text.size : Int), headC t s x ++ r.cells, (k : Int)⟩] else []) ++ ruleSteps t s x l i (k + 1) rs
def langOf (t : Ta) (g : Int) : List Ru := if g = 0 then t.l0 else t.l1
def nextL (t : Ta) (s : St) (l : List Sy) (i : Nat) (x : Sy) : List Stp :=
  if x.lang ≠ s.lang then [⟨⟨x.lang, false, false⟩, 0, t.sw, -1⟩]
  else if isD x.c then [⟨⟨x.lang, true, false⟩, 1, (if s.num then [] else t.num) ++ [t.dig.getD (x.c.toNat - 48) 0], -1⟩]
  else ruleSteps t s x l i 0 (langOf t x.lang)
def stepsL (t : Ta) (s : St) (l : List Sy) (i : Int) : List Stp :=
  if validE t = 0 ∧ (s.lang = 0 ∨ s.lang = 1) ∧ 0 ≤ i ∧ goodS l = true then
    match l[i.toNat]? with
    | none => []
    | some x => nextL t s l i.toNat x
  else []
end Go.Dx
end

/- the text BMap -/
section
/- A map that the call makes, whose keys are structs of a string and a number, and whose elements are all true: a set. No program in sight. -/
set_option linter.unusedSimpArgs false
set_option linter.unusedVariables false
namespace Go.Dx
open Go.RowKit

abbrev nameV (n : ByteArray × Int) : Value := .agg #[.string n.1, .int .i64 n.2]
/-- the key type is a struct of a string and an int -/
structure NameKey (P : Program) (K : TypeId) : Prop where
  ex : ∃ f0 f1 : Field, P.underlying K = some (.struct #[f0, f1]) ∧ f0.name ≠ "_" ∧ f1.name ≠ "_" ∧ f0.offset = 0 ∧ f1.offset = 1 ∧ P.underlying f0.type = some .string ∧ P.underlying f1.type = some (.int .i64)
  held : P.stoodInHeld K = false

theorem run_part_one {P : Program} {w : World} {t : TypeId} {xs : Array Value} {off : Nat} {v : Value} {d : TypeDesc} (hd : P.underlying t = some d) (hp : d = .string ∨ d = .int .i64) (hx : xs[off]? = some v) : (part t xs off).run P w = .ok v w := by
  rcases hp with rfl | rfl <;> simp [part, isAgg, run_underlying hd, hx]

theorem name_eq {P : Program} {K : TypeId} (h : NameKey P K) (w : World) (n m : ByteArray × Int) : (Op.equal K (nameV n) (nameV m)).run P w = .ok (n.1.toList == m.1.toList && n.2 == m.2) w := by
  obtain ⟨f0, f1, hu, h0, h1, o0, o1, u0, u1⟩ := h.ex
  have hf : P.fieldsOf K = #[f0, f1] := by simp [Program.fieldsOf, hu]
  have hrun := run_equalIn_struct w (P := P) 9999 K #[.string n.1, .int .i64 n.2] #[.string m.1, .int .i64 m.2] (by rw [hf]; exact hu) h.held
  rw [hf] at hrun
  have a0 := fun (xs : Array Value) (v : Value) (hx : xs[0]? = some v) => run_part_one (w := w) u0 (.inl rfl) hx
  have a1 := fun (xs : Array Value) (v : Value) (hx : xs[1]? = some v) => run_part_one (w := w) u1 (.inr rfl) hx
  have e1 := a0 #[.string n.1, .int .i64 n.2] (.string n.1) rfl
  have e2 := a0 #[.string m.1, .int .i64 m.2] (.string m.1) rfl
  have e3 := a1 #[.string n.1, .int .i64 n.2] (.int .i64 n.2) rfl
  have e4 := a1 #[.string m.1, .int .i64 m.2] (.int .i64 m.2) rfl
  have q1 := run_equalIn_string w (P := P) 9998 f0.type n.1 m.1 u0
  have q2 := run_equalIn_int w (P := P) 9998 f1.type .i64 .i64 n.2 m.2 u1
  show (Op.equalIn 10000 K (nameV n) (nameV m)).run P w = _
  rw [hrun]
  simp only [Op.eqFields, h0, h1, o0, o1, e1, e2, e3, e4, q1, q2, Sem.run_bind, Result.andThen_ok, ne_eq, not_false_eq_true, if_true]
  simp only [show (9999 : Nat) = 9998 + 1 from rfl, q1, q2, Result.andThen_ok]
  cases hq : (n.1.toList == m.1.toList)
  · simp
  · cases hq2 : (n.2 == m.2) <;> simp [e3, e4, q2, hq2]

theorem name_key {P : Program} {K : TypeId} (h : NameKey P K) (w : World) (b : Bool) (n : ByteArray × Int) : (Instr.checkKey b 10000 K (nameV n)).run P w = .ok () w := by
  obtain ⟨f0, f1, hu, h0, h1, o0, o1, u0, u1⟩ := h.ex
  have e1 := run_part_one (P := P) (w := w) (xs := #[.string n.1, .int .i64 n.2]) u0 (.inl rfl) (off := 0) (v := .string n.1) rfl
  have e3 := run_part_one (P := P) (w := w) (xs := #[.string n.1, .int .i64 n.2]) u1 (.inr rfl) (off := 1) (v := .int .i64 n.2) rfl
  have c1 : ∀ k, (Instr.checkKey b (k + 1) f0.type (.string n.1)).run P w = .ok () w := fun k => by simp [Instr.checkKey, run_underlying u0]
  have c2 : ∀ k, (Instr.checkKey b (k + 1) f1.type (.int .i64 n.2)).run P w = .ok () w := fun k => by simp [Instr.checkKey, run_underlying u1]
  have key : ∀ k, (Instr.checkKey b (k + 2) K (nameV n)).run P w = .ok () w := fun k => by
    rw [Instr.checkKey]
    simp [run_underlying hu, h0, h1, o0, o1, e1, e3, c1, c2]
  exact key 9998

/-- a set that the call has made -/
structure NSet (w : World) (b : Nat) (ns : List (ByteArray × Int)) : Prop where
  ex : ∃ es clock, w.heap[b]? = some (.map es clock) ∧ es.toList.map (fun e => (e.key, e.val)) = ns.map (fun n => (nameV n, Value.bool true))
def isIn (ns : List (ByteArray × Int)) (n : ByteArray × Int) : Bool := ns.any fun m => n.1.toList == m.1.toList && n.2 == m.2

theorem NSet.new (w : World) : NSet (w.alloc (.map #[] 0)) w.heap.size [] := ⟨#[], 0, heap_alloc_new w _, rfl⟩
theorem NSet.lt {w : World} {b : Nat} {ns : List (ByteArray × Int)} (h : NSet w b ns) : b < w.heap.size := by
  obtain ⟨es, clock, hb, _⟩ := h.ex
  exact (Array.getElem?_eq_some_iff.1 hb).1
theorem NSet.kept {w w' : World} {row : Option Nat} {b : Nat} {ns : List (ByteArray × Int)} (h : NSet w b ns) (hg : w.grownBy w' row) (hne : some b ≠ row) : NSet w' b ns := by
  have hlt := h.lt
  obtain ⟨es, clock, hb, he⟩ := h.ex
  exact ⟨es, clock, (hg.block b hlt hne).trans hb, he⟩
theorem NSet.below {w w' : World} {b : Nat} {ns : List (ByteArray × Int)} (h : NSet w b ns) (hg : Below w.heap.size w w') : NSet w' b ns := by
  have hlt := h.lt
  obtain ⟨es, clock, hb, he⟩ := h.ex
  exact ⟨es, clock, (hg.block b hlt).trans hb, he⟩
theorem NSet.alloc {w : World} {b : Nat} {ns : List (ByteArray × Int)} (h : NSet w b ns) (o : Obj) : NSet (w.alloc o) b ns := h.below ((Below.refl _ _).alloc (Nat.le_refl _) _)
theorem NSet.set {w : World} {b : Nat} {ns : List (ByteArray × Int)} (h : NSet w b ns) (p : Addr) (v : Value) (hp : p.block ≠ b) : NSet (w.setCell p v) b ns := by
  obtain ⟨es, clock, hb, he⟩ := h.ex
  exact ⟨es, clock, (Below.heap_setCell w p v b (fun e => hp e.symm)).trans hb, he⟩

theorem find_names {P : Program} {K : TypeId} (h : NameKey P K) (w : World) (n : ByteArray × Int) : ∀ (es : List MapEntry) (ns : List (ByteArray × Int)) (i : Nat), es.map (fun e => (e.key, e.val)) = ns.map (fun n => (nameV n, Value.bool true)) →
    ∃ r, (Instr.findAsking K (nameV n) es i).run P w = .ok r w ∧ r.map (·.2) = if isIn ns n then some (Value.bool true) else none := by
  intro es
  induction es with
  | nil =>
    intro ns i he
    cases ns with
    | nil => exact ⟨none, by simp [Instr.findAsking], rfl⟩
    | cons m ns => cases he
  | cons e es ih =>
    intro ns i he
    cases ns with
    | nil => cases he
    | cons m ns =>
      rw [List.map_cons, List.map_cons] at he
      injection he with h1 h2
      injection h1 with hk hv
      have hq := name_eq h w n m
      cases hc : (n.1.toList == m.1.toList && n.2 == m.2)
      · obtain ⟨r, hr, hr2⟩ := ih ns (i + 1) h2
        refine ⟨r, ?_, ?_⟩
        · rw [hc] at hq
          simp only [Instr.findAsking, hk, Sem.run_bind, hq, Result.andThen_ok, Bool.false_eq_true, if_false]
          exact hr
        · rw [hr2]; simp only [isIn, List.any_cons, hc, Bool.false_or]; rfl
      · refine ⟨some (i, e.val), ?_, ?_⟩
        · rw [hc] at hq
          simp only [Instr.findAsking, hk, Sem.run_bind, hq, Result.andThen_ok, if_true, Sem.run_pure]
        · simp only [isIn, List.any_cons, hc, Bool.true_or, if_true, Option.map_some, hv]

theorem find_key {P : Program} {K : TypeId} (h : NameKey P K) (w : World) (n : ByteArray × Int) (es : List MapEntry) (ns : List (ByteArray × Int)) (he : es.map (fun e => (e.key, e.val)) = ns.map (fun n => (nameV n, Value.bool true))) :
    ∃ r, (Instr.findKey K (nameV n) es).run P w = .ok r w ∧ r.map (·.2) = if isIn ns n then some (Value.bool true) else none := by
  obtain ⟨f0, f1, hu, _⟩ := h.ex
  cases es with
  | nil =>
    cases ns with
    | nil => exact ⟨none, by simp [Instr.findKey, run_underlying hu, Instr.findNow], rfl⟩
    | cons m ns => cases he
  | cons e es =>
    obtain ⟨r, hr, hr2⟩ := find_names h w n (e :: es) ns 0 he
    refine ⟨r, ?_, hr2⟩
    have hk : e.key = nameV (ns.headD n) := by
      cases ns with
      | nil => cases he
      | cons m ns => injection he with h1 _; injection h1
    have hf : Instr.findNow (.struct #[f0, f1]) (nameV n) (e :: es) 0 = none := by
      simp [Instr.findNow, hk, Instr.sameNow]
    simp only [Instr.findKey, Sem.run_bind, run_underlying hu, Result.andThen_ok, hf]
    exact hr

section
variable {P : Program} {w : World} {ops : Array Oper} {rest : List Oper} {o : Oper} {a : Act} {Q : Exit → Act → World → Prop}
/-- 'm[k]' -/
theorem look_name {K : TypeId} (hK0 : NameKey P K) (hg : o.guard = none) (m x : Operand) (t e : TypeId) (hop : o.op = Op.lookup t m x false) (ht : P.underlying t = some (.map K e))
    (hz : ∀ w, (zeroValue e).run P w = .ok (.bool false) w) (b : Nat) (ns : List (ByteArray × Int)) (hm : a.eval m = .map (some b)) (hown : NSet w b ns) (n : ByteArray × Int) (hx : a.eval x = nameV n)
    (hK : wpList P ops Q rest (a.put o.dst (.bool (isIn ns n))) w) : wpList P ops Q (o :: rest) a w := by
  refine wpList_plain hg fun K' hK' => ?_
  obtain ⟨es, clock, hb, he⟩ := hown.ex
  obtain ⟨r, hr, hr2⟩ := find_key hK0 w n es.toList ns he
  have hrun : (Instr.lookup t (.map (some b)) (nameV n) false).run P w = .ok (.bool (isIn ns n)) w := by
    have hck := name_key hK0 w es.isEmpty n
    cases r with
    | none =>
      cases hi : isIn ns n
      · simp [Instr.lookup, run_underlying ht, MapKept.run_getObj_map hb, hck, hr, hz]
      · rw [hi] at hr2; cases hr2
    | some q =>
      cases hi : isIn ns n
      · rw [hi] at hr2; cases hr2
      · rw [hi] at hr2
        have : q.2 = .bool true := by simpa using hr2
        obtain ⟨q1, q2⟩ := q
        subst this
        simp [Instr.lookup, run_underlying ht, MapKept.run_getObj_map hb, hck, hr]
  unfold Oper.wp
  simp [execOp, hop, hm, hx, hrun, Result.andThen]
  exact hK' _ _ hK
/-- 'm[k] = true', k new -/
theorem put_name {K : TypeId} (hK0 : NameKey P K) (hg : o.guard = none) (m x v : Operand) (t e : TypeId) (hop : o.op = Op.mapUpdate t m x v) (ht : P.underlying t = some (.map K e))
    (b : Nat) (ns : List (ByteArray × Int)) (hm : a.eval m = .map (some b)) (hown : NSet w b ns) (n : ByteArray × Int) (hx : a.eval x = nameV n) (hv : a.eval v = .bool true) (hnew : isIn ns n = false)
    (hK : ∀ w', NSet w' b (ns ++ [n]) → w.grownBy w' (some b) → w'.heap.size = w.heap.size → wpList P ops Q rest (a.put o.dst undef) w') : wpList P ops Q (o :: rest) a w := by
  refine wpList_plain hg fun K' hK' => ?_
  obtain ⟨es, clock, hb, he⟩ := hown.ex
  obtain ⟨r, hr, hr2⟩ := find_key hK0 w n es.toList ns he
  rw [hnew] at hr2
  have hrn : r = none := by cases r with
    | none => rfl
    | some q => cases hr2
  subst hrn
  have hck := name_key hK0 w false n
  have hlt := hown.lt
  obtain ⟨w', hw'⟩ : ∃ w', w' = { w with heap := w.heap.setIfInBounds b (.map (es.push { key := nameV n, val := .bool true, born := clock }) (clock + 1)) } := ⟨_, rfl⟩
  have hrun : (Instr.mapUpdate t (.map (some b)) (nameV n) (.bool true)).run P w = .ok () w' := by
    subst hw'
    simp [Instr.mapUpdate, run_underlying ht, MapKept.run_getObj_map hb, MapKept.run_setObj_map _ hb, hck, hr]
  unfold Oper.wp
  simp [execOp, hop, hm, hx, hv, hrun, Result.andThen]
  refine hK' _ _ (hK w' ?_ ?_ ?_)
  · refine ⟨_, clock + 1, by rw [hw']; simp [Array.getElem?_setIfInBounds, hlt]; rfl, ?_⟩
    simp [he]
  · rw [hw']
    refine ⟨rfl, rfl, rfl, by simp, fun k hk hne => ?_⟩
    simp only [Array.getElem?_setIfInBounds]
    rw [if_neg (fun e => hne (by rw [e]))]
  · rw [hw']; simp
end
end Go.Dx
end

/- the text B2 -/
section
/- Chapter 06, in plain Lean: laws on names, on the error of tables, and on where a rule fits. No program in sight. -/
namespace Go.Dx

abbrev nmOf (r : Ru) : ByteArray × Int := (r.text, r.whr)
theorem isIn_eq (l : List Ru) (n : ByteArray × Int) : isIn (l.map nmOf) n = decide ((chars n.1, n.2) ∈ l.map nameOf) := by
  rw [Bool.eq_iff_iff]
  simp only [isIn, List.any_map, List.any_eq_true, decide_eq_true_eq, List.mem_map, nameOf, Function.comp, Bool.and_eq_true, beq_iff_eq, ByteArray.toList_eq, chars, Prod.mk.injEq]
  constructor
  · rintro ⟨r, hr, h1, h2⟩; exact ⟨r, hr, h1.symm, h2.symm⟩
  · rintro ⟨r, hr, h1, h2⟩; exact ⟨r, hr, h1.symm, h2.symm⟩
/-- the first k names are all different -/
def apart (l : List Ru) (k : Nat) : Prop := ((l.take k).map nameOf).Nodup
theorem apart_zero (l : List Ru) : apart l 0 := by simp [apart]
theorem take_succ_get {α : Type} {l : List α} {k : Nat} {x : α} (h : l[k]? = some x) : l.take (k + 1) = l.take k ++ [x] := by
  rw [List.take_add_one, h]; rfl
theorem apart_step {l : List Ru} {k : Nat} {r : Ru} (h : l[k]? = some r) (ha : apart l k) (hn : isIn ((l.take k).map nmOf) (nmOf r) = false) : apart l (k + 1) := by
  rw [isIn_eq] at hn
  simp only [decide_eq_false_iff_not] at hn
  unfold apart at ha ⊢
  rw [take_succ_get h, List.map_append, List.nodup_append]
  refine ⟨ha, by simp, ?_⟩
  intro a h1 b h2 e
  simp only [List.map_cons, List.map_nil, List.mem_singleton] at h2
  subst h2; subst e
  exact hn h1
theorem dup_of {l : List Ru} {k : Nat} {r : Ru} (h : l[k]? = some r) (hn : isIn ((l.take k).map nmOf) (nmOf r) = true) : dupB l = true := by
  rw [isIn_eq] at hn
  simp only [decide_eq_true_eq] at hn
  unfold dupB
  simp only [Bool.not_eq_true', decide_eq_false_iff_not]
  intro hd
  have hk := (List.getElem?_eq_some_iff.1 h).1
  have hs : (l.take (k + 1)).Sublist l := List.take_sublist _ _
  have := (hs.map nameOf).nodup hd
  rw [take_succ_get h, List.map_append, List.nodup_append] at this
  exact this.2.2 _ hn _ (by simp [nameOf]) rfl
theorem apart_all {l : List Ru} (h : apart l l.length) : dupB l = false := by
  unfold apart at h
  rw [List.take_length] at h
  simp [dupB, h]
theorem own_in (l : List Ru) (c : UInt8) (s : ByteArray) (hs : chars s = [c]) : isIn (l.map nmOf) (s, 0) = ownB l c := by
  rw [isIn_eq]
  simp only [hs, ownB]
/-- the first k letters have rules of their own in both languages -/
def ownTo (l : List Ru) (k : Nat) : Prop := ∀ j, j < k → ownB l (UInt8.ofNat (97 + j)) = true
theorem ownTo_step {l : List Ru} {k : Nat} (h : ownTo l k) (h2 : ownB l (UInt8.ofNat (97 + k)) = true) : ownTo l (k + 1) := by
  intro j hj
  by_cases e : j = k
  · subst e; exact h2
  · exact h j (by omega)
theorem miss_of {l : List Ru} {k : Nat} (hk : k < 26) (h : ownB l (UInt8.ofNat (97 + k)) = false) : missB l = true := by
  unfold missB
  rw [List.any_eq_true]
  exact ⟨k, by simpa using hk, by rw [h]; rfl⟩
theorem miss_no {l : List Ru} (h : ownTo l 26) : missB l = false := by
  unfold missB
  rw [List.any_eq_false]
  intro k hk
  rw [h k (by simpa using hk)]; simp

/-- 'i is a place of a letter in the language g' -/
def inAt (l : List Sy) (g : Int) (i : Int) : Bool := decide (0 ≤ i) && match l[i.toNat]? with
  | some x => decide (x.lang = g) && isL x.c
  | none => false
structure IsLo (l : List Sy) (g : Int) (i a : Int) : Prop where
  le : a ≤ i
  all : ∀ j, a ≤ j → j < i → inAt l g j = true
  no : inAt l g (a - 1) = false
structure IsHi (l : List Sy) (g : Int) (i b : Int) : Prop where
  le : i ≤ b
  all : ∀ j, i ≤ j → j < b → inAt l g j = true
  no : inAt l g b = false
theorem lo_cmp {l : List Sy} {g : Int} {i a : Int} (h : IsLo l g i a) : decide (a < i) = inAt l g (i - 1) := by
  cases hi : inAt l g (i - 1)
  · have : ¬ a < i := fun hl => by rw [h.all (i - 1) (by omega) (by omega)] at hi; cases hi
    simp [this]
  · have : a < i := by
      have := h.le
      have hn := h.no
      by_cases e : a = i
      · rw [e, hi] at hn; cases hn
      · omega
    simp [this]
theorem hi_cmp {l : List Sy} {g : Int} {i b : Int} (h : IsHi l g i b) (n : Nat) (hn : ∀ j, i ≤ j → j < i + n → inAt l g j = true) : i + n ≤ b ∧ decide (i + n < b) = inAt l g (i + n) := by
  have hb : i + n ≤ b := by
    have h1 := h.no
    have h2 := h.le
    by_cases e : b < i + n
    · rw [hn b h2 e] at h1; cases h1
    · omega
  refine ⟨hb, ?_⟩
  cases hi : inAt l g (i + n)
  · have : ¬ i + n < b := fun hl => by rw [h.all (i + n) (by omega) hl] at hi; cases hi
    simp [this]
  · have : i + n < b := by
      have hn := h.no
      by_cases e : b = i + n
      · rw [e, hi] at hn; cases hn
      · omega
    simp [this]
theorem inAt_nat (l : List Sy) (g : Int) (k : Nat) : inAt l g (k : Int) = match l[k]? with
  | some x => decide (x.lang = g) && isL x.c
  | none => false := by
  unfold inAt
  simp
theorem isS_low {c : UInt8} (h : isS (low c) = true) : isL c = true := by
  unfold low at h
  by_cases hc : isC c = true
  · simp [isL, hc]
  · rw [if_neg hc] at h
    simp [isL, h]
theorem same_letters {g : Int} : ∀ (s : List UInt8) (b : Bool) (l : List Sy), sameAt g b s l = true → s.all isS = true → ∀ j, j < s.length → ∃ x, l[j]? = some x ∧ x.lang = g ∧ isL x.c = true := by
  intro s
  induction s with
  | nil => intro b l _ _ j hj; cases hj
  | cons u s ih =>
    intro b l h hs j hj
    cases l with
    | nil => cases h
    | cons x l =>
      simp only [sameAt, Bool.and_eq_true, decide_eq_true_eq] at h
      obtain ⟨⟨⟨h1, h2⟩, h3⟩, h4⟩ := h
      rw [List.all_cons, Bool.and_eq_true] at hs
      cases j with
      | zero => exact ⟨x, rfl, h2, isS_low (by rw [h1]; exact hs.1)⟩
      | succ j =>
        obtain ⟨y, hy, h5⟩ := ih false l h4 hs.2 j (by simpa using hj)
        exact ⟨y, by simpa using hy, h5⟩
/-- what the program asks of the word at a place is what the reference asks -/
theorem place_eq {r : Ru} {l : List Sy} {i : Nat} {x : Sy} (hx : l[i]? = some x) (hs : sameAt x.lang true (chars r.text) (l.drop i) = true) (hm : small r.text = true) (h1 : 1 ≤ r.text.size)
    {a b : Int} (ha : IsLo l x.lang i a) (hb : IsHi l x.lang i b) :
    inWord l i = decide (a < (i : Int)) ∧ (i : Int) + r.text.size ≤ b ∧ inWord l (i + r.text.size) = decide ((i : Int) + r.text.size < b) := by
  have hlen : (chars r.text).length = r.text.size := Array.length_toList
  have hin : ∀ j, j < r.text.size → ∃ y, l[i + j]? = some y ∧ y.lang = x.lang ∧ isL y.c = true := by
    intro j hj
    obtain ⟨y, hy, h2⟩ := same_letters _ _ _ hs hm j (by rw [hlen]; exact hj)
    exact ⟨y, by rw [← List.getElem?_drop]; exact hy, h2⟩
  have hall : ∀ j, (i : Int) ≤ j → j < (i : Int) + r.text.size → inAt l x.lang j = true := by
    intro j h2 h3
    obtain ⟨y, hy, h4, h5⟩ := hin (j - i).toNat (by omega)
    have e : j = ((i + (j - i).toNat : Nat) : Int) := by omega
    rw [e, inAt_nat, hy]
    simp [h4, h5]
  obtain ⟨hb1, hb2⟩ := hi_cmp hb r.text.size hall
  obtain ⟨y0, hy0, g0, k0⟩ := hin 0 (by omega)
  rw [Nat.add_zero, hx] at hy0
  obtain rfl := Option.some.inj hy0
  refine ⟨?_, hb1, ?_⟩
  · rw [lo_cmp ha]
    cases i with
    | zero => simp [inWord, inAt]
    | succ k =>
      have e : ((k + 1 : Nat) : Int) - 1 = (k : Int) := by omega
      rw [e, inAt_nat]
      simp only [inWord, hx]
      cases l[k]? with
      | none => rfl
      | some z => simp only [k0, Bool.and_true]; rw [Bool.and_comm]
  · rw [hb2]
    obtain ⟨z, hz, g1, k1⟩ := hin (r.text.size - 1) (by omega)
    have e1 : i + r.text.size = (i + (r.text.size - 1)) + 1 := by omega
    have e2 : (i : Int) + r.text.size = (((i + (r.text.size - 1)) + 1 : Nat) : Int) := by omega
    rw [e2, inAt_nat, e1]
    simp only [inWord, hz]
    cases hq : l[i + (r.text.size - 1) + 1]? with
    | none => rfl
    | some q =>
      simp only [g1]
      rw [k1, Bool.true_and, Bool.and_comm]
      congr 1
      rw [decide_eq_decide]
      exact ⟨fun h => h.symm, fun h => h.symm⟩
theorem same_len {g : Int} : ∀ (s : List UInt8) (b : Bool) (l : List Sy), sameAt g b s l = true → s.length ≤ l.length := by
  intro s
  induction s with
  | nil => intro b l _; exact Nat.zero_le _
  | cons u s ih =>
    intro b l h
    cases l with
    | nil => cases h
    | cons x l =>
      simp only [sameAt, Bool.and_eq_true] at h
      have := ih false l h.2
      simp; omega
end Go.Dx
end

/- the text B3 -/
section
/- Chapter 06, in plain Lean: what the steps of valid tables are like (Always). No program in sight. -/
namespace Go.Dx

theorem ruleSteps_mem (t : Ta) (s : St) (x : Sy) (l : List Sy) (i : Nat) : ∀ (rs : List Ru) (k : Nat) (st : Stp), st ∈ ruleSteps t s x l i k rs →
    ∃ r, r ∈ rs ∧ fitsB r l i = true ∧ st.dst = ⟨x.lang, false, isL x.c⟩ ∧ st.len = (r.text.size : Int) ∧ st.cells = headC t s x ++ r.cells := by
  intro rs
  induction rs with
  | nil => intro k st h; cases h
  | cons r rs ih =>
    intro k st h
    simp only [ruleSteps, List.mem_append] at h
    rcases h with h | h
    · by_cases hf : fitsB r l i = true
      · rw [if_pos hf, List.mem_singleton] at h
        subst h
        exact ⟨r, by simp, hf, rfl, rfl, rfl⟩
      · rw [if_neg hf] at h; cases h
    · obtain ⟨q, hq, h2⟩ := ih (k + 1) st h
      exact ⟨q, List.mem_cons_of_mem _ hq, h2⟩
theorem ruleSteps_some (t : Ta) (s : St) (x : Sy) (l : List Sy) (i : Nat) : ∀ (rs : List Ru) (k : Nat), (∃ r, r ∈ rs ∧ fitsB r l i = true) → ruleSteps t s x l i k rs ≠ [] := by
  intro rs
  induction rs with
  | nil => rintro k ⟨r, h, _⟩; cases h
  | cons r rs ih =>
    rintro k ⟨q, hq, hf⟩ he
    simp only [ruleSteps, List.append_eq_nil_iff] at he
    rcases List.mem_cons.1 hq with rfl | hq
    · rw [if_pos hf] at he; exact absurd he.1 (by simp)
    · exact ih (k + 1) ⟨q, hq, hf⟩ he.2

theorem valid_parts {t : Ta} (h : validE t = 0) : t.l0.length ≤ 96 ∧ t.l1.length ≤ 96 ∧ goodT t = true ∧ dupB t.l0 = false ∧ dupB t.l1 = false ∧ missB t.l0 = false ∧ missB t.l1 = false := by
  unfold validE at h
  split at h
  · cases h
  · rename_i h1
    split at h
    · cases h
    · rename_i h2
      split at h
      · cases h
      · rename_i h3
        split at h
        · cases h
        · rename_i h4
          simp only [Bool.or_eq_true, not_or, Bool.not_eq_true] at h2 h3 h4
          refine ⟨by omega, by omega, by simpa using h2, h3.1, h3.2, h4.1, h4.2⟩
theorem good_parts {t : Ta} (h : goodT t = true) : t.dig.length = 10 ∧ indic t.cap = true ∧ indic t.num = true ∧ indic t.fin = true ∧ indic t.sw = true ∧ (∀ r ∈ t.l0, ruOk r = true) ∧ (∀ r ∈ t.l1, ruOk r = true) := by
  unfold goodT at h
  simp only [Bool.and_eq_true, decide_eq_true_eq, List.all_eq_true] at h
  obtain ⟨⟨⟨⟨⟨⟨⟨h1, _⟩, h2⟩, h3⟩, h4⟩, h5⟩, h6⟩, h7⟩ := h
  exact ⟨h1, h2, h3, h4, h5, h6, h7⟩
theorem lang_ok {t : Ta} (h : goodT t = true) (g : Int) : ∀ r ∈ langOf t g, ruOk r = true := by
  intro r hr
  obtain ⟨_, _, _, _, _, h0, h1⟩ := good_parts h
  unfold langOf at hr
  split at hr
  · exact h0 r hr
  · exact h1 r hr
theorem ru_parts {r : Ru} (h : ruOk r = true) : 1 ≤ r.text.size ∧ r.text.size ≤ 8 ∧ 0 ≤ r.whr ∧ r.whr ≤ 3 ∧ indic r.cells = true ∧ (small r.text = true ∨ oneMark r.text = true ∧ r.whr = 0) := by
  unfold ruOk at h
  simp only [Bool.and_eq_true, Bool.or_eq_true, decide_eq_true_eq] at h
  obtain ⟨⟨⟨⟨⟨h1, h2⟩, h3⟩, h4⟩, h5⟩, h6⟩ := h
  exact ⟨h1, h2, h3, h4, h5, h6⟩
theorem indic_pos {l : List UInt8} (h : indic l = true) : l ≠ [] := by
  unfold indic at h
  simp only [Bool.and_eq_true, decide_eq_true_eq] at h
  intro e
  rw [e] at h
  simp at h
theorem indic_le {l : List UInt8} (h : indic l = true) : l.length ≤ 4 := by
  unfold indic at h
  simp only [Bool.and_eq_true, decide_eq_true_eq] at h
  exact h.1.2
theorem own_fits {l : List Ru} {x : Sy} (h : ownB l (low x.c) = true) {L : List Sy} {i : Nat} (hx : L[i]? = some x) : ∃ r, r ∈ l ∧ fitsB r L i = true := by
  unfold ownB at h
  simp only [decide_eq_true_eq, List.mem_map, nameOf, Prod.mk.injEq] at h
  obtain ⟨r, hr, h1, h2⟩ := h
  refine ⟨r, hr, ?_⟩
  have hi := (List.getElem?_eq_some_iff.1 hx).1
  have hd : L.drop i = x :: L.drop (i + 1) := by
    rw [List.drop_eq_getElem_cons hi]
    congr 1
    have := (List.getElem?_eq_some_iff.1 hx).2
    exact this
  unfold fitsB placeOk
  rw [hx]
  simp [h1, hd, sameAt, h2]
/-- the other characters for which all tables of the chapter have a rule -/
def isM (c : UInt8) : Bool := decide (c ∈ ([32, 46, 44, 63, 39, 45] : List UInt8))
structure GoodTa (t : Ta) : Prop where
  ok : validE t = 0
  mark : ∀ g c, isM c = true → ownB (langOf t g) c = true
def plainSy (x : Sy) : Bool := symOk x && (isL x.c || isD x.c || isM x.c)
theorem low_small {c : UInt8} (h : isL c = true) : isS (low c) = true := by
  revert h
  have : ∀ c : UInt8, isL c = true → isS (low c) = true := by
    intro c
    rw [← UInt8.ofNat_toNat (x := c)]
    have hc := c.toNat_lt
    generalize c.toNat = n at hc ⊢
    revert n
    decide +kernel
  exact this c
theorem mark_low {c : UInt8} (h : isM c = true) : low c = c := by
  unfold isM at h
  simp only [List.mem_cons, List.not_mem_nil, or_false, decide_eq_true_eq] at h
  rcases h with rfl | rfl | rfl | rfl | rfl | rfl <;> decide
theorem own_small {l : List Ru} (h : missB l = false) {c : UInt8} (hc : isS c = true) : ownB l c = true := by
  unfold missB at h
  rw [List.any_eq_false] at h
  unfold isS at hc
  simp only [Bool.and_eq_true, decide_eq_true_eq] at hc
  have := h (c.toNat - 97) (by simp; omega)
  have e : 97 + (c.toNat - 97) = c.toNat := by omega
  rw [e, UInt8.ofNat_toNat] at this
  simpa using this
theorem miss_lang {t : Ta} (h : validE t = 0) (g : Int) : missB (langOf t g) = false := by
  obtain ⟨_, _, _, _, _, h0, h1⟩ := valid_parts h
  unfold langOf
  split
  · exact h0
  · exact h1
theorem some_rule {t : Ta} (ht : GoodTa t) {L : List Sy} {i : Nat} {x : Sy} (hx : L[i]? = some x) (hp : isL x.c = true ∨ isM x.c = true) (g : Int) : ∃ r, r ∈ langOf t g ∧ fitsB r L i = true := by
  refine own_fits ?_ hx
  rcases hp with h | h
  · exact own_small (miss_lang ht.ok g) (low_small h)
  · rw [mark_low h]; exact ht.mark g _ h
theorem steps_at {t : Ta} (ht : validE t = 0) {s : St} (hs : s.lang = 0 ∨ s.lang = 1) {l : List Sy} (hl : goodS l = true) {i : Nat} {x : Sy} (hx : l[i]? = some x) : stepsL t s l i = nextL t s l i x := by
  unfold stepsL
  rw [if_pos ⟨ht, hs, by omega, hl⟩]
  simp [hx]
theorem next_some {t : Ta} (ht : GoodTa t) (s : St) {l : List Sy} {i : Nat} {x : Sy} (hx : l[i]? = some x) (hp : plainSy x = true) : nextL t s l i x ≠ [] := by
  unfold nextL
  split
  · simp
  · split
    · simp
    · rename_i hd
      refine ruleSteps_some _ _ _ _ _ _ _ (some_rule ht hx ?_ _)
      unfold plainSy at hp
      simp only [Bool.and_eq_true, Bool.or_eq_true] at hp
      rcases hp.2 with (h | h) | h
      · exact .inl h
      · exact absurd h hd
      · exact .inr h
theorem fits_len {r : Ru} {l : List Sy} {i : Nat} (hi : i < l.length) (h : fitsB r l i = true) : i + r.text.size ≤ l.length := by
  unfold fitsB at h
  rw [List.getElem?_eq_getElem hi] at h
  simp only [Bool.and_eq_true] at h
  have := same_len _ _ _ h.1
  rw [List.length_drop] at this
  have e : (chars r.text).length = r.text.size := Array.length_toList
  omega
/-- what the law asks of a step -/
structure StepOk (t : Ta) (l : List Sy) (i : Nat) (x : Sy) (st : Stp) : Prop where
  pos : 0 ≤ st.len
  le : (i : Int) + st.len ≤ l.length
  cells : st.cells ≠ []
  zero : st.len = 0 → st.dst.lang = x.lang ∧ nextL t st.dst l i x ≠ [] ∧ ∀ q ∈ nextL t st.dst l i x, q.len ≠ 0
theorem rule_len {t : Ta} (ht : validE t = 0) {s : St} {l : List Sy} {i : Nat} {x : Sy} {g : Int} : ∀ q ∈ ruleSteps t s x l i 0 (langOf t g), 1 ≤ q.len ∧ q.cells ≠ [] := by
  intro q hq
  obtain ⟨r, hr, _, _, h2, h3⟩ := ruleSteps_mem _ _ _ _ _ _ _ _ hq
  have hg := (valid_parts ht).2.2.1
  have := ru_parts (lang_ok hg g r hr)
  refine ⟨by rw [h2]; omega, ?_⟩
  rw [h3]
  intro e
  rw [List.append_eq_nil_iff] at e
  exact indic_pos this.2.2.2.2.1 e.2
theorem next_ok {t : Ta} (ht : GoodTa t) (s : St) {l : List Sy} {i : Nat} {x : Sy} (hx : l[i]? = some x) (hp : plainSy x = true) : ∀ st ∈ nextL t s l i x, StepOk t l i x st := by
  intro st hst
  have hi := (List.getElem?_eq_some_iff.1 hx).1
  unfold nextL at hst
  split at hst
  · rw [List.mem_singleton] at hst
    subst hst
    refine ⟨Int.le_refl _, by simp; omega, ?_, fun _ => ⟨rfl, next_some ht _ hx hp, ?_⟩⟩
    · exact indic_pos (good_parts (valid_parts ht.ok).2.2.1).2.2.2.2.1
    · intro q hq
      unfold nextL at hq
      rw [if_neg (by simp)] at hq
      split at hq
      · rw [List.mem_singleton] at hq; subst hq; simp
      · have := (rule_len ht.ok q hq).1; omega
  · split at hst
    · rw [List.mem_singleton] at hst
      subst hst
      refine ⟨by simp, by simp; omega, by simp, fun h => by simp at h⟩
    · have h1 := rule_len ht.ok st hst
      obtain ⟨r, hr, hf, _, h2, _⟩ := ruleSteps_mem _ _ _ _ _ _ _ _ hst
      have := fits_len hi hf
      exact ⟨by omega, by rw [h2]; omega, h1.2, fun h => by omega⟩
end Go.Dx
end

/- the text B4 -/
section
/- Chapter 06, in plain Lean: the steps hang on the word alone (Local). No program in sight. -/
namespace Go.Dx

/-- no letter of the language g -/
def noL (g : Int) (y : Sy) : Prop := ¬ (y.lang = g ∧ isL y.c = true)
def stopB (g : Int) (B : List Sy) : Prop := ∀ y, B[0]? = some y → noL g y
def stopP (g : Int) (P : List Sy) : Prop := ∀ y, P[P.length - 1]? = some y → noL g y
def wordA (g : Int) (A : List Sy) : Prop := ∀ y, y ∈ A → y.lang = g ∧ isL y.c = true

theorem same_cut {g : Int} {B : List Sy} (hB : stopB g B) : ∀ (s : List UInt8) (b : Bool) (A : List Sy), s.all isS = true → sameAt g b s (A ++ B) = sameAt g b s A := by
  intro s
  induction s with
  | nil => intro b A _; cases A <;> cases B <;> rfl
  | cons u s ih =>
    intro b A hs
    rw [List.all_cons, Bool.and_eq_true] at hs
    cases A with
    | nil =>
      cases B with
      | nil => rfl
      | cons y B =>
        have hy := hB y rfl
        simp only [List.nil_append, sameAt]
        by_cases h : low y.c = u ∧ y.lang = g
        · exact absurd ⟨h.2, isS_low (by rw [h.1]; exact hs.1)⟩ hy
        · by_cases h1 : low y.c = u
          · have h2 : y.lang ≠ g := fun e => h ⟨h1, e⟩
            simp [h2]
          · simp [h1]
    | cons x A =>
      simp only [List.cons_append, sameAt, ih false A hs.2]
theorem inWord_of {L : List Sy} {k : Nat} {x y : Sy} (h1 : L[k]? = some x) (h2 : L[k + 1]? = some y) : inWord L (k + 1) = (isL x.c && isL y.c && decide (x.lang = y.lang)) := by
  simp only [inWord, h1, h2]
theorem win {g : Int} {P A B : List Sy} (hP : stopP g P) (hA : wordA g A) (hB : stopB g B) {j : Nat} (hj : j ≤ A.length) (h0 : 0 < A.length) : inWord (P ++ (A ++ B)) (P.length + j) = decide (0 < j ∧ j < A.length) := by
  cases j with
  | zero =>
    simp only [Nat.add_zero, Nat.lt_irrefl, false_and, decide_false]
    cases hp : P.length with
    | zero => rfl
    | succ k =>
      have hk : k < P.length := by omega
      have e1 : (P ++ (A ++ B))[k]? = some P[k] := by rw [List.getElem?_append_left hk]; simp [hk]
      have e2 : (P ++ (A ++ B))[k + 1]? = some A[0] := by
        rw [List.getElem?_append_right (by omega), List.getElem?_append_left (by omega)]
        have : k + 1 - P.length = 0 := by omega
        rw [this]; simp [h0]
      rw [inWord_of e1 e2]
      have hn := hP P[k] (by rw [hp]; simp [hk])
      have ha := hA A[0] (List.getElem_mem _)
      cases hq : isL P[k].c
      · rfl
      · have : P[k].lang ≠ g := fun e => hn ⟨e, hq⟩
        simp [ha.1, this]
  | succ j =>
    have hj1 : j < A.length := by omega
    have e1 : (P ++ (A ++ B))[P.length + j]? = some A[j] := by
      rw [List.getElem?_append_right (by omega), Nat.add_sub_cancel_left, List.getElem?_append_left hj1]; simp [hj1]
    have ha := hA A[j] (List.getElem_mem _)
    rw [← Nat.add_assoc]
    by_cases hl : j + 1 < A.length
    · have e2 : (P ++ (A ++ B))[P.length + j + 1]? = some A[j + 1] := by
        rw [Nat.add_assoc, List.getElem?_append_right (by omega), Nat.add_sub_cancel_left, List.getElem?_append_left hl]; simp [hl]
      have hb := hA A[j + 1] (List.getElem_mem _)
      rw [inWord_of e1 e2]
      simp [ha.1, ha.2, hb.1, hb.2, hl]
    · have e : j + 1 = A.length := by omega
      have hd : decide (0 < j + 1 ∧ j + 1 < A.length) = false := by simp; omega
      rw [hd]
      have e2 : (P ++ (A ++ B))[P.length + j + 1]? = B[0]? := by
        rw [Nat.add_assoc, List.getElem?_append_right (by omega), Nat.add_sub_cancel_left, List.getElem?_append_right (by omega)]
        rw [e, Nat.sub_self]
      cases hb : B[0]? with
      | none => rw [hb] at e2; simp only [inWord, e1, e2]
      | some y =>
        rw [hb] at e2
        rw [inWord_of e1 e2, ha.1, ha.2]
        have hn := hB y hb
        cases hq : isL y.c
        · rfl
        · have : g ≠ y.lang := fun e => hn ⟨e.symm, hq⟩
          simp [this]
def winPlace (r : Ru) (j n : Nat) : Bool :=
  if r.whr = 1 then !decide (0 < j ∧ j < n) && !decide (0 < j + r.text.size ∧ j + r.text.size < n) else if r.whr = 2 then !decide (0 < j ∧ j < n) && decide (0 < j + r.text.size ∧ j + r.text.size < n) else if r.whr = 3 then decide (0 < j ∧ j < n) else true
/-- whether a rule fits, told by the word alone -/
def winFit (r : Ru) (A : List Sy) (j : Nat) (x : Sy) : Bool :=
  if small r.text then isL x.c && sameAt x.lang true (chars r.text) (A.drop j) && winPlace r j A.length else decide (chars r.text = [low x.c])
theorem fits_window {r : Ru} (hr : ruOk r = true) {P A B : List Sy} {x : Sy} {j : Nat} (hx : A[j]? = some x) (hw : isL x.c = true → stopP x.lang P ∧ wordA x.lang A ∧ stopB x.lang B) :
    fitsB r (P ++ (A ++ B)) (P.length + j) = winFit r A j x := by
  have hj := (List.getElem?_eq_some_iff.1 hx).1
  have hL : (P ++ (A ++ B))[P.length + j]? = some x := by
    rw [List.getElem?_append_right (by omega), Nat.add_sub_cancel_left, List.getElem?_append_left hj]; exact hx
  have hd : (P ++ (A ++ B)).drop (P.length + j) = A.drop j ++ B := by
    rw [List.drop_append, List.drop_of_length_le (by omega), List.nil_append, Nat.add_sub_cancel_left, List.drop_append_of_le_length (by omega)]
  have hdx : A.drop j = x :: A.drop (j + 1) := by
    rw [List.drop_eq_getElem_cons hj]
    congr 1
    exact (List.getElem?_eq_some_iff.1 hx).2
  obtain ⟨h1, _, _, _, _, hs⟩ := ru_parts hr
  have hlen : (chars r.text).length = r.text.size := Array.length_toList
  unfold fitsB winFit placeOk
  rw [hL, hd]
  by_cases hsm : small r.text = true
  · rw [if_pos hsm, hsm]
    simp only [Bool.not_true, Bool.false_or]
    by_cases hl : isL x.c = true
    · obtain ⟨hP, hA, hB⟩ := hw hl
      rw [same_cut hB _ _ _ hsm, hl, Bool.true_and]
      cases hq : sameAt x.lang true (chars r.text) (A.drop j)
      · rfl
      · have h3 := same_len _ _ _ hq
        rw [List.length_drop, hlen] at h3
        have w1 := win hP hA hB (j := j) (by omega) (by omega)
        have w2 := win hP hA hB (j := j + r.text.size) (by omega) (by omega)
        rw [← Nat.add_assoc] at w2
        rw [w1, w2]
        rfl
    · have hf : sameAt x.lang true (chars r.text) (A.drop j ++ B) = false := by
        rw [hdx]
        cases hc : chars r.text with
        | nil => rw [hc] at hlen; simp at hlen; omega
        | cons u s =>
          unfold small at hsm
          rw [hc, List.all_cons, Bool.and_eq_true] at hsm
          simp only [List.cons_append, sameAt]
          have : low x.c ≠ u := fun e => hl (isS_low (by rw [e]; exact hsm.1))
          simp [this]
      rw [hf]
      cases hq : isL x.c
      · rfl
      · exact absurd hq hl
  · rw [if_neg hsm]
    rcases hs with hs | ⟨hs, h0⟩
    · exact absurd hs hsm
    · unfold oneMark at hs
      cases hc : chars r.text with
      | nil => rw [hc] at hs; cases hs
      | cons u s =>
        cases s with
        | nil =>
          have hf : small r.text = false := by simpa using hsm
          rw [hdx, hf]
          simp only [List.cons_append, sameAt, Bool.not_false, Bool.true_or, Bool.and_true, decide_true]
          rw [decide_eq_decide]
          simp [eq_comm]
        | cons v s => rw [hc] at hs; cases hs
theorem rules_window {t : Ta} {s : St} {x : Sy} {L L' : List Sy} {i i' : Nat} : ∀ (rs : List Ru) (k : Nat), (∀ r ∈ rs, fitsB r L i = fitsB r L' i') → ruleSteps t s x L i k rs = ruleSteps t s x L' i' k rs := by
  intro rs
  induction rs with
  | nil => intro k _; rfl
  | cons r rs ih =>
    intro k h
    simp only [ruleSteps]
    rw [h r (by simp), ih (k + 1) (fun q hq => h q (List.mem_cons_of_mem _ hq))]
theorem local_next {t : Ta} (ht : validE t = 0) {s : St} {P A B P' B' : List Sy} {x : Sy} {j : Nat} (hx : A[j]? = some x) (hw : isL x.c = true → stopP x.lang P ∧ wordA x.lang A ∧ stopB x.lang B)
    (hw' : isL x.c = true → stopP x.lang P' ∧ wordA x.lang A ∧ stopB x.lang B') : nextL t s (P ++ (A ++ B)) (P.length + j) x = nextL t s (P' ++ (A ++ B')) (P'.length + j) x := by
  unfold nextL
  split
  · rfl
  · split
    · rfl
    · refine rules_window _ _ fun r hr => ?_
      have hok := lang_ok (valid_parts ht).2.2.1 _ r hr
      rw [fits_window hok hx hw, fits_window hok hx hw']
theorem blank_stop (g : Int) : isL 32 = false := by decide
theorem stop_blank (g h : Int) (M : List Sy) : stopB g (⟨h, 32⟩ :: M) := by
  intro y hy
  cases hy
  intro hn
  exact absurd hn.2 (by rw [show isL (32 : UInt8) = false by decide]; simp)
theorem stop_blankP (g h : Int) (K : List Sy) : stopP g (K ++ [⟨h, 32⟩]) := by
  intro y hy
  rw [List.length_append, List.length_singleton, Nat.add_sub_cancel, List.getElem?_append_right (Nat.le_refl _), Nat.sub_self] at hy
  cases hy
  intro hn
  exact absurd hn.2 (by rw [show isL (32 : UInt8) = false by decide]; simp)
end Go.Dx
end

/- the text Ops -/
section
/- Laws of the walk in terms of 'Sl': an index, a cut, a conversion. No program in sight. -/
set_option linter.unusedVariables false
namespace Go.Dx
open Go.RowKit

theorem sl_add {p : Addr} (i j : Nat) : (p.add i).add j = p.add (i + j) := by
  unfold Addr.add
  by_cases hi : i = 0
  · subst hi; simp
  · by_cases hj : j = 0
    · subst hj; simp
    · simp [hi, hj]; omega

theorem Sl.cut {w : World} {sz : Nat} {a : Option Addr} {n c : Nat} {cs : List Value} (h : Sl w sz a n c cs) (l u : Nat) (hl : l ≤ u) (hu : u ≤ n) :
    Sl w sz (if c = l then a else a.map (·.add (l * sz))) (u - l) (c - l) ((cs.drop (l * sz)).take ((u - l) * sz)) := by
  have h1 := h.len
  have h2 := h.le
  have h3 := h.cap
  have hm : u * sz ≤ n * sz := Nat.mul_le_mul_right _ hu
  have hm2 : l * sz ≤ u * sz := Nat.mul_le_mul_right _ hl
  have hsub : (u - l) * sz = u * sz - l * sz := Nat.sub_mul _ _ _
  refine ⟨?_, by omega, by omega, ?_, ?_⟩
  · rw [List.length_take, List.length_drop]; omega
  · intro ha
    by_cases hc : c = l
    · omega
    · rw [if_neg hc] at ha
      cases a with
      | none => have := h.nil rfl; omega
      | some p => cases ha
  · intro p hp j v hj
    rw [List.getElem?_take] at hj
    split at hj
    · rename_i hlt
      rw [List.getElem?_drop] at hj
      by_cases hc : c = l
      · have : (u - l) * sz = 0 := by have : u - l = 0 := by omega
                                      rw [this, Nat.zero_mul]
        omega
      · rw [if_neg hc] at hp
        cases a with
        | none => cases hp
        | some q =>
          simp only [Option.map_some, Option.some.injEq] at hp
          subst hp
          rw [sl_add]
          exact h.cell q rfl _ _ hj
    · cases hj

theorem Sl.fresh (w : World) (e : TypeId) (sz n : Nat) (us : List Value) (hn : us.length = n * sz) (hm : n ≤ maxLen) : Sl (w.alloc (.cells us.toArray e)) sz (some ⟨w.heap.size, 0, none⟩) n n us :=
  ⟨hn, Nat.le_refl _, hm, (fun h => by cases h), fun p hp j u hj => by
    cases hp
    rw [Addr.add_lit, Nat.zero_add, cell_of_row _ w.heap.size j us.toArray e _ (heap_alloc_new w _)]
    simpa using hj⟩

section ops
variable {P : Program} {w : World} {ops : Array Oper} {rest : List Oper} {act : Act} {Q : Exit → Act → World → Prop}
  {ty : TypeId} {pos : String} {after : Array Edge}

/-- 'xs[i]', the address: a cell that holds u. -/
theorem index_sl (d : Nat) (t : TypeId) (x y : Operand) (e : TypeId) (ht : P.underlying t = some (.slice e)) (hsz : (P.info? e).map (·.size) = some 1)
    (a : Option Addr) (n c : Nat) (cs : List Value) (hx : act.eval x = .slice a n c) (hs : Sl w 1 a n c cs) (k : IntKind) (iv : Int) (i : Nat) (hy : act.eval y = .int k iv) (hiv : iv = (i : Int))
    (u : Value) (hu : cs[i]? = some u)
    (hK : ∀ b o, w.cell? ⟨b, o, none⟩ = some u → b < w.heap.size → wpList P ops Q rest (act.put (some d) (.pointer (some ⟨b, o, none⟩))) w) :
    wpList P ops Q ({ dst := some d, op := .indexAddr t x y, type := ty, pos := pos, after := after, guard := none } :: rest) act w := by
  refine wpList_plain rfl fun K hK' => ?_
  have hil : i < cs.length := (List.getElem?_eq_some_iff.1 hu).1
  have hn : i < n := by have := hs.len; omega
  obtain ⟨b, o, rfl, hb, hc⟩ := hs.ex (by omega)
  obtain ⟨i0, hi0, hs0⟩ := Option.map_eq_some_iff.1 hsz
  subst hiv
  have hrun : (Instr.indexAt t (.slice (some ⟨b, o, none⟩) n c) (.int k (i : Int))).run P w = .ok (.pointer (some ⟨b, o + i, none⟩)) w := by
    simp [Instr.indexAt, asIntOf, run_underlying ht, sizeOf, typeInfo, hi0, hs0, hn, Addr.add_lit]
  unfold Oper.wp
  simp [execOp, hx, hy, hrun, Result.andThen]
  exact hK' _ _ (hK b (o + i) (hc i u hu) hb)

/-- 'xs[l:u]' -/
theorem cut_sl (d : Nat) (t : TypeId) (x lo hi : Operand) (e : TypeId) (ht : P.underlying t = some (.slice e)) (sz : Nat) (hsz : (P.info? e).map (·.size) = some sz)
    (a : Option Addr) (n c : Nat) (cs : List Value) (hx : act.eval x = .slice a n c) (hs : Sl w sz a n c cs) (kl ku : IntKind) (lv uv : Int) (l u : Nat) (hl : act.eval lo = .int kl lv) (hu : act.eval hi = .int ku uv)
    (hlv : lv = (l : Int)) (huv : uv = (u : Int)) (hlu : l ≤ u) (hun : u ≤ n)
    (hK : ∀ a', Sl w sz a' (u - l) (c - l) ((cs.drop (l * sz)).take ((u - l) * sz)) → (∀ p, a' = some p → ∃ q, a = some q ∧ q.block = p.block) → wpList P ops Q rest (act.put (some d) (.slice a' (u - l) (c - l))) w) :
    wpList P ops Q ({ dst := some d, op := .slice t x (some lo) (some hi) none, type := ty, pos := pos, after := after, guard := none } :: rest) act w := by
  refine wpList_plain rfl fun K hK' => ?_
  subst hlv huv
  obtain ⟨i0, hi0, hs0⟩ := Option.map_eq_some_iff.1 hsz
  have hle := hs.le
  have hrun : (Instr.sliceAt t (.slice a n c) (some (.int kl (l : Int))) (some (.int ku (u : Int))) none).run P w = .ok (.slice (if c = l then a else a.map (·.add (l * sz))) (u - l) (c - l)) w := by
    have h2 : (0 : Int) ≤ l ∧ (l : Int) ≤ u := by omega
    have h3 : (0 : Int) ≤ u ∧ (u : Int) ≤ c := by omega
    simp [Instr.sliceAt, Instr.slice, Instr.sliceBounds, Instr.sliceBound, asIntOf, run_underlying ht, sizeOf, typeInfo, hi0, hs0, h2, h3, show u ≤ c by omega, hlu]
  unfold Oper.wp
  simp only [execOp, Option.map_some, Option.map_none, hx, hl, hu, Sem.run_bind, hrun, Result.andThen, Sem.run_pure]
  refine hK' _ _ (hK _ (hs.cut l u hlu hun) ?_)
  intro p hp
  by_cases hc : c = l
  · rw [if_pos hc] at hp; exact ⟨p, hp, rfl⟩
  · rw [if_neg hc] at hp
    cases a with
    | none => cases hp
    | some q =>
      simp only [Option.map_some, Option.some.injEq] at hp
      exact ⟨q, rfl, by rw [← hp]; unfold Addr.add; split <;> rfl⟩

/-- 'xs[l:]' -/
theorem cut_lo (d : Nat) (t : TypeId) (x lo : Operand) (e : TypeId) (ht : P.underlying t = some (.slice e)) (sz : Nat) (hsz : (P.info? e).map (·.size) = some sz)
    (a : Option Addr) (n c : Nat) (cs : List Value) (hx : act.eval x = .slice a n c) (hs : Sl w sz a n c cs) (kl : IntKind) (lv : Int) (l : Nat) (hl : act.eval lo = .int kl lv)
    (hlv : lv = (l : Int)) (hln : l ≤ n)
    (hK : ∀ a', Sl w sz a' (n - l) (c - l) (cs.drop (l * sz)) → (∀ p, a' = some p → ∃ q, a = some q ∧ q.block = p.block) → wpList P ops Q rest (act.put (some d) (.slice a' (n - l) (c - l))) w) :
    wpList P ops Q ({ dst := some d, op := .slice t x (some lo) none none, type := ty, pos := pos, after := after, guard := none } :: rest) act w := by
  refine wpList_plain rfl fun K hK' => ?_
  subst hlv
  obtain ⟨i0, hi0, hs0⟩ := Option.map_eq_some_iff.1 hsz
  have hle := hs.le
  have hrun : (Instr.sliceAt t (.slice a n c) (some (.int kl (l : Int))) none none).run P w = .ok (.slice (if c = l then a else a.map (·.add (l * sz))) (n - l) (c - l)) w := by
    have h2 : (0 : Int) ≤ l ∧ (l : Int) ≤ n := by omega
    simp [Instr.sliceAt, Instr.slice, Instr.sliceBounds, Instr.sliceBound, asIntOf, run_underlying ht, sizeOf, typeInfo, hi0, hs0, h2, hln]
  have hcut := hs.cut l n hln (Nat.le_refl _)
  have e2 : (cs.drop (l * sz)).take ((n - l) * sz) = cs.drop (l * sz) := by
    apply List.take_of_length_le
    have := hs.len
    rw [List.length_drop, this, Nat.sub_mul]; omega
  rw [e2] at hcut
  unfold Oper.wp
  simp only [execOp, Option.map_some, Option.map_none, hx, hl, Sem.run_bind, hrun, Result.andThen, Sem.run_pure]
  refine hK' _ _ (hK _ hcut ?_)
  intro p hp
  by_cases hc : c = l
  · rw [if_pos hc] at hp; exact ⟨p, hp, rfl⟩
  · rw [if_neg hc] at hp
    cases a with
    | none => cases hp
    | some q =>
      simp only [Option.map_some, Option.some.injEq] at hp
      exact ⟨q, rfl, by rw [← hp]; unfold Addr.add; split <;> rfl⟩

/-- 'xs[:u]': the address stays. -/
theorem cut_hi (d : Nat) (t : TypeId) (x hi : Operand) (e : TypeId) (ht : P.underlying t = some (.slice e)) (sz : Nat) (hsz : (P.info? e).map (·.size) = some sz)
    (a : Option Addr) (n c : Nat) (cs : List Value) (hx : act.eval x = .slice a n c) (hs : Sl w sz a n c cs) (ku : IntKind) (uv : Int) (u : Nat) (hu : act.eval hi = .int ku uv)
    (huv : uv = (u : Int)) (hun : u ≤ n)
    (hK : Sl w sz a u c (cs.take (u * sz)) → wpList P ops Q rest (act.put (some d) (.slice a u c)) w) :
    wpList P ops Q ({ dst := some d, op := .slice t x none (some hi) none, type := ty, pos := pos, after := after, guard := none } :: rest) act w := by
  refine wpList_plain rfl fun K hK' => ?_
  subst huv
  obtain ⟨i0, hi0, hs0⟩ := Option.map_eq_some_iff.1 hsz
  have hle := hs.le
  have hrun : (Instr.sliceAt t (.slice a n c) none (some (.int ku (u : Int))) none).run P w = .ok (.slice a u c) w := by
    have h3 : (0 : Int) ≤ u ∧ (u : Int) ≤ c := by omega
    simp [Instr.sliceAt, Instr.slice, Instr.sliceBounds, Instr.sliceBound, asIntOf, run_underlying ht, sizeOf, typeInfo, hi0, h3, show u ≤ c by omega]
    intro _
    cases a with
    | none => rfl
    | some p => simp [Addr.add]
  have hcut := hs.cut 0 u (Nat.zero_le _) hun
  have e2 : (if c = 0 then a else a.map (·.add (0 * sz))) = a := by
    split
    · rfl
    · cases a with
      | none => rfl
      | some p => simp [Addr.add]
  rw [e2] at hcut
  simp only [Nat.sub_zero, Nat.zero_mul, List.drop_zero] at hcut
  unfold Oper.wp
  simp only [execOp, Option.map_some, Option.map_none, hx, hu, Sem.run_bind, hrun, Result.andThen, Sem.run_pure]
  exact hK' _ _ (hK hcut)

/-- 'string(b)' -/
theorem conv_str (d : Nat) (src dst : TypeId) (x : Operand) (e : TypeId) (hsr : P.underlying src = some (.slice e)) (he : P.underlying e = some (.int .u8)) (hd : P.underlying dst = some .string)
    (a : Option Addr) (n c : Nat) (l : List UInt8) (hx : act.eval x = .slice a n c) (hs : Sl w 1 a n c (l.map B8))
    (hK : wpList P ops Q rest (act.put (some d) (.string ⟨l.toArray⟩)) w) :
    wpList P ops Q ({ dst := some d, op := .convert src dst x, type := ty, pos := pos, after := after, guard := none } :: rest) act w := by
  refine wpList_plain rfl fun K hK' => ?_
  obtain rfl := hs.n_eq
  have hrun : (convert src dst (.slice a l.length c)).run P w = .ok (.string ⟨l.toArray⟩) w := by
    cases a with
    | some p =>
      exact run_convert_bytes_back w src dst e p c l hsr he hd (fun j hj => hs.cell p rfl j _ (by simp [hj]))
    | none =>
      have := hs.nil rfl
      have := hs.le
      have hl : l = [] := List.eq_nil_of_length_eq_zero (by omega)
      subst hl
      simp [convert, run_underlying hsr, run_underlying hd, run_underlying he, Conv.bytesToString]
      rfl
  unfold Oper.wp
  simp [execOp, hx, hrun, Result.andThen]
  exact hK' _ _ hK

/-- '[]byte(s)' -/
theorem conv_bytes (d : Nat) (src dst : TypeId) (x : Operand) (e : TypeId) (hsr : P.underlying src = some .string) (hd : P.underlying dst = some (.slice e)) (he : P.underlying e = some (.int .u8))
    (s : ByteArray) (hx : act.eval x = .string s) (hm : s.size ≤ maxLen)
    (hK : ∀ a c w', Sl w' 1 a s.size c (s.data.toList.map B8) → Below w.heap.size w w' → (∀ p, a = some p → w.heap.size ≤ p.block) → wpList P ops Q rest (act.put (some d) (.slice a s.size c)) w') :
    wpList P ops Q ({ dst := some d, op := .convert src dst x, type := ty, pos := pos, after := after, guard := none } :: rest) act w := by
  refine wpList_plain rfl fun K hK' => ?_
  have hrun := run_bytes_of_string (P := P) w src dst e s hsr hd he
  have hge := grownCap_ge w s.size 0 e
  have hcm := grownCap_le_maxLen w s.size 0 e hm
  unfold Oper.wp
  simp only [execOp, hx, Sem.run_bind, hrun, Result.andThen, Sem.run_pure]
  refine hK' _ _ (hK _ _ _ ⟨?_, hge, hcm, (fun h => by cases h), ?_⟩ ((Below.refl _ _).drew.alloc (Nat.le_refl _) _) (fun p hp => by cases hp; exact Nat.le_refl _))
  · rw [List.length_map, Array.length_toList, Nat.mul_one]; rfl
  · intro p hp j u hj
    cases hp
    rw [Addr.add_lit, Nat.zero_add, cell_of_row _ w.heap.size j (bytesRow s (grownCap w s.size 0 e)) e _ (heap_alloc_new w.drew _)]
    have hj2 : j < s.size := by
      have := (List.getElem?_eq_some_iff.1 hj).1
      rw [List.length_map, Array.length_toList] at this
      exact this
    unfold bytesRow
    rw [Array.getElem?_append_left (by rw [Array.size_map]; exact hj2)]
    rw [← hj]
    simp
/-- a whole array or struct is loaded -/
theorem load_agg (d : Nat) (t : TypeId) (x : Operand) (sz : Nat) (hsz : (P.info? t).map (·.size) = some sz) (n e : Nat) (hag : P.underlying t = some (.array n e))
    (p : Addr) (hx : act.eval x = .pointer (some p)) (cs : List Value) (hl : cs.length = sz) (hc : ∀ j u, cs[j]? = some u → w.cell? (p.add j) = some u)
    (hK : wpList P ops Q rest (act.put (some d) (.agg cs.toArray)) w) :
    wpList P ops Q ({ dst := some d, op := .load t x, type := ty, pos := pos, after := after, guard := none } :: rest) act w := by
  refine wpList_plain rfl fun K hK' => ?_
  obtain ⟨i, hi, hs0⟩ := Option.map_eq_some_iff.1 hsz
  subst hs0
  have hrun : (Instr.loadAt t (.pointer (some p))).run P w = .ok (.agg cs.toArray) w := by
    have hl2 := run_loadCells_list (P := P) w p cs hc
    rw [hl] at hl2
    simp [Instr.loadAt, Instr.sureAddr, loadVar, isAgg, run_underlying hag, sizeOf, typeInfo, hi, hl2]
  unfold Oper.wp
  simp [execOp, hx, hrun, Result.andThen]
  exact hK' _ _ hK

/-- a whole value is stored into a block that was laid just before -/
theorem store_fresh (t e : TypeId) (x y : Operand) (sz : Nat) (hsz : (P.info? t).map (·.size) = some sz) (zs : Array Value)
    (hx : act.eval x = .pointer (some ⟨w.heap.size, 0, none⟩)) (v : Value) (cs : List Value) (hy : act.eval y = v) (hv : v.cells = cs.toArray) (hl : cs.length = sz) (hz : zs.size = sz) (h1 : ∀ u ∈ cs, u.oneCell' = true)
    (hK : wpList P ops Q rest act (w.alloc (.cells cs.toArray e))) :
    wpList P ops Q ({ dst := none, op := .store t x y, type := ty, pos := pos, after := after, guard := none } :: rest) act (w.alloc (.cells zs e)) := by
  refine wpList_plain rfl fun K hK' => ?_
  obtain ⟨i, hi, hs0⟩ := Option.map_eq_some_iff.1 hsz
  subst hs0
  have hst := run_storeCells_at P w.heap.size 0 e cs 0 zs (w.alloc (.cells zs e)) (heap_alloc_new w _) (by omega) h1
  simp only [Nat.add_zero, Nat.zero_add, List.take_zero, List.nil_append] at hst
  have hd : zs.toList.drop cs.length = [] := by
    apply List.drop_eq_nil_of_le; rw [Array.length_toList]; omega
  rw [hd, List.append_nil] at hst
  have hset : (w.alloc (.cells zs e)).setRow w.heap.size cs.toArray = w.alloc (.cells cs.toArray e) := by
    unfold World.setRow World.alloc
    congr 1
    apply Array.ext
    · simp
    · intro k h1 h2
      simp only [Array.getElem_modify, Array.getElem_push]
      by_cases h : w.heap.size = k
      · subst h; simp
      · have hk : k < w.heap.size := by simp at h1; omega
        simp [h, hk]
  rw [hset] at hst
  have hrun : (Instr.storeAt t (.pointer (some ⟨w.heap.size, 0, none⟩)) v).run P (w.alloc (.cells zs e)) = .ok () (w.alloc (.cells cs.toArray e)) := by
    simp [Instr.storeAt, Instr.sureAddr, storeVar, sizeOf, typeInfo, hi, hv, hl, hst]
  unfold Oper.wp
  simp [execOp, hx, hy, hrun, Result.andThen]
  exact hK' _ _ hK
end ops
end Go.Dx
end

/- the text B5 -/
section
/- Slices whose elements are structs: what they read as, an element's address, an element loaded whole. No program in sight. -/
set_option linter.unusedVariables false
namespace Go.Dx
open Go.RowKit

section
variable {α : Type} {f : α → List Value} {sz : Nat}
theorem flat_len (hf : ∀ x, (f x).length = sz) : ∀ l : List α, (l.flatMap f).length = l.length * sz
  | [] => by simp
  | x :: l => by rw [List.flatMap_cons, List.length_append, hf, flat_len hf l, List.length_cons, Nat.add_mul]; omega
theorem flat_drop (hf : ∀ x, (f x).length = sz) : ∀ (l : List α) (i : Nat), (l.flatMap f).drop (i * sz) = (l.drop i).flatMap f
  | [], i => by simp
  | x :: l, 0 => by simp
  | x :: l, i + 1 => by
    rw [List.flatMap_cons, List.drop_succ_cons, ← flat_drop hf l i, Nat.add_mul, Nat.one_mul, Nat.add_comm, List.drop_append, hf, Nat.add_sub_cancel_left]
    rw [List.drop_of_length_le (by rw [hf]; omega)]
    rfl
theorem flat_take (hf : ∀ x, (f x).length = sz) : ∀ (l : List α) (i : Nat), (l.flatMap f).take (i * sz) = (l.take i).flatMap f
  | [], i => by simp
  | x :: l, 0 => by simp
  | x :: l, i + 1 => by
    rw [List.flatMap_cons, List.take_succ_cons, List.flatMap_cons, ← flat_take hf l i, Nat.add_mul, Nat.one_mul, Nat.add_comm, List.take_append, hf, Nat.add_sub_cancel_left]
    rw [List.take_of_length_le (by rw [hf]; omega)]
theorem flat_get (hf : ∀ x, (f x).length = sz) {l : List α} {i : Nat} {x : α} (hx : l[i]? = some x) {j : Nat} (hj : j < sz) : (l.flatMap f)[i * sz + j]? = (f x)[j]? := by
  have hi := (List.getElem?_eq_some_iff.1 hx).1
  rw [← List.getElem?_drop, flat_drop hf, List.drop_eq_getElem_cons hi, List.flatMap_cons, List.getElem?_append_left (by rw [hf]; exact hj), (List.getElem?_eq_some_iff.1 hx).2]
theorem Sl.nf (hf : ∀ x, (f x).length = sz) (h0 : 0 < sz) {w : World} {a : Option Addr} {n c : Nat} {l : List α} (h : Sl w sz a n c (l.flatMap f)) : n = l.length := by
  have := h.len
  rw [flat_len hf] at this
  exact (Nat.eq_of_mul_eq_mul_right h0 this).symm
theorem Own.nf (hf : ∀ x, (f x).length = sz) (h0 : 0 < sz) {w : World} {B : Nat} {e : TypeId} {a : Option Addr} {n c : Nat} {l : List α} (h : Own w B e sz a n c (l.flatMap f)) : n = l.length := h.sl.nf hf h0
theorem one_flat (hf : ∀ x, ∀ u ∈ f x, u.oneCell' = true) (l : List α) : ∀ u ∈ l.flatMap f, u.oneCell' = true := by
  intro u hu
  obtain ⟨x, _, hx⟩ := List.mem_flatMap.1 hu
  exact hf x u hx
end

section ops
variable {P : Program} {w : World} {ops : Array Oper} {rest : List Oper} {act : Act} {Q : Exit → Act → World → Prop}
  {ty : TypeId} {pos : String} {after : Array Edge}

/-- 'xs[i]', the address, elements of sz cells: what lies there. -/
theorem index_row (d : Nat) (t : TypeId) (x y : Operand) (e : TypeId) (ht : P.underlying t = some (.slice e)) (sz : Nat) (hsz : (P.info? e).map (·.size) = some sz)
    (a : Option Addr) (n c : Nat) (cs : List Value) (hx : act.eval x = .slice a n c) (hs : Sl w sz a n c cs) (k : IntKind) (iv : Int) (i : Nat) (hy : act.eval y = .int k iv) (hiv : iv = (i : Int)) (hi : i < n) (h0 : 0 < sz)
    (hK : ∀ b o, (∀ j u, j < sz → cs[i * sz + j]? = some u → w.cell? ⟨b, o + j, none⟩ = some u) → b < w.heap.size → (∀ p, a = some p → p.block = b) → wpList P ops Q rest (act.put (some d) (.pointer (some ⟨b, o, none⟩))) w) :
    wpList P ops Q ({ dst := some d, op := .indexAddr t x y, type := ty, pos := pos, after := after, guard := none } :: rest) act w := by
  refine wpList_plain rfl fun K hK' => ?_
  have hlen := hs.len
  have hm : (i + 1) * sz ≤ n * sz := Nat.mul_le_mul_right _ hi
  obtain ⟨b, o, rfl, hb, hc⟩ := hs.ex (by rw [hlen]; exact Nat.mul_pos (by omega) h0)
  obtain ⟨i0, hi0, hs0⟩ := Option.map_eq_some_iff.1 hsz
  subst hiv
  have hrun : (Instr.indexAt t (.slice (some ⟨b, o, none⟩) n c) (.int k (i : Int))).run P w = .ok (.pointer (some ⟨b, o + i * sz, none⟩)) w := by
    simp [Instr.indexAt, asIntOf, run_underlying ht, sizeOf, typeInfo, hi0, hs0, hi, Addr.add_lit]
  unfold Oper.wp
  simp [execOp, hx, hy, hrun, Result.andThen]
  exact hK' _ _ (hK b (o + i * sz) (fun j u hj hu => by rw [Nat.add_assoc]; exact hc _ u hu) hb (fun p hp => by cases hp; rfl))

/-- a whole struct is loaded -/
theorem load_struct (d : Nat) (t : TypeId) (x : Operand) (sz : Nat) (hsz : (P.info? t).map (·.size) = some sz) (fs : Array Field) (hag : P.underlying t = some (.struct fs))
    (p : Addr) (hx : act.eval x = .pointer (some p)) (cs : List Value) (hl : cs.length = sz) (hc : ∀ j u, cs[j]? = some u → w.cell? (p.add j) = some u)
    (hK : wpList P ops Q rest (act.put (some d) (.agg cs.toArray)) w) :
    wpList P ops Q ({ dst := some d, op := .load t x, type := ty, pos := pos, after := after, guard := none } :: rest) act w := by
  refine wpList_plain rfl fun K hK' => ?_
  obtain ⟨i, hi, hs0⟩ := Option.map_eq_some_iff.1 hsz
  subst hs0
  have hrun : (Instr.loadAt t (.pointer (some p))).run P w = .ok (.agg cs.toArray) w := by
    have hl2 := run_loadCells_list (P := P) w p cs hc
    rw [hl] at hl2
    simp [Instr.loadAt, Instr.sureAddr, loadVar, isAgg, run_underlying hag, sizeOf, typeInfo, hi, hl2]
  unfold Oper.wp
  simp [execOp, hx, hrun, Result.andThen]
  exact hK' _ _ hK
end ops

/-- A rule's three cells, beside the head of its cells. -/
abbrev RH := Ru × (Option Addr × Nat × Nat)
def hdv (h : Option Addr × Nat × Nat) : Value := .slice h.1 h.2.1 h.2.2
def rc (p : RH) : List Value := [.string p.1.text, .int .i64 p.1.whr, hdv p.2]
theorem rc_len (p : RH) : (rc p).length = 3 := rfl
theorem rc_one (p : RH) : ∀ u ∈ rc p, u.oneCell' = true := by simp [rc, hdv, Value.oneCell']
def sc (x : Sy) : List Value := [.int .i64 x.lang, .int .u8 (x.c.toNat : Int)]
theorem sc_len (x : Sy) : (sc x).length = 2 := rfl
theorem sc_one (x : Sy) : ∀ u ∈ sc x, u.oneCell' = true := by simp [sc, Value.oneCell']
abbrev SH := Stp × (Option Addr × Nat × Nat)
def stc (p : SH) : List Value := [.int .i64 p.1.dst.lang, .bool p.1.dst.num, .bool p.1.dst.wrd, .int .i64 p.1.len, hdv p.2, .int .i64 p.1.rule]
theorem stc_len (p : SH) : (stc p).length = 6 := rfl
theorem stc_one (p : SH) : ∀ u ∈ stc p, u.oneCell' = true := by simp [stc, hdv, Value.oneCell']

/-- The rules of a language, as they lie: the slice, and each rule's cells. -/
structure Rul (w : World) (a : Option Addr) (n c : Nat) (ps : List RH) : Prop where
  top : Sl w 3 a n c (ps.flatMap rc)
  row : ∀ p ∈ ps, Sl w 1 p.2.1 p.2.2.1 p.2.2.2 (p.1.cells.map B8) ∧ p.1.text.size ≤ 1000
def rus (ps : List RH) : List Ru := ps.map (·.1)
theorem Rul.n_eq {w : World} {a : Option Addr} {n c : Nat} {ps : List RH} (h : Rul w a n c ps) : n = ps.length := h.top.nf rc_len (by decide)
theorem Rul.below {w w' : World} {a : Option Addr} {n c : Nat} {ps : List RH} (h : Rul w a n c ps) (hb : Below w.heap.size w w') : Rul w' a n c ps :=
  ⟨h.top.below hb, fun p hp => ⟨(h.row p hp).1.below hb, (h.row p hp).2⟩⟩
theorem Rul.empty (w : World) : Rul w none 0 0 [] := ⟨Sl.empty w 3, fun p hp => by cases hp⟩

/-- Tables as they lie: seven slices. -/
structure TH where
  r0 : Option Addr × Nat × Nat
  r1 : Option Addr × Nat × Nat
  p0 : List RH
  p1 : List RH
  d : Option Addr × Nat × Nat
  c : Option Addr × Nat × Nat
  n : Option Addr × Nat × Nat
  f : Option Addr × Nat × Nat
  s : Option Addr × Nat × Nat
def TH.v (H : TH) : Value := .agg #[hdv H.r0, hdv H.r1, hdv H.d, hdv H.c, hdv H.n, hdv H.f, hdv H.s]
structure TaIs (w : World) (H : TH) (t : Ta) : Prop where
  l0 : Rul w H.r0.1 H.r0.2.1 H.r0.2.2 H.p0
  l1 : Rul w H.r1.1 H.r1.2.1 H.r1.2.2 H.p1
  e0 : rus H.p0 = t.l0
  e1 : rus H.p1 = t.l1
  d : Sl w 1 H.d.1 H.d.2.1 H.d.2.2 (t.dig.map B8)
  c : Sl w 1 H.c.1 H.c.2.1 H.c.2.2 (t.cap.map B8)
  n : Sl w 1 H.n.1 H.n.2.1 H.n.2.2 (t.num.map B8)
  f : Sl w 1 H.f.1 H.f.2.1 H.f.2.2 (t.fin.map B8)
  s : Sl w 1 H.s.1 H.s.2.1 H.s.2.2 (t.sw.map B8)
theorem TaIs.below {w w' : World} {H : TH} {t : Ta} (h : TaIs w H t) (hb : Below w.heap.size w w') : TaIs w' H t :=
  ⟨h.l0.below hb, h.l1.below hb, h.e0, h.e1, h.d.below hb, h.c.below hb, h.n.below hb, h.f.below hb, h.s.below hb⟩
/-- steps as they lie -/
structure Stl (w : World) (a : Option Addr) (n c : Nat) (ps : List SH) (l : List Stp) : Prop where
  top : Sl w 6 a n c (ps.flatMap stc)
  row : ∀ p ∈ ps, Sl w 1 p.2.1 p.2.2.1 p.2.2.2 (p.1.cells.map B8)
  eq : ps.map (·.1) = l
theorem Stl.n_eq {w : World} {a : Option Addr} {n c : Nat} {ps : List SH} {l : List Stp} (h : Stl w a n c ps l) : n = l.length := by
  rw [← h.eq, List.length_map]; exact h.top.nf stc_len (by decide)
theorem Stl.below {w w' : World} {a : Option Addr} {n c : Nat} {ps : List SH} {l : List Stp} (h : Stl w a n c ps l) (hb : Below w.heap.size w w') : Stl w' a n c ps l :=
  ⟨h.top.below hb, fun p hp => (h.row p hp).below hb, h.eq⟩
end Go.Dx
end

/- the text B6 -/
section
/- Chapter 06, in plain Lean: the tables that the generator makes are valid. No program in sight. -/
namespace Go.Dx

/-- what is known of a list of rules before those that come twice are struck -/
structure Raw (l : List Ru) : Prop where
  ok : ∀ r ∈ l, ruOk r = true
  own : ∀ c, (isS c = true ∨ isM c = true) → ([c], (0 : Int)) ∈ l.map nameOf
  len : l.length ≤ 90
def onceL (l : List Ru) : List Ru := l.foldl (fun out r => if isIn (out.map nmOf) (nmOf r) then out else out ++ [r]) []
theorem once_snoc (l : List Ru) (r : Ru) : onceL (l ++ [r]) = if isIn ((onceL l).map nmOf) (nmOf r) then onceL l else onceL l ++ [r] := by
  unfold onceL; rw [List.foldl_append]; rfl
structure OnceOf (l out : List Ru) : Prop where
  sub : ∀ r ∈ out, r ∈ l
  names : ∀ n, n ∈ l.map nameOf → n ∈ out.map nameOf
  nodup : (out.map nameOf).Nodup
  len : out.length ≤ l.length
theorem once_step {l out : List Ru} (h : OnceOf l out) (r : Ru) : OnceOf (l ++ [r]) (if isIn (out.map nmOf) (nmOf r) then out else out ++ [r]) := by
  rw [isIn_eq]
  by_cases hn : (chars (nmOf r).1, (nmOf r).2) ∈ out.map nameOf
  · rw [decide_eq_true hn, if_pos rfl]
    refine ⟨fun q hq => List.mem_append_left _ (h.sub q hq), ?_, h.nodup, by rw [List.length_append]; exact Nat.le_trans h.len (by omega)⟩
    intro n h2
    rw [List.map_append, List.mem_append] at h2
    rcases h2 with h2 | h2
    · exact h.names n h2
    · simp only [List.map_cons, List.map_nil, List.mem_singleton] at h2
      subst h2; exact hn
  · rw [decide_eq_false hn, if_neg (by simp)]
    refine ⟨?_, ?_, ?_, by rw [List.length_append, List.length_append]; have := h.len; simp; omega⟩
    · intro q hq
      rcases List.mem_append.1 hq with hq | hq
      · exact List.mem_append_left _ (h.sub q hq)
      · exact List.mem_append_right _ hq
    · intro n h2
      rw [List.map_append, List.mem_append] at h2 ⊢
      rcases h2 with h2 | h2
      · exact .inl (h.names n h2)
      · exact .inr h2
    · rw [List.map_append, List.nodup_append]
      refine ⟨h.nodup, by simp, ?_⟩
      intro a h1 b h2 e
      simp only [List.map_cons, List.map_nil, List.mem_singleton] at h2
      subst h2; subst e
      exact hn h1
theorem onceOf_nil : OnceOf [] [] := ⟨fun _ h => h, fun _ h => h, by simp, Nat.le_refl _⟩
theorem own_once {l out : List Ru} (hr : Raw l) (h : OnceOf l out) (c : UInt8) (hc : isS c = true ∨ isM c = true) : ownB out c = true := by
  unfold ownB
  exact decide_eq_true (h.names _ (hr.own c hc))
theorem isS_nat (k : Nat) (hk : k < 26) : isS (UInt8.ofNat (97 + k)) = true := by
  have e : (UInt8.ofNat (97 + k)).toNat = 97 + k := by rw [UInt8.toNat_ofNat']; omega
  unfold isS
  rw [e]; simp; omega
theorem once_miss {l out : List Ru} (hr : Raw l) (h : OnceOf l out) : missB out = false := by
  refine miss_no fun j hj => own_once hr h _ (.inl (isS_nat j hj))
/-- the tables of the generator -/
theorem good_tables {t : Ta} {L0 L1 : List Ru} (h0 : Raw L0) (h1 : Raw L1) (o0 : OnceOf L0 t.l0) (o1 : OnceOf L1 t.l1) (hd : t.dig.length = 10) (hdc : okCells t.dig = true) (hc : indic t.cap = true) (hn : indic t.num = true) (hf : indic t.fin = true) (hs : indic t.sw = true) : GoodTa t := by
  constructor
  · unfold validE
    have l0 := o0.len
    have l1 := o1.len
    have q0 := h0.len
    have q1 := h1.len
    rw [if_neg (by omega)]
    have hg : goodT t = true := by
      unfold goodT
      simp only [Bool.and_eq_true, decide_eq_true_eq, List.all_eq_true]
      exact ⟨⟨⟨⟨⟨⟨⟨hd, hdc⟩, hc⟩, hn⟩, hf⟩, hs⟩, fun r hr => h0.ok r (o0.sub r hr)⟩, fun r hr => h1.ok r (o1.sub r hr)⟩
    rw [hg, if_neg (by simp)]
    have d0 : dupB t.l0 = false := by unfold dupB; simp [o0.nodup]
    have d1 : dupB t.l1 = false := by unfold dupB; simp [o1.nodup]
    rw [d0, d1, once_miss h0 o0, once_miss h1 o1]
    rfl
  · intro g c hc
    unfold langOf
    split
    · exact own_once h0 o0 c (.inr hc)
    · exact own_once h1 o1 c (.inr hc)

/-- the letters first -/
structure Raw1 (l : List Ru) (k : Nat) : Prop where
  ok : ∀ r ∈ l, ruOk r = true
  own : ∀ j, j < k → ([UInt8.ofNat (97 + j)], (0 : Int)) ∈ l.map nameOf
  len : l.length = k
theorem Raw1.zero : Raw1 [] 0 := ⟨fun _ h => by simp at h, fun j h => by omega, rfl⟩
theorem one_ok {v : UInt8} (h : cellOk v = true) : indic [v] = true := by simp [indic, okCells, h]
theorem two_ok {v u : UInt8} (h : cellOk v = true) (h2 : cellOk u = true) : indic [v, u] = true := by simp [indic, okCells, h, h2]
theorem size_chars (s : ByteArray) : s.size = (chars s).length := (Array.length_toList).symm
theorem letter_ok {s : ByteArray} {j : Nat} (hj : j < 26) (hs : chars s = [UInt8.ofNat (97 + j)]) {cs : List UInt8} (hc : indic cs = true) : ruOk ⟨s, 0, cs⟩ = true := by
  have hi := isS_nat j hj
  generalize UInt8.ofNat (97 + j) = u at hs hi
  unfold ruOk small
  rw [size_chars]
  simp [hs, hc, hi]
theorem Raw1.step {l : List Ru} {k : Nat} (h : Raw1 l k) (hk : k < 26) {s : ByteArray} (hs : chars s = [UInt8.ofNat (97 + k)]) {v : UInt8} (hv : cellOk v = true) : Raw1 (l ++ [⟨s, 0, [v]⟩]) (k + 1) := by
  refine ⟨?_, ?_, by rw [List.length_append, h.len]; rfl⟩
  · intro r hr
    rcases List.mem_append.1 hr with hr | hr
    · exact h.ok r hr
    · rw [List.mem_singleton] at hr; subst hr; exact letter_ok hk hs (one_ok hv)
  · intro j hj
    rw [List.map_append, List.mem_append]
    by_cases e : j = k
    · subst e; right; simp [nameOf, hs]
    · left; exact h.own j (by omega)
def marks6 : List UInt8 := [32, 46, 44, 63, 39, 45]
/-- then the marks -/
structure Raw2 (l : List Ru) (k : Nat) : Prop where
  ok : ∀ r ∈ l, ruOk r = true
  own : ∀ j, j < 26 → ([UInt8.ofNat (97 + j)], (0 : Int)) ∈ l.map nameOf
  mark : ∀ c, c ∈ marks6.take k → ([c], (0 : Int)) ∈ l.map nameOf
  len : l.length = 26 + k
theorem Raw2.zero {l : List Ru} (h : Raw1 l 26) : Raw2 l 0 := ⟨h.ok, h.own, fun c hc => by simp at hc, h.len⟩
theorem mark_ok : ∀ c ∈ marks6, (isW c && !isL c && !isD c) = true ∧ isS c = false := by decide
theorem Raw2.step {l : List Ru} {k : Nat} (h : Raw2 l k) {c : UInt8} (hk : marks6[k]? = some c) {s : ByteArray} (hs : chars s = [c]) {v : UInt8} (hv : cellOk v = true) : Raw2 (l ++ [⟨s, 0, [v]⟩]) (k + 1) := by
  refine ⟨?_, ?_, ?_, by rw [List.length_append, h.len]; rfl⟩
  · intro r hr
    rcases List.mem_append.1 hr with hr | hr
    · exact h.ok r hr
    · rw [List.mem_singleton] at hr
      subst hr
      obtain ⟨h1, h2⟩ := mark_ok c (List.mem_of_getElem? hk)
      unfold ruOk small oneMark
      rw [size_chars]
      simp [hs, h1, h2, one_ok hv]
  · intro j hj
    rw [List.map_append, List.mem_append]
    exact .inl (h.own j hj)
  · intro d hd
    rw [List.map_append, List.mem_append]
    rw [List.take_add_one, hk, List.mem_append] at hd
    rcases hd with hd | hd
    · exact .inl (h.mark d hd)
    · simp only [Option.toList_some, List.mem_singleton] at hd
      subst hd
      right; simp [nameOf, hs]
/-- then the contractions -/
structure Raw3 (l : List Ru) (k : Nat) : Prop where
  ok : ∀ r ∈ l, ruOk r = true
  own : ∀ c, (isS c = true ∨ isM c = true) → ([c], (0 : Int)) ∈ l.map nameOf
  len : l.length = 32 + k
theorem Raw3.zero {l : List Ru} (h : Raw2 l 6) : Raw3 l 0 := by
  refine ⟨h.ok, ?_, h.len⟩
  intro c hc
  rcases hc with hc | hc
  · have hc2 := hc
    unfold isS at hc2
    simp only [Bool.and_eq_true, decide_eq_true_eq] at hc2
    have := h.own (c.toNat - 97) (by omega)
    have e : 97 + (c.toNat - 97) = c.toNat := by omega
    rw [e, UInt8.ofNat_toNat] at this
    exact this
  · refine h.mark c ?_
    unfold isM at hc
    simpa [marks6] using hc
theorem Raw3.step {l : List Ru} {k : Nat} (h : Raw3 l k) {r : Ru} (hr : ruOk r = true) : Raw3 (l ++ [r]) (k + 1) := by
  refine ⟨?_, ?_, by rw [List.length_append, h.len]; rfl⟩
  · intro q hq
    rcases List.mem_append.1 hq with hq | hq
    · exact h.ok q hq
    · rw [List.mem_singleton] at hq; subst hq; exact hr
  · intro c hc
    rw [List.map_append, List.mem_append]
    exact .inl (h.own c hc)
theorem Raw3.raw {l : List Ru} {k : Nat} (h : Raw3 l k) (hk : k ≤ 50) : Raw l := ⟨h.ok, h.own, by rw [h.len]; omega⟩
end Go.Dx
end

/- the text Types -/
section
/- The seat's numbers of types, and the laws on append at each slice type. -/
namespace Go.Proofs.Ytkjcbneanaeleaa
open Go.RowKit Go.Dx

theorem info_int : (Try.prog.info? 3).map (fun i => (i.zero, i.size, i.bytes)) = some (some (.int .i64 0), 1, 8) := by kernel_rfl
theorem info_u8 : (Try.prog.info? 5).map (fun i => (i.zero, i.size, i.bytes)) = some (some (.int .u8 0), 1, 1) := by kernel_rfl


theorem info_str : (Try.prog.info? 9).map (fun i => (i.zero, i.size, i.bytes)) = some (some (.string ⟨#[]⟩), 1, 16) := by kernel_rfl
theorem size_int : (Try.prog.info? 3).map (·.size) = some 1 := by kernel_rfl
theorem size_u8 : (Try.prog.info? 5).map (·.size) = some 1 := by kernel_rfl
theorem size_str : (Try.prog.info? 9).map (·.size) = some 1 := by kernel_rfl

section
variable {w : World} {ops : Array Oper} {rest : List Oper} {o : Oper} {act : Act} {Q : Exit → Act → World → Prop}

/-- 'append(out, d)' on []byte -/
theorem app_b (hg : o.guard = none) (s x : Operand) (hop : o.op = Op.call { callee := Callee.builtin Builtin.append, args := #[s, x], argTypes := #[26, 26] })
    (w0 : World) (B : Nat) (a : Option Addr) (n c : Nat) (xs : List Value) (hs : act.eval s = .slice a n c) (hown : Own w B 5 1 a n c xs)
    (u : Int) (hx : act.eval x = .slice (some ⟨w.heap.size, 0, none⟩) 1 1)
    (hn : n + 1 ≤ 140737488355328) (hB : B ≤ w.heap.size) (hbel : Below B w0 w)
    (hK : ∀ a' c' w', Own w' B 5 1 a' (n + 1) c' (xs ++ [.int .u8 u]) → w.grownBy w' (a.map (·.block)) → Below B w0 w' → wpList Try.prog ops Q rest (act.put o.dst (.slice a' (n + 1) c')) w') :
    wpList Try.prog ops Q (o :: rest) act (w.alloc (.cells #[.int .u8 u] 5)) :=
  append_lit hg s x 26 hop 5 (.int .u8 0) 1 1 Try.underlying26 info_u8 rfl w0 B a n c xs hs hown 1 [.int .u8 u] hx rfl (by simp [Value.oneCell']) (by omega) (by unfold maxLen; omega) hB hbel hK

/-- 'append(out, n)' on []int -/
theorem app_i (hg : o.guard = none) (s x : Operand) (hop : o.op = Op.call { callee := Callee.builtin Builtin.append, args := #[s, x], argTypes := #[36, 36] })
    (w0 : World) (B : Nat) (a : Option Addr) (n c : Nat) (xs : List Value) (hs : act.eval s = .slice a n c) (hown : Own w B 3 1 a n c xs)
    (u : Int) (hx : act.eval x = .slice (some ⟨w.heap.size, 0, none⟩) 1 1)
    (hn : (n + 1) * 8 ≤ 140737488355328) (hB : B ≤ w.heap.size) (hbel : Below B w0 w)
    (hK : ∀ a' c' w', Own w' B 3 1 a' (n + 1) c' (xs ++ [.int .i64 u]) → w.grownBy w' (a.map (·.block)) → Below B w0 w' → wpList Try.prog ops Q rest (act.put o.dst (.slice a' (n + 1) c')) w') :
    wpList Try.prog ops Q (o :: rest) act (w.alloc (.cells #[.int .i64 u] 3)) :=
  append_lit hg s x 36 hop 3 (.int .i64 0) 1 8 Try.underlying36 info_int rfl w0 B a n c xs hs hown 1 [.int .i64 u] hx rfl (by simp [Value.oneCell']) hn (by unfold maxLen; omega) hB hbel hK

/-- 'append(out, s)' on []string -/
theorem app_s (hg : o.guard = none) (s x : Operand) (hop : o.op = Op.call { callee := Callee.builtin Builtin.append, args := #[s, x], argTypes := #[75, 75] })
    (w0 : World) (B : Nat) (a : Option Addr) (n c : Nat) (xs : List Value) (hs : act.eval s = .slice a n c) (hown : Own w B 9 1 a n c xs)
    (u : ByteArray) (hx : act.eval x = .slice (some ⟨w.heap.size, 0, none⟩) 1 1)
    (hn : (n + 1) * 16 ≤ 140737488355328) (hB : B ≤ w.heap.size) (hbel : Below B w0 w)
    (hK : ∀ a' c' w', Own w' B 9 1 a' (n + 1) c' (xs ++ [.string u]) → w.grownBy w' (a.map (·.block)) → Below B w0 w' → wpList Try.prog ops Q rest (act.put o.dst (.slice a' (n + 1) c')) w') :
    wpList Try.prog ops Q (o :: rest) act (w.alloc (.cells #[.string u] 9)) :=
  append_lit hg s x 75 hop 9 (.string ⟨#[]⟩) 1 16 Try.underlying75 info_str rfl w0 B a n c xs hs hown 1 [.string u] hx rfl (by simp [Value.oneCell']) hn (by unfold maxLen; omega) hB hbel hK

/-- 'append(out, ys...)' on []byte -/
theorem app_bs (hg : o.guard = none) (s x : Operand) (hop : o.op = Op.call { callee := Callee.builtin Builtin.append, args := #[s, x], argTypes := #[26, 26] })
    (w0 : World) (B : Nat) (a : Option Addr) (n c : Nat) (xs : List Value) (hs : act.eval s = .slice a n c) (hown : Own w B 5 1 a n c xs)
    (a2 : Option Addr) (m c2 : Nat) (ys : List UInt8) (hx : act.eval x = .slice a2 m c2) (hy : Sl w 1 a2 m c2 (ys.map B8))
    (hn : n + m ≤ 140737488355328) (hB : B ≤ w.heap.size) (hbel : Below B w0 w)
    (hK : ∀ a' c' w', Own w' B 5 1 a' (n + m) c' (xs ++ ys.map B8) → w.grownBy w' (a.map (·.block)) → Below B w0 w' → wpList Try.prog ops Q rest (act.put o.dst (.slice a' (n + m) c')) w') :
    wpList Try.prog ops Q (o :: rest) act w :=
  append_own hg s x 26 hop 5 (.int .u8 0) 1 1 Try.underlying26 info_u8 rfl w0 B a n c xs hs hown a2 m c2 (ys.map B8) hx hy (one_map _ (fun _ => rfl) _) (by omega) (by unfold maxLen; omega) hB hbel hK
/-- 'append(out, s...)' on []byte, s a string -/
theorem app_str (hg : o.guard = none) (s x : Operand) (hop : o.op = Op.call { callee := Callee.builtin Builtin.append, args := #[s, x], argTypes := #[26, 9] })
    (w0 : World) (B : Nat) (a : Option Addr) (n c : Nat) (xs : List Value) (hs : act.eval s = .slice a n c) (hown : Own w B 5 1 a n c xs)
    (y : ByteArray) (hx : act.eval x = .string y)
    (hn : n + y.size ≤ 140737488355328) (hB : B ≤ w.heap.size) (hbel : Below B w0 w)
    (hK : ∀ a' c' w', Own w' B 5 1 a' (n + y.size) c' (xs ++ y.data.toList.map B8) → w.grownBy w' (a.map (·.block)) → Below B w0 w' → wpList Try.prog ops Q rest (act.put o.dst (.slice a' (n + y.size) c')) w') :
    wpList Try.prog ops Q (o :: rest) act w :=
  append_src hg s x 26 9 hop 5 (.int .u8 0) 1 1 Try.underlying26 info_u8 rfl w0 B a n c xs hs hown (.string y) y.size (byteCells y) hx (Src.ofString w Try.underlying9 y) (by omega) (by unfold maxLen; omega) hB hbel hK
end
section
variable {w : World} {ops : Array Oper} {rest : List Oper} {act : Act} {Q : Exit → Act → World → Prop} {ty : TypeId} {pos : String} {after : Array Edge}

theorem idx_b (d : Nat) (x y : Operand) (a : Option Addr) (n c : Nat) (cs : List UInt8) (hx : act.eval x = .slice a n c) (hs : Sl w 1 a n c (cs.map B8)) (k : IntKind) (iv : Int) (i : Nat) (hy : act.eval y = .int k iv) (hiv : iv = (i : Int))
    (u : UInt8) (hu : cs[i]? = some u)
    (hK : ∀ b o, w.cell? ⟨b, o, none⟩ = some (B8 u) → b < w.heap.size → wpList Try.prog ops Q rest (act.put (some d) (.pointer (some ⟨b, o, none⟩))) w) :
    wpList Try.prog ops Q ({ dst := some d, op := .indexAddr 26 x y, type := ty, pos := pos, after := after, guard := none } :: rest) act w :=
  index_sl d 26 x y 5 Try.underlying26 size_u8 a n c _ hx hs k iv i hy hiv _ (by rw [List.getElem?_map, hu]; rfl) hK
theorem idx_i (d : Nat) (x y : Operand) (a : Option Addr) (n c : Nat) (cs : List Int) (hx : act.eval x = .slice a n c) (hs : Sl w 1 a n c (cs.map I64)) (k : IntKind) (iv : Int) (i : Nat) (hy : act.eval y = .int k iv) (hiv : iv = (i : Int))
    (u : Int) (hu : cs[i]? = some u)
    (hK : ∀ b o, w.cell? ⟨b, o, none⟩ = some (I64 u) → b < w.heap.size → wpList Try.prog ops Q rest (act.put (some d) (.pointer (some ⟨b, o, none⟩))) w) :
    wpList Try.prog ops Q ({ dst := some d, op := .indexAddr 36 x y, type := ty, pos := pos, after := after, guard := none } :: rest) act w :=
  index_sl d 36 x y 3 Try.underlying36 size_int a n c _ hx hs k iv i hy hiv _ (by rw [List.getElem?_map, hu]; rfl) hK
theorem idx_s (d : Nat) (x y : Operand) (a : Option Addr) (n c : Nat) (cs : List ByteArray) (hx : act.eval x = .slice a n c) (hs : Sl w 1 a n c (cs.map Value.string)) (k : IntKind) (iv : Int) (i : Nat) (hy : act.eval y = .int k iv) (hiv : iv = (i : Int))
    (u : ByteArray) (hu : cs[i]? = some u)
    (hK : ∀ b o, w.cell? ⟨b, o, none⟩ = some (Value.string u) → b < w.heap.size → wpList Try.prog ops Q rest (act.put (some d) (.pointer (some ⟨b, o, none⟩))) w) :
    wpList Try.prog ops Q ({ dst := some d, op := .indexAddr 75 x y, type := ty, pos := pos, after := after, guard := none } :: rest) act w :=
  index_sl d 75 x y 9 Try.underlying75 size_str a n c _ hx hs k iv i hy hiv _ (by rw [List.getElem?_map, hu]; rfl) hK
theorem cut_b (d : Nat) (x lo hi : Operand) (a : Option Addr) (n c : Nat) (cs : List UInt8) (hx : act.eval x = .slice a n c) (hs : Sl w 1 a n c (cs.map B8)) (kl ku : IntKind) (lv uv : Int) (l u : Nat) (hl : act.eval lo = .int kl lv) (hu : act.eval hi = .int ku uv)
    (hlv : lv = (l : Int)) (huv : uv = (u : Int)) (hlu : l ≤ u) (hun : u ≤ n)
    (hK : ∀ a', Sl w 1 a' (u - l) (c - l) (((cs.drop l).take (u - l)).map B8) → (∀ p, a' = some p → ∃ q, a = some q ∧ q.block = p.block) → wpList Try.prog ops Q rest (act.put (some d) (.slice a' (u - l) (c - l))) w) :
    wpList Try.prog ops Q ({ dst := some d, op := .slice 26 x (some lo) (some hi) none, type := ty, pos := pos, after := after, guard := none } :: rest) act w :=
  cut_sl d 26 x lo hi 5 Try.underlying26 1 size_u8 a n c _ hx hs kl ku lv uv l u hl hu hlv huv hlu hun (fun a' h => hK a' (by rw [Nat.mul_one, Nat.mul_one, ← List.map_drop, ← List.map_take] at h; exact h))
theorem cutlo_b (d : Nat) (x lo : Operand) (a : Option Addr) (n c : Nat) (cs : List UInt8) (hx : act.eval x = .slice a n c) (hs : Sl w 1 a n c (cs.map B8)) (kl : IntKind) (lv : Int) (l : Nat) (hl : act.eval lo = .int kl lv)
    (hlv : lv = (l : Int)) (hun : l ≤ n)
    (hK : ∀ a', Sl w 1 a' (n - l) (c - l) ((cs.drop l).map B8) → (∀ p, a' = some p → ∃ q, a = some q ∧ q.block = p.block) → wpList Try.prog ops Q rest (act.put (some d) (.slice a' (n - l) (c - l))) w) :
    wpList Try.prog ops Q ({ dst := some d, op := .slice 26 x (some lo) none none, type := ty, pos := pos, after := after, guard := none } :: rest) act w :=
  cut_lo d 26 x lo 5 Try.underlying26 1 size_u8 a n c _ hx hs kl lv l hl hlv hun (fun a' h => hK a' (by rw [Nat.mul_one, ← List.map_drop] at h; exact h))
theorem cuthi_b (d : Nat) (x hi : Operand) (a : Option Addr) (n c : Nat) (cs : List UInt8) (hx : act.eval x = .slice a n c) (hs : Sl w 1 a n c (cs.map B8)) (ku : IntKind) (uv : Int) (u : Nat) (hu : act.eval hi = .int ku uv)
    (huv : uv = (u : Int)) (hun : u ≤ n)
    (hK : Sl w 1 a u c ((cs.take u).map B8) → wpList Try.prog ops Q rest (act.put (some d) (.slice a u c)) w) :
    wpList Try.prog ops Q ({ dst := some d, op := .slice 26 x none (some hi) none, type := ty, pos := pos, after := after, guard := none } :: rest) act w :=
  cut_hi d 26 x hi 5 Try.underlying26 1 size_u8 a n c _ hx hs ku uv u hu huv hun (fun h => hK (by rw [Nat.mul_one, ← List.map_take] at h; exact h))
theorem to_str (d : Nat) (x : Operand) (a : Option Addr) (n c : Nat) (l : List UInt8) (hx : act.eval x = .slice a n c) (hs : Sl w 1 a n c (l.map B8))
    (hK : wpList Try.prog ops Q rest (act.put (some d) (.string ⟨l.toArray⟩)) w) :
    wpList Try.prog ops Q ({ dst := some d, op := .convert 26 9 x, type := ty, pos := pos, after := after, guard := none } :: rest) act w :=
  conv_str d 26 9 x 5 Try.underlying26 Try.underlying5 Try.underlying9 a n c l hx hs hK
theorem to_bytes (d : Nat) (x : Operand) (s : ByteArray) (hx : act.eval x = .string s) (hm : s.size ≤ maxLen)
    (hK : ∀ a c w', Sl w' 1 a s.size c (s.data.toList.map B8) → Below w.heap.size w w' → (∀ p, a = some p → w.heap.size ≤ p.block) → wpList Try.prog ops Q rest (act.put (some d) (.slice a s.size c)) w') :
    wpList Try.prog ops Q ({ dst := some d, op := .convert 9 26 x, type := ty, pos := pos, after := after, guard := none } :: rest) act w :=
  conv_bytes d 9 26 x 5 Try.underlying9 Try.underlying26 Try.underlying5 s hx hm hK
end
end Go.Proofs.Ytkjcbneanaeleaa
end

/- the text B7 -/
section
/- Chapter 06: characters: Letter, letter, digit, written, of the program and of the reference. -/
namespace Go.Proofs.Ytkjcbneanaeleaa
open Go.RowKit Go.Dx

theorem let_S {c : UInt8} (h1 : 97 ≤ c.toNat) (h2 : c.toNat ≤ 122) : low c = c ∧ isL c = true ∧ isC c = false := by
  have hC : isC c = false := by unfold isC; simp; omega
  exact ⟨by unfold low; rw [hC]; rfl, by unfold isL isS; simp [h1, h2], hC⟩
theorem let_C {c : UInt8} (h1 : 65 ≤ c.toNat) (h2 : c.toNat ≤ 90) : ((low c).toNat : Int) = (c.toNat : Int) + 32 ∧ isL c = true ∧ isC c = true := by
  have hC : isC c = true := by unfold isC; simp [h1, h2]
  refine ⟨?_, by unfold isL; rw [hC, Bool.or_true], hC⟩
  unfold low
  rw [if_pos hC, UInt8.toNat_add]
  have : (32 : UInt8).toNat = 32 := rfl
  rw [this]
  omega
theorem let_N {c : UInt8} (h : c.toNat < 65 ∨ (90 < c.toNat ∧ c.toNat < 97) ∨ 122 < c.toNat) : low c = c ∧ isL c = false ∧ isC c = false := by
  have hC : isC c = false := by unfold isC; simp; omega
  have hS : isS c = false := by unfold isS; simp; omega
  exact ⟨by unfold low; rw [hC]; rfl, by unfold isL; rw [hC, hS]; rfl, hC⟩

def LetterR (c : UInt8) : Ending := .returned (.tuple #[.int .u8 ((low c).toNat : Int), .bool (isL c), .bool (isC c)])

set_option maxHeartbeats 400000 in
theorem tab_Letter (c : UInt8) (w : World) : Calls Try.prog 30 #[.int .u8 (c.toNat : Int)] w fun e w' => e = LetterR c ∧ w = w' := by
  have hlt := c.toNat_lt
  unfold LetterR
  by_cases h1 : 97 ≤ c.toNat ∧ c.toNat ≤ 122
  · obtain ⟨e1, e2, e3⟩ := let_S h1.1 h1.2
    rw [e1, e2, e3]
    have d1 : decide (97 ≤ (c.toNat : Int)) = true := decide_eq_true (by omega)
    have d2 : decide ((c.toNat : Int) ≤ 122) = true := decide_eq_true (by omega)
    clear e1 e2 e3 h1
    go_enter Try.func30, Try.ntmps30
    go_wp2_with fail
    go_ret3
    exact ⟨rfl, rfl⟩
  · by_cases h2 : 65 ≤ c.toNat ∧ c.toNat ≤ 90
    · obtain ⟨e1, e2, e3⟩ := let_C h2.1 h2.2
      rw [e1, e2, e3]
      have d1 : decide (97 ≤ (c.toNat : Int)) = false := decide_eq_false (by omega)
      have d3 : decide (65 ≤ (c.toNat : Int)) = true := decide_eq_true (by omega)
      have d4 : decide ((c.toNat : Int) ≤ 90) = true := decide_eq_true (by omega)
      have l1 : 65 ≤ (c.toNat : Int) := by omega
      have l2 : (c.toNat : Int) ≤ 90 := by omega
      clear e1 e2 e3 h1 h2 hlt
      generalize (c.toNat : Int) = x at *
      go_enter Try.func30, Try.ntmps30
      go_wp2_with fail
      go_ret3
      exact ⟨by rw [show (x - 65) + 97 = x + 32 by omega]; rfl, rfl⟩
    · have h3 : c.toNat < 65 ∨ (90 < c.toNat ∧ c.toNat < 97) ∨ 122 < c.toNat := by omega
      obtain ⟨e1, e2, e3⟩ := let_N h3
      rw [e1, e2, e3]
      clear e1 e2 e3
      rcases h3 with h3 | ⟨h3, h4⟩ | h3
      · have d1 : decide (97 ≤ (c.toNat : Int)) = false := decide_eq_false (by omega)
        have d3 : decide (65 ≤ (c.toNat : Int)) = false := decide_eq_false (by omega)
        clear h1 h2 h3
        go_enter Try.func30, Try.ntmps30
        go_wp2_with fail
        go_ret3
        exact ⟨rfl, rfl⟩
      · have d1 : decide (97 ≤ (c.toNat : Int)) = false := decide_eq_false (by omega)
        have d3 : decide (65 ≤ (c.toNat : Int)) = true := decide_eq_true (by omega)
        have d4 : decide ((c.toNat : Int) ≤ 90) = false := decide_eq_false (by omega)
        clear h1 h2 h3
        go_enter Try.func30, Try.ntmps30
        go_wp2_with fail
        go_ret3
        exact ⟨rfl, rfl⟩
      · have d1 : decide (97 ≤ (c.toNat : Int)) = true := decide_eq_true (by omega)
        have d2 : decide ((c.toNat : Int) ≤ 122) = false := decide_eq_false (by omega)
        have d3 : decide (65 ≤ (c.toNat : Int)) = true := decide_eq_true (by omega)
        have d4 : decide ((c.toNat : Int) ≤ 90) = false := decide_eq_false (by omega)
        clear h1 h2 h3
        go_enter Try.func30, Try.ntmps30
        go_wp2_with fail
        go_ret3
        exact ⟨rfl, rfl⟩
end Go.Proofs.Ytkjcbneanaeleaa
end

/- the text B8 -/
section
/- Chapter 06: characters: letter, digit, written; the reference's Letter, Is, Digit, Written. -/
namespace Go.Proofs.Ytkjcbneanaeleaa
open Go.RowKit Go.Dx

set_option maxHeartbeats 400000 in
theorem ref_Letter (c : UInt8) (w : World) : Calls Try.prog 31 #[.int .u8 (c.toNat : Int)] w fun e w' => e = LetterR c ∧ w = w' := by
  have hlt := c.toNat_lt
  unfold LetterR
  by_cases h1 : 97 ≤ c.toNat ∧ c.toNat ≤ 122
  · obtain ⟨e1, e2, e3⟩ := let_S h1.1 h1.2
    rw [e1, e2, e3]
    have d1 : decide (97 ≤ (c.toNat : Int)) = true := decide_eq_true (by omega)
    have d2 : decide ((c.toNat : Int) ≤ 122) = true := decide_eq_true (by omega)
    clear e1 e2 e3 h1
    go_enter Try.func31, Try.ntmps31
    go_wp2_with fail
    go_ret3
    exact ⟨rfl, rfl⟩
  · by_cases h2 : 65 ≤ c.toNat ∧ c.toNat ≤ 90
    · obtain ⟨e1, e2, e3⟩ := let_C h2.1 h2.2
      rw [e1, e2, e3]
      have d1 : decide (97 ≤ (c.toNat : Int)) = false := decide_eq_false (by omega)
      have d3 : decide (65 ≤ (c.toNat : Int)) = true := decide_eq_true (by omega)
      have d4 : decide ((c.toNat : Int) ≤ 90) = true := decide_eq_true (by omega)
      have l1 : 65 ≤ (c.toNat : Int) := by omega
      have l2 : (c.toNat : Int) ≤ 90 := by omega
      clear e1 e2 e3 h1 h2 hlt
      generalize (c.toNat : Int) = x at *
      go_enter Try.func31, Try.ntmps31
      go_wp2_with fail
      go_ret3
      exact ⟨rfl, rfl⟩
    · have h3 : c.toNat < 65 ∨ (90 < c.toNat ∧ c.toNat < 97) ∨ 122 < c.toNat := by omega
      obtain ⟨e1, e2, e3⟩ := let_N h3
      rw [e1, e2, e3]
      clear e1 e2 e3
      rcases h3 with h3 | ⟨h3, h4⟩ | h3
      · have d1 : decide (97 ≤ (c.toNat : Int)) = false := decide_eq_false (by omega)
        have d3 : decide (65 ≤ (c.toNat : Int)) = false := decide_eq_false (by omega)
        clear h1 h2 h3
        go_enter Try.func31, Try.ntmps31
        go_wp2_with fail
        go_ret3
        exact ⟨rfl, rfl⟩
      · have d1 : decide (97 ≤ (c.toNat : Int)) = false := decide_eq_false (by omega)
        have d3 : decide (65 ≤ (c.toNat : Int)) = true := decide_eq_true (by omega)
        have d4 : decide ((c.toNat : Int) ≤ 90) = false := decide_eq_false (by omega)
        clear h1 h2 h3
        go_enter Try.func31, Try.ntmps31
        go_wp2_with fail
        go_ret3
        exact ⟨rfl, rfl⟩
      · have d1 : decide (97 ≤ (c.toNat : Int)) = true := decide_eq_true (by omega)
        have d2 : decide ((c.toNat : Int) ≤ 122) = false := decide_eq_false (by omega)
        have d3 : decide (65 ≤ (c.toNat : Int)) = true := decide_eq_true (by omega)
        have d4 : decide ((c.toNat : Int) ≤ 90) = false := decide_eq_false (by omega)
        clear h1 h2 h3
        go_enter Try.func31, Try.ntmps31
        go_wp2_with fail
        go_ret3
        exact ⟨rfl, rfl⟩

set_option maxHeartbeats 400000 in
theorem tab_letter (c : UInt8) (w : World) : Calls Try.prog 63 #[.int .u8 (c.toNat : Int)] w fun e w' => e = .returned (.bool (isL c)) ∧ w = w' := by
  have hc := tab_Letter c w
  unfold LetterR at hc
  go_enter Try.func63, Try.ntmps63
  go_wp2_with (go_at_call 30; refine hc.mono ?_; rintro e w2 ⟨rfl, rfl⟩)
  go_ret
  exact ⟨rfl, rfl⟩
set_option maxHeartbeats 400000 in
theorem ref_Is (c : UInt8) (w : World) : Calls Try.prog 21 #[.int .u8 (c.toNat : Int)] w fun e w' => e = .returned (.bool (isL c)) ∧ w = w' := by
  have hc := ref_Letter c w
  unfold LetterR at hc
  go_enter Try.func21, Try.ntmps21
  go_wp2_with (go_at_call 31; refine hc.mono ?_; rintro e w2 ⟨rfl, rfl⟩)
  go_ret
  exact ⟨rfl, rfl⟩
set_option maxHeartbeats 400000 in
theorem tab_digit (c : UInt8) (w : World) : Calls Try.prog 51 #[.int .u8 (c.toNat : Int)] w fun e w' => e = .returned (.bool (isD c)) ∧ w = w' := by
  by_cases h1 : 48 ≤ c.toNat
  · have d1 : decide (48 ≤ (c.toNat : Int)) = true := decide_eq_true (by omega)
    by_cases h2 : c.toNat ≤ 57
    · have d2 : decide ((c.toNat : Int) ≤ 57) = true := decide_eq_true (by omega)
      have HE : Hid (isD c = true) := hide (by unfold isD; simp [h1, h2])
      clear h1 h2
      go_enter Try.func51, Try.ntmps51
      go_wp2_with fail
      go_ret
      exact ⟨by rw [HE.out]; rfl, rfl⟩
    · have d2 : decide ((c.toNat : Int) ≤ 57) = false := decide_eq_false (by omega)
      have HE : Hid (isD c = false) := hide (by unfold isD; simp; omega)
      clear h1 h2
      go_enter Try.func51, Try.ntmps51
      go_wp2_with fail
      go_ret
      exact ⟨by rw [HE.out]; rfl, rfl⟩
  · have d1 : decide (48 ≤ (c.toNat : Int)) = false := decide_eq_false (by omega)
    have HE : Hid (isD c = false) := hide (by unfold isD; simp; omega)
    clear h1
    go_enter Try.func51, Try.ntmps51
    go_wp2_with fail
    go_ret
    exact ⟨by rw [HE.out]; rfl, rfl⟩
set_option maxHeartbeats 400000 in
theorem ref_Digit (c : UInt8) (w : World) : Calls Try.prog 22 #[.int .u8 (c.toNat : Int)] w fun e w' => e = .returned (.bool (isD c)) ∧ w = w' := by
  by_cases h1 : 48 ≤ c.toNat
  · have d1 : decide (48 ≤ (c.toNat : Int)) = true := decide_eq_true (by omega)
    by_cases h2 : c.toNat ≤ 57
    · have d2 : decide ((c.toNat : Int) ≤ 57) = true := decide_eq_true (by omega)
      have HE : Hid (isD c = true) := hide (by unfold isD; simp [h1, h2])
      clear h1 h2
      go_enter Try.func22, Try.ntmps22
      go_wp2_with fail
      go_ret
      exact ⟨by rw [HE.out]; rfl, rfl⟩
    · have d2 : decide ((c.toNat : Int) ≤ 57) = false := decide_eq_false (by omega)
      have HE : Hid (isD c = false) := hide (by unfold isD; simp; omega)
      clear h1 h2
      go_enter Try.func22, Try.ntmps22
      go_wp2_with fail
      go_ret
      exact ⟨by rw [HE.out]; rfl, rfl⟩
  · have d1 : decide (48 ≤ (c.toNat : Int)) = false := decide_eq_false (by omega)
    have HE : Hid (isD c = false) := hide (by unfold isD; simp; omega)
    clear h1
    go_enter Try.func22, Try.ntmps22
    go_wp2_with fail
    go_ret
    exact ⟨by rw [HE.out]; rfl, rfl⟩
set_option maxHeartbeats 400000 in
theorem tab_written (c : UInt8) (w : World) : Calls Try.prog 57 #[.int .u8 (c.toNat : Int)] w fun e w' => e = .returned (.bool (isW c)) ∧ w = w' := by
  by_cases h1 : 32 ≤ c.toNat
  · have d1 : decide (32 ≤ (c.toNat : Int)) = true := decide_eq_true (by omega)
    by_cases h2 : c.toNat ≤ 126
    · have d2 : decide ((c.toNat : Int) ≤ 126) = true := decide_eq_true (by omega)
      have HE : Hid (isW c = true) := hide (by unfold isW; simp [h1, h2])
      clear h1 h2
      go_enter Try.func57, Try.ntmps57
      go_wp2_with fail
      go_ret
      exact ⟨by rw [HE.out]; rfl, rfl⟩
    · have d2 : decide ((c.toNat : Int) ≤ 126) = false := decide_eq_false (by omega)
      have HE : Hid (isW c = false) := hide (by unfold isW; simp; omega)
      clear h1 h2
      go_enter Try.func57, Try.ntmps57
      go_wp2_with fail
      go_ret
      exact ⟨by rw [HE.out]; rfl, rfl⟩
  · have d1 : decide (32 ≤ (c.toNat : Int)) = false := decide_eq_false (by omega)
    have HE : Hid (isW c = false) := hide (by unfold isW; simp; omega)
    clear h1
    go_enter Try.func57, Try.ntmps57
    go_wp2_with fail
    go_ret
    exact ⟨by rw [HE.out]; rfl, rfl⟩
set_option maxHeartbeats 400000 in
theorem ref_Written (c : UInt8) (w : World) : Calls Try.prog 58 #[.int .u8 (c.toNat : Int)] w fun e w' => e = .returned (.bool (isW c)) ∧ w = w' := by
  by_cases h1 : 32 ≤ c.toNat
  · have d1 : decide (32 ≤ (c.toNat : Int)) = true := decide_eq_true (by omega)
    by_cases h2 : c.toNat ≤ 126
    · have d2 : decide ((c.toNat : Int) ≤ 126) = true := decide_eq_true (by omega)
      have HE : Hid (isW c = true) := hide (by unfold isW; simp [h1, h2])
      clear h1 h2
      go_enter Try.func58, Try.ntmps58
      go_wp2_with fail
      go_ret
      exact ⟨by rw [HE.out]; rfl, rfl⟩
    · have d2 : decide ((c.toNat : Int) ≤ 126) = false := decide_eq_false (by omega)
      have HE : Hid (isW c = false) := hide (by unfold isW; simp; omega)
      clear h1 h2
      go_enter Try.func58, Try.ntmps58
      go_wp2_with fail
      go_ret
      exact ⟨by rw [HE.out]; rfl, rfl⟩
  · have d1 : decide (32 ≤ (c.toNat : Int)) = false := decide_eq_false (by omega)
    have HE : Hid (isW c = false) := hide (by unfold isW; simp; omega)
    clear h1
    go_enter Try.func58, Try.ntmps58
    go_wp2_with fail
    go_ret
    exact ⟨by rw [HE.out]; rfl, rfl⟩
end Go.Proofs.Ytkjcbneanaeleaa
end

/- the text Pure1 -/
section
/- The plain mathematics of layer 1 (wire): what an integer's encoding is, what a decoding returns. No Go. -/
set_option linter.unusedVariables false
namespace Go.Dx

/-- digit i of m in base 256 -/
def dig (m i : Nat) : UInt8 := UInt8.ofNat (m / 256 ^ i % 256)
/-- the first j of k digits of m, the greatest first -/
def digs (m k j : Nat) : List UInt8 := (List.range j).map fun t => dig m (k - 1 - t)
theorem digs_zero (m k : Nat) : digs m k 0 = [] := rfl
theorem digs_succ (m k j : Nat) : digs m k (j + 1) = digs m k j ++ [dig m (k - 1 - j)] := by simp [digs, List.range_succ]
theorem digs_length (m k j : Nat) : (digs m k j).length = j := by simp [digs]
theorem dig_toNat (m i : Nat) : (dig m i).toNat = m / 256 ^ i % 256 := by
  unfold dig
  rw [UInt8.toNat_ofNat']
  omega

/-- k is the number of digits of m -/
def Len (m k : Nat) : Prop := k ≤ 8 ∧ m < 256 ^ k ∧ (k = 0 ∨ 256 ^ (k - 1) ≤ m)
def klen (m : Nat) : Nat := if m < 1 then 0 else if m < 256 then 1 else if m < 65536 then 2 else if m < 16777216 then 3 else if m < 4294967296 then 4 else if m < 1099511627776 then 5 else if m < 281474976710656 then 6 else if m < 72057594037927936 then 7 else 8
theorem klen_le (m : Nat) : klen m ≤ 8 := by unfold klen; repeat' split
                                             all_goals omega
theorem klen_of {m k : Nat} (h : Len m k) : klen m = k := by
  obtain ⟨h8, h1, h2⟩ := h
  match k, h8 with
  | 0, _ => simp at h1; subst h1; rfl
  | 1, _ => simp at h1 h2; unfold klen; repeat' split
            all_goals omega
  | 2, _ => simp at h1 h2; unfold klen; repeat' split
            all_goals omega
  | 3, _ => simp at h1 h2; unfold klen; repeat' split
            all_goals omega
  | 4, _ => simp at h1 h2; unfold klen; repeat' split
            all_goals omega
  | 5, _ => simp at h1 h2; unfold klen; repeat' split
            all_goals omega
  | 6, _ => simp at h1 h2; unfold klen; repeat' split
            all_goals omega
  | 7, _ => simp at h1 h2; unfold klen; repeat' split
            all_goals omega
  | 8, _ => simp at h1 h2; unfold klen; repeat' split
            all_goals omega
theorem len_klen {m : Nat} (h : m < 18446744073709551616) : Len m (klen m) := by
  unfold klen Len
  repeat' split
  all_goals (refine ⟨by omega, ?_, ?_⟩ <;> simp <;> omega)

def mag (n : Int) : Nat := if n < 0 then (-1 - n).toNat else n.toNat
/-- a digit as it is written: with the other bits where the integer is negative -/
def fl (neg : Bool) : UInt8 := if neg then 255 else 0
def flp (neg : Bool) (d : UInt8) : UInt8 := d ^^^ fl neg
def hd (neg : Bool) (k : Nat) : UInt8 := flp neg (UInt8.ofNat (128 + k))
def encInt (n : Int) : List UInt8 := hd (decide (n < 0)) (klen (mag n)) :: (digs (mag n) (klen (mag n)) (klen (mag n))).map (flp (decide (n < 0)))
theorem encInt_length (n : Int) : (encInt n).length = klen (mag n) + 1 := by simp [encInt, digs_length]
theorem encInt_pos (n : Int) : 1 ≤ (encInt n).length := by rw [encInt_length]; omega
theorem encInt_le (n : Int) : (encInt n).length ≤ 9 := by rw [encInt_length]; have := klen_le (mag n); omega

/-- the number with some digits, the greatest first -/
def val (l : List UInt8) : Nat := l.foldl (fun m d => 256 * m + d.toNat) 0
theorem val_snoc (l : List UInt8) (d : UInt8) : val (l ++ [d]) = 256 * val l + d.toNat := by simp [val, List.foldl_append]
/-- decoding behind the first byte -/
def decK (neg : Bool) (k : Nat) (t : List UInt8) : Int × Int × Int :=
  if 8 < k then (0, 0, 2)
  else if t.length < k then (0, 0, 3)
  else if 0 < k ∧ flp neg (t.getD 0 0) = 0 then (0, 0, 2)
  else if 9223372036854775808 ≤ val ((t.take k).map (flp neg)) then (0, 0, 2)
  else (if neg then -1 - (val ((t.take k).map (flp neg)) : Int) else val ((t.take k).map (flp neg)), (k : Int) + 1, 0)
/-- what decoding at the beginning of a byte sequence returns: the integer, the number of bytes, the error -/
def decInt (b : List UInt8) : Int × Int × Int :=
  match b with
  | [] => (0, 0, 3)
  | h :: t => decK (decide (h.toNat < 128)) ((flp (decide (h.toNat < 128)) h).toNat - 128) t
section
variable {neg : Bool} {k : Nat} {t : List UInt8}
theorem decK_8 (h8 : 8 < k) : decK neg k t = (0, 0, 2) := by unfold decK; rw [if_pos h8]
theorem decK_more (h8 : ¬ 8 < k) (hl : t.length < k) : decK neg k t = (0, 0, 3) := by unfold decK; rw [if_neg h8, if_pos hl]
theorem decK_zero (h8 : ¬ 8 < k) (hl : ¬ t.length < k) (h0 : 0 < k) (hz : flp neg (t.getD 0 0) = 0) : decK neg k t = (0, 0, 2) := by unfold decK; rw [if_neg h8, if_neg hl, if_pos ⟨h0, hz⟩]
theorem decK_big (h8 : ¬ 8 < k) (hl : ¬ t.length < k) (hz : k = 0 ∨ flp neg (t.getD 0 0) ≠ 0) (hb : 9223372036854775808 ≤ val ((t.take k).map (flp neg))) : decK neg k t = (0, 0, 2) := by
  unfold decK; rw [if_neg h8, if_neg hl, if_neg (by rintro ⟨h1, h2⟩; rcases hz with h | h; omega; exact h h2), if_pos hb]
theorem decK_form (h8 : ¬ 8 < k) (hl : ¬ t.length < k) (hb : 9223372036854775808 ≤ val ((t.take k).map (flp neg))) : decK neg k t = (0, 0, 2) := by
  unfold decK; rw [if_neg h8, if_neg hl]
  by_cases hz : 0 < k ∧ flp neg (t.getD 0 0) = 0
  · rw [if_pos hz]
  · rw [if_neg hz, if_pos hb]
theorem decK_ok (h8 : ¬ 8 < k) (hl : ¬ t.length < k) (hz : k = 0 ∨ flp neg (t.getD 0 0) ≠ 0) (hb : ¬ 9223372036854775808 ≤ val ((t.take k).map (flp neg))) :
    decK neg k t = (if neg then -1 - (val ((t.take k).map (flp neg)) : Int) else val ((t.take k).map (flp neg)), (k : Int) + 1, 0) := by
  unfold decK; rw [if_neg h8, if_neg hl, if_neg (by rintro ⟨h1, h2⟩; rcases hz with h | h; omega; exact h h2), if_neg hb]
end

theorem xor_u8 (a b : UInt8) : bits .xor .u8 (a.toNat : Int) (b.toNat : Int) = ((a ^^^ b).toNat : Int) := by
  rw [u8_xor_nat _ _ (UInt8.toNat_lt a) (UInt8.toNat_lt b), UInt8.toNat_xor]
theorem wrap_u8 (n : Nat) : IntKind.u8.wrap (n : Int) = ((UInt8.ofNat n).toNat : Int) := by
  rw [UInt8.toNat_ofNat', IntKind.wrap_u8']; omega
theorem u64_not (a : Nat) (ha : a < 18446744073709551616) : bits .xor .u64 IntKind.u64.max (a : Int) = ((18446744073709551615 - a : Nat) : Int) := by
  have h : IntKind.u64.max = ((18446744073709551615 : Nat) : Int) := rfl
  rw [h, u64_xor_nat _ _ (by omega) ha]
  congr 1
  have h2 : (18446744073709551615 : Nat) = 2 ^ 64 - 1 := by decide
  have := BitVec.toNat_not (x := BitVec.ofNat 64 a)
  have h3 := BitVec.allOnes_xor (x := BitVec.ofNat 64 a)
  rw [← h3, BitVec.toNat_xor, BitVec.toNat_allOnes, BitVec.toNat_ofNat, Nat.mod_eq_of_lt (by omega)] at this
  rw [h2, this]
theorem mag_lt {n : Int} (h0 : -9223372036854775808 ≤ n) (h1 : n ≤ 9223372036854775807) : mag n < 9223372036854775808 := by unfold mag; split <;> omega
theorem mag_pos {n : Int} (h : ¬ n < 0) : n = (mag n : Int) := by unfold mag; rw [if_neg h]; omega
theorem mag_neg {n : Int} (h : n < 0) (h0 : -9223372036854775808 ≤ n) : bits .xor .u64 IntKind.u64.max (IntKind.u64.wrap n) = (mag n : Int) := by
  have e : IntKind.u64.wrap n = ((n + 18446744073709551616).toNat : Int) := by rw [IntKind.wrap_u64]; omega
  rw [e, u64_not _ (by omega)]
  unfold mag
  rw [if_pos h]
  omega
theorem pow_shift (j : Nat) : (2 : Nat) ^ (8 * j) = 256 ^ j := by rw [Nat.pow_mul]
theorem shift_int (m j : Nat) : (m : Int) / 2 ^ (8 * j) = ((m / 256 ^ j : Nat) : Int) := by
  rw [← pow_shift]; simp
theorem len_brk {m k : Nat} (hk : k ≤ 8) (hm : m < 256 ^ k) (_h0 : 0 < k) (h : 0 < (m : Int) / 2 ^ (8 * (k - 1))) : Len m k := by
  refine ⟨hk, hm, .inr ?_⟩
  rw [shift_int] at h
  have h1 : 0 < m / 256 ^ (k - 1) := by omega
  exact Nat.le_of_not_lt fun h2 => by rw [Nat.div_eq_of_lt h2] at h1; omega
theorem len_zero {m k : Nat} (hk : k ≤ 8) (hm : m < 256 ^ k) (h0 : ¬ 0 < k) : Len m k := ⟨hk, hm, .inl (by omega)⟩
theorem len_next {m k : Nat} (hk : 0 < k) (h : (m : Int) / 2 ^ (8 * (k - 1)) ≤ 0) : m < 256 ^ (k - 1) := by
  rw [shift_int] at h
  have h1 : m / 256 ^ (k - 1) = 0 := Nat.le_zero.1 (by exact_mod_cast h)
  rcases Nat.div_eq_zero_iff.1 h1 with h2 | h2
  · have : 0 < 256 ^ (k - 1) := Nat.pow_pos (by omega)
    omega
  · exact h2
theorem hd_eq (neg : Bool) (k : Nat) (hk : k ≤ 8) : bits .xor .u8 (128 + (k : Int)) ((fl neg).toNat : Int) = ((hd neg k).toNat : Int) := by
  have e : (128 + (k : Int)) = ((UInt8.ofNat (128 + k)).toNat : Int) := by rw [UInt8.toNat_ofNat']; omega
  rw [e, xor_u8]; rfl
theorem dig_eq (neg : Bool) (m i : Nat) : bits .xor .u8 ((m : Int) / 2 ^ (8 * i) % 256) ((fl neg).toNat : Int) = ((flp neg (dig m i)).toNat : Int) := by
  rw [← IntKind.wrap_u8', shift_int, wrap_u8, xor_u8]
  congr 2
  unfold flp dig
  congr 1
  apply UInt8.toNat_inj.1
  rw [UInt8.toNat_ofNat', UInt8.toNat_ofNat']; omega
/-- the encoding as far as j digits are written -/
def encTo (neg : Bool) (m k j : Nat) : List UInt8 := hd neg k :: (digs m k j).map (flp neg)
theorem encTo_zero (neg : Bool) (m k : Nat) : encTo neg m k 0 = [hd neg k] := rfl
theorem encTo_succ (neg : Bool) (m k j : Nat) : encTo neg m k (j + 1) = encTo neg m k j ++ [flp neg (dig m (k - 1 - j))] := by simp [encTo, digs_succ]
theorem encTo_length (neg : Bool) (m k j : Nat) : (encTo neg m k j).length = j + 1 := by simp [encTo, digs_length]
theorem encTo_all {n : Int} {k : Nat} (h : Len (mag n) k) : encTo (decide (n < 0)) (mag n) k k = encInt n := by
  unfold encTo encInt; rw [klen_of h]
theorem xor_fl (d : UInt8) (neg : Bool) : bits .xor .u8 (d.toNat : Int) ((fl neg).toNat : Int) = ((flp neg d).toNat : Int) := xor_u8 _ _
theorem or_u64 (m : Nat) (d : UInt8) (h : m < 72057594037927936) : bits .or .u64 ((m : Int) * 256) (d.toNat : Int) = ((256 * m + d.toNat : Nat) : Int) := by
  have hd := UInt8.toNat_lt d
  have e : (m : Int) * (256 : Int) = ((m <<< 8 : Nat) : Int) := by rw [Nat.shiftLeft_eq]; omega
  rw [e, u64_or_nat _ _ (by rw [Nat.shiftLeft_eq]; omega) (by omega), ← Nat.shiftLeft_add_eq_or_of_lt (show d.toNat < 2 ^ 8 by omega), Nat.shiftLeft_eq]
  omega
theorem val_from (l : List UInt8) : ∀ m0, l.foldl (fun m d => 256 * m + d.toNat) m0 < (m0 + 1) * 256 ^ l.length := by
  induction l with
  | nil => intro m0; simp
  | cons d l ih =>
    intro m0
    have hd := UInt8.toNat_lt d
    have := ih (256 * m0 + d.toNat)
    rw [List.foldl_cons, List.length_cons, Nat.pow_succ, Nat.mul_comm (256 ^ l.length), ← Nat.mul_assoc]
    exact Nat.lt_of_lt_of_le this (Nat.mul_le_mul_right _ (by omega))
theorem val_lt (l : List UInt8) : val l < 256 ^ l.length := by simpa [val] using val_from l 0
theorem val_lt7 (l : List UInt8) (h : l.length ≤ 7) : val l < 72057594037927936 := Nat.lt_of_lt_of_le (val_lt l) (Nat.le_trans (Nat.pow_le_pow_right (by omega) h) (by decide))
theorem val_lt8 (l : List UInt8) (h : l.length ≤ 8) : val l < 18446744073709551616 := Nat.lt_of_lt_of_le (val_lt l) (Nat.le_trans (Nat.pow_le_pow_right (by omega) h) (by decide))
/-- the digits, the least first -/
def lows (m t : Nat) : List UInt8 := (List.range t).map (dig m)
theorem lows_succ (m t : Nat) : lows m (t + 1) = lows m t ++ [dig m t] := by simp [lows, List.range_succ]
theorem lows_length (m t : Nat) : (lows m t).length = t := by simp [lows]
theorem lows_get (m t i : Nat) (h : i < t) : (lows m t)[i]? = some (dig m i) := by simp [lows, h]
theorem dig_int (m t : Nat) : ((m / 256 ^ t : Nat) : Int) % 256 = ((dig m t).toNat : Int) := by rw [dig_toNat]; omega
theorem div_int (m t : Nat) : ((m / 256 ^ t : Nat) : Int) / 256 = ((m / 256 ^ (t + 1) : Nat) : Int) := by
  rw [Nat.pow_succ, ← Nat.div_div_eq_div_mul]; omega
theorem flp_neg (d : UInt8) : ((flp true d).toNat : Int) = 255 - (d.toNat : Int) := by
  have h : ∀ x : Fin 256, (x.1 ^^^ 255) = 255 - x.1 := by decide +kernel
  have := h ⟨d.toNat, UInt8.toNat_lt d⟩
  unfold flp fl
  rw [UInt8.toNat_xor]
  have h2 := UInt8.toNat_lt d
  simp only [if_true, UInt8.toNat_ofNat] at *
  simp at this ⊢
  omega
theorem flp_ge (h : UInt8) (neg : Bool) (hn : neg = decide (h.toNat < 128)) : 128 ≤ (flp neg h).toNat := by
  have hb := UInt8.toNat_lt h
  by_cases hx : h.toNat < 128
  · rw [hn, decide_eq_true hx]
    have := flp_neg h
    omega
  · rw [hn, decide_eq_false hx]
    unfold flp fl
    simp
    omega
theorem flp_pos (d : UInt8) : flp false d = d := by unfold flp fl; simp
theorem flp_pos_int (d : UInt8) : ((flp false d).toNat : Int) = (d.toNat : Int) := by rw [flp_pos]
theorem hd_pos (k : Nat) (h : k ≤ 8) : ((hd false k).toNat : Int) = 128 + k := by unfold hd; rw [flp_pos, UInt8.toNat_ofNat']; omega
theorem hd_neg (k : Nat) (h : k ≤ 8) : ((hd true k).toNat : Int) = 127 - k := by unfold hd; rw [flp_neg, UInt8.toNat_ofNat']; omega
theorem mag_of_nat (m : Nat) : mag (m : Int) = m := by unfold mag; rw [if_neg (by omega)]; omega
theorem mag_of_neg (m : Nat) : mag (-1 - (m : Int)) = m := by unfold mag; rw [if_pos (by omega)]; omega
theorem Len.lt {m t : Nat} (h : m < 9223372036854775808) (h1 : m / 256 ^ t ≠ 0) (ht : t ≤ 8) : t < 8 := by
  refine Nat.lt_of_le_of_ne ht ?_
  rintro rfl
  exact h1 (Nat.div_eq_of_lt (by simp; omega))
theorem Len.next {m t : Nat} (h1 : m / 256 ^ t ≠ 0) : 256 ^ t ≤ m := Nat.le_of_not_lt fun h => h1 (Nat.div_eq_of_lt h)
theorem Len.fin {m t : Nat} (h : m / 256 ^ t = 0) (ht : t ≤ 8) (h2 : t = 0 ∨ 256 ^ (t - 1) ≤ m) : Len m t := by
  refine ⟨ht, ?_, h2⟩
  rcases Nat.div_eq_zero_iff.1 h with h3 | h3
  · have : 0 < 256 ^ t := Nat.pow_pos (by omega)
    omega
  · exact h3
theorem dig_zero (m : Nat) (d : UInt8) : dig (256 * m + d.toNat) 0 = d := by
  apply UInt8.toNat_inj.1; rw [dig_toNat, Nat.pow_zero, Nat.div_one]; have := UInt8.toNat_lt d; omega
theorem dig_up (m i : Nat) (d : UInt8) : dig (256 * m + d.toNat) (i + 1) = dig m i := by
  apply UInt8.toNat_inj.1; rw [dig_toNat, dig_toNat, Nat.pow_succ, Nat.mul_comm (256 ^ i), ← Nat.div_div_eq_div_mul]
  have := UInt8.toNat_lt d
  congr 2; omega
theorem digs_val_rev (r : List UInt8) : digs (val r.reverse) r.length r.length = r.reverse := by
  induction r with
  | nil => rfl
  | cons d r ih =>
    rw [List.reverse_cons, val_snoc, List.length_cons, digs_succ]
    congr 1
    · rw [← ih]
      simp only [ih]
      unfold digs
      rw [← ih]
      unfold digs
      apply List.map_congr_left
      intro t ht
      have ht2 : t < r.length := by simpa using ht
      have e : r.length + 1 - 1 - t = (r.length - 1 - t) + 1 := by omega
      have ih2 : val (List.map (fun t => dig (val r.reverse) (r.length - 1 - t)) (List.range r.length)) = val r.reverse := by
        have := ih; unfold digs at this; rw [this]
      rw [e, ih2, dig_up]
    · have e : r.length + 1 - 1 - r.length = 0 := by omega
      rw [e, dig_zero]
theorem digs_val (l : List UInt8) : digs (val l) l.length l.length = l := by
  have := digs_val_rev l.reverse
  simpa using this
theorem flp_flp (neg : Bool) (d : UInt8) : flp neg (flp neg d) = d := by unfold flp; rw [UInt8.xor_assoc, UInt8.xor_self, UInt8.xor_zero]
theorem val_first (d : UInt8) (l : List UInt8) : val (d :: l) = d.toNat * 256 ^ l.length + val l := by
  have key : ∀ (l : List UInt8) (m0 : Nat), l.foldl (fun m d => 256 * m + d.toNat) m0 = m0 * 256 ^ l.length + l.foldl (fun m d => 256 * m + d.toNat) 0 := by
    intro l
    induction l with
    | nil => intro m0; simp
    | cons x l ih =>
      intro m0
      rw [List.foldl_cons, List.foldl_cons, ih (256 * m0 + x.toNat), ih (256 * 0 + x.toNat), List.length_cons, Nat.pow_succ, Nat.add_mul, Nat.add_mul]
      simp only [Nat.mul_zero, Nat.zero_mul, Nat.zero_add]
      rw [Nat.mul_comm 256 m0, Nat.mul_assoc, Nat.mul_comm (256 ^ l.length) 256]
      omega
  have := key l (256 * 0 + d.toNat)
  simp only [Nat.mul_zero, Nat.zero_add] at this
  simpa [val] using this
/-- an encoding is met where no digit is wasted -/
theorem enc_iff {neg : Bool} {h : UInt8} {K : Nat} {t : List UInt8} (hh : (flp neg h).toNat = 128 + K) (h8 : K ≤ 8) (hl : K ≤ t.length)
    (hb : val ((t.take K).map (flp neg)) < 9223372036854775808) :
    encInt (if neg then -1 - (val ((t.take K).map (flp neg)) : Int) else val ((t.take K).map (flp neg))) = h :: t.take K ↔ (K = 0 ∨ flp neg (t.getD 0 0) ≠ 0) := by
  obtain ⟨v, hv⟩ : ∃ v, v = val ((t.take K).map (flp neg)) := ⟨_, rfl⟩
  have hlen : ((t.take K).map (flp neg)).length = K := by simp; omega
  have hvK : v < 256 ^ K := by rw [hv]; have := val_lt ((t.take K).map (flp neg)); rwa [hlen] at this
  rw [← hv] at hb ⊢
  have hmag : mag (if neg then -1 - (v : Int) else v) = v := by cases neg; exact mag_of_nat v; exact mag_of_neg v
  have hneg : decide ((if neg then -1 - (v : Int) else v) < 0) = neg := by cases neg <;> simp <;> omega
  constructor
  · intro he
    have h2 := congrArg List.length he
    rw [encInt_length, hmag, List.length_cons, List.length_take, Nat.min_eq_left hl] at h2
    have hk : klen v = K := by omega
    have hL := len_klen (m := v) (by omega)
    rw [hk] at hL
    rcases hL.2.2 with h0 | h0
    · exact .inl h0
    · cases K with
      | zero => exact .inl rfl
      | succ K =>
        refine .inr fun hz => ?_
        cases t with
        | nil => simp at hl
        | cons d t =>
          simp only [List.getD_cons_zero] at hz
          rw [List.take_succ_cons, List.map_cons, val_first, hz] at hv
          have := val_lt ((t.take K).map (flp neg))
          simp only [List.length_map, List.length_take] at this hv
          simp only [List.length_cons] at hl
          rw [Nat.min_eq_left (by omega)] at this hv
          have h0' : 256 ^ K ≤ v := by simpa using h0
          have hv' : v = val ((t.take K).map (flp neg)) := by rw [hv]; simp
          rw [← hv'] at this
          omega
  · intro hz
    have hL : Len v K := by
      refine ⟨h8, hvK, ?_⟩
      rcases hz with h0 | hz
      · exact .inl h0
      · cases K with
        | zero => exact .inl rfl
        | succ K =>
          refine .inr ?_
          cases t with
          | nil => simp at hl
          | cons d t =>
            simp only [List.getD_cons_zero] at hz
            rw [List.take_succ_cons, List.map_cons, val_first] at hv
            simp only [List.length_cons] at hl
            simp only [List.length_map, List.length_take] at hv
            rw [Nat.min_eq_left (by omega)] at hv
            have h1 : 0 < (flp neg d).toNat := Nat.pos_of_ne_zero fun e => hz (UInt8.toNat_inj.1 e)
            have h3 : 1 * 256 ^ K ≤ (flp neg d).toNat * 256 ^ K := Nat.mul_le_mul_right _ h1
            simp
            omega
    have hk := klen_of hL
    unfold encInt
    rw [hmag, hneg, hk]
    congr 1
    · unfold hd
      have : UInt8.ofNat (128 + K) = flp neg h := by apply UInt8.toNat_inj.1; rw [hh, UInt8.toNat_ofNat']; omega
      rw [this, flp_flp]
    · have := digs_val ((t.take K).map (flp neg))
      rw [hlen, ← hv] at this
      rw [this, List.map_map]
      have e : flp neg ∘ flp neg = id := funext fun d => flp_flp neg d
      rw [e, List.map_id]
theorem decK_used {neg : Bool} {k : Nat} {t : List UInt8} (h : (decK neg k t).2.2 = 0) : (decK neg k t).2.1 = k + 1 ∧ k ≤ t.length ∧ -9223372036854775808 ≤ (decK neg k t).1 ∧ (decK neg k t).1 ≤ 9223372036854775807 := by
  by_cases h8 : 8 < k
  · rw [decK_8 h8] at h; simp at h
  · by_cases hl : t.length < k
    · rw [decK_more h8 hl] at h; simp at h
    · by_cases hz : 0 < k ∧ flp neg (t.getD 0 0) = 0
      · rw [decK_zero h8 hl hz.1 hz.2] at h; simp at h
      · have hz' : k = 0 ∨ flp neg (t.getD 0 0) ≠ 0 := by
          by_cases h0 : k = 0
          · exact .inl h0
          · exact .inr fun e => hz ⟨by omega, e⟩
        by_cases hb : 9223372036854775808 ≤ val ((t.take k).map (flp neg))
        · rw [decK_big h8 hl hz' hb] at h; simp at h
        · rw [decK_ok h8 hl hz' hb]
          refine ⟨rfl, by omega, ?_, ?_⟩ <;> (simp only; split <;> omega)
theorem decInt_cons (h : UInt8) (t : List UInt8) : decInt (h :: t) = decK (decide (h.toNat < 128)) ((flp (decide (h.toNat < 128)) h).toNat - 128) t := rfl
theorem decInt_used {l : List UInt8} (h : (decInt l).2.2 = 0) : 1 ≤ (decInt l).2.1 ∧ (decInt l).2.1 ≤ l.length ∧ -9223372036854775808 ≤ (decInt l).1 ∧ (decInt l).1 ≤ 9223372036854775807 := by
  cases l with
  | nil => simp [decInt] at h
  | cons x t =>
    rw [decInt_cons] at h ⊢
    obtain ⟨h1, h2, h3, h4⟩ := decK_used h
    rw [List.length_cons]
    generalize (flp (decide (x.toNat < 128)) x).toNat - 128 = k at *
    exact ⟨by omega, by omega, h3, h4⟩
theorem decK_err {neg : Bool} {k : Nat} {t : List UInt8} (h : (decK neg k t).2.2 ≠ 0) : decK neg k t = (0, 0, (decK neg k t).2.2) := by
  unfold decK at *
  by_cases h8 : 8 < k
  · rw [if_pos h8]
  · rw [if_neg h8] at h ⊢
    by_cases hl : t.length < k
    · rw [if_pos hl]
    · rw [if_neg hl] at h ⊢
      by_cases hz : 0 < k ∧ flp neg (t.getD 0 0) = 0
      · rw [if_pos hz]
      · rw [if_neg hz] at h ⊢
        by_cases hb : 9223372036854775808 ≤ val ((t.take k).map (flp neg))
        · rw [if_pos hb]
        · rw [if_neg hb] at h; exact absurd rfl h
theorem decInt_err {l : List UInt8} (h : (decInt l).2.2 ≠ 0) : decInt l = (0, 0, (decInt l).2.2) := by
  cases l with
  | nil => rfl
  | cons x t => rw [decInt_cons] at h ⊢; exact decK_err h
/-- the error of a list's length, where each element takes at least 'size' bytes -/
def cntErr (l : List UInt8) (size : Int) : Int :=
  if (decInt l).2.2 ≠ 0 then (decInt l).2.2 else if (decInt l).1 < 0 then 2 else if ((l.length : Int) - (decInt l).2.1) / size < (decInt l).1 then 3 else 0
end Go.Dx
end

/- the text Pure2 -/
section
/- The plain mathematics of layer 1, lists. No Go. -/
namespace Go.Dx

def encBytes (l : List UInt8) : List UInt8 := encInt l.length ++ l
def encInts (l : List Int) : List UInt8 := encInt l.length ++ l.flatMap encInt
def encStrs (x : List ByteArray) : List UInt8 := encInt x.length ++ x.flatMap fun s => encBytes s.data.toList
def encDigs (x : List (List UInt8)) : List UInt8 := encInt x.length ++ x.flatMap id

/-- what decoding a string returns -/
def decBytes (l : List UInt8) : ByteArray × Int × Int :=
  if cntErr l 1 = 0 then (⟨((l.drop (decInt l).2.1.toNat).take (decInt l).1.toNat).toArray⟩, (decInt l).2.1 + (decInt l).1, 0) else (⟨#[]⟩, 0, cntErr l 1)

theorem cnt_facts {l : List UInt8} {size : Int} (h1 : 1 ≤ size) (h : cntErr l size = 0) :
    ∃ A N : Nat, (decInt l).2.1 = (A : Int) ∧ (decInt l).1 = (N : Int) ∧ (decInt l).2.2 = 0 ∧ 1 ≤ A ∧ A + N * size.toNat ≤ l.length ∧ N ≤ l.length := by
  unfold cntErr at h
  by_cases hE : (decInt l).2.2 = 0
  · obtain ⟨u1, u2, u3, u4⟩ := decInt_used hE
    rw [if_neg (by simp [hE])] at h
    by_cases hN : (decInt l).1 < 0
    · rw [if_pos hN] at h; omega
    · rw [if_neg hN] at h
      by_cases hq : ((l.length : Int) - (decInt l).2.1) / size < (decInt l).1
      · rw [if_pos hq] at h; omega
      · obtain ⟨A, hA⟩ := Int.eq_ofNat_of_zero_le (a := (decInt l).2.1) (by omega)
        obtain ⟨N, hN'⟩ := Int.eq_ofNat_of_zero_le (a := (decInt l).1) (by omega)
        obtain ⟨S, hS⟩ := Int.eq_ofNat_of_zero_le (a := size) (by omega)
        rw [hA, hN'] at hq
        have hq2 : (N : Int) * size ≤ (l.length : Int) - A := (Int.le_ediv_iff_mul_le (by omega)).1 (by omega)
        subst hS
        have hq3 : N * S ≤ l.length - A := by
          have : ((N * S : Nat) : Int) ≤ (l.length : Int) - A := by simpa using hq2
          omega
        have hS1 : 1 ≤ S := by omega
        have hNS : N * 1 ≤ N * S := Nat.mul_le_mul_left _ hS1
        refine ⟨A, N, hA, hN', hE, by omega, ?_, by omega⟩
        simp only [Int.toNat_natCast]
        omega
  · rw [if_pos hE] at h; exact absurd h hE
end Go.Dx
end

/- the text Wire1 -/
section
namespace Go.Proofs.Ytkjcbneanaeleaa
open Go.RowKit Go.Dx

end Go.Proofs.Ytkjcbneanaeleaa
end

/- the text Wire2 -/
section
namespace Go.Proofs.Ytkjcbneanaeleaa
open Go.RowKit Go.Dx

end Go.Proofs.Ytkjcbneanaeleaa
end

/- the text WireB -/
section
/- wire.Bytes and the reference's. -/
namespace Go.Proofs.Ytkjcbneanaeleaa
open Go.RowKit Go.Dx

end Go.Proofs.Ytkjcbneanaeleaa
end

/- the text Wire3 -/
section
namespace Go.Proofs.Ytkjcbneanaeleaa
open Go.RowKit Go.Dx

theorem neq_nat {a b : Nat} (h : a ≠ b) : ((a : Int) != (b : Int)) = true := by simp; omega
theorem eq_nat {a b : Nat} (h : a = b) : ((a : Int) != (b : Int)) = false := by simp; omega

theorem same_step {l1 l2 : List UInt8} {k : Nat} {x y : UInt8} (hx : l1[k]? = some x) (hy : l2[k]? = some y) (h : l1.take k = l2.take k) : (x = y ↔ l1.take (k + 1) = l2.take (k + 1)) := by
  rw [List.take_add_one, List.take_add_one, hx, hy, h]; simp
theorem ne_of_take {l1 l2 : List UInt8} {k : Nat} (h : l1.take k ≠ l2.take k) : l1 ≠ l2 := fun e => h (by rw [e])

set_option maxHeartbeats 400000 in
theorem ref_Same (l1 l2 : List UInt8) (a1 a2 : Option Addr) (n1 n2 c1 c2 : Nat) (w : World) (h1 : Sl w 1 a1 n1 c1 (l1.map B8)) (h2 : Sl w 1 a2 n2 c2 (l2.map B8)) :
    Calls Try.prog 46 #[.slice a1 n1 c1, .slice a2 n2 c2] w (Still (.bool (decide (l1 = l2))) w) := by
  obtain rfl := h1.n_eq
  obtain rfl := h2.n_eq
  have hm1 := Nat.le_trans h1.le h1.cap
  have hm2 := Nat.le_trans h2.le h2.cap
  unfold maxLen at hm1 hm2
  by_cases hlen : l1.length = l2.length
  · have hb := eq_nat hlen
    have hle1 : l1.length ≤ l2.length := by omega
    have hle2 : l2.length ≤ l1.length := by omega
    have HL := hide hlen
    clear hlen
    go_enter Try.func46, Try.ntmps46
    go_wp2
    go_loopg [5] l1.length (fun g i w' => ∃ (k n : Nat), k ≤ l1.length ∧ g = l1.length - k ∧ l1.take k = l2.take k ∧ i = .int .i64 k ∧ w' = w.drewN n)
    case atStart => exact ⟨0, 0, by omega, by omega, rfl, rfl, rfl⟩
    case round =>
      obtain ⟨k, nq, hk, hg, ht, rfl, rfl⟩ := hrel
      have HG := hide hg
      have HT := hide ht
      clear hg ht
      by_cases hkl : k < l1.length
      · obtain ⟨b1, o1, rfl, hb1, hc1⟩ := h1.ex (by simp; omega)
        obtain ⟨b2, o2, rfl, hb2, hc2⟩ := h2.ex (by simp; omega)
        obtain ⟨x, hx⟩ : ∃ x, l1[k]? = some x := ⟨l1[k], by simp [hkl]⟩
        obtain ⟨y, hy⟩ : ∃ y, l2[k]? = some y := ⟨l2[k]'(by omega), by simp⟩
        have hx1 : w.cell? ⟨b1, o1 + k, none⟩ = some (.int .u8 (x.toNat : Int)) := hc1 k _ (by rw [List.getElem?_map, hx]; rfl)
        have hy1 : w.cell? ⟨b2, o2 + k, none⟩ = some (.int .u8 (y.toNat : Int)) := hc2 k _ (by rw [List.getElem?_map, hy]; rfl)
        have HX := hide (same_step hx hy HT.out)
        clear hc1 hc2 hx hy
        by_cases hxy : x = y
        · have HE := hide (HX.out.1 hxy)
          subst hxy
          have hn : ((x.toNat : Int) != (x.toNat : Int)) = false := by simp
          go_wp2
          go_quiet (fail)
          go_wp2
          go_roundg (l1.length - (k + 1))
          case measure => have := HG.out; omega
          case rel => exact ⟨k + 1, _, by omega, rfl, HE.out, by go_num, by first | rfl | exact World.drewN_drewN _ _ _⟩
        · have hn : ((x.toNat : Int) != (y.toNat : Int)) = true := neq_nat (fun e => hxy (UInt8.toNat_inj.1 e))
          have HE := hide (ne_of_take (fun e => hxy (HX.out.2 e)))
          have hne : Value.bool (decide (l1 = l2)) = .bool false := by rw [decide_eq_false HE.out]
          have HN := hide hne
          clear hne hxy
          go_wp2
          go_quiet (fail)
          go_wp2
          go_ret
          exact ⟨by rw [HN.out]; rfl, _, World.drewN_drewN _ _ _⟩
      · obtain rfl : k = l1.length := by omega
        go_wp2
        go_ret
        have : l1 = l2 := by have := HT.out; rw [List.take_length, List.take_of_length_le (by omega)] at this; exact this
        exact ⟨by rw [decide_eq_true this]; rfl, _, rfl⟩
  · have hb := neq_nat hlen
    have HN := hide (decide_eq_false (fun e : l1 = l2 => hlen (by rw [e])))
    clear hlen
    go_enter Try.func46, Try.ntmps46
    go_wp2
    go_ret
    exact ⟨by rw [HN.out]; rfl, 0, rfl⟩



end Go.Proofs.Ytkjcbneanaeleaa
end

/- the text Wire4 -/
section
namespace Go.Proofs.Ytkjcbneanaeleaa
open Go.RowKit Go.Dx

/-- three results that are integers -/
abbrev R3 (r : Int × Int × Int) : Value := .tuple #[.int .i64 r.1, .int .i64 r.2.1, .int .i64 r.2.2]

end Go.Proofs.Ytkjcbneanaeleaa
end

/- the text Wire5 -/
section
namespace Go.Proofs.Ytkjcbneanaeleaa
open Go.RowKit Go.Dx

end Go.Proofs.Ytkjcbneanaeleaa
end

/- the text Wire6 -/
section
namespace Go.Proofs.Ytkjcbneanaeleaa
open Go.RowKit Go.Dx

theorem neq_int {a b : Int} (h : a ≠ b) : (a != b) = true := by simp [h]

end Go.Proofs.Ytkjcbneanaeleaa
end

/- the text Wire7 -/
section
namespace Go.Proofs.Ytkjcbneanaeleaa
open Go.RowKit Go.Dx

abbrev RS (r : ByteArray × Int × Int) : Value := .tuple #[.string r.1, .int .i64 r.2.1, .int .i64 r.2.2]

end Go.Proofs.Ytkjcbneanaeleaa
end

/- the text Wire8 -/
section
namespace Go.Proofs.Ytkjcbneanaeleaa
open Go.RowKit Go.Dx

/-- what has been written after k elements -/
def accTo {α : Type} (p : List UInt8) (g : α → List UInt8) (l : List α) (k : Nat) : List UInt8 := p ++ (l.take k).flatMap g
theorem acc_zero {α : Type} (p : List UInt8) (g : α → List UInt8) (l : List α) : accTo p g l 0 = p := by simp [accTo]
theorem acc_succ {α : Type} (p : List UInt8) (g : α → List UInt8) {l : List α} {k : Nat} {x : α} (h : l[k]? = some x) : accTo p g l (k + 1) = accTo p g l k ++ g x := by
  unfold accTo; rw [List.take_add_one, h]; simp
theorem acc_all {α : Type} (p : List UInt8) (g : α → List UInt8) (l : List α) : accTo p g l l.length = p ++ l.flatMap g := by unfold accTo; rw [List.take_length]
theorem acc_le {α : Type} (p : List UInt8) (g : α → List UInt8) (l : List α) (k : Nat) : (accTo p g l k).length ≤ (p ++ l.flatMap g).length := by
  unfold accTo
  have e : l.flatMap g = (l.take k).flatMap g ++ (l.drop k).flatMap g := by rw [← List.flatMap_append, List.take_append_drop]
  rw [e]; simp

end Go.Proofs.Ytkjcbneanaeleaa
end

/- the text Wire9 -/
section
namespace Go.Proofs.Ytkjcbneanaeleaa
open Go.RowKit Go.Dx

end Go.Proofs.Ytkjcbneanaeleaa
end

/- the text Wire10 -/
section
namespace Go.Proofs.Ytkjcbneanaeleaa
open Go.RowKit Go.Dx

theorem same_step' {α : Type} {l1 l2 : List α} {k : Nat} {x y : α} (hx : l1[k]? = some x) (hy : l2[k]? = some y) (h : l1.take k = l2.take k) : (x = y ↔ l1.take (k + 1) = l2.take (k + 1)) := by
  rw [List.take_add_one, List.take_add_one, hx, hy, h]; simp
theorem str_eq_iff (x y : ByteArray) : x.toList = y.toList ↔ x = y := by
  rw [Lib.toList_data, Lib.toList_data]
  exact ⟨WideShapes.bytes_inj, fun e => by rw [e]⟩
theorem str_ne {x y : ByteArray} (h : x ≠ y) : (x.toList == y.toList) = false := beq_eq_false_iff_ne.2 fun e => h ((str_eq_iff x y).1 e)
theorem ne_of_take' {α : Type} {l1 l2 : List α} {k : Nat} (h : l1.take k ≠ l2.take k) : l1 ≠ l2 := fun e => h (by rw [e])

end Go.Proofs.Ytkjcbneanaeleaa
end

/- the text Pure3 -/
section
/- Sequences of decodings. No Go. -/
namespace Go.Dx

/-- k decodings, one behind the other, from A on: the values, the place behind them, the error of the first that fails -/
def seqTo {α : Type} (f : List UInt8 → α × Int × Int) (l : List UInt8) (A : Nat) : Nat → List α × Nat × Int
  | 0 => ([], A, 0)
  | k + 1 =>
    let r := seqTo f l A k
    if r.2.2 ≠ 0 then r
    else
      let x := f (l.drop r.2.1)
      if x.2.2 ≠ 0 then ([], 0, x.2.2) else (r.1 ++ [x.1], r.2.1 + x.2.1.toNat, 0)
def decSeq {α : Type} (f : List UInt8 → α × Int × Int) (l : List UInt8) : List α × Int × Int :=
  if cntErr l 1 ≠ 0 then ([], 0, cntErr l 1)
  else
    let r := seqTo f l (decInt l).2.1.toNat (decInt l).1.toNat
    if r.2.2 ≠ 0 then ([], 0, r.2.2) else (r.1, (r.2.1 : Int), 0)

theorem seqTo_err {α : Type} {f : List UInt8 → α × Int × Int} {l : List UInt8} {A k : Nat} (h : (seqTo f l A k).2.2 ≠ 0) : ∀ m, seqTo f l A (k + m) = seqTo f l A k
  | 0 => rfl
  | m + 1 => by
    have ih := seqTo_err h m
    show (let r := seqTo f l A (k + m); if r.2.2 ≠ 0 then r else _) = _
    simp only
    rw [ih, if_pos h]
theorem seqTo_stop {α : Type} {f : List UInt8 → α × Int × Int} {l : List UInt8} {A k : Nat} {xs : List α} {B : Nat} (h : seqTo f l A k = (xs, B, 0)) (he : (f (l.drop B)).2.2 ≠ 0) :
    seqTo f l A (k + 1) = ([], 0, (f (l.drop B)).2.2) := by
  show (let r := seqTo f l A k; if r.2.2 ≠ 0 then r else _) = _
  simp only [h]
  rw [if_neg (by simp), if_pos he]
theorem seqTo_step {α : Type} {f : List UInt8 → α × Int × Int} {l : List UInt8} {A k : Nat} {xs : List α} {B : Nat} (h : seqTo f l A k = (xs, B, 0)) (he : (f (l.drop B)).2.2 = 0) :
    seqTo f l A (k + 1) = (xs ++ [(f (l.drop B)).1], B + (f (l.drop B)).2.1.toNat, 0) := by
  show (let r := seqTo f l A k; if r.2.2 ≠ 0 then r else _) = _
  simp only [h]
  rw [if_neg (by simp), if_neg (by simp [he])]
theorem decSeq_cnt {α : Type} {f : List UInt8 → α × Int × Int} {l : List UInt8} (h : cntErr l 1 ≠ 0) : decSeq f l = ([], 0, cntErr l 1) := by unfold decSeq; rw [if_pos h]
theorem decSeq_err {α : Type} {f : List UInt8 → α × Int × Int} {l : List UInt8} {A N k : Nat} (h : cntErr l 1 = 0) (hA : (decInt l).2.1 = (A : Int)) (hN : (decInt l).1 = (N : Int)) {E : Int} (hk : k < N) (hE : E ≠ 0)
    (hs : seqTo f l A (k + 1) = ([], 0, E)) : decSeq f l = ([], 0, E) := by
  unfold decSeq
  rw [if_neg (by simp [h]), hA, hN]
  obtain ⟨m, rfl⟩ : ∃ m, N = (k + 1) + m := ⟨N - (k + 1), by omega⟩
  have := seqTo_err (f := f) (l := l) (A := A) (k := k + 1) (by rw [hs]; exact hE) m
  simp only [Int.toNat_natCast]
  rw [this, hs]
  simp [hE]
theorem decSeq_ok {α : Type} {f : List UInt8 → α × Int × Int} {l : List UInt8} {A N : Nat} (h : cntErr l 1 = 0) (hA : (decInt l).2.1 = (A : Int)) (hN : (decInt l).1 = (N : Int)) {xs : List α} {B : Nat}
    (hs : seqTo f l A N = (xs, B, 0)) : decSeq f l = (xs, (B : Int), 0) := by
  unfold decSeq
  rw [if_neg (by simp [h]), hA, hN]
  simp [hs]
theorem seqTo_len {α : Type} {f : List UInt8 → α × Int × Int} {l : List UInt8} {A : Nat} : ∀ {k : Nat} {xs : List α} {B : Nat}, seqTo f l A k = (xs, B, 0) → xs.length = k
  | 0, xs, B, h => by simp [seqTo] at h; obtain ⟨rfl, _⟩ := h; rfl
  | k + 1, xs, B, h => by
    by_cases h0 : (seqTo f l A k).2.2 = 0
    · by_cases he : (f (l.drop (seqTo f l A k).2.1)).2.2 = 0
      · have := seqTo_step (k := k) (xs := (seqTo f l A k).1) (B := (seqTo f l A k).2.1) (by rw [← h0]) he
        rw [this] at h
        injection h with h1 h2
        rw [← h1, List.length_append, seqTo_len (k := k) (xs := (seqTo f l A k).1) (B := (seqTo f l A k).2.1) (by rw [← h0])]
        rfl
      · have := seqTo_stop (k := k) (xs := (seqTo f l A k).1) (B := (seqTo f l A k).2.1) (by rw [← h0]) he
        rw [this] at h
        injection h with h1 h2
        injection h2 with h2 h3
        exact absurd h3 he
    · have := seqTo_err h0 1
      rw [this] at h
      rw [h] at h0
      exact absurd rfl h0
theorem decBytes_used {l : List UInt8} (h : (decBytes l).2.2 = 0) : 1 ≤ (decBytes l).2.1 ∧ (decBytes l).2.1 ≤ l.length := by
  by_cases hE : cntErr l 1 = 0
  · obtain ⟨A, N, e1, e2, e3, hA, hAN, hN⟩ := cnt_facts (by omega) hE
    unfold decBytes
    rw [if_pos hE, e1, e2]
    simp at hAN ⊢
    omega
  · unfold decBytes at h
    rw [if_neg hE] at h
    exact absurd h hE
end Go.Dx
end

/- the text Wire11 -/
section
namespace Go.Proofs.Ytkjcbneanaeleaa
open Go.RowKit Go.Dx

/-- three results, the first a list of its own -/
def Gives3 (e : TypeId) (sz n : Nat) (cs : List Value) (x y : Int) (w : World) (r : Ending) (w' : World) : Prop :=
  ∃ a c, r = .returned (.tuple #[.slice a n c, .int .i64 x, .int .i64 y]) ∧ Own w' w.heap.size e sz a n c cs ∧ Below w.heap.size w w'

end Go.Proofs.Ytkjcbneanaeleaa
end

/- the text Wire12 -/
section
namespace Go.Proofs.Ytkjcbneanaeleaa
open Go.RowKit Go.Dx

theorem decInt_bd (l : List UInt8) : 0 ≤ (decInt l).2.1 ∧ (decInt l).2.1 ≤ l.length := by
  by_cases h : (decInt l).2.2 = 0
  · obtain ⟨h1, h2, _, _⟩ := decInt_used h
    exact ⟨by omega, h2⟩
  · rw [decInt_err h]; simp

theorem setCell_grown (w : World) (p : Addr) (v : Value) (n : Nat) : w.grownBy ((w.setCell p v).drewN n) (some p.block) :=
  ⟨rfl, rfl, rfl, by simp [World.setCell, World.drewN], fun k _ hne => Below.heap_setCell w p v k (fun e => hne (by rw [e]))⟩

theorem below2 (w : World) (o o' : Obj) : Below w.heap.size w ((w.alloc o).alloc o') := ((Below.refl _ _).alloc (Nat.le_refl _) o).alloc (by simp) o'

end Go.Proofs.Ytkjcbneanaeleaa
end

/- the text Ops2 -/
section
/- More laws of the walk: a slice literal of one element that is an array or a struct; a slice to an array. No program in sight. -/
set_option linter.unusedVariables false
namespace Go.Dx
open Go.RowKit

theorem fill_list : ∀ (l : List Value) (k : Nat) (cs : Array Value), cs.size = k + l.length →
    ((l.zipIdx k).foldl (fun cs (x : Value × Nat) => cs.setIfInBounds x.2 x.1) cs).toList = cs.toList.take k ++ l
  | [], k, cs, h => by simp at h ⊢; rw [List.take_of_length_le]; simp; omega
  | x :: r, k, cs, h => by
    rw [List.zipIdx_cons, List.foldl_cons, fill_list r (k + 1) _ (by simp at h ⊢; omega)]
    simp only [Array.toList_setIfInBounds]
    have hk : k < cs.toList.length := by simp at h ⊢; omega
    rw [List.take_succ_eq_append_getElem (by simpa using hk)]
    simp [List.take_set_of_le]
theorem fill_one (v cs : Array Value) (h : cs.size = v.size) : v.zipIdx.foldl (fun cs (x : Value × Nat) => cs.setIfInBounds (0 + x.2) x.1) cs = v := by
  apply Array.ext'
  have := fill_list v.toList 0 cs (by simpa using h)
  simp only [List.take_zero, List.nil_append] at this
  rw [← Array.foldl_toList, Array.toList_zipIdx]
  simpa using this

section ops
variable {P : Program} {w : World} {ops : Array Oper} {rest : List Oper} {act : Act} {Q : Exit → Act → World → Prop}
  {ty : TypeId} {pos : String} {after : Array Edge}

/-- '[]T{x}', T an array or a struct. -/
theorem build_one (d : Nat) (t : TypeId) (x : Operand) (e : TypeId) (ht : P.underlying t = some (.slice e)) (z : Value) (sz bytes : Nat) (hi : (P.info? e).map (fun i => (i.zero, i.size, i.bytes)) = some (some z, sz, bytes))
    (hz : z.cells.size = sz) (hs0 : 0 < sz) (hs1 : sz ≤ 16777216) (v : Value) (us : List Value) (hx : act.eval x = v) (hv : v.cells = us.toArray) (hl : us.length = sz)
    (hK : wpList P ops Q rest (act.put (some d) (.slice (some ⟨w.heap.size, 0, none⟩) 1 1)) (w.alloc (.cells us.toArray e))) :
    wpList P ops Q ({ dst := some d, op := .buildSlice t 1 #[(0, x)], type := ty, pos := pos, after := after, guard := none } :: rest) act w := by
  refine wpList_plain rfl fun K hK' => ?_
  obtain ⟨i, hi0, hz0, hz1, hz2⟩ := info_parts hi
  subst hz1
  have hrun : (Instr.buildSlice t 1 #[(0, v)]).run P w = .ok (.slice (some ⟨w.heap.size, 0, none⟩) 1 1) (w.alloc (.cells us.toArray e)) := by
    have h1 : ¬ (i.size > 16777216) := by omega
    have h2 : i.size ≠ 0 := by omega
    have hf := fill_one us.toArray ((Array.range i.size).map (z.cells[· % z.cells.size]!)) (by simp [hl])
    simp [Instr.buildSlice, run_underlying ht, sizeOf, typeInfo, hi0, h1, h2, zeroValue, hz0, Instr.fill, hv, hl, newRow]
    simp at hf
    rw [hf]
  unfold Oper.wp
  simp [execOp, hx, hrun, Result.andThen]
  exact hK' _ _ hK

/-- '[n]T(xs)' and '(*[n]T)(xs)' -/
theorem to_array (d : Nat) (t : TypeId) (x : Operand) (n e : Nat) (ht : P.underlying t = some (.array n e)) (a : Option Addr) (len c : Nat) (hx : act.eval x = .slice a len c) (hn : n ≤ len)
    (hK : wpList P ops Q rest (act.put (some d) (.pointer a)) w) :
    wpList P ops Q ({ dst := some d, op := .sliceToArrayPointer t x, type := ty, pos := pos, after := after, guard := none } :: rest) act w := by
  refine wpList_plain rfl fun K hK' => ?_
  have hrun : (Instr.arrayAt t (.slice a len c)).run P w = .ok (.pointer a) w := by
    simp [Instr.arrayAt, run_underlying ht, Nat.not_lt.2 hn]
  unfold Oper.wp
  simp [execOp, hx, hrun, Result.andThen]
  exact hK' _ _ hK
end ops

theorem run_forIn_eq {P : Program} (w : World) (n : Nat) (xs ys : List Int) (hx : xs.length = n) (hy : ys.length = n) (F : Nat → Option Bool × Unit → Sem (ForInStep (Option Bool × Unit)))
    (hF : ∀ i s, i < n → (F i s).run P w = .ok (if xs[i]? = ys[i]? then ForInStep.yield (none, ()) else ForInStep.done (some false, ())) w) :
    ∀ (m s : Nat), s + m = n → (forIn (List.range' s m) ((none, ()) : Option Bool × Unit) F).run P w = .ok (if xs.drop s = ys.drop s then (none, ()) else (some false, ())) w := by
  intro m
  induction m with
  | zero =>
    intro s hs
    rw [List.drop_eq_nil_of_le (by omega), List.drop_eq_nil_of_le (by omega)]
    simp [Sem.run_pure]
  | succ m ih =>
    intro s hs
    rw [List.range'_succ, List.forIn_cons, Sem.run_bind, hF s _ (by omega)]
    have ex : xs.drop s = xs[s]'(by omega) :: xs.drop (s + 1) := List.drop_eq_getElem_cons (by omega)
    have ey : ys.drop s = ys[s]'(by omega) :: ys.drop (s + 1) := List.drop_eq_getElem_cons (by omega)
    rw [ex, ey]
    by_cases h : xs[s]? = ys[s]?
    · rw [if_pos h, Result.andThen_ok]
      have h2 : xs[s]'(by omega) = ys[s]'(by omega) := by
        rw [List.getElem?_eq_getElem (by omega), List.getElem?_eq_getElem (by omega)] at h
        exact Option.some.inj h
      simp only [ih (s + 1) (by omega), h2, List.cons.injEq, true_and]
    · rw [if_neg h, Result.andThen_ok]
      have h2 : ¬ xs[s]'(by omega) = ys[s]'(by omega) := fun e => h (by rw [List.getElem?_eq_getElem (by omega), List.getElem?_eq_getElem (by omega), e])
      rw [if_neg (fun e => h2 (List.cons.inj e).1)]
      simp only [Sem.run_pure]

theorem run_equalIn_arr {P : Program} (w : World) (d : Nat) (t e n : Nat) (k : IntKind) (ht : P.underlying t = some (.array n e)) (he : P.underlying e = some (.int k)) (hsz : (P.info? e).map (·.size) = some 1)
    (xs ys : List Int) (hx : xs.length = n) (hy : ys.length = n) :
    (Op.equalIn (d + 2) t (.agg (xs.map (Value.int k)).toArray) (.agg (ys.map (Value.int k)).toArray)).run P w = .ok (decide (xs = ys)) w := by
  obtain ⟨i, hi, hs⟩ := Option.map_eq_some_iff.1 hsz
  unfold Op.equalIn
  simp only [Sem.run_bind, run_underlying ht, Result.andThen_ok, sizeOf, typeInfo]
  simp [hi, hs, Std.Legacy.Range.forIn_eq_forIn_range']
  rw [run_forIn_eq w n xs ys hx hy _ ?_ n 0 (by omega)]
  · simp only [List.drop_zero, Result.andThen_ok]
    by_cases h : xs = ys
    · simp [h, Sem.run_pure]
    · simp [h, Sem.run_pure]
  · intro j s hj
    have h1 : xs[j]? = some xs[j] := List.getElem?_eq_getElem (by omega)
    have h2 : ys[j]? = some ys[j] := List.getElem?_eq_getElem (by omega)
    have p1 : ∀ l : List Int, (hl : l.length = n) → (part e (l.map (Value.int k)).toArray j).run P w = .ok (.int k (l[j]'(by omega))) w := by
      intro l hl
      have h3 : ((l.map (Value.int k)).toArray)[j]? = some (.int k (l[j]'(by omega))) := by simp [hl, hj]
      unfold part
      simp only [Sem.run_bind, isAgg, run_underlying he, Result.andThen_ok, Sem.run_pure]
      simp only [Bool.false_eq_true, if_false, h3, Sem.run_pure]
    simp only [Sem.run_bind, p1 xs hx, p1 ys hy, Result.andThen_ok, run_equalIn_int w d e k k _ _ he]
    by_cases h : xs[j] = ys[j]
    · simp [h1, h2, h, Sem.run_pure]
    · simp [h1, h2, h, Sem.run_pure]

theorem run_eql_arr {P : Program} (w : World) (t e n : Nat) (k : IntKind) (ht : P.underlying t = some (.array n e)) (he : P.underlying e = some (.int k)) (hsz : (P.info? e).map (·.size) = some 1)
    (xs ys : List Int) (hx : xs.length = n) (hy : ys.length = n) :
    (binOp .eql t (.agg (xs.map (Value.int k)).toArray) (.agg (ys.map (Value.int k)).toArray)).run P w = .ok (.bool (decide (xs = ys))) w := by
  rw [run_eql_struct, run_equalIn_arr w 9998 t e n k ht he hsz xs ys hx hy]; rfl
theorem run_neq_arr {P : Program} (w : World) (t e n : Nat) (k : IntKind) (ht : P.underlying t = some (.array n e)) (he : P.underlying e = some (.int k)) (hsz : (P.info? e).map (·.size) = some 1)
    (xs ys : List Int) (hx : xs.length = n) (hy : ys.length = n) :
    (binOp .neq t (.agg (xs.map (Value.int k)).toArray) (.agg (ys.map (Value.int k)).toArray)).run P w = .ok (.bool (!decide (xs = ys))) w := by
  rw [run_neq_struct, run_equalIn_arr w 9998 t e n k ht he hsz xs ys hx hy]; rfl

theorem bytes_ints (l : List UInt8) : l.map B8 = (l.map fun d => (d.toNat : Int)).map (Value.int .u8) := by rw [List.map_map]; rfl
theorem bytes_inj {l m : List UInt8} : (l.map fun d => (d.toNat : Int)) = (m.map fun d => (d.toNat : Int)) ↔ l = m := by
  constructor
  · intro h
    refine List.map_inj_right (fun x y hxy => ?_) |>.1 h
    have h2 : (x.toNat : Int) = (y.toNat : Int) := hxy
    exact UInt8.toNat_inj.1 (by omega)
  · intro h; rw [h]

section quiet
variable {P : Program} {w : World} {ops : Array Oper} {rest : List Oper} {act : Act} {Q : Act → Prop} {ty : TypeId} {pos : String} {after : Array Edge}

theorem quiet_val {o : Oper} (hg : o.guard = none) (v : Value) (h : ∀ n, (execOp act.eval o).run P (w.drewN n) = .ok (.value v) (w.drewN n))
    (hK : wpQuiet P ops (fun w' => ∃ n, w' = w.drewN n) Q rest (act.put o.dst v)) : wpQuiet P ops (fun w' => ∃ n, w' = w.drewN n) Q (o :: rest) act := by
  refine wpQuiet_step fun K hK' => ?_
  have hw : Region.wanted o (yielded ops act.tmps) = true := by simp [Region.wanted, hg]
  rw [if_pos hw]
  refine ⟨v, ?_, hK' _ hK⟩
  rintro w' ⟨n, rfl⟩
  unfold Oper.quietAt
  rw [h n]
  exact ⟨rfl, rfl⟩

/-- in a region that draws and only reads: a whole array is loaded -/
theorem quiet_load_agg (d : Nat) (t : TypeId) (x : Operand) (sz : Nat) (hsz : (P.info? t).map (·.size) = some sz) (n e : Nat) (hag : P.underlying t = some (.array n e))
    (p : Addr) (hx : act.eval x = .pointer (some p)) (cs : List Value) (hl : cs.length = sz) (hc : ∀ j u, cs[j]? = some u → w.cell? (p.add j) = some u)
    (hK : wpQuiet P ops (fun w' => ∃ n, w' = w.drewN n) Q rest (act.put (some d) (.agg cs.toArray))) :
    wpQuiet P ops (fun w' => ∃ n, w' = w.drewN n) Q ({ dst := some d, op := .load t x, type := ty, pos := pos, after := after, guard := none } :: rest) act := by
  obtain ⟨i, hi, hs0⟩ := Option.map_eq_some_iff.1 hsz
  subst hs0
  refine quiet_val rfl _ (fun m => ?_) hK
  have hl2 := run_loadCells_list (P := P) (w.drewN m) p cs hc
  rw [hl] at hl2
  simp [execOp, hx, Instr.loadAt, Instr.sureAddr, loadVar, isAgg, run_underlying hag, sizeOf, typeInfo, hi, hl2]

/-- '!=' of two arrays of bytes -/
theorem quiet_neq_bytes (d : Nat) (t : TypeId) (x y : Operand) (e n : Nat) (ht : P.underlying t = some (.array n e)) (he : P.underlying e = some (.int .u8)) (hsz : (P.info? e).map (·.size) = some 1) (hgt : P.eqGuardType P.depth t = false)
    (xs ys : List UInt8) (hx : act.eval x = .agg (xs.map B8).toArray) (hy : act.eval y = .agg (ys.map B8).toArray) (hxl : xs.length = n) (hyl : ys.length = n)
    (hK : wpQuiet P ops (fun w' => ∃ n, w' = w.drewN n) Q rest (act.put (some d) (.bool (!decide (xs = ys))))) :
    wpQuiet P ops (fun w' => ∃ n, w' = w.drewN n) Q ({ dst := some d, op := .binOp .neq t x y t, type := ty, pos := pos, after := after, guard := none } :: rest) act := by
  refine quiet_val rfl _ (fun m => ?_) hK
  have h1 := run_eqGuard_agg (P := P) (w := w.drewN m) .neq t x y (xs.map B8).toArray (ys.map B8).toArray hgt
  have h2 := run_neq_arr (P := P) (w.drewN m) t e n .u8 ht he hsz (xs.map fun d => (d.toNat : Int)) (ys.map fun d => (d.toNat : Int)) (by simpa using hxl) (by simpa using hyl)
  rw [← bytes_ints, ← bytes_ints] at h2
  have h3 : decide ((xs.map fun d => (d.toNat : Int)) = (ys.map fun d => (d.toNat : Int))) = decide (xs = ys) := decide_eq_decide.2 bytes_inj
  rw [h3] at h2
  simp only [execOp, hx, hy, Sem.run_bind, h1, h2, Result.andThen_ok, Sem.run_pure]
end quiet
end Go.Dx
end

/- the text Types2 -/
section
namespace Go.Proofs.Ytkjcbneanaeleaa
open Go.RowKit Go.Dx

def zeroDig : Value := .agg (Array.replicate 16 (.int .u8 0))
section
variable {w : World} {ops : Array Oper} {rest : List Oper} {act : Act} {Q : Exit → Act → World → Prop} {ty : TypeId} {pos : String} {after : Array Edge}
end
section
variable {w : World} {ops : Array Oper} {rest : List Oper} {o : Oper} {act : Act} {Q : Exit → Act → World → Prop}
end
end Go.Proofs.Ytkjcbneanaeleaa
end

/- the text Wire13 -/
section
namespace Go.Proofs.Ytkjcbneanaeleaa
open Go.RowKit Go.Dx

/-- what decoding a list of digests returns: their number, their bytes, the place behind them, the error -/
def decDigs (l : List UInt8) : Nat × List UInt8 × Int × Int :=
  if cntErr l 16 = 0 then ((decInt l).1.toNat, (l.drop (decInt l).2.1.toNat).take ((decInt l).1.toNat * 16), (decInt l).2.1 + 16 * (decInt l).1, 0) else (0, [], 0, cntErr l 16)

end Go.Proofs.Ytkjcbneanaeleaa
end

/- the text Wire14 -/
section
namespace Go.Proofs.Ytkjcbneanaeleaa
open Go.RowKit Go.Dx

/-- digest number k -/
def digAt (f : List UInt8) (k : Nat) : List UInt8 := (f.drop (k * 16)).take 16
theorem digAt_len {f : List UInt8} {n k : Nat} (h : f.length = n * 16) (hk : k < n) : (digAt f k).length = 16 := by unfold digAt; rw [List.length_take, List.length_drop]; omega
theorem digAt_step {f1 f2 : List UInt8} {k : Nat} (h : f1.take (k * 16) = f2.take (k * 16)) : (digAt f1 k = digAt f2 k ↔ f1.take ((k + 1) * 16) = f2.take ((k + 1) * 16)) := by
  rw [Nat.add_mul, Nat.one_mul, List.take_add, List.take_add, h]
  unfold digAt
  exact ⟨fun e => by rw [e], fun e => List.append_cancel_left e⟩
theorem dig_cells {w : World} {b o n c : Nat} {f : List UInt8} (h : Sl w 16 (some ⟨b, o, none⟩) n c (f.map B8)) (k : Nat) : ∀ j u, ((digAt f k).map B8)[j]? = some u → w.cell? ((⟨b, o + k * 16, none⟩ : Addr).add j) = some u := by
  intro j u hj
  unfold digAt at hj
  rw [List.map_take, List.map_drop, List.getElem?_take] at hj
  split at hj
  · rw [List.getElem?_drop] at hj
    have := h.cell _ rfl _ _ hj
    rw [Addr.add_lit] at this ⊢
    rw [Nat.add_assoc]; exact this
  · cases hj

end Go.Proofs.Ytkjcbneanaeleaa
end

/- the text Wire15 -/
section
namespace Go.Proofs.Ytkjcbneanaeleaa
open Go.RowKit Go.Dx

/-- a row that is being filled -/
def rowAt (ys : List UInt8) (j : Nat) : List UInt8 := ys.take j ++ List.replicate (16 - j) 0
theorem rowAt_len {ys : List UInt8} {j : Nat} (h : ys.length = 16) (hj : j ≤ 16) : (rowAt ys j).length = 16 := by simp [rowAt]; omega
theorem rowAt_set {ys : List UInt8} {j : Nat} (h : ys.length = 16) (hj : j < 16) {x : UInt8} (hx : ys[j]? = some x) : (rowAt ys j).set j x = rowAt ys (j + 1) := by
  unfold rowAt
  rw [List.set_append_right _ _ (by simp; omega), List.take_add_one, hx]
  have e : 16 - j = (16 - (j + 1)) + 1 := by omega
  have e2 : j - (ys.take j).length = 0 := by rw [List.length_take]; omega
  rw [e, e2, List.replicate_succ]
  simp
theorem rowAt_get {ys : List UInt8} {j : Nat} (h : ys.length = 16) (hj : j < 16) : (rowAt ys j)[j]? = some 0 := by
  unfold rowAt
  rw [List.getElem?_append_right (by simp; omega), List.getElem?_replicate]
  have e2 : j - (ys.take j).length = 0 := by rw [List.length_take]; omega
  rw [e2]; simp; omega
theorem rowAt_all {ys : List UInt8} (h : ys.length = 16) : rowAt ys 16 = ys := by simp [rowAt, ← h]

/-- the sum of lengths that the law's 'few' reckons -/
def fewSum (l : List ByteArray) (k : Nat) : Nat := l.length + ((l.take k).map (·.size)).sum
theorem fewSum_succ {l : List ByteArray} {k : Nat} {x : ByteArray} (h : l[k]? = some x) : fewSum l (k + 1) = fewSum l k + x.size := by
  unfold fewSum; rw [List.take_add_one, h]; simp; omega
theorem wrap64_nat (n : Nat) (h : n < 9223372036854775808) : wrap64 (n : Int) = n := by unfold wrap64; omega

end Go.Proofs.Ytkjcbneanaeleaa
end

/- the text Wire16 -/
section
namespace Go.Proofs.Ytkjcbneanaeleaa
open Go.RowKit Go.Dx

/-- a literal []byte, []int, []string that was just laid -/
theorem lit_b (w : World) (b : Nat) (hb : b = w.heap.size) (l : List UInt8) (L : Array Value) (hL : L = (l.map B8).toArray) (n : Nat) (hn : l.length = n) (hm : n ≤ maxLen) : Sl (w.alloc (.cells L 5)) 1 (some ⟨b, 0, none⟩) n n (l.map B8) := by
  subst hL hb; exact Sl.fresh w _ 1 n _ (by simp [hn]) hm
theorem lit_i (w : World) (b : Nat) (hb : b = w.heap.size) (l : List Int) (L : Array Value) (hL : L = (l.map I64).toArray) (n : Nat) (hn : l.length = n) (hm : n ≤ maxLen) : Sl (w.alloc (.cells L 3)) 1 (some ⟨b, 0, none⟩) n n (l.map I64) := by
  subst hL hb; exact Sl.fresh w _ 1 n _ (by simp [hn]) hm
theorem lit_s (w : World) (b : Nat) (hb : b = w.heap.size) (l : List ByteArray) (L : Array Value) (hL : L = (l.map Value.string).toArray) (n : Nat) (hn : l.length = n) (hm : n ≤ maxLen) : Sl (w.alloc (.cells L 9)) 1 (some ⟨b, 0, none⟩) n n (l.map Value.string) := by
  subst hL hb; exact Sl.fresh w _ 1 n _ (by simp [hn]) hm

theorem d1 : decInt [130, 1, 0, 9] = (256, 3, 0) := by decide +kernel
theorem d2 : decInt [130, 1] = (0, 0, 3) := by decide +kernel
theorem d3 : decInt [129, 0] = (0, 0, 2) := by decide +kernel
theorem d4 : (decBytes [129, 2, 97, 98, 7]) = (⟨#[97, 98]⟩, 4, 0) := by decide +kernel
theorem d5 : decSeq decInt [129, 2, 129, 1, 127] = ([1, -1], 5, 0) := by decide +kernel
theorem d6 : decSeq decBytes [129, 2, 128, 129, 1, 97, 5] = ([⟨#[]⟩, ⟨#[97]⟩], 6, 0) := by decide +kernel
theorem d7 : encInt (-257) = [125, 254, 255] := by decide +kernel
theorem d8 : encBytes [97, 98] = [129, 2, 97, 98] := by decide +kernel
theorem d9 : encInts [1, -1] = [129, 2, 129, 1, 127] := by decide +kernel
theorem d10 : encStrs [⟨#[]⟩, ⟨#[97]⟩] = [129, 2, 128, 129, 1, 97] := by decide +kernel
def dgl : List UInt8 := [1, 2, 0, 0, 0, 0, 0, 0, 0, 0, 0, 0, 0, 0, 0, 0]
theorem d11 : encInt (1 : Nat) ++ dgl = 129 :: 1 :: dgl := by decide +kernel
theorem d12 : decDigs (129 :: 1 :: dgl) = (1, dgl, 18, 0) := by decide +kernel
end Go.Proofs.Ytkjcbneanaeleaa
end

/- the text Wire17 -/
section
namespace Go.Proofs.Ytkjcbneanaeleaa
open Go.RowKit Go.Dx

theorem bstep {B : Nat} {w0 w w' : World} {o : Obj} (h : Below B w0 w ∧ B ≤ w.heap.size) (hb : Below (w.alloc o).heap.size (w.alloc o) w') : Below B w0 w' ∧ B ≤ w'.heap.size := by
  have h1 := hb.size
  have h2 := h.2
  simp at h1
  exact ⟨(h.1.alloc h.2 o).trans (hb.mono (by simp; omega)), by omega⟩
theorem Same_at {l1 l2 : List UInt8} {r : Bool} (h : decide (l1 = l2) = r) {a1 a2 : Option Addr} {n1 n2 c1 c2 : Nat} {w : World} (h1 : Sl w 1 a1 n1 c1 (l1.map B8)) (h2 : Sl w 1 a2 n2 c2 (l2.map B8)) :
    Calls Try.prog 46 #[.slice a1 n1 c1, .slice a2 n2 c2] w fun e w' => e = .returned (.bool r) ∧ Below w.heap.size w w' := by subst h; exact (ref_Same _ _ _ _ _ _ _ _ _ h1 h2).mono fun e w' ⟨h1, n, h2⟩ => ⟨h1, h2 ▸ Still.below n⟩
theorem bs0 {B : Nat} {w0 w w' : World} (h : Below B w0 w ∧ B ≤ w.heap.size) (hb : Below w.heap.size w w') : Below B w0 w' ∧ B ≤ w'.heap.size :=
  ⟨h.1.trans (hb.mono h.2), Nat.le_trans h.2 hb.size⟩

section
variable {w : World} {ops : Array Oper} {rest : List Oper} {act : Act} {Q : Exit → Act → World → Prop} {ty : TypeId} {pos : String} {after : Array Edge} {g : Option (Nat × Bool)}
theorem unguard {dst : Option Nat} {op : Op} (hw : Region.wanted { dst := dst, op := op, type := ty, pos := pos, after := after, guard := g } (yielded ops act.tmps) = true)
    (h : wpList Try.prog ops Q ({ dst := dst, op := op, type := ty, pos := pos, after := after, guard := none } :: rest) act w) :
    wpList Try.prog ops Q ({ dst := dst, op := op, type := ty, pos := pos, after := after, guard := g } :: rest) act w := by
  have h2 : Region.wanted { dst := dst, op := op, type := ty, pos := pos, after := after, guard := none } (yielded ops act.tmps) = true := rfl
  unfold wpList at h ⊢
  rw [if_pos h2] at h
  rw [if_pos hw]
  exact h
end
theorem L1 : #[Value.int .u8 130, .int .u8 1, .int .u8 0, .int .u8 9] = (List.map B8 [130, 1, 0, 9]).toArray := by rfl
theorem L2 : #[Value.int .u8 130, .int .u8 1] = (List.map B8 [130, 1]).toArray := by rfl
theorem L3 : #[Value.int .u8 129, .int .u8 0] = (List.map B8 [129, 0]).toArray := by rfl
theorem L4 : #[Value.int .u8 129, .int .u8 2, .int .u8 97, .int .u8 98, .int .u8 7] = (List.map B8 [129, 2, 97, 98, 7]).toArray := by rfl
theorem L5 : #[Value.int .u8 129, .int .u8 2, .int .u8 129, .int .u8 1, .int .u8 127] = (List.map B8 [129, 2, 129, 1, 127]).toArray := by rfl
theorem L6 : #[Value.int .u8 129, .int .u8 2, .int .u8 128, .int .u8 129, .int .u8 1, .int .u8 97, .int .u8 5] = (List.map B8 [129, 2, 128, 129, 1, 97, 5]).toArray := by rfl
theorem L7 : #[Value.string ⟨#[]⟩, .string ⟨#[97]⟩] = (List.map Value.string [⟨#[]⟩, ⟨#[97]⟩]).toArray := by rfl
theorem L8 : #[Value.int .u8 129, .int .u8 2, .int .u8 128, .int .u8 129, .int .u8 1, .int .u8 97] = (List.map B8 [129, 2, 128, 129, 1, 97]).toArray := by rfl
theorem L9 : #[Value.int .u8 125, .int .u8 254, .int .u8 255] = (List.map B8 [125, 254, 255]).toArray := by rfl
theorem L10 : #[Value.int .i64 1, .int .i64 (-1)] = (List.map I64 [1, -1]).toArray := by rfl
theorem L11 : #[Value.int .u8 129, .int .u8 2, .int .u8 97, .int .u8 98] = (List.map B8 [129, 2, 97, 98]).toArray := by rfl
end Go.Proofs.Ytkjcbneanaeleaa
end

/- the text Ops3 -/
section
/- Laws on full slices: 'b[:len:len]' and an append behind it, which copies. No program in sight. -/
set_option linter.unusedVariables false
set_option linter.unusedSimpArgs false
namespace Go.Dx
open Go.RowKit

section ops
variable {P : Program} {w : World} {ops : Array Oper} {rest : List Oper} {o : Oper} {act : Act} {Q : Exit → Act → World → Prop}
  {ty : TypeId} {pos : String} {after : Array Edge}
/-- 'xs[:len(xs):len(xs)]' -/
theorem cut_full (d : Nat) (t : TypeId) (x hi mx : Operand) (e : TypeId) (ht : P.underlying t = some (.slice e)) (sz : Nat) (hsz : (P.info? e).map (·.size) = some sz)
    (a : Option Addr) (n c : Nat) (hx : act.eval x = .slice a n c) (hnc : n ≤ c) (ku km : IntKind) (uv mv : Int) (hu : act.eval hi = .int ku uv) (hm : act.eval mx = .int km mv)
    (huv : uv = (n : Int)) (hmv : mv = (n : Int)) (hn : a = none → n = 0)
    (hK : wpList P ops Q rest (act.put (some d) (.slice a n n)) w) :
    wpList P ops Q ({ dst := some d, op := .slice t x none (some hi) (some mx), type := ty, pos := pos, after := after, guard := none } :: rest) act w := by
  refine wpList_plain rfl fun K hK' => ?_
  subst huv hmv
  obtain ⟨i0, hi0, hs0⟩ := Option.map_eq_some_iff.1 hsz
  have hrun : (Instr.sliceAt t (.slice a n c) none (some (.int ku (n : Int))) (some (.int km (n : Int)))).run P w = .ok (.slice a n n) w := by
    by_cases h0 : n = 0
    · subst h0
      simp [Instr.sliceAt, Instr.slice, Instr.sliceBounds, Instr.sliceBound, asIntOf, run_underlying ht, sizeOf, typeInfo, hi0, hs0, Addr.add]
    · cases a with
      | none => exact absurd (hn rfl) h0
      | some p =>
        obtain ⟨b, off, sp⟩ := p
        simp [Instr.sliceAt, Instr.slice, Instr.sliceBounds, Instr.sliceBound, asIntOf, run_underlying ht, sizeOf, typeInfo, hi0, hs0, hnc, Addr.add, h0]
  unfold Oper.wp
  simp only [execOp, Option.map_some, Option.map_none, hx, hu, hm, Sem.run_bind, hrun, Result.andThen, Sem.run_pure]
  exact hK' _ _ hK

theorem run_append_full (t tx ty e : TypeId) (i : TypeInfo) (z : Value) (ht : P.underlying t = some (.slice e)) (hi : P.info? e = some i) (hz : i.zero = some z)
    (hzs : z.cells.size = i.size) (a : Option Addr) (n : Nat) (xs : List Value) (hown : Sl w i.size a n n xs)
    (x : Value) (m : Nat) (news : List Value) (hs : Src P i.size tx x m news w)
    (h63 : n + m ≤ maxLen) (hbytes : (n + m) * i.bytes ≤ 140737488355328) :
    ∃ a' c' w', (Builtin.append_ #[t, tx] ty #[.slice a n n, x]).run P w = .ok (.slice a' (n + m) c') w' ∧ Sl w' i.size a' (n + m) c' (xs ++ news) ∧ Below w.heap.size w w' := by
  have hsmall : n + m ≤ 9223372036854775807 := by simp only [maxLen] at h63; omega
  have hlen : (xs ++ news).length = (n + m) * i.size := by rw [List.length_append, hown.1, hs.newsLen, Nat.add_mul]
  have hold : (Builtin.firstCells i.size n (.slice a n n)).run P w.drew = .ok xs.toArray w.drew := by
    cases a with
    | none =>
      have := hown.nil rfl
      obtain rfl : n = 0 := by omega
      have hnews : xs = [] := List.eq_nil_of_length_eq_zero (by simpa using hown.len)
      subst hnews
      exact run_firstCells_none w.drew i.size 0 0 0
    | some p => exact run_firstCells_some w.drew i.size n p n n xs hown.len (by simpa using hown.cell p rfl)
  by_cases hm : m = 0
  · subst hm
    have hnews : news = [] := List.eq_nil_of_length_eq_zero (by simpa using hs.newsLen)
    subst hnews
    refine ⟨a, n, w, ?_, by simpa using hown, Below.refl _ _⟩
    cases a with
    | none =>
      have := hown.nil rfl
      obtain rfl : n = 0 := by omega
      rcases hs.kind with ⟨e', hk⟩ | hk <;> simp [Builtin.append_, run_underlying ht, run_underlying hk, sizeOf, typeInfo, hi, hs.len, hs.cells]
    | some p =>
      have hst : ∀ q : Addr, (storeCells q ([] : List Value)).run P w = .ok () w := by intro q; simp [storeCells]
      rcases hs.kind with ⟨e', hk⟩ | hk <;> simp [Builtin.append_, run_underlying ht, run_underlying hk, sizeOf, typeInfo, hi, hs.len, hs.cells, hst]
  · have hr := run_append_grow_src (P := P) w t tx ty e i z ht hi hz a n n xs hold x m news hs (by omega) (by omega) (growslice_fits (by omega) hbytes)
    have hge := grownCap_ge w (n + m) n e
    have hcm : grownCap w (n + m) n e ≤ maxLen := grownCap_le_maxLen w (n + m) n e h63
    refine ⟨_, _, _, hr, ?_, undrew (Below.alloc (Below.refl w.heap.size w.drew) (Nat.le_refl w.heap.size) _)⟩
    have ho : Own (w.drew.alloc (.cells ((xs ++ news).toArray ++ Builtin.zeroCells z.cells (grownCap w (n + m) n e - (n + m))) e)) 0 e i.size (some ⟨w.heap.size, 0, none⟩) (n + m) (grownCap w (n + m) n e) (xs ++ news) := by
      refine ⟨hlen, .inr ⟨w.heap.size, _, _, rfl, Nat.zero_le _, heap_alloc_new w.drew _, hge, hcm, ?_, ?_⟩⟩
      · simp only [Array.size_append, List.size_toArray, size_zeroCells, hzs, hlen, ← Nat.add_mul]
        congr 1
        omega
      · simp only [Array.toList_append, List.append_assoc]
        rw [← List.append_assoc, ← hlen]
        exact List.take_left
    exact ho.sl

/-- 'append(xs[:n:n], ys...)' -/
theorem append_full (hg : o.guard = none) (s x : Operand) (t : TypeId) (hop : o.op = Op.call { callee := Callee.builtin Builtin.append, args := #[s, x], argTypes := #[t, t] })
    (e : TypeId) (z : Value) (sz bytes : Nat) (ht : P.underlying t = some (.slice e)) (hi : (P.info? e).map (fun i => (i.zero, i.size, i.bytes)) = some (some z, sz, bytes)) (hz : z.cells.size = sz)
    (a : Option Addr) (n : Nat) (xs : List Value) (hs : act.eval s = .slice a n n) (hxs : Sl w sz a n n xs)
    (a2 : Option Addr) (m c2 : Nat) (ys : List Value) (hx : act.eval x = .slice a2 m c2) (hy : Sl w sz a2 m c2 ys) (h1 : ∀ u ∈ ys, u.oneCell' = true)
    (hn : (n + m) * bytes ≤ 140737488355328) (hn2 : n + m ≤ maxLen)
    (hK : ∀ a' c' w', Sl w' sz a' (n + m) c' (xs ++ ys) → Below w.heap.size w w' → wpList P ops Q rest (act.put o.dst (.slice a' (n + m) c')) w') :
    wpList P ops Q (o :: rest) act w := by
  obtain ⟨i, hi0, hz0, hz1, hz2⟩ := info_parts hi
  subst hz1 hz2
  clear hi
  obtain ⟨a', c', w', hrun, ho, hgr⟩ := run_append_full t t o.type e i z ht hi0 hz0 hz a n xs hxs _ m ys (hy.src ht h1) hn2 hn
  refine wpList_plain hg fun K hK' => ?_
  unfold Oper.wp
  simp [execOp, hop, resolve, invoke, builtin, hs, hx, hrun, Result.andThen]
  exact hK' _ _ (hK a' c' w' ho hgr)
end ops
end Go.Dx
end

/- the text Types3 -/
section
namespace Go.Proofs.Ytkjcbneanaeleaa
open Go.RowKit Go.Dx
section
variable {w : World} {ops : Array Oper} {rest : List Oper} {o : Oper} {act : Act} {Q : Exit → Act → World → Prop} {ty : TypeId} {pos : String} {after : Array Edge}
theorem cutfull_b (d : Nat) (x hi mx : Operand) (a : Option Addr) (n c : Nat) (cs : List Value) (hx : act.eval x = .slice a n c) (hs : Sl w 1 a n c cs) (ku km : IntKind) (uv mv : Int) (hu : act.eval hi = .int ku uv) (hm : act.eval mx = .int km mv)
    (huv : uv = (n : Int)) (hmv : mv = (n : Int))
    (hK : Sl w 1 a n n cs → wpList Try.prog ops Q rest (act.put (some d) (.slice a n n)) w) :
    wpList Try.prog ops Q ({ dst := some d, op := .slice 26 x none (some hi) (some mx), type := ty, pos := pos, after := after, guard := none } :: rest) act w :=
  cut_full d 26 x hi mx 5 Try.underlying26 1 size_u8 a n c hx hs.le ku km uv mv hu hm huv hmv (fun h => by have := hs.nil h; have := hs.le; omega)
    (hK ⟨hs.len, Nat.le_refl _, Nat.le_trans hs.le hs.cap, fun h => by have := hs.nil h; have := hs.le; omega, hs.cell⟩)
theorem appfull_b (hg : o.guard = none) (s x : Operand) (hop : o.op = Op.call { callee := Callee.builtin Builtin.append, args := #[s, x], argTypes := #[26, 26] })
    (a : Option Addr) (n : Nat) (xs : List UInt8) (hs : act.eval s = .slice a n n) (hxs : Sl w 1 a n n (xs.map B8))
    (a2 : Option Addr) (m c2 : Nat) (ys : List UInt8) (hx : act.eval x = .slice a2 m c2) (hy : Sl w 1 a2 m c2 (ys.map B8))
    (hn : n + m ≤ 140737488355328)
    (hK : ∀ a' c' w', Sl w' 1 a' (n + m) c' ((xs ++ ys).map B8) → Below w.heap.size w w' → wpList Try.prog ops Q rest (act.put o.dst (.slice a' (n + m) c')) w') :
    wpList Try.prog ops Q (o :: rest) act w :=
  append_full hg s x 26 hop 5 (.int .u8 0) 1 1 Try.underlying26 info_u8 rfl a n _ hs hxs a2 m c2 _ hx hy (one_map _ (fun _ => rfl) _) (by omega) (by unfold maxLen; omega)
    (fun a' c' w' h1 h2 => hK a' c' w' (by rw [List.map_append]; exact h1) h2)
end
end Go.Proofs.Ytkjcbneanaeleaa
end

/- the text C1 -/
section
namespace Go.Proofs.Ytkjcbneanaeleaa
open Go.RowKit Go.Dx

/-- the dots of a cell -/
def dot (c : UInt8) (k : Nat) : Bool := c.toNat / 2 ^ k % 2 == 1
def dotsTo (c : UInt8) (k : Nat) : List Int := List.map (fun j : Nat => (j : Int) + 1) ((List.range k).filter (dot c))
def dotsL (c : UInt8) : List Int := dotsTo c 6
theorem dotsTo_zero (c : UInt8) : dotsTo c 0 = [] := rfl
theorem dotsTo_yes {c : UInt8} {k : Nat} (h : dot c k = true) : dotsTo c (k + 1) = dotsTo c k ++ [(k : Int) + 1] := by
  unfold dotsTo; rw [List.range_succ, List.filter_append]; simp [h]
theorem dotsTo_no {c : UInt8} {k : Nat} (h : dot c k = false) : dotsTo c (k + 1) = dotsTo c k := by
  unfold dotsTo; rw [List.range_succ, List.filter_append]; simp [h]
theorem dotsTo_len (c : UInt8) (k : Nat) : (dotsTo c k).length ≤ k := by
  unfold dotsTo; rw [List.length_map]; exact Nat.le_trans (List.length_filter_le _ _) (by simp)

theorem dot_fin : ∀ n : Fin 256, ∀ k : Fin 6, (bits BinOp.and IntKind.u8 (((n.val : Nat) : Int) / 2 ^ k.val) 1 == 1) = (n.val / 2 ^ k.val % 2 == 1) := by decide +kernel
theorem dot_raw (u : UInt8) (k : Nat) (hk : k < 6) : (bits BinOp.and IntKind.u8 ((u.toNat : Int) / 2 ^ k) 1 == 1) = dot u k := dot_fin ⟨u.toNat, u.toNat_lt⟩ ⟨k, hk⟩

end Go.Proofs.Ytkjcbneanaeleaa
end

/- the text C2 -/
section
namespace Go.Proofs.Ytkjcbneanaeleaa
open Go.RowKit Go.Dx

/-- a number that is no dot; a byte that is no cell -/
def noDot (k : Int) : Bool := decide (k < 1) || decide (6 < k)
def noCell (c : UInt8) : Bool := decide (64 ≤ c.toNat)

def fnv (k : Nat) : Value := .func (.func k) #[] #[]

theorem any_take_no {α : Type} {p : α → Bool} {l : List α} {k : Nat} {x : α} (h : l[k]? = some x) (h0 : (l.take k).any p = false) (hx : p x = false) : (l.take (k + 1)).any p = false := by
  rw [List.take_add_one, h, List.any_append, h0]; simp [hx]
theorem any_of_get {α : Type} {p : α → Bool} {l : List α} {k : Nat} {x : α} (h : l[k]? = some x) (hx : p x = true) : l.any p = true :=
  List.any_eq_true.2 ⟨x, List.mem_of_getElem? h, hx⟩

/-- all cells are from 0 to 63 -/
def validB (l : List UInt8) : Bool := !l.any noCell
theorem gt63 (u : UInt8) : decide (63 < (u.toNat : Int)) = noCell u := by unfold noCell; by_cases h : 64 ≤ u.toNat <;> simp <;> omega
/-- a cell from the back -/
def backC (c : UInt8) : UInt8 := UInt8.ofNat (c.toNat / 8 % 8 + c.toNat % 8 * 8)
theorem back_fin : ∀ n : Fin 256, bits BinOp.or IntKind.u8 (bits BinOp.and IntKind.u8 (((n.val : Nat) : Int) / 8) 7) (bits BinOp.and IntKind.u8 ((n.val : Nat) : Int) 7 * 8 % 256) = ((n.val / 8 % 8 + n.val % 8 * 8 : Nat) : Int) := by decide +kernel
theorem back_raw (u : UInt8) : bits BinOp.or IntKind.u8 (bits BinOp.and IntKind.u8 ((u.toNat : Int) / 8) 7) (bits BinOp.and IntKind.u8 (u.toNat : Int) 7 * 8 % 256) = ((backC u).toNat : Int) := by
  have h := back_fin ⟨u.toNat, u.toNat_lt⟩
  have e : (backC u).toNat = u.toNat / 8 % 8 + u.toNat % 8 * 8 := by unfold backC; rw [UInt8.toNat_ofNat']; omega
  rw [e]; exact h
end Go.Proofs.Ytkjcbneanaeleaa
end

/- the text CP1 -/
section
/- Plain laws on dots and cells: no program in sight. -/
namespace Go.Proofs.Ytkjcbneanaeleaa
open Go.RowKit Go.Dx

def bitN (k : Int) : Nat := 2 ^ (k - 1).toNat
def sumB (l : List Int) : Nat := (l.map bitN).sum
theorem sumB_snoc (l : List Int) (x : Int) : sumB (l ++ [x]) = sumB l + bitN x := by unfold sumB; rw [List.map_append, List.sum_append]; simp
theorem noDot_iff (k : Int) : noDot k = false ↔ 1 ≤ k ∧ k ≤ 6 := by unfold noDot; simp
theorem bit_fin : ∀ x : Fin 6, ∀ s : Fin 64, s.val / 2 ^ x.val % 2 = 0 → s.val + 2 ^ x.val < 64 ∧ ∀ j : Fin 6, ((s.val + 2 ^ x.val) / 2 ^ j.val % 2 = 1 ↔ (s.val / 2 ^ j.val % 2 = 1 ∨ j = x)) := by decide +kernel
theorem sumB_ok (l : List Int) (hd : ∀ x ∈ l, 1 ≤ x ∧ x ≤ 6) (hn : l.Nodup) : sumB l < 64 ∧ ∀ k : Int, 1 ≤ k → k ≤ 6 → (sumB l / bitN k % 2 = 1 ↔ k ∈ l) := by
  induction l with
  | nil => refine ⟨by decide, fun k _ _ => ?_⟩; simp [sumB]
  | cons x l ih =>
    have hx := hd x (by simp)
    obtain ⟨h1, h2⟩ := ih (fun y hy => hd y (by simp [hy])) (List.nodup_cons.1 hn).2
    have hnot : x ∉ l := (List.nodup_cons.1 hn).1
    have h0 : sumB l / 2 ^ (x - 1).toNat % 2 = 0 := by
      have := h2 x hx.1 hx.2
      have h3 : ¬ (sumB l / bitN x % 2 = 1) := fun e => hnot (this.1 e)
      have h3' : ¬ (sumB l / 2 ^ (x - 1).toNat % 2 = 1) := h3
      omega
    obtain ⟨h4, h5⟩ := bit_fin ⟨(x - 1).toNat, by omega⟩ ⟨sumB l, h1⟩ h0
    have e : sumB (x :: l) = sumB l + 2 ^ (x - 1).toNat := by unfold sumB; rw [List.map_cons, List.sum_cons, Nat.add_comm]; rfl
    rw [e]
    refine ⟨h4, fun k hk1 hk2 => ?_⟩
    have h6 := h5 ⟨(k - 1).toNat, by omega⟩
    have h7 := h2 k hk1 hk2
    unfold bitN at h7 ⊢
    rw [List.mem_cons]
    constructor
    · intro h
      rcases h6.1 h with h | h
      · exact .inr (h7.1 h)
      · left
        have := congrArg Fin.val h
        simp at this
        omega
    · rintro (rfl | h)
      · exact h6.2 (.inr rfl)
      · exact h6.2 (.inl (h7.2 h))

/-- Of: the cell, and the error -/
def ofL (l : List Int) : Nat × Int := if l.any noDot then (0, 1) else if l.Nodup then (sumB l, 0) else (0, 7)
theorem ofL_arg {l : List Int} (h : l.any noDot = true) : ofL l = (0, 1) := by unfold ofL; rw [if_pos h]
theorem ofL_ok {l : List Int} (h : l.any noDot = false) (hn : l.Nodup) : ofL l = (sumB l, 0) := by unfold ofL; rw [if_neg (by simp [h]), if_pos hn]
theorem ofL_twice {l : List Int} (h : l.any noDot = false) (hn : ¬ l.Nodup) : ofL l = (0, 7) := by unfold ofL; rw [if_neg (by simp [h]), if_neg hn]
theorem any_no {l : List Int} (h : l.any noDot = false) : ∀ x ∈ l, 1 ≤ x ∧ x ≤ 6 := by
  intro x hx
  have := List.any_eq_false.1 h x hx
  exact (noDot_iff x).1 (by simpa using this)
theorem take_snoc {α : Type} {l : List α} {k : Nat} {x : α} (h : l[k]? = some x) : l.take (k + 1) = l.take k ++ [x] := by rw [List.take_add_one, h]; rfl
theorem nodup_snoc {l : List Int} {x : Int} : (l ++ [x]).Nodup ↔ l.Nodup ∧ x ∉ l := by
  rw [List.nodup_append]; simp
  intro _
  exact ⟨fun h hx => h x hx rfl, fun h a ha e => h (e ▸ ha)⟩
end Go.Proofs.Ytkjcbneanaeleaa
end

/- the text B9 -/
section
/- Chapter 06: cells, indicator; the reference's Cells; word and Small. -/
namespace Go.Proofs.Ytkjcbneanaeleaa
open Go.RowKit Go.Dx

def badC (c : UInt8) : Bool := !cellOk c
def noS (c : UInt8) : Bool := !isS c
theorem okCells_eq (l : List UInt8) : okCells l = !l.any badC := by
  unfold okCells
  rw [Bool.eq_iff_iff]; simp [List.all_eq_true, badC]
theorem small_eq (s : ByteArray) : small s = !(chars s).any noS := by
  unfold small
  rw [Bool.eq_iff_iff]; simp [List.all_eq_true, noS]
theorem badC_lo {c : UInt8} (h : c.toNat < 1) : badC c = true := by unfold badC cellOk; simp; omega
theorem badC_hi {c : UInt8} (h : 63 < c.toNat) : badC c = true := by unfold badC cellOk; simp; omega
theorem badC_no {c : UInt8} (h : 1 ≤ c.toNat) (h2 : c.toNat ≤ 63) : badC c = false := by unfold badC cellOk; simp; omega
theorem noS_lo {c : UInt8} (h : c.toNat < 97) : noS c = true := by unfold noS isS; simp; omega
theorem noS_hi {c : UInt8} (h : 122 < c.toNat) : noS c = true := by unfold noS isS; simp; omega
theorem noS_no {c : UInt8} (h : 97 ≤ c.toNat) (h2 : c.toNat ≤ 122) : noS c = false := by unfold noS isS; simp; omega

set_option maxHeartbeats 400000 in
theorem cells_1 (c : UInt8) (w : World) : Calls Try.prog 60 #[.int .u8 (c.toNat : Int)] w fun e w' => e = .returned (.bool (badC c)) ∧ w = w' := by
  by_cases h1 : c.toNat < 1
  · have d1 : decide ((c.toNat : Int) < 1) = true := decide_eq_true (by omega)
    have HE := hide (badC_lo h1)
    clear h1
    go_enter Try.func60, Try.ntmps60
    go_wp2_with fail
    go_ret
    exact ⟨by rw [HE.out]; rfl, rfl⟩
  · have d1 : decide ((c.toNat : Int) < 1) = false := decide_eq_false (by omega)
    by_cases h2 : 63 < c.toNat
    · have d2 : decide (63 < (c.toNat : Int)) = true := decide_eq_true (by omega)
      have HE := hide (badC_hi h2)
      clear h1 h2
      go_enter Try.func60, Try.ntmps60
      go_wp2_with fail
      go_ret
      exact ⟨by rw [HE.out]; rfl, rfl⟩
    · have d2 : decide (63 < (c.toNat : Int)) = false := decide_eq_false (by omega)
      have HE := hide (badC_no (show 1 ≤ c.toNat by omega) (by omega))
      clear h1 h2
      go_enter Try.func60, Try.ntmps60
      go_wp2_with fail
      go_ret
      exact ⟨by rw [HE.out]; rfl, rfl⟩

set_option maxHeartbeats 400000 in
theorem index_b (l : List UInt8) (a : Option Addr) (n c : Nat) (w : World) (hs : Sl w 1 a n c (l.map B8)) :
    Calls Try.prog 69 #[.slice a n c, fnv 60] w fun e w' => ∃ i : Int, e = .returned (.int .i64 i) ∧ decide (0 ≤ i) = l.any badC ∧ w = w' := by
  unfold fnv
  obtain rfl := hs.n_eq
  have hm1 := Nat.le_trans hs.le hs.cap
  unfold maxLen at hm1
  go_enter Try.func69, Try.ntmps69
  go_wp2_with fail
  go_loopg [8] l.length (fun g i w' => ∃ (k : Nat), k ≤ l.length ∧ g = l.length - k ∧ (l.take k).any badC = false ∧ i = .int .i64 k ∧ w = w')
  case atStart => exact ⟨0, by omega, by omega, rfl, rfl, rfl⟩
  case round =>
    obtain ⟨k, hk, hg, ht, rfl, rfl⟩ := hrel
    have HG := hide hg
    have HT := hide ht
    clear hg ht
    by_cases hkl : k < l.length
    · obtain ⟨x, hx⟩ : ∃ x, l[k]? = some x := ⟨l[k], by simp [hkl]⟩
      have HH := hide hx
      clear hx
      have hc := cells_1 x w
      cases hq : badC x
      · have HN := hide (any_take_no HH.out HT.out hq)
        rw [hq] at hc
        clear hq
        go_wp2_with (first
          | (with_reducible refine idx_b 14 _ _ _ _ _ _ rfl hs _ _ k rfl rfl _ HH.out ?_; intro b o hcell hbo)
          | (go_at_call 60; refine hc.mono ?_; rintro e w2 ⟨rfl, rfl⟩))
        go_roundg (l.length - (k + 1))
        case measure => have := HG.out; omega
        case rel => exact ⟨k + 1, by omega, rfl, HN.out, by go_num, rfl⟩
      · have HN := hide (any_of_get HH.out hq)
        rw [hq] at hc
        clear hq
        go_wp2_with (first
          | (with_reducible refine idx_b 14 _ _ _ _ _ _ rfl hs _ _ k rfl rfl _ HH.out ?_; intro b o hcell hbo)
          | (go_at_call 60; refine hc.mono ?_; rintro e w2 ⟨rfl, rfl⟩))
        go_ret
        exact ⟨_, rfl, by rw [HN.out]; exact decide_eq_true (by omega), rfl⟩
    · obtain rfl : k = l.length := by omega
      go_wp2
      go_ret
      have := HT.out
      rw [List.take_length] at this
      exact ⟨_, rfl, by rw [this]; rfl, rfl⟩
set_option maxHeartbeats 400000 in
theorem contains_b (l : List UInt8) (a : Option Addr) (n c : Nat) (w : World) (hs : Sl w 1 a n c (l.map B8)) :
    Calls Try.prog 59 #[.slice a n c, fnv 60] w fun e w' => e = .returned (.bool (l.any badC)) ∧ w = w' := by
  have hc := index_b l a n c w hs
  unfold fnv at hc ⊢
  go_enter Try.func59, Try.ntmps59
  go_wp2_with (go_at_call 69; refine hc.mono ?_; rintro e w2 ⟨i, rfl, hi, rfl⟩)
  go_ret
  exact ⟨by rw [← hi]; rfl, rfl⟩
set_option maxHeartbeats 400000 in
theorem tab_cells (l : List UInt8) (a : Option Addr) (n c : Nat) (w : World) (hs : Sl w 1 a n c (l.map B8)) :
    Calls Try.prog 35 #[.slice a n c] w fun e w' => e = .returned (.bool (okCells l)) ∧ w = w' := by
  have hc := contains_b l a n c w hs
  rw [okCells_eq]
  unfold fnv at hc
  go_enter Try.func35, Try.ntmps35
  go_wp2_with (go_at_call 59; refine hc.mono ?_; rintro e w2 ⟨rfl, rfl⟩)
  go_ret
  exact ⟨rfl, rfl⟩
set_option maxHeartbeats 400000 in
theorem tab_indicator (l : List UInt8) (a : Option Addr) (n c : Nat) (w : World) (hs : Sl w 1 a n c (l.map B8)) :
    Calls Try.prog 36 #[.slice a n c] w fun e w' => e = .returned (.bool (indic l)) ∧ w = w' := by
  have hc := tab_cells l a n c w hs
  have HN := hide hs.n_eq
  by_cases h1 : 1 ≤ n
  · have d1 : decide (1 ≤ (n : Int)) = true := decide_eq_true (by omega)
    by_cases h2 : n ≤ 4
    · have d2 : decide ((n : Int) ≤ 4) = true := decide_eq_true (by omega)
      have HE : Hid (indic l = okCells l) := hide (by unfold indic; rw [← HN.out]; simp [h1, h2])
      generalize okCells l = v at hc HE
      clear h1 h2
      go_enter Try.func36, Try.ntmps36
      go_wp2_with (go_at_call 35; refine hc.mono ?_; rintro e w2 ⟨rfl, rfl⟩)
      go_ret
      exact ⟨by rw [HE.out]; rfl, rfl⟩
    · have d2 : decide ((n : Int) ≤ 4) = false := decide_eq_false (by omega)
      have HE : Hid (indic l = false) := hide (by unfold indic; rw [← HN.out]; simp [h2])
      clear h1 h2 hc
      go_enter Try.func36, Try.ntmps36
      go_wp2_with fail
      go_ret
      exact ⟨by rw [HE.out]; rfl, rfl⟩
  · have d1 : decide (1 ≤ (n : Int)) = false := decide_eq_false (by omega)
    have HE : Hid (indic l = false) := hide (by unfold indic; rw [← HN.out]; simp [h1])
    clear h1 hc
    go_enter Try.func36, Try.ntmps36
    go_wp2_with fail
    go_ret
    exact ⟨by rw [HE.out]; rfl, rfl⟩

def cellsR (l : List UInt8) (lo hi : Nat) : Bool := okCells l && (decide (lo ≤ l.length) && decide (l.length ≤ hi))
theorem indic_cells (l : List UInt8) : cellsR l 1 4 = indic l := by
  unfold cellsR indic
  cases okCells l <;> simp
set_option maxHeartbeats 400000 in
theorem ref_Cells (l : List UInt8) (a : Option Addr) (n c : Nat) (lo hi : Nat) (vlo vhi : Int) (e1 : (lo : Int) = vlo) (e2 : (hi : Int) = vhi) (w : World) (hs : Sl w 1 a n c (l.map B8)) :
    Calls Try.prog 41 #[.slice a n c, .int .i64 vlo, .int .i64 vhi] w fun e w' => e = .returned (.bool (cellsR l lo hi)) ∧ w = w' := by
  subst e1; subst e2
  obtain rfl := hs.n_eq
  have hm1 := Nat.le_trans hs.le hs.cap
  unfold maxLen at hm1
  obtain ⟨r, HR⟩ : ∃ r, Hid (cellsR l lo hi = r) := ⟨_, hide rfl⟩
  rw [HR.out]
  go_enter Try.func41, Try.ntmps41
  go_wp2_with fail
  go_loopg [7] l.length (fun g i w' => ∃ (k : Nat), k ≤ l.length ∧ g = l.length - k ∧ (l.take k).any badC = false ∧ i = .int .i64 k ∧ w = w')
  case atStart => exact ⟨0, by omega, by omega, rfl, rfl, rfl⟩
  case round =>
    obtain ⟨k, hk, hg, ht, rfl, rfl⟩ := hrel
    have HG := hide hg
    have HT := hide ht
    clear hg ht
    by_cases hkl : k < l.length
    · obtain ⟨x, hx⟩ : ∃ x, l[k]? = some x := ⟨l[k], by simp [hkl]⟩
      have HH := hide hx
      obtain ⟨b, o, hab, hbw, hcell⟩ := hs.ex (by rw [List.length_map]; omega)
      subst hab
      have cu : w.cell? ⟨b, o + k, none⟩ = some (.int .u8 (x.toNat : Int)) := hcell k _ (by rw [List.getElem?_map, hx]; rfl)
      clear hx hcell
      by_cases h1 : x.toNat < 1
      · have d1 : decide ((x.toNat : Int) < 1) = true := decide_eq_true (by omega)
        have HE : Hid (r = false) := hide (by rw [← HR.out]; unfold cellsR; rw [okCells_eq, any_of_get HH.out (badC_lo h1)]; rfl)
        clear h1
        go_wp2_with fail
        go_ret
        exact ⟨by rw [HE.out]; rfl, rfl⟩
      · have d1 : decide ((x.toNat : Int) < 1) = false := decide_eq_false (by omega)
        by_cases h2 : 63 < x.toNat
        · have d2 : decide (63 < (x.toNat : Int)) = true := decide_eq_true (by omega)
          have HE : Hid (r = false) := hide (by rw [← HR.out]; unfold cellsR; rw [okCells_eq, any_of_get HH.out (badC_hi h2)]; rfl)
          clear h1 h2
          go_wp2_with fail
          go_ret
          exact ⟨by rw [HE.out]; rfl, rfl⟩
        · have d2 : decide (63 < (x.toNat : Int)) = false := decide_eq_false (by omega)
          have HN := hide (any_take_no HH.out HT.out (badC_no (show 1 ≤ x.toNat by omega) (by omega)))
          clear h1 h2
          go_wp2_with fail
          go_roundg (l.length - (k + 1))
          case measure => have := HG.out; omega
          case rel => exact ⟨k + 1, by omega, rfl, HN.out, by go_num, rfl⟩
    · obtain rfl : k = l.length := by omega
      have hok : okCells l = true := by
        have := HT.out
        rw [List.take_length] at this
        rw [okCells_eq, this]; rfl
      by_cases h1 : lo ≤ l.length
      · have d1 : decide (lo ≤ l.length) = true := decide_eq_true h1
        by_cases h2 : l.length ≤ hi
        · have d2 : decide (l.length ≤ hi) = true := decide_eq_true h2
          have HE : Hid (r = true) := hide (by rw [← HR.out]; unfold cellsR; rw [hok]; simp [h1, h2])
          clear h1 h2 hok
          go_wp2
          go_ret
          exact ⟨by rw [HE.out]; rfl, rfl⟩
        · have d2 : decide (l.length ≤ hi) = false := decide_eq_false h2
          have HE : Hid (r = false) := hide (by rw [← HR.out]; unfold cellsR; simp [h2])
          clear h1 h2 hok
          go_wp2
          go_ret
          exact ⟨by rw [HE.out]; rfl, rfl⟩
      · have d1 : decide (lo ≤ l.length) = false := decide_eq_false h1
        have HE : Hid (r = false) := hide (by rw [← HR.out]; unfold cellsR; simp [h1])
        clear h1 hok
        go_wp2
        go_ret
        exact ⟨by rw [HE.out]; rfl, rfl⟩
end Go.Proofs.Ytkjcbneanaeleaa
end
