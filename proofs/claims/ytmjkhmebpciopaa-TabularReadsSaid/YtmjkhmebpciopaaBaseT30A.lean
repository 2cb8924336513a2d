/- The contracts of the functions that the law reaches, joined into one text. -/
import Derived.WalkKit
import Derived.Lib.Hide
import Derived.Deep.LoopGhost
import Derived.Deep.DeepCutAuto
import Derived.Deep.AppendSrc
import Derived.Deep.QuietTactic
import Derived.BigQuiet
import Derived.Deep.RegionWith
import Derived.Laws.IdiomStrings
import Derived.Test.YtmjkhmebpciopaaChecked
import Derived.Lib.Strings
import Derived.WideShapes
import Derived.StillTailTactics
import Derived.Laws.CopyRow
set_option linter.unusedVariables false
set_option linter.unusedSimpArgs false

/- the text Mem -/
section
/- Memory words shared by all walks of this seat: what a slice reads as, what a call owns, and the laws on append in the walk's form. No program in sight. -/
namespace Go.Dx
open Go.RowKit

/-- a byte, an int as a cell -/
abbrev B8 (d : UInt8) : Value := .int .u8 (d.toNat : Int)
abbrev I64 (n : Int) : Value := .int .i64 n
theorem one_map {α : Type} (f : α → Value) (hf : ∀ x, (f x).oneCell' = true) (l : List α) : ∀ u ∈ l.map f, u.oneCell' = true := by
  intro u hu
  obtain ⟨x, _, rfl⟩ := List.mem_map.1 hu
  exact hf x
theorem hide {p : Prop} (h : p) : Hid p := h

/-- The slice value '.slice a n c' reads as the flat cells cs: n elements of sz cells each. -/
structure Sl (w : World) (sz : Nat) (a : Option Addr) (n c : Nat) (cs : List Value) : Prop where
  len : cs.length = n * sz
  le : n ≤ c
  cap : c ≤ maxLen
  nil : a = none → c = 0
  cell : ∀ p, a = some p → ∀ j u, cs[j]? = some u → w.cell? (p.add j) = some u

theorem Sl.n_eq {α : Type} {f : α → Value} {w : World} {a : Option Addr} {n c : Nat} {l : List α} (h : Sl w 1 a n c (l.map f)) : n = l.length := by
  have := h.len; simp at this; omega
theorem Sl.take {w : World} {a : Option Addr} {n c : Nat} {cs : List Value} (h : Sl w 1 a n c cs) (k : Nat) (hk : k ≤ n) : Sl w 1 a k c (cs.take k) := by
  have h1 := h.len
  have h2 := h.le
  refine ⟨by rw [List.length_take]; omega, by omega, h.cap, h.nil, fun p hp j u hj => h.cell p hp j u ?_⟩
  rw [List.getElem?_take] at hj
  split at hj
  · exact hj
  · cases hj
theorem Sl.ex {w : World} {sz : Nat} {a : Option Addr} {n c : Nat} {cs : List Value} (h : Sl w sz a n c cs) (h0 : 0 < cs.length) :
    ∃ b off, a = some ⟨b, off, none⟩ ∧ b < w.heap.size ∧ ∀ j u, cs[j]? = some u → w.cell? ⟨b, off + j, none⟩ = some u := by
  cases a with
  | none =>
    have := h.nil rfl
    have h1 := h.len
    have h2 := h.le
    have : n = 0 := by omega
    subst this
    simp at h1
    simp [h1] at h0
  | some p =>
    obtain ⟨b, off, spot⟩ := p
    have h1 := h.cell _ rfl 0 (cs[0]'h0) (by simp)
    have hs : spot = none := by simpa [Addr.add] using World.cell?_spot h1
    subst hs
    refine ⟨b, off, rfl, ?_, fun j u hj => ?_⟩
    · have := World.block_lt_of_cell? w _ h1
      simpa [Addr.add] using this
    · have := h.cell _ rfl j u hj
      rwa [Addr.add_lit] at this

theorem Sl.below {w w' : World} {sz : Nat} {a : Option Addr} {n c : Nat} {cs : List Value} (h : Sl w sz a n c cs) (hb : Below w.heap.size w w') : Sl w' sz a n c cs :=
  ⟨h.len, h.le, h.cap, h.nil, fun p hp j u hj => by
    have h1 := h.cell p hp j u hj
    rw [hb.cell (World.block_lt_of_cell? w _ h1)]
    exact h1⟩

theorem Sl.grown {w w' : World} {row : Option Nat} {sz : Nat} {a : Option Addr} {n c : Nat} {cs : List Value} (h : Sl w sz a n c cs) (hb : w.grownBy w' row) (hr : ∀ p, a = some p → some p.block ≠ row) : Sl w' sz a n c cs :=
  ⟨h.len, h.le, h.cap, h.nil, fun p hp j u hj => by
    have h1 := h.cell p hp j u hj
    refine hb.cell h1 ?_
    have : (p.add j).block = p.block := by unfold Addr.add; split <;> rfl
    rw [this]
    exact hr p hp⟩

theorem Sl.alloc {w : World} {sz : Nat} {a : Option Addr} {n c : Nat} {cs : List Value} (h : Sl w sz a n c cs) (o : Obj) : Sl (w.alloc o) sz a n c cs :=
  h.below ((Below.refl _ _).alloc (Nat.le_refl _) _)

theorem Sl.drew {w : World} {sz : Nat} {a : Option Addr} {n c : Nat} {cs : List Value} (h : Sl w sz a n c cs) : Sl w.drew sz a n c cs := ⟨h.len, h.le, h.cap, h.nil, h.cell⟩

theorem Sl.empty (w : World) (sz : Nat) : Sl w sz none 0 0 [] := ⟨by simp, Nat.le_refl _, Nat.zero_le _, fun _ => rfl, fun _ h => by cases h⟩

/-- What the call owns: the slice '.slice a n c' begins a row of its own, from block B on. -/
def Own (w : World) (B : Nat) (e : TypeId) (sz : Nat) (a : Option Addr) (n c : Nat) (cs : List Value) : Prop := w.ownsRow B e sz (.slice a n c) n cs

theorem Own.nil (w : World) (B : Nat) (e : TypeId) (sz : Nat) : Own w B e sz none 0 0 [] := World.ownsRow_nil w B e sz

theorem Own.len {w : World} {B : Nat} {e : TypeId} {sz : Nat} {a : Option Addr} {n c : Nat} {cs : List Value} (h : Own w B e sz a n c cs) : cs.length = n * sz := h.1

theorem Own.sl {w : World} {B : Nat} {e : TypeId} {sz : Nat} {a : Option Addr} {n c : Nat} {cs : List Value} (h : Own w B e sz a n c cs) : Sl w sz a n c cs := by
  refine ⟨h.1, ?_, ?_, ?_, ?_⟩
  · rcases h.2 with ⟨h1, h2⟩ | ⟨g, cap, cur, h1, _, _, h2, _⟩
    · omega
    · injection h1 with _ _ h1; omega
  · rcases h.2 with ⟨h1, h2⟩ | ⟨g, cap, cur, h1, _, _, _, h2, _⟩
    · injection h1 with _ _ h1; unfold maxLen; omega
    · injection h1 with _ _ h1; omega
  · intro ha
    rcases h.2 with ⟨h1, h2⟩ | ⟨g, cap, cur, h1, _, _, h2, _⟩
    · injection h1
    · injection h1 with h1; rw [ha] at h1; cases h1
  · intro p hp j u hj
    subst hp
    have h2 := h.2
    have hg : (Value.slice (some p) n c).ownBlock = some p.block := rfl
    have := World.ownsRow.cells h hg j u hj
    rcases h.2 with ⟨h1, _⟩ | ⟨g, cap, cur, h1, _⟩
    · cases h1
    · injection h1 with h1
      injection h1 with h1
      subst h1
      exact this

theorem Own.base {w : World} {B : Nat} {e : TypeId} {sz : Nat} {p : Addr} {n c : Nat} {cs : List Value} (h : Own w B e sz (some p) n c cs) : B ≤ p.block ∧ p.block < w.heap.size :=
  World.ownsRow.lt h p.block rfl

theorem Own.below {w w' : World} {B : Nat} {e : TypeId} {sz : Nat} {a : Option Addr} {n c : Nat} {cs : List Value} (h : Own w B e sz a n c cs) (hb : Below w.heap.size w w') : Own w' B e sz a n c cs := by
  refine ⟨h.1, ?_⟩
  rcases h.2 with h2 | ⟨g, cap, cur, h1, h2, h3, r⟩
  · exact .inl h2
  · refine .inr ⟨g, cap, cur, h1, h2, ?_, r⟩
    rw [hb.block g (Array.getElem?_eq_some_iff.1 h3).1]
    exact h3

theorem Own.mono {w : World} {B B' : Nat} {e : TypeId} {sz : Nat} {a : Option Addr} {n c : Nat} {cs : List Value} (h : Own w B e sz a n c cs) (hb : B' ≤ B) : Own w B' e sz a n c cs := by
  refine ⟨h.1, ?_⟩
  rcases h.2 with h2 | ⟨g, cap, cur, h1, h2, r⟩
  · exact .inl h2
  · exact .inr ⟨g, cap, cur, h1, by omega, r⟩

theorem Own.alloc {w : World} {B : Nat} {e : TypeId} {sz : Nat} {a : Option Addr} {n c : Nat} {cs : List Value} (h : Own w B e sz a n c cs) (o : Obj) : Own (w.alloc o) B e sz a n c cs :=
  World.ownsRow.alloc h o

theorem Own.drew {w : World} {B : Nat} {e : TypeId} {sz : Nat} {a : Option Addr} {n c : Nat} {cs : List Value} (h : Own w B e sz a n c cs) : Own w.drew B e sz a n c cs := h

theorem Own.kept {w w' : World} {row : Option Nat} {B : Nat} {e : TypeId} {sz : Nat} {a : Option Addr} {n c : Nat} {cs : List Value} (h : Own w B e sz a n c cs) (hg : w.grownBy w' row) (hne : ∀ p, a = some p → some p.block ≠ row) : Own w' B e sz a n c cs := by
  refine World.ownsRow.kept h hg ?_
  cases a with
  | none => exact .inl rfl
  | some p => exact .inr (hne p rfl)

/-- a literal slice just built -/
theorem Own.built (w : World) (B : Nat) (e : TypeId) (sz n : Nat) (us : Array Value) (hB : B ≤ w.heap.size) (hn : us.size = n * sz) (hm : n ≤ maxLen) :
    Own (w.alloc (.cells us e)) B e sz (some ⟨w.heap.size, 0, none⟩) n n us.toList :=
  ⟨by simpa using hn, .inr ⟨w.heap.size, n, us, rfl, hB, heap_alloc_new w _, Nat.le_refl _, hm, hn, by rw [← hn, ← Array.length_toList]; exact List.take_length⟩⟩

theorem ownBlock_of (a : Option Addr) (n c : Nat) : (Value.slice a n c).ownBlock = a.map (·.block) := by cases a <;> rfl

theorem undrew {B : Nat} {w w' : World} (h : Below B w.drew w') : Below B w w' := ⟨h.os, h.tape, h.output, h.size, h.block⟩
theorem undrewN {B n : Nat} {w w' : World} (h : Below B (w.drewN n) w') : Below B w w' := ⟨h.os, h.tape, h.output, h.size, h.block⟩

section laws
variable {P : Program} {w : World} {ops : Array Oper} {rest : List Oper} {o : Oper} {act : Act} {Q : Exit → Act → World → Prop}

theorem Sl.src {sz : Nat} {a : Option Addr} {m c : Nat} {ys : List Value} (h : Sl w sz a m c ys) {tx e' : TypeId} (hk : P.underlying tx = some (.slice e')) (h1 : ∀ u ∈ ys, u.oneCell' = true) : Src P sz tx (.slice a m c) m ys w := by
  cases a with
  | some ad => exact Src.ofSlice w hk ad m c ys h.len (h.cell ad rfl) h1
  | none =>
    have hc := h.nil rfl
    have hle := h.le
    obtain rfl : m = 0 := by omega
    have hnews : ys = [] := List.eq_nil_of_length_eq_zero (by simpa using h.len)
    subst hnews
    exact Src.ofNil w hk c

theorem run_append_any (base : Nat) (t tx ty e : TypeId) (i : TypeInfo) (z : Value) (ht : P.underlying t = some (.slice e)) (hi : P.info? e = some i) (hz : i.zero = some z)
    (hzs : z.cells.size = i.size) (a : Option Addr) (n c : Nat) (xs : List Value) (hown : Own w base e i.size a n c xs)
    (x : Value) (m : Nat) (news : List Value) (hs : Src P i.size tx x m news w)
    (h63 : n + m ≤ maxLen) (hbytes : (n + m) * i.bytes ≤ 140737488355328) (hbase : base ≤ w.heap.size) :
    ∃ a' c' w', (Builtin.append_ #[t, tx] ty #[.slice a n c, x]).run P w = .ok (.slice a' (n + m) c') w' ∧ Own w' base e i.size a' (n + m) c' (xs ++ news) ∧ w.grownBy w' (a.map (·.block)) := by
  have hsmall : n + m ≤ 9223372036854775807 := by simp only [maxLen] at h63; omega
  have hlen : (xs ++ news).length = (n + m) * i.size := by rw [List.length_append, hown.1, hs.newsLen, Nat.add_mul]
  have hold : (Builtin.firstCells i.size n (.slice a n c)).run P w.drew = .ok xs.toArray w.drew := by
    have hsl := hown.sl
    cases a with
    | none =>
      have := hsl.nil rfl
      have := hsl.le
      obtain rfl : n = 0 := by omega
      have hnews : xs = [] := List.eq_nil_of_length_eq_zero (by simpa using hsl.len)
      subst hnews
      exact run_firstCells_none w.drew i.size 0 0 c
    | some p => exact run_firstCells_some w.drew i.size n p n c xs hsl.len (by simpa using hsl.cell p rfl)
  by_cases hroom : n + m ≤ c
  · rcases hown.2 with ⟨h1, h2⟩ | ⟨g, cap, cur, h1, hbg, hg, hnc, hcm, hcs, htake⟩
    · injection h1 with h1 h3 h4
      subst h1 h3 h4
      obtain rfl : m = 0 := by omega
      have hx : xs = [] := List.eq_nil_of_length_eq_zero (by simpa using hown.1)
      have hnews : news = [] := List.eq_nil_of_length_eq_zero (by simpa using hs.newsLen)
      subst hx hnews
      refine ⟨none, 0, w, ?_, Own.nil w base e i.size, World.grownBy.refl _ _⟩
      rcases hs.kind with ⟨e', hk⟩ | hk <;> simp [Builtin.append_, run_underlying ht, run_underlying hk, sizeOf, typeInfo, hi, hs.len, hs.cells]
    · injection h1 with h1 h3 h4
      subst h1 h4
      have hfit : n * i.size + news.length ≤ cur.size := by rw [hs.newsLen, hcs, ← Nat.add_mul]; exact Nat.mul_le_mul_right _ hroom
      have hst := run_storeCells_at P g (n * i.size) e news 0 cur w hg (by simpa using hfit) hs.one
      simp only [Nat.add_zero] at hst
      refine ⟨some ⟨g, 0, none⟩, c, w.setRow g (cur.toList.take (n * i.size) ++ news ++ cur.toList.drop (n * i.size + news.length)).toArray, ?_, ⟨hlen, .inr ⟨g, c, _, rfl, hbg, setRow_heap w g cur _ e _ hg, hroom, hcm, ?_, ?_⟩⟩, ⟨rfl, rfl, rfl, by simp, fun k _ hk => setRow_other w g k _ (fun e => hk (by simp [e]))⟩⟩
      · rcases hs.kind with ⟨e', hk⟩ | hk <;> simp [Builtin.append_, run_underlying ht, run_underlying hk, sizeOf, typeInfo, hi, hs.len, hroom, hs.cells, Addr.add_lit, hst]
      · simp only [List.size_toArray, List.length_append, List.length_take, List.length_drop, Array.length_toList]
        omega
      · rw [htake, ← hlen]
        exact List.take_left
  · have hr := run_append_grow_src (P := P) w t tx ty e i z ht hi hz a n c xs hold x m news hs (by omega) (by omega) (growslice_fits (by omega) hbytes)
    have hge := grownCap_ge w (n + m) c e
    have hcm : grownCap w (n + m) c e ≤ maxLen := grownCap_le_maxLen w (n + m) c e h63
    refine ⟨_, _, _, hr, ⟨hlen, .inr ⟨w.heap.size, _, _, rfl, hbase, heap_alloc_new w.drew _, hge, hcm, ?_, ?_⟩⟩, ⟨rfl, rfl, rfl, by simp, fun k hk _ => Below.heap_alloc w.drew _ k hk⟩⟩
    · simp only [Array.size_append, List.size_toArray, size_zeroCells, hzs, hlen, ← Nat.add_mul]
      congr 1
      omega
    · simp only [Array.toList_append, List.append_assoc]
      rw [← List.append_assoc, ← hlen]
      exact List.take_left

/-- 'append(out, x...)', out owned, whatever x is: the general law. -/
theorem append_src (hg : o.guard = none) (s x : Operand) (t tx : TypeId) (hop : o.op = Op.call { callee := Callee.builtin Builtin.append, args := #[s, x], argTypes := #[t, tx] })
    (e : TypeId) (z : Value) (sz bytes : Nat) (ht : P.underlying t = some (.slice e)) (hi : (P.info? e).map (fun i => (i.zero, i.size, i.bytes)) = some (some z, sz, bytes)) (hz : z.cells.size = sz)
    (w0 : World) (B : Nat) (a : Option Addr) (n c : Nat) (xs : List Value) (hs : act.eval s = .slice a n c) (hown : Own w B e sz a n c xs)
    (v : Value) (m : Nat) (ys : List Value) (hx : act.eval x = v) (hy : Src P sz tx v m ys w)
    (hn : (n + m) * bytes ≤ 140737488355328) (hn2 : n + m ≤ maxLen) (hB : B ≤ w.heap.size) (hbel : Below B w0 w)
    (hK : ∀ a' c' w', Own w' B e sz a' (n + m) c' (xs ++ ys) → w.grownBy w' (a.map (·.block)) → Below B w0 w' → wpList P ops Q rest (act.put o.dst (.slice a' (n + m) c')) w') :
    wpList P ops Q (o :: rest) act w := by
  obtain ⟨i, hi0, hz0, hz1, hz2⟩ := info_parts hi
  subst hz1 hz2
  clear hi
  obtain ⟨a', c', w', hrun, ho, hgr⟩ := run_append_any B t tx o.type e i z ht hi0 hz0 hz a n c xs hown v m ys hy hn2 hn hB
  refine wpList_plain hg fun K hK' => ?_
  unfold Oper.wp
  simp [execOp, hop, resolve, invoke, builtin, hs, hx, hrun, Result.andThen]
  refine hK' _ _ (hK a' c' w' ho hgr (hbel.grown hgr hB ?_))
  intro k hk
  cases a with
  | none => cases hk
  | some p => injection hk with hk; subst hk; exact hown.base.1

/-- 'append(out, ys...)', out owned, ys a slice. -/
theorem append_own (hg : o.guard = none) (s x : Operand) (t : TypeId) (hop : o.op = Op.call { callee := Callee.builtin Builtin.append, args := #[s, x], argTypes := #[t, t] })
    (e : TypeId) (z : Value) (sz bytes : Nat) (ht : P.underlying t = some (.slice e)) (hi : (P.info? e).map (fun i => (i.zero, i.size, i.bytes)) = some (some z, sz, bytes)) (hz : z.cells.size = sz)
    (w0 : World) (B : Nat) (a : Option Addr) (n c : Nat) (xs : List Value) (hs : act.eval s = .slice a n c) (hown : Own w B e sz a n c xs)
    (a2 : Option Addr) (m c2 : Nat) (ys : List Value) (hx : act.eval x = .slice a2 m c2) (hy : Sl w sz a2 m c2 ys) (h1 : ∀ u ∈ ys, u.oneCell' = true)
    (hn : (n + m) * bytes ≤ 140737488355328) (hn2 : n + m ≤ maxLen) (hB : B ≤ w.heap.size) (hbel : Below B w0 w)
    (hK : ∀ a' c' w', Own w' B e sz a' (n + m) c' (xs ++ ys) → w.grownBy w' (a.map (·.block)) → Below B w0 w' → wpList P ops Q rest (act.put o.dst (.slice a' (n + m) c')) w') :
    wpList P ops Q (o :: rest) act w :=
  append_src hg s x t t hop e z sz bytes ht hi hz w0 B a n c xs hs hown _ m ys hx (hy.src ht h1) hn hn2 hB hbel hK

/-- 'append(out, u, ..)': what is appended lies in a block that was laid just before. -/
theorem append_lit (hg : o.guard = none) (s x : Operand) (t : TypeId) (hop : o.op = Op.call { callee := Callee.builtin Builtin.append, args := #[s, x], argTypes := #[t, t] })
    (e : TypeId) (z : Value) (sz bytes : Nat) (ht : P.underlying t = some (.slice e)) (hi : (P.info? e).map (fun i => (i.zero, i.size, i.bytes)) = some (some z, sz, bytes)) (hz : z.cells.size = sz)
    (w0 : World) (B : Nat) (a : Option Addr) (n c : Nat) (xs : List Value) (hs : act.eval s = .slice a n c) (hown : Own w B e sz a n c xs)
    (m : Nat) (us : List Value) (hx : act.eval x = .slice (some ⟨w.heap.size, 0, none⟩) m m) (hu : us.length = m * sz) (h1 : ∀ u ∈ us, u.oneCell' = true)
    (hn : (n + m) * bytes ≤ 140737488355328) (hn2 : n + m ≤ maxLen) (hB : B ≤ w.heap.size) (hbel : Below B w0 w)
    (hK : ∀ a' c' w', Own w' B e sz a' (n + m) c' (xs ++ us) → w.grownBy w' (a.map (·.block)) → Below B w0 w' → wpList P ops Q rest (act.put o.dst (.slice a' (n + m) c')) w') :
    wpList P ops Q (o :: rest) act (w.alloc (.cells us.toArray e)) := by
  refine append_own hg s x t hop e z sz bytes ht hi hz w0 B a n c xs hs (hown.alloc _) _ m m us hx ?_ h1 hn hn2 (by simp; omega) (hbel.alloc hB _) ?_
  · have := (Own.built w 0 e sz m us.toArray (Nat.zero_le _) (by simpa using hu) (by omega)).sl
    simpa using this
  · intro a' c' w' ho hgr hb
    refine hK a' c' w' ho ⟨hgr.os, hgr.tape, hgr.output, ?_, ?_⟩ hb
    · have := hgr.size; simp at this; omega
    · intro k hk hne
      rw [hgr.block k (by simp; omega) hne]
      rw [Below.heap_alloc _ _ _ hk]
/-- What a call hands back that returns a slice of its own. -/
def Gives (e : TypeId) (sz n : Nat) (cs : List Value) (w : World) (r : Ending) (w' : World) : Prop :=
  ∃ a c, r = .returned (.slice a n c) ∧ Own w' w.heap.size e sz a n c cs ∧ Below w.heap.size w w'
/-- What a call hands back that only reads. -/
def Still (v : Value) (w : World) (r : Ending) (w' : World) : Prop := r = .returned v ∧ ∃ n, w' = w.drewN n
theorem Still.below {w : World} (n : Nat) : Below w.heap.size w (w.drewN n) := ⟨rfl, rfl, rfl, Nat.le_refl _, fun _ _ => rfl⟩
end laws
end Go.Dx
end

/- the text Ops -/
section
/- Laws of the walk in terms of 'Sl': an index, a cut, a conversion. No program in sight. -/
set_option linter.unusedVariables false
namespace Go.Dx
open Go.RowKit

theorem sl_add {p : Addr} (i j : Nat) : (p.add i).add j = p.add (i + j) := by
  unfold Addr.add
  by_cases hi : i = 0
  · subst hi; simp
  · by_cases hj : j = 0
    · subst hj; simp
    · simp [hi, hj]; omega

theorem Sl.cut {w : World} {sz : Nat} {a : Option Addr} {n c : Nat} {cs : List Value} (h : Sl w sz a n c cs) (l u : Nat) (hl : l ≤ u) (hu : u ≤ n) :
    Sl w sz (if c = l then a else a.map (·.add (l * sz))) (u - l) (c - l) ((cs.drop (l * sz)).take ((u - l) * sz)) := by
  have h1 := h.len
  have h2 := h.le
  have h3 := h.cap
  have hm : u * sz ≤ n * sz := Nat.mul_le_mul_right _ hu
  have hm2 : l * sz ≤ u * sz := Nat.mul_le_mul_right _ hl
  have hsub : (u - l) * sz = u * sz - l * sz := Nat.sub_mul _ _ _
  refine ⟨?_, by omega, by omega, ?_, ?_⟩
  · rw [List.length_take, List.length_drop]; omega
  · intro ha
    by_cases hc : c = l
    · omega
    · rw [if_neg hc] at ha
      cases a with
      | none => have := h.nil rfl; omega
      | some p => cases ha
  · intro p hp j v hj
    rw [List.getElem?_take] at hj
    split at hj
    · rename_i hlt
      rw [List.getElem?_drop] at hj
      by_cases hc : c = l
      · have : (u - l) * sz = 0 := by have : u - l = 0 := by omega
                                      rw [this, Nat.zero_mul]
        omega
      · rw [if_neg hc] at hp
        cases a with
        | none => cases hp
        | some q =>
          simp only [Option.map_some, Option.some.injEq] at hp
          subst hp
          rw [sl_add]
          exact h.cell q rfl _ _ hj
    · cases hj

theorem Sl.fresh (w : World) (e : TypeId) (sz n : Nat) (us : List Value) (hn : us.length = n * sz) (hm : n ≤ maxLen) : Sl (w.alloc (.cells us.toArray e)) sz (some ⟨w.heap.size, 0, none⟩) n n us :=
  ⟨hn, Nat.le_refl _, hm, (fun h => by cases h), fun p hp j u hj => by
    cases hp
    rw [Addr.add_lit, Nat.zero_add, cell_of_row _ w.heap.size j us.toArray e _ (heap_alloc_new w _)]
    simpa using hj⟩

section ops
variable {P : Program} {w : World} {ops : Array Oper} {rest : List Oper} {act : Act} {Q : Exit → Act → World → Prop}
  {ty : TypeId} {pos : String} {after : Array Edge}

/-- 'xs[i]', the address: a cell that holds u. -/
theorem index_sl (d : Nat) (t : TypeId) (x y : Operand) (e : TypeId) (ht : P.underlying t = some (.slice e)) (hsz : (P.info? e).map (·.size) = some 1)
    (a : Option Addr) (n c : Nat) (cs : List Value) (hx : act.eval x = .slice a n c) (hs : Sl w 1 a n c cs) (k : IntKind) (iv : Int) (i : Nat) (hy : act.eval y = .int k iv) (hiv : iv = (i : Int))
    (u : Value) (hu : cs[i]? = some u)
    (hK : ∀ b o, w.cell? ⟨b, o, none⟩ = some u → b < w.heap.size → wpList P ops Q rest (act.put (some d) (.pointer (some ⟨b, o, none⟩))) w) :
    wpList P ops Q ({ dst := some d, op := .indexAddr t x y, type := ty, pos := pos, after := after, guard := none } :: rest) act w := by
  refine wpList_plain rfl fun K hK' => ?_
  have hil : i < cs.length := (List.getElem?_eq_some_iff.1 hu).1
  have hn : i < n := by have := hs.len; omega
  obtain ⟨b, o, rfl, hb, hc⟩ := hs.ex (by omega)
  obtain ⟨i0, hi0, hs0⟩ := Option.map_eq_some_iff.1 hsz
  subst hiv
  have hrun : (Instr.indexAt t (.slice (some ⟨b, o, none⟩) n c) (.int k (i : Int))).run P w = .ok (.pointer (some ⟨b, o + i, none⟩)) w := by
    simp [Instr.indexAt, asIntOf, run_underlying ht, sizeOf, typeInfo, hi0, hs0, hn, Addr.add_lit]
  unfold Oper.wp
  simp [execOp, hx, hy, hrun, Result.andThen]
  exact hK' _ _ (hK b (o + i) (hc i u hu) hb)

/-- 'xs[l:u]' -/
theorem cut_sl (d : Nat) (t : TypeId) (x lo hi : Operand) (e : TypeId) (ht : P.underlying t = some (.slice e)) (sz : Nat) (hsz : (P.info? e).map (·.size) = some sz)
    (a : Option Addr) (n c : Nat) (cs : List Value) (hx : act.eval x = .slice a n c) (hs : Sl w sz a n c cs) (kl ku : IntKind) (lv uv : Int) (l u : Nat) (hl : act.eval lo = .int kl lv) (hu : act.eval hi = .int ku uv)
    (hlv : lv = (l : Int)) (huv : uv = (u : Int)) (hlu : l ≤ u) (hun : u ≤ n)
    (hK : ∀ a', Sl w sz a' (u - l) (c - l) ((cs.drop (l * sz)).take ((u - l) * sz)) → (∀ p, a' = some p → ∃ q, a = some q ∧ q.block = p.block) → wpList P ops Q rest (act.put (some d) (.slice a' (u - l) (c - l))) w) :
    wpList P ops Q ({ dst := some d, op := .slice t x (some lo) (some hi) none, type := ty, pos := pos, after := after, guard := none } :: rest) act w := by
  refine wpList_plain rfl fun K hK' => ?_
  subst hlv huv
  obtain ⟨i0, hi0, hs0⟩ := Option.map_eq_some_iff.1 hsz
  have hle := hs.le
  have hrun : (Instr.sliceAt t (.slice a n c) (some (.int kl (l : Int))) (some (.int ku (u : Int))) none).run P w = .ok (.slice (if c = l then a else a.map (·.add (l * sz))) (u - l) (c - l)) w := by
    have h2 : (0 : Int) ≤ l ∧ (l : Int) ≤ u := by omega
    have h3 : (0 : Int) ≤ u ∧ (u : Int) ≤ c := by omega
    simp [Instr.sliceAt, Instr.slice, Instr.sliceBounds, Instr.sliceBound, asIntOf, run_underlying ht, sizeOf, typeInfo, hi0, hs0, h2, h3, show u ≤ c by omega, hlu]
  unfold Oper.wp
  simp only [execOp, Option.map_some, Option.map_none, hx, hl, hu, Sem.run_bind, hrun, Result.andThen, Sem.run_pure]
  refine hK' _ _ (hK _ (hs.cut l u hlu hun) ?_)
  intro p hp
  by_cases hc : c = l
  · rw [if_pos hc] at hp; exact ⟨p, hp, rfl⟩
  · rw [if_neg hc] at hp
    cases a with
    | none => cases hp
    | some q =>
      simp only [Option.map_some, Option.some.injEq] at hp
      exact ⟨q, rfl, by rw [← hp]; unfold Addr.add; split <;> rfl⟩

/-- 'xs[l:]' -/
theorem cut_lo (d : Nat) (t : TypeId) (x lo : Operand) (e : TypeId) (ht : P.underlying t = some (.slice e)) (sz : Nat) (hsz : (P.info? e).map (·.size) = some sz)
    (a : Option Addr) (n c : Nat) (cs : List Value) (hx : act.eval x = .slice a n c) (hs : Sl w sz a n c cs) (kl : IntKind) (lv : Int) (l : Nat) (hl : act.eval lo = .int kl lv)
    (hlv : lv = (l : Int)) (hln : l ≤ n)
    (hK : ∀ a', Sl w sz a' (n - l) (c - l) (cs.drop (l * sz)) → (∀ p, a' = some p → ∃ q, a = some q ∧ q.block = p.block) → wpList P ops Q rest (act.put (some d) (.slice a' (n - l) (c - l))) w) :
    wpList P ops Q ({ dst := some d, op := .slice t x (some lo) none none, type := ty, pos := pos, after := after, guard := none } :: rest) act w := by
  refine wpList_plain rfl fun K hK' => ?_
  subst hlv
  obtain ⟨i0, hi0, hs0⟩ := Option.map_eq_some_iff.1 hsz
  have hle := hs.le
  have hrun : (Instr.sliceAt t (.slice a n c) (some (.int kl (l : Int))) none none).run P w = .ok (.slice (if c = l then a else a.map (·.add (l * sz))) (n - l) (c - l)) w := by
    have h2 : (0 : Int) ≤ l ∧ (l : Int) ≤ n := by omega
    simp [Instr.sliceAt, Instr.slice, Instr.sliceBounds, Instr.sliceBound, asIntOf, run_underlying ht, sizeOf, typeInfo, hi0, hs0, h2, hln]
  have hcut := hs.cut l n hln (Nat.le_refl _)
  have e2 : (cs.drop (l * sz)).take ((n - l) * sz) = cs.drop (l * sz) := by
    apply List.take_of_length_le
    have := hs.len
    rw [List.length_drop, this, Nat.sub_mul]; omega
  rw [e2] at hcut
  unfold Oper.wp
  simp only [execOp, Option.map_some, Option.map_none, hx, hl, Sem.run_bind, hrun, Result.andThen, Sem.run_pure]
  refine hK' _ _ (hK _ hcut ?_)
  intro p hp
  by_cases hc : c = l
  · rw [if_pos hc] at hp; exact ⟨p, hp, rfl⟩
  · rw [if_neg hc] at hp
    cases a with
    | none => cases hp
    | some q =>
      simp only [Option.map_some, Option.some.injEq] at hp
      exact ⟨q, rfl, by rw [← hp]; unfold Addr.add; split <;> rfl⟩

/-- 'xs[:u]': the address stays. -/
theorem cut_hi (d : Nat) (t : TypeId) (x hi : Operand) (e : TypeId) (ht : P.underlying t = some (.slice e)) (sz : Nat) (hsz : (P.info? e).map (·.size) = some sz)
    (a : Option Addr) (n c : Nat) (cs : List Value) (hx : act.eval x = .slice a n c) (hs : Sl w sz a n c cs) (ku : IntKind) (uv : Int) (u : Nat) (hu : act.eval hi = .int ku uv)
    (huv : uv = (u : Int)) (hun : u ≤ n)
    (hK : Sl w sz a u c (cs.take (u * sz)) → wpList P ops Q rest (act.put (some d) (.slice a u c)) w) :
    wpList P ops Q ({ dst := some d, op := .slice t x none (some hi) none, type := ty, pos := pos, after := after, guard := none } :: rest) act w := by
  refine wpList_plain rfl fun K hK' => ?_
  subst huv
  obtain ⟨i0, hi0, hs0⟩ := Option.map_eq_some_iff.1 hsz
  have hle := hs.le
  have hrun : (Instr.sliceAt t (.slice a n c) none (some (.int ku (u : Int))) none).run P w = .ok (.slice a u c) w := by
    have h3 : (0 : Int) ≤ u ∧ (u : Int) ≤ c := by omega
    simp [Instr.sliceAt, Instr.slice, Instr.sliceBounds, Instr.sliceBound, asIntOf, run_underlying ht, sizeOf, typeInfo, hi0, h3, show u ≤ c by omega]
    intro _
    cases a with
    | none => rfl
    | some p => simp [Addr.add]
  have hcut := hs.cut 0 u (Nat.zero_le _) hun
  have e2 : (if c = 0 then a else a.map (·.add (0 * sz))) = a := by
    split
    · rfl
    · cases a with
      | none => rfl
      | some p => simp [Addr.add]
  rw [e2] at hcut
  simp only [Nat.sub_zero, Nat.zero_mul, List.drop_zero] at hcut
  unfold Oper.wp
  simp only [execOp, Option.map_some, Option.map_none, hx, hu, Sem.run_bind, hrun, Result.andThen, Sem.run_pure]
  exact hK' _ _ (hK hcut)

/-- 'string(b)' -/
theorem conv_str (d : Nat) (src dst : TypeId) (x : Operand) (e : TypeId) (hsr : P.underlying src = some (.slice e)) (he : P.underlying e = some (.int .u8)) (hd : P.underlying dst = some .string)
    (a : Option Addr) (n c : Nat) (l : List UInt8) (hx : act.eval x = .slice a n c) (hs : Sl w 1 a n c (l.map B8))
    (hK : wpList P ops Q rest (act.put (some d) (.string ⟨l.toArray⟩)) w) :
    wpList P ops Q ({ dst := some d, op := .convert src dst x, type := ty, pos := pos, after := after, guard := none } :: rest) act w := by
  refine wpList_plain rfl fun K hK' => ?_
  obtain rfl := hs.n_eq
  have hrun : (convert src dst (.slice a l.length c)).run P w = .ok (.string ⟨l.toArray⟩) w := by
    cases a with
    | some p =>
      exact run_convert_bytes_back w src dst e p c l hsr he hd (fun j hj => hs.cell p rfl j _ (by simp [hj]))
    | none =>
      have := hs.nil rfl
      have := hs.le
      have hl : l = [] := List.eq_nil_of_length_eq_zero (by omega)
      subst hl
      simp [convert, run_underlying hsr, run_underlying hd, run_underlying he, Conv.bytesToString]
      rfl
  unfold Oper.wp
  simp [execOp, hx, hrun, Result.andThen]
  exact hK' _ _ hK

/-- '[]byte(s)' -/
theorem conv_bytes (d : Nat) (src dst : TypeId) (x : Operand) (e : TypeId) (hsr : P.underlying src = some .string) (hd : P.underlying dst = some (.slice e)) (he : P.underlying e = some (.int .u8))
    (s : ByteArray) (hx : act.eval x = .string s) (hm : s.size ≤ maxLen)
    (hK : ∀ a c w', Sl w' 1 a s.size c (s.data.toList.map B8) → Below w.heap.size w w' → (∀ p, a = some p → w.heap.size ≤ p.block) → wpList P ops Q rest (act.put (some d) (.slice a s.size c)) w') :
    wpList P ops Q ({ dst := some d, op := .convert src dst x, type := ty, pos := pos, after := after, guard := none } :: rest) act w := by
  refine wpList_plain rfl fun K hK' => ?_
  have hrun := run_bytes_of_string (P := P) w src dst e s hsr hd he
  have hge := grownCap_ge w s.size 0 e
  have hcm := grownCap_le_maxLen w s.size 0 e hm
  unfold Oper.wp
  simp only [execOp, hx, Sem.run_bind, hrun, Result.andThen, Sem.run_pure]
  refine hK' _ _ (hK _ _ _ ⟨?_, hge, hcm, (fun h => by cases h), ?_⟩ ((Below.refl _ _).drew.alloc (Nat.le_refl _) _) (fun p hp => by cases hp; exact Nat.le_refl _))
  · rw [List.length_map, Array.length_toList, Nat.mul_one]; rfl
  · intro p hp j u hj
    cases hp
    rw [Addr.add_lit, Nat.zero_add, cell_of_row _ w.heap.size j (bytesRow s (grownCap w s.size 0 e)) e _ (heap_alloc_new w.drew _)]
    have hj2 : j < s.size := by
      have := (List.getElem?_eq_some_iff.1 hj).1
      rw [List.length_map, Array.length_toList] at this
      exact this
    unfold bytesRow
    rw [Array.getElem?_append_left (by rw [Array.size_map]; exact hj2)]
    rw [← hj]
    simp
/-- a whole array or struct is loaded -/
theorem load_agg (d : Nat) (t : TypeId) (x : Operand) (sz : Nat) (hsz : (P.info? t).map (·.size) = some sz) (n e : Nat) (hag : P.underlying t = some (.array n e))
    (p : Addr) (hx : act.eval x = .pointer (some p)) (cs : List Value) (hl : cs.length = sz) (hc : ∀ j u, cs[j]? = some u → w.cell? (p.add j) = some u)
    (hK : wpList P ops Q rest (act.put (some d) (.agg cs.toArray)) w) :
    wpList P ops Q ({ dst := some d, op := .load t x, type := ty, pos := pos, after := after, guard := none } :: rest) act w := by
  refine wpList_plain rfl fun K hK' => ?_
  obtain ⟨i, hi, hs0⟩ := Option.map_eq_some_iff.1 hsz
  subst hs0
  have hrun : (Instr.loadAt t (.pointer (some p))).run P w = .ok (.agg cs.toArray) w := by
    have hl2 := run_loadCells_list (P := P) w p cs hc
    rw [hl] at hl2
    simp [Instr.loadAt, Instr.sureAddr, loadVar, isAgg, run_underlying hag, sizeOf, typeInfo, hi, hl2]
  unfold Oper.wp
  simp [execOp, hx, hrun, Result.andThen]
  exact hK' _ _ hK

/-- a whole value is stored into a block that was laid just before -/
theorem store_fresh (t e : TypeId) (x y : Operand) (sz : Nat) (hsz : (P.info? t).map (·.size) = some sz) (zs : Array Value)
    (hx : act.eval x = .pointer (some ⟨w.heap.size, 0, none⟩)) (v : Value) (cs : List Value) (hy : act.eval y = v) (hv : v.cells = cs.toArray) (hl : cs.length = sz) (hz : zs.size = sz) (h1 : ∀ u ∈ cs, u.oneCell' = true)
    (hK : wpList P ops Q rest act (w.alloc (.cells cs.toArray e))) :
    wpList P ops Q ({ dst := none, op := .store t x y, type := ty, pos := pos, after := after, guard := none } :: rest) act (w.alloc (.cells zs e)) := by
  refine wpList_plain rfl fun K hK' => ?_
  obtain ⟨i, hi, hs0⟩ := Option.map_eq_some_iff.1 hsz
  subst hs0
  have hst := run_storeCells_at P w.heap.size 0 e cs 0 zs (w.alloc (.cells zs e)) (heap_alloc_new w _) (by omega) h1
  simp only [Nat.add_zero, Nat.zero_add, List.take_zero, List.nil_append] at hst
  have hd : zs.toList.drop cs.length = [] := by
    apply List.drop_eq_nil_of_le; rw [Array.length_toList]; omega
  rw [hd, List.append_nil] at hst
  have hset : (w.alloc (.cells zs e)).setRow w.heap.size cs.toArray = w.alloc (.cells cs.toArray e) := by
    unfold World.setRow World.alloc
    congr 1
    apply Array.ext
    · simp
    · intro k h1 h2
      simp only [Array.getElem_modify, Array.getElem_push]
      by_cases h : w.heap.size = k
      · subst h; simp
      · have hk : k < w.heap.size := by simp at h1; omega
        simp [h, hk]
  rw [hset] at hst
  have hrun : (Instr.storeAt t (.pointer (some ⟨w.heap.size, 0, none⟩)) v).run P (w.alloc (.cells zs e)) = .ok () (w.alloc (.cells cs.toArray e)) := by
    simp [Instr.storeAt, Instr.sureAddr, storeVar, sizeOf, typeInfo, hi, hv, hl, hst]
  unfold Oper.wp
  simp [execOp, hx, hy, hrun, Result.andThen]
  exact hK' _ _ hK
end ops
end Go.Dx
end

/- the text Types -/
section
/- The seat's numbers of types, and the laws on append at each slice type. -/
namespace Go.Proofs.Ytmjkhmebpciopaa
open Go.RowKit Go.Dx

theorem info_int : (Try.prog.info? 3).map (fun i => (i.zero, i.size, i.bytes)) = some (some (.int .i64 0), 1, 8) := by kernel_rfl
theorem info_u8 : (Try.prog.info? 5).map (fun i => (i.zero, i.size, i.bytes)) = some (some (.int .u8 0), 1, 1) := by kernel_rfl


theorem size_int : (Try.prog.info? 3).map (·.size) = some 1 := by kernel_rfl
theorem size_u8 : (Try.prog.info? 5).map (·.size) = some 1 := by kernel_rfl
theorem size_str : (Try.prog.info? 9).map (·.size) = some 1 := by kernel_rfl

section
variable {w : World} {ops : Array Oper} {rest : List Oper} {o : Oper} {act : Act} {Q : Exit → Act → World → Prop}

/-- 'append(out, d)' on []byte -/
theorem app_b (hg : o.guard = none) (s x : Operand) (hop : o.op = Op.call { callee := Callee.builtin Builtin.append, args := #[s, x], argTypes := #[47, 47] })
    (w0 : World) (B : Nat) (a : Option Addr) (n c : Nat) (xs : List Value) (hs : act.eval s = .slice a n c) (hown : Own w B 5 1 a n c xs)
    (u : Int) (hx : act.eval x = .slice (some ⟨w.heap.size, 0, none⟩) 1 1)
    (hn : n + 1 ≤ 140737488355328) (hB : B ≤ w.heap.size) (hbel : Below B w0 w)
    (hK : ∀ a' c' w', Own w' B 5 1 a' (n + 1) c' (xs ++ [.int .u8 u]) → w.grownBy w' (a.map (·.block)) → Below B w0 w' → wpList Try.prog ops Q rest (act.put o.dst (.slice a' (n + 1) c')) w') :
    wpList Try.prog ops Q (o :: rest) act (w.alloc (.cells #[.int .u8 u] 5)) :=
  append_lit hg s x 47 hop 5 (.int .u8 0) 1 1 Try.underlying47 info_u8 rfl w0 B a n c xs hs hown 1 [.int .u8 u] hx rfl (by simp [Value.oneCell']) (by omega) (by unfold maxLen; omega) hB hbel hK

/-- 'append(out, n)' on []int -/
theorem app_i (hg : o.guard = none) (s x : Operand) (hop : o.op = Op.call { callee := Callee.builtin Builtin.append, args := #[s, x], argTypes := #[22, 22] })
    (w0 : World) (B : Nat) (a : Option Addr) (n c : Nat) (xs : List Value) (hs : act.eval s = .slice a n c) (hown : Own w B 3 1 a n c xs)
    (u : Int) (hx : act.eval x = .slice (some ⟨w.heap.size, 0, none⟩) 1 1)
    (hn : (n + 1) * 8 ≤ 140737488355328) (hB : B ≤ w.heap.size) (hbel : Below B w0 w)
    (hK : ∀ a' c' w', Own w' B 3 1 a' (n + 1) c' (xs ++ [.int .i64 u]) → w.grownBy w' (a.map (·.block)) → Below B w0 w' → wpList Try.prog ops Q rest (act.put o.dst (.slice a' (n + 1) c')) w') :
    wpList Try.prog ops Q (o :: rest) act (w.alloc (.cells #[.int .i64 u] 3)) :=
  append_lit hg s x 22 hop 3 (.int .i64 0) 1 8 Try.underlying22 info_int rfl w0 B a n c xs hs hown 1 [.int .i64 u] hx rfl (by simp [Value.oneCell']) hn (by unfold maxLen; omega) hB hbel hK


/-- 'append(out, ys...)' on []byte -/
theorem app_bs (hg : o.guard = none) (s x : Operand) (hop : o.op = Op.call { callee := Callee.builtin Builtin.append, args := #[s, x], argTypes := #[47, 47] })
    (w0 : World) (B : Nat) (a : Option Addr) (n c : Nat) (xs : List Value) (hs : act.eval s = .slice a n c) (hown : Own w B 5 1 a n c xs)
    (a2 : Option Addr) (m c2 : Nat) (ys : List UInt8) (hx : act.eval x = .slice a2 m c2) (hy : Sl w 1 a2 m c2 (ys.map B8))
    (hn : n + m ≤ 140737488355328) (hB : B ≤ w.heap.size) (hbel : Below B w0 w)
    (hK : ∀ a' c' w', Own w' B 5 1 a' (n + m) c' (xs ++ ys.map B8) → w.grownBy w' (a.map (·.block)) → Below B w0 w' → wpList Try.prog ops Q rest (act.put o.dst (.slice a' (n + m) c')) w') :
    wpList Try.prog ops Q (o :: rest) act w :=
  append_own hg s x 47 hop 5 (.int .u8 0) 1 1 Try.underlying47 info_u8 rfl w0 B a n c xs hs hown a2 m c2 (ys.map B8) hx hy (one_map _ (fun _ => rfl) _) (by omega) (by unfold maxLen; omega) hB hbel hK
/-- 'append(out, s...)' on []byte, s a string -/
theorem app_str (hg : o.guard = none) (s x : Operand) (hop : o.op = Op.call { callee := Callee.builtin Builtin.append, args := #[s, x], argTypes := #[47, 9] })
    (w0 : World) (B : Nat) (a : Option Addr) (n c : Nat) (xs : List Value) (hs : act.eval s = .slice a n c) (hown : Own w B 5 1 a n c xs)
    (y : ByteArray) (hx : act.eval x = .string y)
    (hn : n + y.size ≤ 140737488355328) (hB : B ≤ w.heap.size) (hbel : Below B w0 w)
    (hK : ∀ a' c' w', Own w' B 5 1 a' (n + y.size) c' (xs ++ y.data.toList.map B8) → w.grownBy w' (a.map (·.block)) → Below B w0 w' → wpList Try.prog ops Q rest (act.put o.dst (.slice a' (n + y.size) c')) w') :
    wpList Try.prog ops Q (o :: rest) act w :=
  append_src hg s x 47 9 hop 5 (.int .u8 0) 1 1 Try.underlying47 info_u8 rfl w0 B a n c xs hs hown (.string y) y.size (byteCells y) hx (Src.ofString w Try.underlying9 y) (by omega) (by unfold maxLen; omega) hB hbel hK
end
section
variable {w : World} {ops : Array Oper} {rest : List Oper} {act : Act} {Q : Exit → Act → World → Prop} {ty : TypeId} {pos : String} {after : Array Edge}

theorem idx_b (d : Nat) (x y : Operand) (a : Option Addr) (n c : Nat) (cs : List UInt8) (hx : act.eval x = .slice a n c) (hs : Sl w 1 a n c (cs.map B8)) (k : IntKind) (iv : Int) (i : Nat) (hy : act.eval y = .int k iv) (hiv : iv = (i : Int))
    (u : UInt8) (hu : cs[i]? = some u)
    (hK : ∀ b o, w.cell? ⟨b, o, none⟩ = some (B8 u) → b < w.heap.size → wpList Try.prog ops Q rest (act.put (some d) (.pointer (some ⟨b, o, none⟩))) w) :
    wpList Try.prog ops Q ({ dst := some d, op := .indexAddr 47 x y, type := ty, pos := pos, after := after, guard := none } :: rest) act w :=
  index_sl d 47 x y 5 Try.underlying47 size_u8 a n c _ hx hs k iv i hy hiv _ (by rw [List.getElem?_map, hu]; rfl) hK
theorem idx_i (d : Nat) (x y : Operand) (a : Option Addr) (n c : Nat) (cs : List Int) (hx : act.eval x = .slice a n c) (hs : Sl w 1 a n c (cs.map I64)) (k : IntKind) (iv : Int) (i : Nat) (hy : act.eval y = .int k iv) (hiv : iv = (i : Int))
    (u : Int) (hu : cs[i]? = some u)
    (hK : ∀ b o, w.cell? ⟨b, o, none⟩ = some (I64 u) → b < w.heap.size → wpList Try.prog ops Q rest (act.put (some d) (.pointer (some ⟨b, o, none⟩))) w) :
    wpList Try.prog ops Q ({ dst := some d, op := .indexAddr 22 x y, type := ty, pos := pos, after := after, guard := none } :: rest) act w :=
  index_sl d 22 x y 3 Try.underlying22 size_int a n c _ hx hs k iv i hy hiv _ (by rw [List.getElem?_map, hu]; rfl) hK
theorem cut_b (d : Nat) (x lo hi : Operand) (a : Option Addr) (n c : Nat) (cs : List UInt8) (hx : act.eval x = .slice a n c) (hs : Sl w 1 a n c (cs.map B8)) (kl ku : IntKind) (lv uv : Int) (l u : Nat) (hl : act.eval lo = .int kl lv) (hu : act.eval hi = .int ku uv)
    (hlv : lv = (l : Int)) (huv : uv = (u : Int)) (hlu : l ≤ u) (hun : u ≤ n)
    (hK : ∀ a', Sl w 1 a' (u - l) (c - l) (((cs.drop l).take (u - l)).map B8) → (∀ p, a' = some p → ∃ q, a = some q ∧ q.block = p.block) → wpList Try.prog ops Q rest (act.put (some d) (.slice a' (u - l) (c - l))) w) :
    wpList Try.prog ops Q ({ dst := some d, op := .slice 47 x (some lo) (some hi) none, type := ty, pos := pos, after := after, guard := none } :: rest) act w :=
  cut_sl d 47 x lo hi 5 Try.underlying47 1 size_u8 a n c _ hx hs kl ku lv uv l u hl hu hlv huv hlu hun (fun a' h => hK a' (by rw [Nat.mul_one, Nat.mul_one, ← List.map_drop, ← List.map_take] at h; exact h))
theorem cutlo_b (d : Nat) (x lo : Operand) (a : Option Addr) (n c : Nat) (cs : List UInt8) (hx : act.eval x = .slice a n c) (hs : Sl w 1 a n c (cs.map B8)) (kl : IntKind) (lv : Int) (l : Nat) (hl : act.eval lo = .int kl lv)
    (hlv : lv = (l : Int)) (hun : l ≤ n)
    (hK : ∀ a', Sl w 1 a' (n - l) (c - l) ((cs.drop l).map B8) → (∀ p, a' = some p → ∃ q, a = some q ∧ q.block = p.block) → wpList Try.prog ops Q rest (act.put (some d) (.slice a' (n - l) (c - l))) w) :
    wpList Try.prog ops Q ({ dst := some d, op := .slice 47 x (some lo) none none, type := ty, pos := pos, after := after, guard := none } :: rest) act w :=
  cut_lo d 47 x lo 5 Try.underlying47 1 size_u8 a n c _ hx hs kl lv l hl hlv hun (fun a' h => hK a' (by rw [Nat.mul_one, ← List.map_drop] at h; exact h))
theorem cuthi_b (d : Nat) (x hi : Operand) (a : Option Addr) (n c : Nat) (cs : List UInt8) (hx : act.eval x = .slice a n c) (hs : Sl w 1 a n c (cs.map B8)) (ku : IntKind) (uv : Int) (u : Nat) (hu : act.eval hi = .int ku uv)
    (huv : uv = (u : Int)) (hun : u ≤ n)
    (hK : Sl w 1 a u c ((cs.take u).map B8) → wpList Try.prog ops Q rest (act.put (some d) (.slice a u c)) w) :
    wpList Try.prog ops Q ({ dst := some d, op := .slice 47 x none (some hi) none, type := ty, pos := pos, after := after, guard := none } :: rest) act w :=
  cut_hi d 47 x hi 5 Try.underlying47 1 size_u8 a n c _ hx hs ku uv u hu huv hun (fun h => hK (by rw [Nat.mul_one, ← List.map_take] at h; exact h))
theorem to_str (d : Nat) (x : Operand) (a : Option Addr) (n c : Nat) (l : List UInt8) (hx : act.eval x = .slice a n c) (hs : Sl w 1 a n c (l.map B8))
    (hK : wpList Try.prog ops Q rest (act.put (some d) (.string ⟨l.toArray⟩)) w) :
    wpList Try.prog ops Q ({ dst := some d, op := .convert 47 9 x, type := ty, pos := pos, after := after, guard := none } :: rest) act w :=
  conv_str d 47 9 x 5 Try.underlying47 Try.underlying5 Try.underlying9 a n c l hx hs hK
theorem to_bytes (d : Nat) (x : Operand) (s : ByteArray) (hx : act.eval x = .string s) (hm : s.size ≤ maxLen)
    (hK : ∀ a c w', Sl w' 1 a s.size c (s.data.toList.map B8) → Below w.heap.size w w' → (∀ p, a = some p → w.heap.size ≤ p.block) → wpList Try.prog ops Q rest (act.put (some d) (.slice a s.size c)) w') :
    wpList Try.prog ops Q ({ dst := some d, op := .convert 9 47 x, type := ty, pos := pos, after := after, guard := none } :: rest) act w :=
  conv_bytes d 9 47 x 5 Try.underlying9 Try.underlying47 Try.underlying5 s hx hm hK
end
end Go.Proofs.Ytmjkhmebpciopaa
end

/- the text Pure1 -/
section
/- The plain mathematics of layer 1 (wire): what an integer's encoding is, what a decoding returns. No Go. -/
set_option linter.unusedVariables false
namespace Go.Dx

/-- digit i of m in base 256 -/
def dig (m i : Nat) : UInt8 := UInt8.ofNat (m / 256 ^ i % 256)
/-- the first j of k digits of m, the greatest first -/
def digs (m k j : Nat) : List UInt8 := (List.range j).map fun t => dig m (k - 1 - t)
theorem digs_zero (m k : Nat) : digs m k 0 = [] := rfl
theorem digs_succ (m k j : Nat) : digs m k (j + 1) = digs m k j ++ [dig m (k - 1 - j)] := by simp [digs, List.range_succ]
theorem digs_length (m k j : Nat) : (digs m k j).length = j := by simp [digs]
theorem dig_toNat (m i : Nat) : (dig m i).toNat = m / 256 ^ i % 256 := by
  unfold dig
  rw [UInt8.toNat_ofNat']
  omega

/-- k is the number of digits of m -/
def Len (m k : Nat) : Prop := k ≤ 8 ∧ m < 256 ^ k ∧ (k = 0 ∨ 256 ^ (k - 1) ≤ m)
def klen (m : Nat) : Nat := if m < 1 then 0 else if m < 256 then 1 else if m < 65536 then 2 else if m < 16777216 then 3 else if m < 4294967296 then 4 else if m < 1099511627776 then 5 else if m < 281474976710656 then 6 else if m < 72057594037927936 then 7 else 8
theorem klen_le (m : Nat) : klen m ≤ 8 := by unfold klen; repeat' split
                                             all_goals omega
theorem klen_of {m k : Nat} (h : Len m k) : klen m = k := by
  obtain ⟨h8, h1, h2⟩ := h
  match k, h8 with
  | 0, _ => simp at h1; subst h1; rfl
  | 1, _ => simp at h1 h2; unfold klen; repeat' split
            all_goals omega
  | 2, _ => simp at h1 h2; unfold klen; repeat' split
            all_goals omega
  | 3, _ => simp at h1 h2; unfold klen; repeat' split
            all_goals omega
  | 4, _ => simp at h1 h2; unfold klen; repeat' split
            all_goals omega
  | 5, _ => simp at h1 h2; unfold klen; repeat' split
            all_goals omega
  | 6, _ => simp at h1 h2; unfold klen; repeat' split
            all_goals omega
  | 7, _ => simp at h1 h2; unfold klen; repeat' split
            all_goals omega
  | 8, _ => simp at h1 h2; unfold klen; repeat' split
            all_goals omega
theorem len_klen {m : Nat} (h : m < 18446744073709551616) : Len m (klen m) := by
  unfold klen Len
  repeat' split
  all_goals (refine ⟨by omega, ?_, ?_⟩ <;> simp <;> omega)

def mag (n : Int) : Nat := if n < 0 then (-1 - n).toNat else n.toNat
/-- a digit as it is written: with the other bits where the integer is negative -/
def fl (neg : Bool) : UInt8 := if neg then 255 else 0
def flp (neg : Bool) (d : UInt8) : UInt8 := d ^^^ fl neg
def hd (neg : Bool) (k : Nat) : UInt8 := flp neg (UInt8.ofNat (128 + k))
def encInt (n : Int) : List UInt8 := hd (decide (n < 0)) (klen (mag n)) :: (digs (mag n) (klen (mag n)) (klen (mag n))).map (flp (decide (n < 0)))
theorem encInt_length (n : Int) : (encInt n).length = klen (mag n) + 1 := by simp [encInt, digs_length]
theorem encInt_pos (n : Int) : 1 ≤ (encInt n).length := by rw [encInt_length]; omega
theorem encInt_le (n : Int) : (encInt n).length ≤ 9 := by rw [encInt_length]; have := klen_le (mag n); omega

/-- the number with some digits, the greatest first -/
def val (l : List UInt8) : Nat := l.foldl (fun m d => 256 * m + d.toNat) 0
theorem val_snoc (l : List UInt8) (d : UInt8) : val (l ++ [d]) = 256 * val l + d.toNat := by simp [val, List.foldl_append]
/-- decoding behind the first byte -/
def decK (neg : Bool) (k : Nat) (t : List UInt8) : Int × Int × Int :=
  if 8 < k then (0, 0, 2)
  else if t.length < k then (0, 0, 3)
  else if 0 < k ∧ flp neg (t.getD 0 0) = 0 then (0, 0, 2)
  else if 9223372036854775808 ≤ val ((t.take k).map (flp neg)) then (0, 0, 2)
  else (if neg then -1 - (val ((t.take k).map (flp neg)) : Int) else val ((t.take k).map (flp neg)), (k : Int) + 1, 0)
/-- what decoding at the beginning of a byte sequence returns: the integer, the number of bytes, the error -/
def decInt (b : List UInt8) : Int × Int × Int :=
  match b with
  | [] => (0, 0, 3)
  | h :: t => decK (decide (h.toNat < 128)) ((flp (decide (h.toNat < 128)) h).toNat - 128) t
section
variable {neg : Bool} {k : Nat} {t : List UInt8}
theorem decK_8 (h8 : 8 < k) : decK neg k t = (0, 0, 2) := by unfold decK; rw [if_pos h8]
theorem decK_more (h8 : ¬ 8 < k) (hl : t.length < k) : decK neg k t = (0, 0, 3) := by unfold decK; rw [if_neg h8, if_pos hl]
theorem decK_zero (h8 : ¬ 8 < k) (hl : ¬ t.length < k) (h0 : 0 < k) (hz : flp neg (t.getD 0 0) = 0) : decK neg k t = (0, 0, 2) := by unfold decK; rw [if_neg h8, if_neg hl, if_pos ⟨h0, hz⟩]
theorem decK_big (h8 : ¬ 8 < k) (hl : ¬ t.length < k) (hz : k = 0 ∨ flp neg (t.getD 0 0) ≠ 0) (hb : 9223372036854775808 ≤ val ((t.take k).map (flp neg))) : decK neg k t = (0, 0, 2) := by
  unfold decK; rw [if_neg h8, if_neg hl, if_neg (by rintro ⟨h1, h2⟩; rcases hz with h | h; omega; exact h h2), if_pos hb]
theorem decK_form (h8 : ¬ 8 < k) (hl : ¬ t.length < k) (hb : 9223372036854775808 ≤ val ((t.take k).map (flp neg))) : decK neg k t = (0, 0, 2) := by
  unfold decK; rw [if_neg h8, if_neg hl]
  by_cases hz : 0 < k ∧ flp neg (t.getD 0 0) = 0
  · rw [if_pos hz]
  · rw [if_neg hz, if_pos hb]
theorem decK_ok (h8 : ¬ 8 < k) (hl : ¬ t.length < k) (hz : k = 0 ∨ flp neg (t.getD 0 0) ≠ 0) (hb : ¬ 9223372036854775808 ≤ val ((t.take k).map (flp neg))) :
    decK neg k t = (if neg then -1 - (val ((t.take k).map (flp neg)) : Int) else val ((t.take k).map (flp neg)), (k : Int) + 1, 0) := by
  unfold decK; rw [if_neg h8, if_neg hl, if_neg (by rintro ⟨h1, h2⟩; rcases hz with h | h; omega; exact h h2), if_neg hb]
end

theorem xor_u8 (a b : UInt8) : bits .xor .u8 (a.toNat : Int) (b.toNat : Int) = ((a ^^^ b).toNat : Int) := by
  rw [u8_xor_nat _ _ (UInt8.toNat_lt a) (UInt8.toNat_lt b), UInt8.toNat_xor]
theorem wrap_u8 (n : Nat) : IntKind.u8.wrap (n : Int) = ((UInt8.ofNat n).toNat : Int) := by
  rw [UInt8.toNat_ofNat', IntKind.wrap_u8']; omega
theorem u64_not (a : Nat) (ha : a < 18446744073709551616) : bits .xor .u64 IntKind.u64.max (a : Int) = ((18446744073709551615 - a : Nat) : Int) := by
  have h : IntKind.u64.max = ((18446744073709551615 : Nat) : Int) := rfl
  rw [h, u64_xor_nat _ _ (by omega) ha]
  congr 1
  have h2 : (18446744073709551615 : Nat) = 2 ^ 64 - 1 := by decide
  have := BitVec.toNat_not (x := BitVec.ofNat 64 a)
  have h3 := BitVec.allOnes_xor (x := BitVec.ofNat 64 a)
  rw [← h3, BitVec.toNat_xor, BitVec.toNat_allOnes, BitVec.toNat_ofNat, Nat.mod_eq_of_lt (by omega)] at this
  rw [h2, this]
theorem mag_lt {n : Int} (h0 : -9223372036854775808 ≤ n) (h1 : n ≤ 9223372036854775807) : mag n < 9223372036854775808 := by unfold mag; split <;> omega
theorem mag_pos {n : Int} (h : ¬ n < 0) : n = (mag n : Int) := by unfold mag; rw [if_neg h]; omega
theorem mag_neg {n : Int} (h : n < 0) (h0 : -9223372036854775808 ≤ n) : bits .xor .u64 IntKind.u64.max (IntKind.u64.wrap n) = (mag n : Int) := by
  have e : IntKind.u64.wrap n = ((n + 18446744073709551616).toNat : Int) := by rw [IntKind.wrap_u64]; omega
  rw [e, u64_not _ (by omega)]
  unfold mag
  rw [if_pos h]
  omega
theorem pow_shift (j : Nat) : (2 : Nat) ^ (8 * j) = 256 ^ j := by rw [Nat.pow_mul]
theorem shift_int (m j : Nat) : (m : Int) / 2 ^ (8 * j) = ((m / 256 ^ j : Nat) : Int) := by
  rw [← pow_shift]; simp
theorem len_brk {m k : Nat} (hk : k ≤ 8) (hm : m < 256 ^ k) (_h0 : 0 < k) (h : 0 < (m : Int) / 2 ^ (8 * (k - 1))) : Len m k := by
  refine ⟨hk, hm, .inr ?_⟩
  rw [shift_int] at h
  have h1 : 0 < m / 256 ^ (k - 1) := by omega
  exact Nat.le_of_not_lt fun h2 => by rw [Nat.div_eq_of_lt h2] at h1; omega
theorem len_zero {m k : Nat} (hk : k ≤ 8) (hm : m < 256 ^ k) (h0 : ¬ 0 < k) : Len m k := ⟨hk, hm, .inl (by omega)⟩
theorem len_next {m k : Nat} (hk : 0 < k) (h : (m : Int) / 2 ^ (8 * (k - 1)) ≤ 0) : m < 256 ^ (k - 1) := by
  rw [shift_int] at h
  have h1 : m / 256 ^ (k - 1) = 0 := Nat.le_zero.1 (by exact_mod_cast h)
  rcases Nat.div_eq_zero_iff.1 h1 with h2 | h2
  · have : 0 < 256 ^ (k - 1) := Nat.pow_pos (by omega)
    omega
  · exact h2
theorem hd_eq (neg : Bool) (k : Nat) (hk : k ≤ 8) : bits .xor .u8 (128 + (k : Int)) ((fl neg).toNat : Int) = ((hd neg k).toNat : Int) := by
  have e : (128 + (k : Int)) = ((UInt8.ofNat (128 + k)).toNat : Int) := by rw [UInt8.toNat_ofNat']; omega
  rw [e, xor_u8]; rfl
theorem dig_eq (neg : Bool) (m i : Nat) : bits .xor .u8 ((m : Int) / 2 ^ (8 * i) % 256) ((fl neg).toNat : Int) = ((flp neg (dig m i)).toNat : Int) := by
  rw [← IntKind.wrap_u8', shift_int, wrap_u8, xor_u8]
  congr 2
  unfold flp dig
  congr 1
  apply UInt8.toNat_inj.1
  rw [UInt8.toNat_ofNat', UInt8.toNat_ofNat']; omega
/-- the encoding as far as j digits are written -/
def encTo (neg : Bool) (m k j : Nat) : List UInt8 := hd neg k :: (digs m k j).map (flp neg)
theorem encTo_zero (neg : Bool) (m k : Nat) : encTo neg m k 0 = [hd neg k] := rfl
theorem encTo_succ (neg : Bool) (m k j : Nat) : encTo neg m k (j + 1) = encTo neg m k j ++ [flp neg (dig m (k - 1 - j))] := by simp [encTo, digs_succ]
theorem encTo_length (neg : Bool) (m k j : Nat) : (encTo neg m k j).length = j + 1 := by simp [encTo, digs_length]
theorem encTo_all {n : Int} {k : Nat} (h : Len (mag n) k) : encTo (decide (n < 0)) (mag n) k k = encInt n := by
  unfold encTo encInt; rw [klen_of h]
theorem xor_fl (d : UInt8) (neg : Bool) : bits .xor .u8 (d.toNat : Int) ((fl neg).toNat : Int) = ((flp neg d).toNat : Int) := xor_u8 _ _
theorem or_u64 (m : Nat) (d : UInt8) (h : m < 72057594037927936) : bits .or .u64 ((m : Int) * 256) (d.toNat : Int) = ((256 * m + d.toNat : Nat) : Int) := by
  have hd := UInt8.toNat_lt d
  have e : (m : Int) * (256 : Int) = ((m <<< 8 : Nat) : Int) := by rw [Nat.shiftLeft_eq]; omega
  rw [e, u64_or_nat _ _ (by rw [Nat.shiftLeft_eq]; omega) (by omega), ← Nat.shiftLeft_add_eq_or_of_lt (show d.toNat < 2 ^ 8 by omega), Nat.shiftLeft_eq]
  omega
theorem val_from (l : List UInt8) : ∀ m0, l.foldl (fun m d => 256 * m + d.toNat) m0 < (m0 + 1) * 256 ^ l.length := by
  induction l with
  | nil => intro m0; simp
  | cons d l ih =>
    intro m0
    have hd := UInt8.toNat_lt d
    have := ih (256 * m0 + d.toNat)
    rw [List.foldl_cons, List.length_cons, Nat.pow_succ, Nat.mul_comm (256 ^ l.length), ← Nat.mul_assoc]
    exact Nat.lt_of_lt_of_le this (Nat.mul_le_mul_right _ (by omega))
theorem val_lt (l : List UInt8) : val l < 256 ^ l.length := by simpa [val] using val_from l 0
theorem val_lt7 (l : List UInt8) (h : l.length ≤ 7) : val l < 72057594037927936 := Nat.lt_of_lt_of_le (val_lt l) (Nat.le_trans (Nat.pow_le_pow_right (by omega) h) (by decide))
theorem val_lt8 (l : List UInt8) (h : l.length ≤ 8) : val l < 18446744073709551616 := Nat.lt_of_lt_of_le (val_lt l) (Nat.le_trans (Nat.pow_le_pow_right (by omega) h) (by decide))
/-- the digits, the least first -/
def lows (m t : Nat) : List UInt8 := (List.range t).map (dig m)
theorem lows_succ (m t : Nat) : lows m (t + 1) = lows m t ++ [dig m t] := by simp [lows, List.range_succ]
theorem lows_length (m t : Nat) : (lows m t).length = t := by simp [lows]
theorem lows_get (m t i : Nat) (h : i < t) : (lows m t)[i]? = some (dig m i) := by simp [lows, h]
theorem dig_int (m t : Nat) : ((m / 256 ^ t : Nat) : Int) % 256 = ((dig m t).toNat : Int) := by rw [dig_toNat]; omega
theorem div_int (m t : Nat) : ((m / 256 ^ t : Nat) : Int) / 256 = ((m / 256 ^ (t + 1) : Nat) : Int) := by
  rw [Nat.pow_succ, ← Nat.div_div_eq_div_mul]; omega
theorem flp_neg (d : UInt8) : ((flp true d).toNat : Int) = 255 - (d.toNat : Int) := by
  have h : ∀ x : Fin 256, (x.1 ^^^ 255) = 255 - x.1 := by decide +kernel
  have := h ⟨d.toNat, UInt8.toNat_lt d⟩
  unfold flp fl
  rw [UInt8.toNat_xor]
  have h2 := UInt8.toNat_lt d
  simp only [if_true, UInt8.toNat_ofNat] at *
  simp at this ⊢
  omega
theorem flp_ge (h : UInt8) (neg : Bool) (hn : neg = decide (h.toNat < 128)) : 128 ≤ (flp neg h).toNat := by
  have hb := UInt8.toNat_lt h
  by_cases hx : h.toNat < 128
  · rw [hn, decide_eq_true hx]
    have := flp_neg h
    omega
  · rw [hn, decide_eq_false hx]
    unfold flp fl
    simp
    omega
theorem flp_pos (d : UInt8) : flp false d = d := by unfold flp fl; simp
theorem flp_pos_int (d : UInt8) : ((flp false d).toNat : Int) = (d.toNat : Int) := by rw [flp_pos]
theorem hd_pos (k : Nat) (h : k ≤ 8) : ((hd false k).toNat : Int) = 128 + k := by unfold hd; rw [flp_pos, UInt8.toNat_ofNat']; omega
theorem hd_neg (k : Nat) (h : k ≤ 8) : ((hd true k).toNat : Int) = 127 - k := by unfold hd; rw [flp_neg, UInt8.toNat_ofNat']; omega
theorem mag_of_nat (m : Nat) : mag (m : Int) = m := by unfold mag; rw [if_neg (by omega)]; omega
theorem mag_of_neg (m : Nat) : mag (-1 - (m : Int)) = m := by unfold mag; rw [if_pos (by omega)]; omega
theorem Len.lt {m t : Nat} (h : m < 9223372036854775808) (h1 : m / 256 ^ t ≠ 0) (ht : t ≤ 8) : t < 8 := by
  refine Nat.lt_of_le_of_ne ht ?_
  rintro rfl
  exact h1 (Nat.div_eq_of_lt (by simp; omega))
theorem Len.next {m t : Nat} (h1 : m / 256 ^ t ≠ 0) : 256 ^ t ≤ m := Nat.le_of_not_lt fun h => h1 (Nat.div_eq_of_lt h)
theorem Len.fin {m t : Nat} (h : m / 256 ^ t = 0) (ht : t ≤ 8) (h2 : t = 0 ∨ 256 ^ (t - 1) ≤ m) : Len m t := by
  refine ⟨ht, ?_, h2⟩
  rcases Nat.div_eq_zero_iff.1 h with h3 | h3
  · have : 0 < 256 ^ t := Nat.pow_pos (by omega)
    omega
  · exact h3
theorem dig_zero (m : Nat) (d : UInt8) : dig (256 * m + d.toNat) 0 = d := by
  apply UInt8.toNat_inj.1; rw [dig_toNat, Nat.pow_zero, Nat.div_one]; have := UInt8.toNat_lt d; omega
theorem dig_up (m i : Nat) (d : UInt8) : dig (256 * m + d.toNat) (i + 1) = dig m i := by
  apply UInt8.toNat_inj.1; rw [dig_toNat, dig_toNat, Nat.pow_succ, Nat.mul_comm (256 ^ i), ← Nat.div_div_eq_div_mul]
  have := UInt8.toNat_lt d
  congr 2; omega
theorem digs_val_rev (r : List UInt8) : digs (val r.reverse) r.length r.length = r.reverse := by
  induction r with
  | nil => rfl
  | cons d r ih =>
    rw [List.reverse_cons, val_snoc, List.length_cons, digs_succ]
    congr 1
    · rw [← ih]
      simp only [ih]
      unfold digs
      rw [← ih]
      unfold digs
      apply List.map_congr_left
      intro t ht
      have ht2 : t < r.length := by simpa using ht
      have e : r.length + 1 - 1 - t = (r.length - 1 - t) + 1 := by omega
      have ih2 : val (List.map (fun t => dig (val r.reverse) (r.length - 1 - t)) (List.range r.length)) = val r.reverse := by
        have := ih; unfold digs at this; rw [this]
      rw [e, ih2, dig_up]
    · have e : r.length + 1 - 1 - r.length = 0 := by omega
      rw [e, dig_zero]
theorem digs_val (l : List UInt8) : digs (val l) l.length l.length = l := by
  have := digs_val_rev l.reverse
  simpa using this
theorem flp_flp (neg : Bool) (d : UInt8) : flp neg (flp neg d) = d := by unfold flp; rw [UInt8.xor_assoc, UInt8.xor_self, UInt8.xor_zero]
theorem val_first (d : UInt8) (l : List UInt8) : val (d :: l) = d.toNat * 256 ^ l.length + val l := by
  have key : ∀ (l : List UInt8) (m0 : Nat), l.foldl (fun m d => 256 * m + d.toNat) m0 = m0 * 256 ^ l.length + l.foldl (fun m d => 256 * m + d.toNat) 0 := by
    intro l
    induction l with
    | nil => intro m0; simp
    | cons x l ih =>
      intro m0
      rw [List.foldl_cons, List.foldl_cons, ih (256 * m0 + x.toNat), ih (256 * 0 + x.toNat), List.length_cons, Nat.pow_succ, Nat.add_mul, Nat.add_mul]
      simp only [Nat.mul_zero, Nat.zero_mul, Nat.zero_add]
      rw [Nat.mul_comm 256 m0, Nat.mul_assoc, Nat.mul_comm (256 ^ l.length) 256]
      omega
  have := key l (256 * 0 + d.toNat)
  simp only [Nat.mul_zero, Nat.zero_add] at this
  simpa [val] using this
/-- an encoding is met where no digit is wasted -/
theorem enc_iff {neg : Bool} {h : UInt8} {K : Nat} {t : List UInt8} (hh : (flp neg h).toNat = 128 + K) (h8 : K ≤ 8) (hl : K ≤ t.length)
    (hb : val ((t.take K).map (flp neg)) < 9223372036854775808) :
    encInt (if neg then -1 - (val ((t.take K).map (flp neg)) : Int) else val ((t.take K).map (flp neg))) = h :: t.take K ↔ (K = 0 ∨ flp neg (t.getD 0 0) ≠ 0) := by
  obtain ⟨v, hv⟩ : ∃ v, v = val ((t.take K).map (flp neg)) := ⟨_, rfl⟩
  have hlen : ((t.take K).map (flp neg)).length = K := by simp; omega
  have hvK : v < 256 ^ K := by rw [hv]; have := val_lt ((t.take K).map (flp neg)); rwa [hlen] at this
  rw [← hv] at hb ⊢
  have hmag : mag (if neg then -1 - (v : Int) else v) = v := by cases neg; exact mag_of_nat v; exact mag_of_neg v
  have hneg : decide ((if neg then -1 - (v : Int) else v) < 0) = neg := by cases neg <;> simp <;> omega
  constructor
  · intro he
    have h2 := congrArg List.length he
    rw [encInt_length, hmag, List.length_cons, List.length_take, Nat.min_eq_left hl] at h2
    have hk : klen v = K := by omega
    have hL := len_klen (m := v) (by omega)
    rw [hk] at hL
    rcases hL.2.2 with h0 | h0
    · exact .inl h0
    · cases K with
      | zero => exact .inl rfl
      | succ K =>
        refine .inr fun hz => ?_
        cases t with
        | nil => simp at hl
        | cons d t =>
          simp only [List.getD_cons_zero] at hz
          rw [List.take_succ_cons, List.map_cons, val_first, hz] at hv
          have := val_lt ((t.take K).map (flp neg))
          simp only [List.length_map, List.length_take] at this hv
          simp only [List.length_cons] at hl
          rw [Nat.min_eq_left (by omega)] at this hv
          have h0' : 256 ^ K ≤ v := by simpa using h0
          have hv' : v = val ((t.take K).map (flp neg)) := by rw [hv]; simp
          rw [← hv'] at this
          omega
  · intro hz
    have hL : Len v K := by
      refine ⟨h8, hvK, ?_⟩
      rcases hz with h0 | hz
      · exact .inl h0
      · cases K with
        | zero => exact .inl rfl
        | succ K =>
          refine .inr ?_
          cases t with
          | nil => simp at hl
          | cons d t =>
            simp only [List.getD_cons_zero] at hz
            rw [List.take_succ_cons, List.map_cons, val_first] at hv
            simp only [List.length_cons] at hl
            simp only [List.length_map, List.length_take] at hv
            rw [Nat.min_eq_left (by omega)] at hv
            have h1 : 0 < (flp neg d).toNat := Nat.pos_of_ne_zero fun e => hz (UInt8.toNat_inj.1 e)
            have h3 : 1 * 256 ^ K ≤ (flp neg d).toNat * 256 ^ K := Nat.mul_le_mul_right _ h1
            simp
            omega
    have hk := klen_of hL
    unfold encInt
    rw [hmag, hneg, hk]
    congr 1
    · unfold hd
      have : UInt8.ofNat (128 + K) = flp neg h := by apply UInt8.toNat_inj.1; rw [hh, UInt8.toNat_ofNat']; omega
      rw [this, flp_flp]
    · have := digs_val ((t.take K).map (flp neg))
      rw [hlen, ← hv] at this
      rw [this, List.map_map]
      have e : flp neg ∘ flp neg = id := funext fun d => flp_flp neg d
      rw [e, List.map_id]
theorem decK_used {neg : Bool} {k : Nat} {t : List UInt8} (h : (decK neg k t).2.2 = 0) : (decK neg k t).2.1 = k + 1 ∧ k ≤ t.length ∧ -9223372036854775808 ≤ (decK neg k t).1 ∧ (decK neg k t).1 ≤ 9223372036854775807 := by
  by_cases h8 : 8 < k
  · rw [decK_8 h8] at h; simp at h
  · by_cases hl : t.length < k
    · rw [decK_more h8 hl] at h; simp at h
    · by_cases hz : 0 < k ∧ flp neg (t.getD 0 0) = 0
      · rw [decK_zero h8 hl hz.1 hz.2] at h; simp at h
      · have hz' : k = 0 ∨ flp neg (t.getD 0 0) ≠ 0 := by
          by_cases h0 : k = 0
          · exact .inl h0
          · exact .inr fun e => hz ⟨by omega, e⟩
        by_cases hb : 9223372036854775808 ≤ val ((t.take k).map (flp neg))
        · rw [decK_big h8 hl hz' hb] at h; simp at h
        · rw [decK_ok h8 hl hz' hb]
          refine ⟨rfl, by omega, ?_, ?_⟩ <;> (simp only; split <;> omega)
theorem decInt_cons (h : UInt8) (t : List UInt8) : decInt (h :: t) = decK (decide (h.toNat < 128)) ((flp (decide (h.toNat < 128)) h).toNat - 128) t := rfl
theorem decInt_used {l : List UInt8} (h : (decInt l).2.2 = 0) : 1 ≤ (decInt l).2.1 ∧ (decInt l).2.1 ≤ l.length ∧ -9223372036854775808 ≤ (decInt l).1 ∧ (decInt l).1 ≤ 9223372036854775807 := by
  cases l with
  | nil => simp [decInt] at h
  | cons x t =>
    rw [decInt_cons] at h ⊢
    obtain ⟨h1, h2, h3, h4⟩ := decK_used h
    rw [List.length_cons]
    generalize (flp (decide (x.toNat < 128)) x).toNat - 128 = k at *
    exact ⟨by omega, by omega, h3, h4⟩
theorem decK_err {neg : Bool} {k : Nat} {t : List UInt8} (h : (decK neg k t).2.2 ≠ 0) : decK neg k t = (0, 0, (decK neg k t).2.2) := by
  unfold decK at *
  by_cases h8 : 8 < k
  · rw [if_pos h8]
  · rw [if_neg h8] at h ⊢
    by_cases hl : t.length < k
    · rw [if_pos hl]
    · rw [if_neg hl] at h ⊢
      by_cases hz : 0 < k ∧ flp neg (t.getD 0 0) = 0
      · rw [if_pos hz]
      · rw [if_neg hz] at h ⊢
        by_cases hb : 9223372036854775808 ≤ val ((t.take k).map (flp neg))
        · rw [if_pos hb]
        · rw [if_neg hb] at h; exact absurd rfl h
theorem decInt_err {l : List UInt8} (h : (decInt l).2.2 ≠ 0) : decInt l = (0, 0, (decInt l).2.2) := by
  cases l with
  | nil => rfl
  | cons x t => rw [decInt_cons] at h ⊢; exact decK_err h
/-- the error of a list's length, where each element takes at least 'size' bytes -/
def cntErr (l : List UInt8) (size : Int) : Int :=
  if (decInt l).2.2 ≠ 0 then (decInt l).2.2 else if (decInt l).1 < 0 then 2 else if ((l.length : Int) - (decInt l).2.1) / size < (decInt l).1 then 3 else 0
end Go.Dx
end

/- the text Pure2 -/
section
/- The plain mathematics of layer 1, lists. No Go. -/
namespace Go.Dx

def encBytes (l : List UInt8) : List UInt8 := encInt l.length ++ l
def encInts (l : List Int) : List UInt8 := encInt l.length ++ l.flatMap encInt
def encStrs (x : List ByteArray) : List UInt8 := encInt x.length ++ x.flatMap fun s => encBytes s.data.toList
def encDigs (x : List (List UInt8)) : List UInt8 := encInt x.length ++ x.flatMap id

/-- what decoding a string returns -/
def decBytes (l : List UInt8) : ByteArray × Int × Int :=
  if cntErr l 1 = 0 then (⟨((l.drop (decInt l).2.1.toNat).take (decInt l).1.toNat).toArray⟩, (decInt l).2.1 + (decInt l).1, 0) else (⟨#[]⟩, 0, cntErr l 1)

theorem cnt_facts {l : List UInt8} {size : Int} (h1 : 1 ≤ size) (h : cntErr l size = 0) :
    ∃ A N : Nat, (decInt l).2.1 = (A : Int) ∧ (decInt l).1 = (N : Int) ∧ (decInt l).2.2 = 0 ∧ 1 ≤ A ∧ A + N * size.toNat ≤ l.length ∧ N ≤ l.length := by
  unfold cntErr at h
  by_cases hE : (decInt l).2.2 = 0
  · obtain ⟨u1, u2, u3, u4⟩ := decInt_used hE
    rw [if_neg (by simp [hE])] at h
    by_cases hN : (decInt l).1 < 0
    · rw [if_pos hN] at h; omega
    · rw [if_neg hN] at h
      by_cases hq : ((l.length : Int) - (decInt l).2.1) / size < (decInt l).1
      · rw [if_pos hq] at h; omega
      · obtain ⟨A, hA⟩ := Int.eq_ofNat_of_zero_le (a := (decInt l).2.1) (by omega)
        obtain ⟨N, hN'⟩ := Int.eq_ofNat_of_zero_le (a := (decInt l).1) (by omega)
        obtain ⟨S, hS⟩ := Int.eq_ofNat_of_zero_le (a := size) (by omega)
        rw [hA, hN'] at hq
        have hq2 : (N : Int) * size ≤ (l.length : Int) - A := (Int.le_ediv_iff_mul_le (by omega)).1 (by omega)
        subst hS
        have hq3 : N * S ≤ l.length - A := by
          have : ((N * S : Nat) : Int) ≤ (l.length : Int) - A := by simpa using hq2
          omega
        have hS1 : 1 ≤ S := by omega
        have hNS : N * 1 ≤ N * S := Nat.mul_le_mul_left _ hS1
        refine ⟨A, N, hA, hN', hE, by omega, ?_, by omega⟩
        simp only [Int.toNat_natCast]
        omega
  · rw [if_pos hE] at h; exact absurd h hE
end Go.Dx
end

/- the text Wire1 -/
section
namespace Go.Proofs.Ytmjkhmebpciopaa
open Go.RowKit Go.Dx

end Go.Proofs.Ytmjkhmebpciopaa
end

/- the text Wire2 -/
section
namespace Go.Proofs.Ytmjkhmebpciopaa
open Go.RowKit Go.Dx

end Go.Proofs.Ytmjkhmebpciopaa
end

/- the text WireB -/
section
/- wire.Bytes and the reference's. -/
namespace Go.Proofs.Ytmjkhmebpciopaa
open Go.RowKit Go.Dx

end Go.Proofs.Ytmjkhmebpciopaa
end

/- the text Wire3 -/
section
namespace Go.Proofs.Ytmjkhmebpciopaa
open Go.RowKit Go.Dx

theorem neq_nat {a b : Nat} (h : a ≠ b) : ((a : Int) != (b : Int)) = true := by simp; omega
theorem eq_nat {a b : Nat} (h : a = b) : ((a : Int) != (b : Int)) = false := by simp; omega

theorem same_step {l1 l2 : List UInt8} {k : Nat} {x y : UInt8} (hx : l1[k]? = some x) (hy : l2[k]? = some y) (h : l1.take k = l2.take k) : (x = y ↔ l1.take (k + 1) = l2.take (k + 1)) := by
  rw [List.take_add_one, List.take_add_one, hx, hy, h]; simp
theorem ne_of_take {l1 l2 : List UInt8} {k : Nat} (h : l1.take k ≠ l2.take k) : l1 ≠ l2 := fun e => h (by rw [e])

set_option maxHeartbeats 400000 in
theorem ref_Same (l1 l2 : List UInt8) (a1 a2 : Option Addr) (n1 n2 c1 c2 : Nat) (w : World) (h1 : Sl w 1 a1 n1 c1 (l1.map B8)) (h2 : Sl w 1 a2 n2 c2 (l2.map B8)) :
    Calls Try.prog 35 #[.slice a1 n1 c1, .slice a2 n2 c2] w (Still (.bool (decide (l1 = l2))) w) := by
  obtain rfl := h1.n_eq
  obtain rfl := h2.n_eq
  have hm1 := Nat.le_trans h1.le h1.cap
  have hm2 := Nat.le_trans h2.le h2.cap
  unfold maxLen at hm1 hm2
  by_cases hlen : l1.length = l2.length
  · have hb := eq_nat hlen
    have hle1 : l1.length ≤ l2.length := by omega
    have hle2 : l2.length ≤ l1.length := by omega
    have HL := hide hlen
    clear hlen
    go_enter Try.func35, Try.ntmps35
    go_wp2
    go_loopg [5] l1.length (fun g i w' => ∃ (k n : Nat), k ≤ l1.length ∧ g = l1.length - k ∧ l1.take k = l2.take k ∧ i = .int .i64 k ∧ w' = w.drewN n)
    case atStart => exact ⟨0, 0, by omega, by omega, rfl, rfl, rfl⟩
    case round =>
      obtain ⟨k, nq, hk, hg, ht, rfl, rfl⟩ := hrel
      have HG := hide hg
      have HT := hide ht
      clear hg ht
      by_cases hkl : k < l1.length
      · obtain ⟨b1, o1, rfl, hb1, hc1⟩ := h1.ex (by simp; omega)
        obtain ⟨b2, o2, rfl, hb2, hc2⟩ := h2.ex (by simp; omega)
        obtain ⟨x, hx⟩ : ∃ x, l1[k]? = some x := ⟨l1[k], by simp [hkl]⟩
        obtain ⟨y, hy⟩ : ∃ y, l2[k]? = some y := ⟨l2[k]'(by omega), by simp⟩
        have hx1 : w.cell? ⟨b1, o1 + k, none⟩ = some (.int .u8 (x.toNat : Int)) := hc1 k _ (by rw [List.getElem?_map, hx]; rfl)
        have hy1 : w.cell? ⟨b2, o2 + k, none⟩ = some (.int .u8 (y.toNat : Int)) := hc2 k _ (by rw [List.getElem?_map, hy]; rfl)
        have HX := hide (same_step hx hy HT.out)
        clear hc1 hc2 hx hy
        by_cases hxy : x = y
        · have HE := hide (HX.out.1 hxy)
          subst hxy
          have hn : ((x.toNat : Int) != (x.toNat : Int)) = false := by simp
          go_wp2
          go_quiet (fail)
          go_wp2
          go_roundg (l1.length - (k + 1))
          case measure => have := HG.out; omega
          case rel => exact ⟨k + 1, _, by omega, rfl, HE.out, by go_num, by first | rfl | exact World.drewN_drewN _ _ _⟩
        · have hn : ((x.toNat : Int) != (y.toNat : Int)) = true := neq_nat (fun e => hxy (UInt8.toNat_inj.1 e))
          have HE := hide (ne_of_take (fun e => hxy (HX.out.2 e)))
          have hne : Value.bool (decide (l1 = l2)) = .bool false := by rw [decide_eq_false HE.out]
          have HN := hide hne
          clear hne hxy
          go_wp2
          go_quiet (fail)
          go_wp2
          go_ret
          exact ⟨by rw [HN.out]; rfl, _, World.drewN_drewN _ _ _⟩
      · obtain rfl : k = l1.length := by omega
        go_wp2
        go_ret
        have : l1 = l2 := by have := HT.out; rw [List.take_length, List.take_of_length_le (by omega)] at this; exact this
        exact ⟨by rw [decide_eq_true this]; rfl, _, rfl⟩
  · have hb := neq_nat hlen
    have HN := hide (decide_eq_false (fun e : l1 = l2 => hlen (by rw [e])))
    clear hlen
    go_enter Try.func35, Try.ntmps35
    go_wp2
    go_ret
    exact ⟨by rw [HN.out]; rfl, 0, rfl⟩



end Go.Proofs.Ytmjkhmebpciopaa
end

/- the text Wire4 -/
section
namespace Go.Proofs.Ytmjkhmebpciopaa
open Go.RowKit Go.Dx

/-- three results that are integers -/
abbrev R3 (r : Int × Int × Int) : Value := .tuple #[.int .i64 r.1, .int .i64 r.2.1, .int .i64 r.2.2]

end Go.Proofs.Ytmjkhmebpciopaa
end

/- the text Wire5 -/
section
namespace Go.Proofs.Ytmjkhmebpciopaa
open Go.RowKit Go.Dx

end Go.Proofs.Ytmjkhmebpciopaa
end

/- the text Wire6 -/
section
namespace Go.Proofs.Ytmjkhmebpciopaa
open Go.RowKit Go.Dx

theorem neq_int {a b : Int} (h : a ≠ b) : (a != b) = true := by simp [h]

end Go.Proofs.Ytmjkhmebpciopaa
end

/- the text Wire7 -/
section
namespace Go.Proofs.Ytmjkhmebpciopaa
open Go.RowKit Go.Dx

abbrev RS (r : ByteArray × Int × Int) : Value := .tuple #[.string r.1, .int .i64 r.2.1, .int .i64 r.2.2]

end Go.Proofs.Ytmjkhmebpciopaa
end

/- the text Wire8 -/
section
namespace Go.Proofs.Ytmjkhmebpciopaa
open Go.RowKit Go.Dx

/-- what has been written after k elements -/
def accTo {α : Type} (p : List UInt8) (g : α → List UInt8) (l : List α) (k : Nat) : List UInt8 := p ++ (l.take k).flatMap g
theorem acc_zero {α : Type} (p : List UInt8) (g : α → List UInt8) (l : List α) : accTo p g l 0 = p := by simp [accTo]
theorem acc_succ {α : Type} (p : List UInt8) (g : α → List UInt8) {l : List α} {k : Nat} {x : α} (h : l[k]? = some x) : accTo p g l (k + 1) = accTo p g l k ++ g x := by
  unfold accTo; rw [List.take_add_one, h]; simp
theorem acc_all {α : Type} (p : List UInt8) (g : α → List UInt8) (l : List α) : accTo p g l l.length = p ++ l.flatMap g := by unfold accTo; rw [List.take_length]
theorem acc_le {α : Type} (p : List UInt8) (g : α → List UInt8) (l : List α) (k : Nat) : (accTo p g l k).length ≤ (p ++ l.flatMap g).length := by
  unfold accTo
  have e : l.flatMap g = (l.take k).flatMap g ++ (l.drop k).flatMap g := by rw [← List.flatMap_append, List.take_append_drop]
  rw [e]; simp

end Go.Proofs.Ytmjkhmebpciopaa
end

/- the text Wire9 -/
section
namespace Go.Proofs.Ytmjkhmebpciopaa
open Go.RowKit Go.Dx

end Go.Proofs.Ytmjkhmebpciopaa
end

/- the text Wire10 -/
section
namespace Go.Proofs.Ytmjkhmebpciopaa
open Go.RowKit Go.Dx

theorem same_step' {α : Type} {l1 l2 : List α} {k : Nat} {x y : α} (hx : l1[k]? = some x) (hy : l2[k]? = some y) (h : l1.take k = l2.take k) : (x = y ↔ l1.take (k + 1) = l2.take (k + 1)) := by
  rw [List.take_add_one, List.take_add_one, hx, hy, h]; simp
theorem str_eq_iff (x y : ByteArray) : x.toList = y.toList ↔ x = y := by
  rw [Lib.toList_data, Lib.toList_data]
  exact ⟨WideShapes.bytes_inj, fun e => by rw [e]⟩
theorem str_ne {x y : ByteArray} (h : x ≠ y) : (x.toList == y.toList) = false := beq_eq_false_iff_ne.2 fun e => h ((str_eq_iff x y).1 e)
theorem ne_of_take' {α : Type} {l1 l2 : List α} {k : Nat} (h : l1.take k ≠ l2.take k) : l1 ≠ l2 := fun e => h (by rw [e])

set_option maxHeartbeats 400000 in
theorem ref_SameInts (l1 l2 : List Int) (a1 a2 : Option Addr) (n1 n2 c1 c2 : Nat) (w : World) (h1 : Sl w 1 a1 n1 c1 (l1.map I64)) (h2 : Sl w 1 a2 n2 c2 (l2.map I64)) :
    Calls Try.prog 13 #[.slice a1 n1 c1, .slice a2 n2 c2] w (Still (.bool (decide (l1 = l2))) w) := by
  obtain rfl := h1.n_eq
  obtain rfl := h2.n_eq
  have hm1 := Nat.le_trans h1.le h1.cap
  have hm2 := Nat.le_trans h2.le h2.cap
  unfold maxLen at hm1 hm2
  by_cases hlen : l1.length = l2.length
  · have hb := eq_nat hlen
    have hle1 : l1.length ≤ l2.length := by omega
    have hle2 : l2.length ≤ l1.length := by omega
    have HL := hide hlen
    clear hlen
    go_enter Try.func13, Try.ntmps13
    go_wp2
    go_loopg [5] l1.length (fun g i w' => ∃ (k n : Nat), k ≤ l1.length ∧ g = l1.length - k ∧ l1.take k = l2.take k ∧ i = .int .i64 k ∧ w' = w.drewN n)
    case atStart => exact ⟨0, 0, by omega, by omega, rfl, rfl, rfl⟩
    case round =>
      obtain ⟨k, nq, hk, hg, ht, rfl, rfl⟩ := hrel
      have HG := hide hg
      have HT := hide ht
      clear hg ht
      by_cases hkl : k < l1.length
      · obtain ⟨b1, o1, rfl, hb1, hc1⟩ := h1.ex (by simp; omega)
        obtain ⟨b2, o2, rfl, hb2, hc2⟩ := h2.ex (by simp; omega)
        obtain ⟨x, hx⟩ : ∃ x, l1[k]? = some x := ⟨l1[k], by simp [hkl]⟩
        obtain ⟨y, hy⟩ : ∃ y, l2[k]? = some y := ⟨l2[k]'(by omega), by simp⟩
        have hx1 : w.cell? ⟨b1, o1 + k, none⟩ = some (I64 x) := hc1 k _ (by rw [List.getElem?_map, hx]; rfl)
        have hy1 : w.cell? ⟨b2, o2 + k, none⟩ = some (I64 y) := hc2 k _ (by rw [List.getElem?_map, hy]; rfl)
        have HX := hide (same_step' hx hy HT.out)
        clear hc1 hc2 hx hy
        by_cases hxy : x = y
        · have HE := hide (HX.out.1 hxy)
          subst hxy
          have hn : (x != x) = false := by simp
          go_wp2
          go_quiet (fail)
          go_wp2
          go_roundg (l1.length - (k + 1))
          case measure => have := HG.out; omega
          case rel => exact ⟨k + 1, _, by omega, rfl, HE.out, by go_num, by first | rfl | exact World.drewN_drewN _ _ _⟩
        · have hn : (x != y) = true := neq_int hxy
          have HE := hide (ne_of_take' (fun e => hxy (HX.out.2 e)))
          have hne : Value.bool (decide (l1 = l2)) = .bool false := by rw [decide_eq_false HE.out]
          have HN := hide hne
          clear hne hxy
          go_wp2
          go_quiet (fail)
          go_wp2
          go_ret
          exact ⟨by rw [HN.out]; rfl, _, World.drewN_drewN _ _ _⟩
      · obtain rfl : k = l1.length := by omega
        go_wp2
        go_ret
        have : l1 = l2 := by have := HT.out; rw [List.take_length, List.take_of_length_le (by omega)] at this; exact this
        exact ⟨by rw [decide_eq_true this]; rfl, _, rfl⟩
  · have hb := neq_nat hlen
    have HN := hide (decide_eq_false (fun e : l1 = l2 => hlen (by rw [e])))
    clear hlen
    go_enter Try.func13, Try.ntmps13
    go_wp2
    go_ret
    exact ⟨by rw [HN.out]; rfl, 0, rfl⟩

end Go.Proofs.Ytmjkhmebpciopaa
end

/- the text Pure3 -/
section
/- Sequences of decodings. No Go. -/
namespace Go.Dx

/-- k decodings, one behind the other, from A on: the values, the place behind them, the error of the first that fails -/
def seqTo {α : Type} (f : List UInt8 → α × Int × Int) (l : List UInt8) (A : Nat) : Nat → List α × Nat × Int
  | 0 => ([], A, 0)
  | k + 1 =>
    let r := seqTo f l A k
    if r.2.2 ≠ 0 then r
    else
      let x := f (l.drop r.2.1)
      if x.2.2 ≠ 0 then ([], 0, x.2.2) else (r.1 ++ [x.1], r.2.1 + x.2.1.toNat, 0)
def decSeq {α : Type} (f : List UInt8 → α × Int × Int) (l : List UInt8) : List α × Int × Int :=
  if cntErr l 1 ≠ 0 then ([], 0, cntErr l 1)
  else
    let r := seqTo f l (decInt l).2.1.toNat (decInt l).1.toNat
    if r.2.2 ≠ 0 then ([], 0, r.2.2) else (r.1, (r.2.1 : Int), 0)

theorem seqTo_err {α : Type} {f : List UInt8 → α × Int × Int} {l : List UInt8} {A k : Nat} (h : (seqTo f l A k).2.2 ≠ 0) : ∀ m, seqTo f l A (k + m) = seqTo f l A k
  | 0 => rfl
  | m + 1 => by
    have ih := seqTo_err h m
    show (let r := seqTo f l A (k + m); if r.2.2 ≠ 0 then r else _) = _
    simp only
    rw [ih, if_pos h]
theorem seqTo_stop {α : Type} {f : List UInt8 → α × Int × Int} {l : List UInt8} {A k : Nat} {xs : List α} {B : Nat} (h : seqTo f l A k = (xs, B, 0)) (he : (f (l.drop B)).2.2 ≠ 0) :
    seqTo f l A (k + 1) = ([], 0, (f (l.drop B)).2.2) := by
  show (let r := seqTo f l A k; if r.2.2 ≠ 0 then r else _) = _
  simp only [h]
  rw [if_neg (by simp), if_pos he]
theorem seqTo_step {α : Type} {f : List UInt8 → α × Int × Int} {l : List UInt8} {A k : Nat} {xs : List α} {B : Nat} (h : seqTo f l A k = (xs, B, 0)) (he : (f (l.drop B)).2.2 = 0) :
    seqTo f l A (k + 1) = (xs ++ [(f (l.drop B)).1], B + (f (l.drop B)).2.1.toNat, 0) := by
  show (let r := seqTo f l A k; if r.2.2 ≠ 0 then r else _) = _
  simp only [h]
  rw [if_neg (by simp), if_neg (by simp [he])]
theorem decSeq_cnt {α : Type} {f : List UInt8 → α × Int × Int} {l : List UInt8} (h : cntErr l 1 ≠ 0) : decSeq f l = ([], 0, cntErr l 1) := by unfold decSeq; rw [if_pos h]
theorem decSeq_err {α : Type} {f : List UInt8 → α × Int × Int} {l : List UInt8} {A N k : Nat} (h : cntErr l 1 = 0) (hA : (decInt l).2.1 = (A : Int)) (hN : (decInt l).1 = (N : Int)) {E : Int} (hk : k < N) (hE : E ≠ 0)
    (hs : seqTo f l A (k + 1) = ([], 0, E)) : decSeq f l = ([], 0, E) := by
  unfold decSeq
  rw [if_neg (by simp [h]), hA, hN]
  obtain ⟨m, rfl⟩ : ∃ m, N = (k + 1) + m := ⟨N - (k + 1), by omega⟩
  have := seqTo_err (f := f) (l := l) (A := A) (k := k + 1) (by rw [hs]; exact hE) m
  simp only [Int.toNat_natCast]
  rw [this, hs]
  simp [hE]
theorem decSeq_ok {α : Type} {f : List UInt8 → α × Int × Int} {l : List UInt8} {A N : Nat} (h : cntErr l 1 = 0) (hA : (decInt l).2.1 = (A : Int)) (hN : (decInt l).1 = (N : Int)) {xs : List α} {B : Nat}
    (hs : seqTo f l A N = (xs, B, 0)) : decSeq f l = (xs, (B : Int), 0) := by
  unfold decSeq
  rw [if_neg (by simp [h]), hA, hN]
  simp [hs]
theorem seqTo_len {α : Type} {f : List UInt8 → α × Int × Int} {l : List UInt8} {A : Nat} : ∀ {k : Nat} {xs : List α} {B : Nat}, seqTo f l A k = (xs, B, 0) → xs.length = k
  | 0, xs, B, h => by simp [seqTo] at h; obtain ⟨rfl, _⟩ := h; rfl
  | k + 1, xs, B, h => by
    by_cases h0 : (seqTo f l A k).2.2 = 0
    · by_cases he : (f (l.drop (seqTo f l A k).2.1)).2.2 = 0
      · have := seqTo_step (k := k) (xs := (seqTo f l A k).1) (B := (seqTo f l A k).2.1) (by rw [← h0]) he
        rw [this] at h
        injection h with h1 h2
        rw [← h1, List.length_append, seqTo_len (k := k) (xs := (seqTo f l A k).1) (B := (seqTo f l A k).2.1) (by rw [← h0])]
        rfl
      · have := seqTo_stop (k := k) (xs := (seqTo f l A k).1) (B := (seqTo f l A k).2.1) (by rw [← h0]) he
        rw [this] at h
        injection h with h1 h2
        injection h2 with h2 h3
        exact absurd h3 he
    · have := seqTo_err h0 1
      rw [this] at h
      rw [h] at h0
      exact absurd rfl h0
theorem decBytes_used {l : List UInt8} (h : (decBytes l).2.2 = 0) : 1 ≤ (decBytes l).2.1 ∧ (decBytes l).2.1 ≤ l.length := by
  by_cases hE : cntErr l 1 = 0
  · obtain ⟨A, N, e1, e2, e3, hA, hAN, hN⟩ := cnt_facts (by omega) hE
    unfold decBytes
    rw [if_pos hE, e1, e2]
    simp at hAN ⊢
    omega
  · unfold decBytes at h
    rw [if_neg hE] at h
    exact absurd h hE
end Go.Dx
end

/- the text Wire11 -/
section
namespace Go.Proofs.Ytmjkhmebpciopaa
open Go.RowKit Go.Dx

/-- three results, the first a list of its own -/
def Gives3 (e : TypeId) (sz n : Nat) (cs : List Value) (x y : Int) (w : World) (r : Ending) (w' : World) : Prop :=
  ∃ a c, r = .returned (.tuple #[.slice a n c, .int .i64 x, .int .i64 y]) ∧ Own w' w.heap.size e sz a n c cs ∧ Below w.heap.size w w'

end Go.Proofs.Ytmjkhmebpciopaa
end

/- the text Wire12 -/
section
namespace Go.Proofs.Ytmjkhmebpciopaa
open Go.RowKit Go.Dx

theorem decInt_bd (l : List UInt8) : 0 ≤ (decInt l).2.1 ∧ (decInt l).2.1 ≤ l.length := by
  by_cases h : (decInt l).2.2 = 0
  · obtain ⟨h1, h2, _, _⟩ := decInt_used h
    exact ⟨by omega, h2⟩
  · rw [decInt_err h]; simp

theorem setCell_grown (w : World) (p : Addr) (v : Value) (n : Nat) : w.grownBy ((w.setCell p v).drewN n) (some p.block) :=
  ⟨rfl, rfl, rfl, by simp [World.setCell, World.drewN], fun k _ hne => Below.heap_setCell w p v k (fun e => hne (by rw [e]))⟩

theorem below2 (w : World) (o o' : Obj) : Below w.heap.size w ((w.alloc o).alloc o') := ((Below.refl _ _).alloc (Nat.le_refl _) o).alloc (by simp) o'

end Go.Proofs.Ytmjkhmebpciopaa
end

/- the text Ops2 -/
section
/- More laws of the walk: a slice literal of one element that is an array or a struct; a slice to an array. No program in sight. -/
set_option linter.unusedVariables false
namespace Go.Dx
open Go.RowKit

theorem fill_list : ∀ (l : List Value) (k : Nat) (cs : Array Value), cs.size = k + l.length →
    ((l.zipIdx k).foldl (fun cs (x : Value × Nat) => cs.setIfInBounds x.2 x.1) cs).toList = cs.toList.take k ++ l
  | [], k, cs, h => by simp at h ⊢; rw [List.take_of_length_le]; simp; omega
  | x :: r, k, cs, h => by
    rw [List.zipIdx_cons, List.foldl_cons, fill_list r (k + 1) _ (by simp at h ⊢; omega)]
    simp only [Array.toList_setIfInBounds]
    have hk : k < cs.toList.length := by simp at h ⊢; omega
    rw [List.take_succ_eq_append_getElem (by simpa using hk)]
    simp [List.take_set_of_le]
theorem fill_one (v cs : Array Value) (h : cs.size = v.size) : v.zipIdx.foldl (fun cs (x : Value × Nat) => cs.setIfInBounds (0 + x.2) x.1) cs = v := by
  apply Array.ext'
  have := fill_list v.toList 0 cs (by simpa using h)
  simp only [List.take_zero, List.nil_append] at this
  rw [← Array.foldl_toList, Array.toList_zipIdx]
  simpa using this

section ops
variable {P : Program} {w : World} {ops : Array Oper} {rest : List Oper} {act : Act} {Q : Exit → Act → World → Prop}
  {ty : TypeId} {pos : String} {after : Array Edge}

/-- '[]T{x}', T an array or a struct. -/
theorem build_one (d : Nat) (t : TypeId) (x : Operand) (e : TypeId) (ht : P.underlying t = some (.slice e)) (z : Value) (sz bytes : Nat) (hi : (P.info? e).map (fun i => (i.zero, i.size, i.bytes)) = some (some z, sz, bytes))
    (hz : z.cells.size = sz) (hs0 : 0 < sz) (hs1 : sz ≤ 16777216) (v : Value) (us : List Value) (hx : act.eval x = v) (hv : v.cells = us.toArray) (hl : us.length = sz)
    (hK : wpList P ops Q rest (act.put (some d) (.slice (some ⟨w.heap.size, 0, none⟩) 1 1)) (w.alloc (.cells us.toArray e))) :
    wpList P ops Q ({ dst := some d, op := .buildSlice t 1 #[(0, x)], type := ty, pos := pos, after := after, guard := none } :: rest) act w := by
  refine wpList_plain rfl fun K hK' => ?_
  obtain ⟨i, hi0, hz0, hz1, hz2⟩ := info_parts hi
  subst hz1
  have hrun : (Instr.buildSlice t 1 #[(0, v)]).run P w = .ok (.slice (some ⟨w.heap.size, 0, none⟩) 1 1) (w.alloc (.cells us.toArray e)) := by
    have h1 : ¬ (i.size > 16777216) := by omega
    have h2 : i.size ≠ 0 := by omega
    have hf := fill_one us.toArray ((Array.range i.size).map (z.cells[· % z.cells.size]!)) (by simp [hl])
    simp [Instr.buildSlice, run_underlying ht, sizeOf, typeInfo, hi0, h1, h2, zeroValue, hz0, Instr.fill, hv, hl, newRow]
    simp at hf
    rw [hf]
  unfold Oper.wp
  simp [execOp, hx, hrun, Result.andThen]
  exact hK' _ _ hK

/-- '[n]T(xs)' and '(*[n]T)(xs)' -/
theorem to_array (d : Nat) (t : TypeId) (x : Operand) (n e : Nat) (ht : P.underlying t = some (.array n e)) (a : Option Addr) (len c : Nat) (hx : act.eval x = .slice a len c) (hn : n ≤ len)
    (hK : wpList P ops Q rest (act.put (some d) (.pointer a)) w) :
    wpList P ops Q ({ dst := some d, op := .sliceToArrayPointer t x, type := ty, pos := pos, after := after, guard := none } :: rest) act w := by
  refine wpList_plain rfl fun K hK' => ?_
  have hrun : (Instr.arrayAt t (.slice a len c)).run P w = .ok (.pointer a) w := by
    simp [Instr.arrayAt, run_underlying ht, Nat.not_lt.2 hn]
  unfold Oper.wp
  simp [execOp, hx, hrun, Result.andThen]
  exact hK' _ _ hK
end ops

theorem run_forIn_eq {P : Program} (w : World) (n : Nat) (xs ys : List Int) (hx : xs.length = n) (hy : ys.length = n) (F : Nat → Option Bool × Unit → Sem (ForInStep (Option Bool × Unit)))
    (hF : ∀ i s, i < n → (F i s).run P w = .ok (if xs[i]? = ys[i]? then ForInStep.yield (none, ()) else ForInStep.done (some false, ())) w) :
    ∀ (m s : Nat), s + m = n → (forIn (List.range' s m) ((none, ()) : Option Bool × Unit) F).run P w = .ok (if xs.drop s = ys.drop s then (none, ()) else (some false, ())) w := by
  intro m
  induction m with
  | zero =>
    intro s hs
    rw [List.drop_eq_nil_of_le (by omega), List.drop_eq_nil_of_le (by omega)]
    simp [Sem.run_pure]
  | succ m ih =>
    intro s hs
    rw [List.range'_succ, List.forIn_cons, Sem.run_bind, hF s _ (by omega)]
    have ex : xs.drop s = xs[s]'(by omega) :: xs.drop (s + 1) := List.drop_eq_getElem_cons (by omega)
    have ey : ys.drop s = ys[s]'(by omega) :: ys.drop (s + 1) := List.drop_eq_getElem_cons (by omega)
    rw [ex, ey]
    by_cases h : xs[s]? = ys[s]?
    · rw [if_pos h, Result.andThen_ok]
      have h2 : xs[s]'(by omega) = ys[s]'(by omega) := by
        rw [List.getElem?_eq_getElem (by omega), List.getElem?_eq_getElem (by omega)] at h
        exact Option.some.inj h
      simp only [ih (s + 1) (by omega), h2, List.cons.injEq, true_and]
    · rw [if_neg h, Result.andThen_ok]
      have h2 : ¬ xs[s]'(by omega) = ys[s]'(by omega) := fun e => h (by rw [List.getElem?_eq_getElem (by omega), List.getElem?_eq_getElem (by omega), e])
      rw [if_neg (fun e => h2 (List.cons.inj e).1)]
      simp only [Sem.run_pure]

theorem run_equalIn_arr {P : Program} (w : World) (d : Nat) (t e n : Nat) (k : IntKind) (ht : P.underlying t = some (.array n e)) (he : P.underlying e = some (.int k)) (hsz : (P.info? e).map (·.size) = some 1)
    (xs ys : List Int) (hx : xs.length = n) (hy : ys.length = n) :
    (Op.equalIn (d + 2) t (.agg (xs.map (Value.int k)).toArray) (.agg (ys.map (Value.int k)).toArray)).run P w = .ok (decide (xs = ys)) w := by
  obtain ⟨i, hi, hs⟩ := Option.map_eq_some_iff.1 hsz
  unfold Op.equalIn
  simp only [Sem.run_bind, run_underlying ht, Result.andThen_ok, sizeOf, typeInfo]
  simp [hi, hs, Std.Legacy.Range.forIn_eq_forIn_range']
  rw [run_forIn_eq w n xs ys hx hy _ ?_ n 0 (by omega)]
  · simp only [List.drop_zero, Result.andThen_ok]
    by_cases h : xs = ys
    · simp [h, Sem.run_pure]
    · simp [h, Sem.run_pure]
  · intro j s hj
    have h1 : xs[j]? = some xs[j] := List.getElem?_eq_getElem (by omega)
    have h2 : ys[j]? = some ys[j] := List.getElem?_eq_getElem (by omega)
    have p1 : ∀ l : List Int, (hl : l.length = n) → (part e (l.map (Value.int k)).toArray j).run P w = .ok (.int k (l[j]'(by omega))) w := by
      intro l hl
      have h3 : ((l.map (Value.int k)).toArray)[j]? = some (.int k (l[j]'(by omega))) := by simp [hl, hj]
      unfold part
      simp only [Sem.run_bind, isAgg, run_underlying he, Result.andThen_ok, Sem.run_pure]
      simp only [Bool.false_eq_true, if_false, h3, Sem.run_pure]
    simp only [Sem.run_bind, p1 xs hx, p1 ys hy, Result.andThen_ok, run_equalIn_int w d e k k _ _ he]
    by_cases h : xs[j] = ys[j]
    · simp [h1, h2, h, Sem.run_pure]
    · simp [h1, h2, h, Sem.run_pure]

theorem run_eql_arr {P : Program} (w : World) (t e n : Nat) (k : IntKind) (ht : P.underlying t = some (.array n e)) (he : P.underlying e = some (.int k)) (hsz : (P.info? e).map (·.size) = some 1)
    (xs ys : List Int) (hx : xs.length = n) (hy : ys.length = n) :
    (binOp .eql t (.agg (xs.map (Value.int k)).toArray) (.agg (ys.map (Value.int k)).toArray)).run P w = .ok (.bool (decide (xs = ys))) w := by
  rw [run_eql_struct, run_equalIn_arr w 9998 t e n k ht he hsz xs ys hx hy]; rfl
theorem run_neq_arr {P : Program} (w : World) (t e n : Nat) (k : IntKind) (ht : P.underlying t = some (.array n e)) (he : P.underlying e = some (.int k)) (hsz : (P.info? e).map (·.size) = some 1)
    (xs ys : List Int) (hx : xs.length = n) (hy : ys.length = n) :
    (binOp .neq t (.agg (xs.map (Value.int k)).toArray) (.agg (ys.map (Value.int k)).toArray)).run P w = .ok (.bool (!decide (xs = ys))) w := by
  rw [run_neq_struct, run_equalIn_arr w 9998 t e n k ht he hsz xs ys hx hy]; rfl

theorem bytes_ints (l : List UInt8) : l.map B8 = (l.map fun d => (d.toNat : Int)).map (Value.int .u8) := by rw [List.map_map]; rfl
theorem bytes_inj {l m : List UInt8} : (l.map fun d => (d.toNat : Int)) = (m.map fun d => (d.toNat : Int)) ↔ l = m := by
  constructor
  · intro h
    refine List.map_inj_right (fun x y hxy => ?_) |>.1 h
    have h2 : (x.toNat : Int) = (y.toNat : Int) := hxy
    exact UInt8.toNat_inj.1 (by omega)
  · intro h; rw [h]

section quiet
variable {P : Program} {w : World} {ops : Array Oper} {rest : List Oper} {act : Act} {Q : Act → Prop} {ty : TypeId} {pos : String} {after : Array Edge}

theorem quiet_val {o : Oper} (hg : o.guard = none) (v : Value) (h : ∀ n, (execOp act.eval o).run P (w.drewN n) = .ok (.value v) (w.drewN n))
    (hK : wpQuiet P ops (fun w' => ∃ n, w' = w.drewN n) Q rest (act.put o.dst v)) : wpQuiet P ops (fun w' => ∃ n, w' = w.drewN n) Q (o :: rest) act := by
  refine wpQuiet_step fun K hK' => ?_
  have hw : Region.wanted o (yielded ops act.tmps) = true := by simp [Region.wanted, hg]
  rw [if_pos hw]
  refine ⟨v, ?_, hK' _ hK⟩
  rintro w' ⟨n, rfl⟩
  unfold Oper.quietAt
  rw [h n]
  exact ⟨rfl, rfl⟩

/-- in a region that draws and only reads: a whole array is loaded -/
theorem quiet_load_agg (d : Nat) (t : TypeId) (x : Operand) (sz : Nat) (hsz : (P.info? t).map (·.size) = some sz) (n e : Nat) (hag : P.underlying t = some (.array n e))
    (p : Addr) (hx : act.eval x = .pointer (some p)) (cs : List Value) (hl : cs.length = sz) (hc : ∀ j u, cs[j]? = some u → w.cell? (p.add j) = some u)
    (hK : wpQuiet P ops (fun w' => ∃ n, w' = w.drewN n) Q rest (act.put (some d) (.agg cs.toArray))) :
    wpQuiet P ops (fun w' => ∃ n, w' = w.drewN n) Q ({ dst := some d, op := .load t x, type := ty, pos := pos, after := after, guard := none } :: rest) act := by
  obtain ⟨i, hi, hs0⟩ := Option.map_eq_some_iff.1 hsz
  subst hs0
  refine quiet_val rfl _ (fun m => ?_) hK
  have hl2 := run_loadCells_list (P := P) (w.drewN m) p cs hc
  rw [hl] at hl2
  simp [execOp, hx, Instr.loadAt, Instr.sureAddr, loadVar, isAgg, run_underlying hag, sizeOf, typeInfo, hi, hl2]

/-- '!=' of two arrays of bytes -/
theorem quiet_neq_bytes (d : Nat) (t : TypeId) (x y : Operand) (e n : Nat) (ht : P.underlying t = some (.array n e)) (he : P.underlying e = some (.int .u8)) (hsz : (P.info? e).map (·.size) = some 1) (hgt : P.eqGuardType P.depth t = false)
    (xs ys : List UInt8) (hx : act.eval x = .agg (xs.map B8).toArray) (hy : act.eval y = .agg (ys.map B8).toArray) (hxl : xs.length = n) (hyl : ys.length = n)
    (hK : wpQuiet P ops (fun w' => ∃ n, w' = w.drewN n) Q rest (act.put (some d) (.bool (!decide (xs = ys))))) :
    wpQuiet P ops (fun w' => ∃ n, w' = w.drewN n) Q ({ dst := some d, op := .binOp .neq t x y t, type := ty, pos := pos, after := after, guard := none } :: rest) act := by
  refine quiet_val rfl _ (fun m => ?_) hK
  have h1 := run_eqGuard_agg (P := P) (w := w.drewN m) .neq t x y (xs.map B8).toArray (ys.map B8).toArray hgt
  have h2 := run_neq_arr (P := P) (w.drewN m) t e n .u8 ht he hsz (xs.map fun d => (d.toNat : Int)) (ys.map fun d => (d.toNat : Int)) (by simpa using hxl) (by simpa using hyl)
  rw [← bytes_ints, ← bytes_ints] at h2
  have h3 : decide ((xs.map fun d => (d.toNat : Int)) = (ys.map fun d => (d.toNat : Int))) = decide (xs = ys) := decide_eq_decide.2 bytes_inj
  rw [h3] at h2
  simp only [execOp, hx, hy, Sem.run_bind, h1, h2, Result.andThen_ok, Sem.run_pure]
end quiet
end Go.Dx
end

/- the text Types2 -/
section
namespace Go.Proofs.Ytmjkhmebpciopaa
open Go.RowKit Go.Dx

def zeroDig : Value := .agg (Array.replicate 16 (.int .u8 0))
section
variable {w : World} {ops : Array Oper} {rest : List Oper} {act : Act} {Q : Exit → Act → World → Prop} {ty : TypeId} {pos : String} {after : Array Edge}
end
section
variable {w : World} {ops : Array Oper} {rest : List Oper} {o : Oper} {act : Act} {Q : Exit → Act → World → Prop}
end
end Go.Proofs.Ytmjkhmebpciopaa
end

/- the text Wire13 -/
section
namespace Go.Proofs.Ytmjkhmebpciopaa
open Go.RowKit Go.Dx

/-- what decoding a list of digests returns: their number, their bytes, the place behind them, the error -/
def decDigs (l : List UInt8) : Nat × List UInt8 × Int × Int :=
  if cntErr l 16 = 0 then ((decInt l).1.toNat, (l.drop (decInt l).2.1.toNat).take ((decInt l).1.toNat * 16), (decInt l).2.1 + 16 * (decInt l).1, 0) else (0, [], 0, cntErr l 16)

end Go.Proofs.Ytmjkhmebpciopaa
end

/- the text Wire14 -/
section
namespace Go.Proofs.Ytmjkhmebpciopaa
open Go.RowKit Go.Dx

/-- digest number k -/
def digAt (f : List UInt8) (k : Nat) : List UInt8 := (f.drop (k * 16)).take 16
theorem digAt_len {f : List UInt8} {n k : Nat} (h : f.length = n * 16) (hk : k < n) : (digAt f k).length = 16 := by unfold digAt; rw [List.length_take, List.length_drop]; omega
theorem digAt_step {f1 f2 : List UInt8} {k : Nat} (h : f1.take (k * 16) = f2.take (k * 16)) : (digAt f1 k = digAt f2 k ↔ f1.take ((k + 1) * 16) = f2.take ((k + 1) * 16)) := by
  rw [Nat.add_mul, Nat.one_mul, List.take_add, List.take_add, h]
  unfold digAt
  exact ⟨fun e => by rw [e], fun e => List.append_cancel_left e⟩
theorem dig_cells {w : World} {b o n c : Nat} {f : List UInt8} (h : Sl w 16 (some ⟨b, o, none⟩) n c (f.map B8)) (k : Nat) : ∀ j u, ((digAt f k).map B8)[j]? = some u → w.cell? ((⟨b, o + k * 16, none⟩ : Addr).add j) = some u := by
  intro j u hj
  unfold digAt at hj
  rw [List.map_take, List.map_drop, List.getElem?_take] at hj
  split at hj
  · rw [List.getElem?_drop] at hj
    have := h.cell _ rfl _ _ hj
    rw [Addr.add_lit] at this ⊢
    rw [Nat.add_assoc]; exact this
  · cases hj

end Go.Proofs.Ytmjkhmebpciopaa
end

/- the text Wire15 -/
section
namespace Go.Proofs.Ytmjkhmebpciopaa
open Go.RowKit Go.Dx

/-- a row that is being filled -/
def rowAt (ys : List UInt8) (j : Nat) : List UInt8 := ys.take j ++ List.replicate (16 - j) 0
theorem rowAt_len {ys : List UInt8} {j : Nat} (h : ys.length = 16) (hj : j ≤ 16) : (rowAt ys j).length = 16 := by simp [rowAt]; omega
theorem rowAt_set {ys : List UInt8} {j : Nat} (h : ys.length = 16) (hj : j < 16) {x : UInt8} (hx : ys[j]? = some x) : (rowAt ys j).set j x = rowAt ys (j + 1) := by
  unfold rowAt
  rw [List.set_append_right _ _ (by simp; omega), List.take_add_one, hx]
  have e : 16 - j = (16 - (j + 1)) + 1 := by omega
  have e2 : j - (ys.take j).length = 0 := by rw [List.length_take]; omega
  rw [e, e2, List.replicate_succ]
  simp
theorem rowAt_get {ys : List UInt8} {j : Nat} (h : ys.length = 16) (hj : j < 16) : (rowAt ys j)[j]? = some 0 := by
  unfold rowAt
  rw [List.getElem?_append_right (by simp; omega), List.getElem?_replicate]
  have e2 : j - (ys.take j).length = 0 := by rw [List.length_take]; omega
  rw [e2]; simp; omega
theorem rowAt_all {ys : List UInt8} (h : ys.length = 16) : rowAt ys 16 = ys := by simp [rowAt, ← h]

/-- the sum of lengths that the law's 'few' reckons -/
def fewSum (l : List ByteArray) (k : Nat) : Nat := l.length + ((l.take k).map (·.size)).sum
theorem fewSum_succ {l : List ByteArray} {k : Nat} {x : ByteArray} (h : l[k]? = some x) : fewSum l (k + 1) = fewSum l k + x.size := by
  unfold fewSum; rw [List.take_add_one, h]; simp; omega
theorem wrap64_nat (n : Nat) (h : n < 9223372036854775808) : wrap64 (n : Int) = n := by unfold wrap64; omega

end Go.Proofs.Ytmjkhmebpciopaa
end

/- the text Wire16 -/
section
namespace Go.Proofs.Ytmjkhmebpciopaa
open Go.RowKit Go.Dx

/-- a literal []byte, []int, []string that was just laid -/
theorem lit_b (w : World) (b : Nat) (hb : b = w.heap.size) (l : List UInt8) (L : Array Value) (hL : L = (l.map B8).toArray) (n : Nat) (hn : l.length = n) (hm : n ≤ maxLen) : Sl (w.alloc (.cells L 5)) 1 (some ⟨b, 0, none⟩) n n (l.map B8) := by
  subst hL hb; exact Sl.fresh w _ 1 n _ (by simp [hn]) hm
theorem lit_i (w : World) (b : Nat) (hb : b = w.heap.size) (l : List Int) (L : Array Value) (hL : L = (l.map I64).toArray) (n : Nat) (hn : l.length = n) (hm : n ≤ maxLen) : Sl (w.alloc (.cells L 3)) 1 (some ⟨b, 0, none⟩) n n (l.map I64) := by
  subst hL hb; exact Sl.fresh w _ 1 n _ (by simp [hn]) hm
theorem lit_s (w : World) (b : Nat) (hb : b = w.heap.size) (l : List ByteArray) (L : Array Value) (hL : L = (l.map Value.string).toArray) (n : Nat) (hn : l.length = n) (hm : n ≤ maxLen) : Sl (w.alloc (.cells L 9)) 1 (some ⟨b, 0, none⟩) n n (l.map Value.string) := by
  subst hL hb; exact Sl.fresh w _ 1 n _ (by simp [hn]) hm

theorem d1 : decInt [130, 1, 0, 9] = (256, 3, 0) := by decide +kernel
theorem d2 : decInt [130, 1] = (0, 0, 3) := by decide +kernel
theorem d3 : decInt [129, 0] = (0, 0, 2) := by decide +kernel
theorem d4 : (decBytes [129, 2, 97, 98, 7]) = (⟨#[97, 98]⟩, 4, 0) := by decide +kernel
theorem d5 : decSeq decInt [129, 2, 129, 1, 127] = ([1, -1], 5, 0) := by decide +kernel
theorem d6 : decSeq decBytes [129, 2, 128, 129, 1, 97, 5] = ([⟨#[]⟩, ⟨#[97]⟩], 6, 0) := by decide +kernel
theorem d7 : encInt (-257) = [125, 254, 255] := by decide +kernel
theorem d8 : encBytes [97, 98] = [129, 2, 97, 98] := by decide +kernel
theorem d9 : encInts [1, -1] = [129, 2, 129, 1, 127] := by decide +kernel
theorem d10 : encStrs [⟨#[]⟩, ⟨#[97]⟩] = [129, 2, 128, 129, 1, 97] := by decide +kernel
def dgl : List UInt8 := [1, 2, 0, 0, 0, 0, 0, 0, 0, 0, 0, 0, 0, 0, 0, 0]
theorem d11 : encInt (1 : Nat) ++ dgl = 129 :: 1 :: dgl := by decide +kernel
theorem d12 : decDigs (129 :: 1 :: dgl) = (1, dgl, 18, 0) := by decide +kernel
end Go.Proofs.Ytmjkhmebpciopaa
end

/- the text Wire17 -/
section
namespace Go.Proofs.Ytmjkhmebpciopaa
open Go.RowKit Go.Dx

theorem bstep {B : Nat} {w0 w w' : World} {o : Obj} (h : Below B w0 w ∧ B ≤ w.heap.size) (hb : Below (w.alloc o).heap.size (w.alloc o) w') : Below B w0 w' ∧ B ≤ w'.heap.size := by
  have h1 := hb.size
  have h2 := h.2
  simp at h1
  exact ⟨(h.1.alloc h.2 o).trans (hb.mono (by simp; omega)), by omega⟩
theorem Same_at {l1 l2 : List UInt8} {r : Bool} (h : decide (l1 = l2) = r) {a1 a2 : Option Addr} {n1 n2 c1 c2 : Nat} {w : World} (h1 : Sl w 1 a1 n1 c1 (l1.map B8)) (h2 : Sl w 1 a2 n2 c2 (l2.map B8)) :
    Calls Try.prog 35 #[.slice a1 n1 c1, .slice a2 n2 c2] w fun e w' => e = .returned (.bool r) ∧ Below w.heap.size w w' := by subst h; exact (ref_Same _ _ _ _ _ _ _ _ _ h1 h2).mono fun e w' ⟨h1, n, h2⟩ => ⟨h1, h2 ▸ Still.below n⟩
theorem SameInts_at {l1 l2 : List Int} {r : Bool} (h : decide (l1 = l2) = r) {a1 a2 : Option Addr} {n1 n2 c1 c2 : Nat} {w : World} (h1 : Sl w 1 a1 n1 c1 (l1.map I64)) (h2 : Sl w 1 a2 n2 c2 (l2.map I64)) :
    Calls Try.prog 13 #[.slice a1 n1 c1, .slice a2 n2 c2] w fun e w' => e = .returned (.bool r) ∧ Below w.heap.size w w' := by subst h; exact (ref_SameInts _ _ _ _ _ _ _ _ _ h1 h2).mono fun e w' ⟨h1, n, h2⟩ => ⟨h1, h2 ▸ Still.below n⟩
theorem bs0 {B : Nat} {w0 w w' : World} (h : Below B w0 w ∧ B ≤ w.heap.size) (hb : Below w.heap.size w w') : Below B w0 w' ∧ B ≤ w'.heap.size :=
  ⟨h.1.trans (hb.mono h.2), Nat.le_trans h.2 hb.size⟩

section
variable {w : World} {ops : Array Oper} {rest : List Oper} {act : Act} {Q : Exit → Act → World → Prop} {ty : TypeId} {pos : String} {after : Array Edge} {g : Option (Nat × Bool)}
theorem unguard {dst : Option Nat} {op : Op} (hw : Region.wanted { dst := dst, op := op, type := ty, pos := pos, after := after, guard := g } (yielded ops act.tmps) = true)
    (h : wpList Try.prog ops Q ({ dst := dst, op := op, type := ty, pos := pos, after := after, guard := none } :: rest) act w) :
    wpList Try.prog ops Q ({ dst := dst, op := op, type := ty, pos := pos, after := after, guard := g } :: rest) act w := by
  have h2 : Region.wanted { dst := dst, op := op, type := ty, pos := pos, after := after, guard := none } (yielded ops act.tmps) = true := rfl
  unfold wpList at h ⊢
  rw [if_pos h2] at h
  rw [if_pos hw]
  exact h
end
theorem L1 : #[Value.int .u8 130, .int .u8 1, .int .u8 0, .int .u8 9] = (List.map B8 [130, 1, 0, 9]).toArray := by rfl
theorem L2 : #[Value.int .u8 130, .int .u8 1] = (List.map B8 [130, 1]).toArray := by rfl
theorem L3 : #[Value.int .u8 129, .int .u8 0] = (List.map B8 [129, 0]).toArray := by rfl
theorem L4 : #[Value.int .u8 129, .int .u8 2, .int .u8 97, .int .u8 98, .int .u8 7] = (List.map B8 [129, 2, 97, 98, 7]).toArray := by rfl
theorem L5 : #[Value.int .u8 129, .int .u8 2, .int .u8 129, .int .u8 1, .int .u8 127] = (List.map B8 [129, 2, 129, 1, 127]).toArray := by rfl
theorem L6 : #[Value.int .u8 129, .int .u8 2, .int .u8 128, .int .u8 129, .int .u8 1, .int .u8 97, .int .u8 5] = (List.map B8 [129, 2, 128, 129, 1, 97, 5]).toArray := by rfl
theorem L7 : #[Value.string ⟨#[]⟩, .string ⟨#[97]⟩] = (List.map Value.string [⟨#[]⟩, ⟨#[97]⟩]).toArray := by rfl
theorem L8 : #[Value.int .u8 129, .int .u8 2, .int .u8 128, .int .u8 129, .int .u8 1, .int .u8 97] = (List.map B8 [129, 2, 128, 129, 1, 97]).toArray := by rfl
theorem L9 : #[Value.int .u8 125, .int .u8 254, .int .u8 255] = (List.map B8 [125, 254, 255]).toArray := by rfl
theorem L10 : #[Value.int .i64 1, .int .i64 (-1)] = (List.map I64 [1, -1]).toArray := by rfl
theorem L11 : #[Value.int .u8 129, .int .u8 2, .int .u8 97, .int .u8 98] = (List.map B8 [129, 2, 97, 98]).toArray := by rfl
end Go.Proofs.Ytmjkhmebpciopaa
end

/- the text Ops3 -/
section
/- Laws on full slices: 'b[:len:len]' and an append behind it, which copies. No program in sight. -/
set_option linter.unusedVariables false
set_option linter.unusedSimpArgs false
namespace Go.Dx
open Go.RowKit

section ops
variable {P : Program} {w : World} {ops : Array Oper} {rest : List Oper} {o : Oper} {act : Act} {Q : Exit → Act → World → Prop}
  {ty : TypeId} {pos : String} {after : Array Edge}
/-- 'xs[:len(xs):len(xs)]' -/
theorem cut_full (d : Nat) (t : TypeId) (x hi mx : Operand) (e : TypeId) (ht : P.underlying t = some (.slice e)) (sz : Nat) (hsz : (P.info? e).map (·.size) = some sz)
    (a : Option Addr) (n c : Nat) (hx : act.eval x = .slice a n c) (hnc : n ≤ c) (ku km : IntKind) (uv mv : Int) (hu : act.eval hi = .int ku uv) (hm : act.eval mx = .int km mv)
    (huv : uv = (n : Int)) (hmv : mv = (n : Int)) (hn : a = none → n = 0)
    (hK : wpList P ops Q rest (act.put (some d) (.slice a n n)) w) :
    wpList P ops Q ({ dst := some d, op := .slice t x none (some hi) (some mx), type := ty, pos := pos, after := after, guard := none } :: rest) act w := by
  refine wpList_plain rfl fun K hK' => ?_
  subst huv hmv
  obtain ⟨i0, hi0, hs0⟩ := Option.map_eq_some_iff.1 hsz
  have hrun : (Instr.sliceAt t (.slice a n c) none (some (.int ku (n : Int))) (some (.int km (n : Int)))).run P w = .ok (.slice a n n) w := by
    by_cases h0 : n = 0
    · subst h0
      simp [Instr.sliceAt, Instr.slice, Instr.sliceBounds, Instr.sliceBound, asIntOf, run_underlying ht, sizeOf, typeInfo, hi0, hs0, Addr.add]
    · cases a with
      | none => exact absurd (hn rfl) h0
      | some p =>
        obtain ⟨b, off, sp⟩ := p
        simp [Instr.sliceAt, Instr.slice, Instr.sliceBounds, Instr.sliceBound, asIntOf, run_underlying ht, sizeOf, typeInfo, hi0, hs0, hnc, Addr.add, h0]
  unfold Oper.wp
  simp only [execOp, Option.map_some, Option.map_none, hx, hu, hm, Sem.run_bind, hrun, Result.andThen, Sem.run_pure]
  exact hK' _ _ hK

theorem run_append_full (t tx ty e : TypeId) (i : TypeInfo) (z : Value) (ht : P.underlying t = some (.slice e)) (hi : P.info? e = some i) (hz : i.zero = some z)
    (hzs : z.cells.size = i.size) (a : Option Addr) (n : Nat) (xs : List Value) (hown : Sl w i.size a n n xs)
    (x : Value) (m : Nat) (news : List Value) (hs : Src P i.size tx x m news w)
    (h63 : n + m ≤ maxLen) (hbytes : (n + m) * i.bytes ≤ 140737488355328) :
    ∃ a' c' w', (Builtin.append_ #[t, tx] ty #[.slice a n n, x]).run P w = .ok (.slice a' (n + m) c') w' ∧ Sl w' i.size a' (n + m) c' (xs ++ news) ∧ Below w.heap.size w w' := by
  have hsmall : n + m ≤ 9223372036854775807 := by simp only [maxLen] at h63; omega
  have hlen : (xs ++ news).length = (n + m) * i.size := by rw [List.length_append, hown.1, hs.newsLen, Nat.add_mul]
  have hold : (Builtin.firstCells i.size n (.slice a n n)).run P w.drew = .ok xs.toArray w.drew := by
    cases a with
    | none =>
      have := hown.nil rfl
      obtain rfl : n = 0 := by omega
      have hnews : xs = [] := List.eq_nil_of_length_eq_zero (by simpa using hown.len)
      subst hnews
      exact run_firstCells_none w.drew i.size 0 0 0
    | some p => exact run_firstCells_some w.drew i.size n p n n xs hown.len (by simpa using hown.cell p rfl)
  by_cases hm : m = 0
  · subst hm
    have hnews : news = [] := List.eq_nil_of_length_eq_zero (by simpa using hs.newsLen)
    subst hnews
    refine ⟨a, n, w, ?_, by simpa using hown, Below.refl _ _⟩
    cases a with
    | none =>
      have := hown.nil rfl
      obtain rfl : n = 0 := by omega
      rcases hs.kind with ⟨e', hk⟩ | hk <;> simp [Builtin.append_, run_underlying ht, run_underlying hk, sizeOf, typeInfo, hi, hs.len, hs.cells]
    | some p =>
      have hst : ∀ q : Addr, (storeCells q ([] : List Value)).run P w = .ok () w := by intro q; simp [storeCells]
      rcases hs.kind with ⟨e', hk⟩ | hk <;> simp [Builtin.append_, run_underlying ht, run_underlying hk, sizeOf, typeInfo, hi, hs.len, hs.cells, hst]
  · have hr := run_append_grow_src (P := P) w t tx ty e i z ht hi hz a n n xs hold x m news hs (by omega) (by omega) (growslice_fits (by omega) hbytes)
    have hge := grownCap_ge w (n + m) n e
    have hcm : grownCap w (n + m) n e ≤ maxLen := grownCap_le_maxLen w (n + m) n e h63
    refine ⟨_, _, _, hr, ?_, undrew (Below.alloc (Below.refl w.heap.size w.drew) (Nat.le_refl w.heap.size) _)⟩
    have ho : Own (w.drew.alloc (.cells ((xs ++ news).toArray ++ Builtin.zeroCells z.cells (grownCap w (n + m) n e - (n + m))) e)) 0 e i.size (some ⟨w.heap.size, 0, none⟩) (n + m) (grownCap w (n + m) n e) (xs ++ news) := by
      refine ⟨hlen, .inr ⟨w.heap.size, _, _, rfl, Nat.zero_le _, heap_alloc_new w.drew _, hge, hcm, ?_, ?_⟩⟩
      · simp only [Array.size_append, List.size_toArray, size_zeroCells, hzs, hlen, ← Nat.add_mul]
        congr 1
        omega
      · simp only [Array.toList_append, List.append_assoc]
        rw [← List.append_assoc, ← hlen]
        exact List.take_left
    exact ho.sl

/-- 'append(xs[:n:n], ys...)' -/
theorem append_full (hg : o.guard = none) (s x : Operand) (t : TypeId) (hop : o.op = Op.call { callee := Callee.builtin Builtin.append, args := #[s, x], argTypes := #[t, t] })
    (e : TypeId) (z : Value) (sz bytes : Nat) (ht : P.underlying t = some (.slice e)) (hi : (P.info? e).map (fun i => (i.zero, i.size, i.bytes)) = some (some z, sz, bytes)) (hz : z.cells.size = sz)
    (a : Option Addr) (n : Nat) (xs : List Value) (hs : act.eval s = .slice a n n) (hxs : Sl w sz a n n xs)
    (a2 : Option Addr) (m c2 : Nat) (ys : List Value) (hx : act.eval x = .slice a2 m c2) (hy : Sl w sz a2 m c2 ys) (h1 : ∀ u ∈ ys, u.oneCell' = true)
    (hn : (n + m) * bytes ≤ 140737488355328) (hn2 : n + m ≤ maxLen)
    (hK : ∀ a' c' w', Sl w' sz a' (n + m) c' (xs ++ ys) → Below w.heap.size w w' → wpList P ops Q rest (act.put o.dst (.slice a' (n + m) c')) w') :
    wpList P ops Q (o :: rest) act w := by
  obtain ⟨i, hi0, hz0, hz1, hz2⟩ := info_parts hi
  subst hz1 hz2
  clear hi
  obtain ⟨a', c', w', hrun, ho, hgr⟩ := run_append_full t t o.type e i z ht hi0 hz0 hz a n xs hxs _ m ys (hy.src ht h1) hn2 hn
  refine wpList_plain hg fun K hK' => ?_
  unfold Oper.wp
  simp [execOp, hop, resolve, invoke, builtin, hs, hx, hrun, Result.andThen]
  exact hK' _ _ (hK a' c' w' ho hgr)
end ops
end Go.Dx
end

/- the text Types3 -/
section
namespace Go.Proofs.Ytmjkhmebpciopaa
open Go.RowKit Go.Dx
section
variable {w : World} {ops : Array Oper} {rest : List Oper} {o : Oper} {act : Act} {Q : Exit → Act → World → Prop} {ty : TypeId} {pos : String} {after : Array Edge}
theorem cutfull_b (d : Nat) (x hi mx : Operand) (a : Option Addr) (n c : Nat) (cs : List Value) (hx : act.eval x = .slice a n c) (hs : Sl w 1 a n c cs) (ku km : IntKind) (uv mv : Int) (hu : act.eval hi = .int ku uv) (hm : act.eval mx = .int km mv)
    (huv : uv = (n : Int)) (hmv : mv = (n : Int))
    (hK : Sl w 1 a n n cs → wpList Try.prog ops Q rest (act.put (some d) (.slice a n n)) w) :
    wpList Try.prog ops Q ({ dst := some d, op := .slice 47 x none (some hi) (some mx), type := ty, pos := pos, after := after, guard := none } :: rest) act w :=
  cut_full d 47 x hi mx 5 Try.underlying47 1 size_u8 a n c hx hs.le ku km uv mv hu hm huv hmv (fun h => by have := hs.nil h; have := hs.le; omega)
    (hK ⟨hs.len, Nat.le_refl _, Nat.le_trans hs.le hs.cap, fun h => by have := hs.nil h; have := hs.le; omega, hs.cell⟩)
theorem appfull_b (hg : o.guard = none) (s x : Operand) (hop : o.op = Op.call { callee := Callee.builtin Builtin.append, args := #[s, x], argTypes := #[47, 47] })
    (a : Option Addr) (n : Nat) (xs : List UInt8) (hs : act.eval s = .slice a n n) (hxs : Sl w 1 a n n (xs.map B8))
    (a2 : Option Addr) (m c2 : Nat) (ys : List UInt8) (hx : act.eval x = .slice a2 m c2) (hy : Sl w 1 a2 m c2 (ys.map B8))
    (hn : n + m ≤ 140737488355328)
    (hK : ∀ a' c' w', Sl w' 1 a' (n + m) c' ((xs ++ ys).map B8) → Below w.heap.size w w' → wpList Try.prog ops Q rest (act.put o.dst (.slice a' (n + m) c')) w') :
    wpList Try.prog ops Q (o :: rest) act w :=
  append_full hg s x 47 hop 5 (.int .u8 0) 1 1 Try.underlying47 info_u8 rfl a n _ hs hxs a2 m c2 _ hx hy (one_map _ (fun _ => rfl) _) (by omega) (by unfold maxLen; omega)
    (fun a' c' w' h1 h2 => hK a' c' w' (by rw [List.map_append]; exact h1) h2)
end
end Go.Proofs.Ytmjkhmebpciopaa
end

/- the text C1 -/
section
namespace Go.Proofs.Ytmjkhmebpciopaa
open Go.RowKit Go.Dx

/-- the dots of a cell -/
def dot (c : UInt8) (k : Nat) : Bool := c.toNat / 2 ^ k % 2 == 1
def dotsTo (c : UInt8) (k : Nat) : List Int := List.map (fun j : Nat => (j : Int) + 1) ((List.range k).filter (dot c))
def dotsL (c : UInt8) : List Int := dotsTo c 6
theorem dotsTo_zero (c : UInt8) : dotsTo c 0 = [] := rfl
theorem dotsTo_yes {c : UInt8} {k : Nat} (h : dot c k = true) : dotsTo c (k + 1) = dotsTo c k ++ [(k : Int) + 1] := by
  unfold dotsTo; rw [List.range_succ, List.filter_append]; simp [h]
theorem dotsTo_no {c : UInt8} {k : Nat} (h : dot c k = false) : dotsTo c (k + 1) = dotsTo c k := by
  unfold dotsTo; rw [List.range_succ, List.filter_append]; simp [h]
theorem dotsTo_len (c : UInt8) (k : Nat) : (dotsTo c k).length ≤ k := by
  unfold dotsTo; rw [List.length_map]; exact Nat.le_trans (List.length_filter_le _ _) (by simp)

theorem dot_fin : ∀ n : Fin 256, ∀ k : Fin 6, (bits BinOp.and IntKind.u8 (((n.val : Nat) : Int) / 2 ^ k.val) 1 == 1) = (n.val / 2 ^ k.val % 2 == 1) := by decide +kernel
theorem dot_raw (u : UInt8) (k : Nat) (hk : k < 6) : (bits BinOp.and IntKind.u8 ((u.toNat : Int) / 2 ^ k) 1 == 1) = dot u k := dot_fin ⟨u.toNat, u.toNat_lt⟩ ⟨k, hk⟩

end Go.Proofs.Ytmjkhmebpciopaa
end

/- the text C2 -/
section
namespace Go.Proofs.Ytmjkhmebpciopaa
open Go.RowKit Go.Dx

/-- a number that is no dot; a byte that is no cell -/
def noDot (k : Int) : Bool := decide (k < 1) || decide (6 < k)
def noCell (c : UInt8) : Bool := decide (64 ≤ c.toNat)

def fnv (k : Nat) : Value := .func (.func k) #[] #[]

theorem any_take_no {α : Type} {p : α → Bool} {l : List α} {k : Nat} {x : α} (h : l[k]? = some x) (h0 : (l.take k).any p = false) (hx : p x = false) : (l.take (k + 1)).any p = false := by
  rw [List.take_add_one, h, List.any_append, h0]; simp [hx]
theorem any_of_get {α : Type} {p : α → Bool} {l : List α} {k : Nat} {x : α} (h : l[k]? = some x) (hx : p x = true) : l.any p = true :=
  List.any_eq_true.2 ⟨x, List.mem_of_getElem? h, hx⟩

/-- all cells are from 0 to 63 -/
def validB (l : List UInt8) : Bool := !l.any noCell
theorem gt63 (u : UInt8) : decide (63 < (u.toNat : Int)) = noCell u := by unfold noCell; by_cases h : 64 ≤ u.toNat <;> simp <;> omega
/-- a cell from the back -/
def backC (c : UInt8) : UInt8 := UInt8.ofNat (c.toNat / 8 % 8 + c.toNat % 8 * 8)
theorem back_fin : ∀ n : Fin 256, bits BinOp.or IntKind.u8 (bits BinOp.and IntKind.u8 (((n.val : Nat) : Int) / 8) 7) (bits BinOp.and IntKind.u8 ((n.val : Nat) : Int) 7 * 8 % 256) = ((n.val / 8 % 8 + n.val % 8 * 8 : Nat) : Int) := by decide +kernel
theorem back_raw (u : UInt8) : bits BinOp.or IntKind.u8 (bits BinOp.and IntKind.u8 ((u.toNat : Int) / 8) 7) (bits BinOp.and IntKind.u8 (u.toNat : Int) 7 * 8 % 256) = ((backC u).toNat : Int) := by
  have h := back_fin ⟨u.toNat, u.toNat_lt⟩
  have e : (backC u).toNat = u.toNat / 8 % 8 + u.toNat % 8 * 8 := by unfold backC; rw [UInt8.toNat_ofNat']; omega
  rw [e]; exact h
end Go.Proofs.Ytmjkhmebpciopaa
end

/- the text CP1 -/
section
/- Plain laws on dots and cells: no program in sight. -/
namespace Go.Proofs.Ytmjkhmebpciopaa
open Go.RowKit Go.Dx

def bitN (k : Int) : Nat := 2 ^ (k - 1).toNat
def sumB (l : List Int) : Nat := (l.map bitN).sum
theorem sumB_snoc (l : List Int) (x : Int) : sumB (l ++ [x]) = sumB l + bitN x := by unfold sumB; rw [List.map_append, List.sum_append]; simp
theorem noDot_iff (k : Int) : noDot k = false ↔ 1 ≤ k ∧ k ≤ 6 := by unfold noDot; simp
theorem bit_fin : ∀ x : Fin 6, ∀ s : Fin 64, s.val / 2 ^ x.val % 2 = 0 → s.val + 2 ^ x.val < 64 ∧ ∀ j : Fin 6, ((s.val + 2 ^ x.val) / 2 ^ j.val % 2 = 1 ↔ (s.val / 2 ^ j.val % 2 = 1 ∨ j = x)) := by decide +kernel
theorem sumB_ok (l : List Int) (hd : ∀ x ∈ l, 1 ≤ x ∧ x ≤ 6) (hn : l.Nodup) : sumB l < 64 ∧ ∀ k : Int, 1 ≤ k → k ≤ 6 → (sumB l / bitN k % 2 = 1 ↔ k ∈ l) := by
  induction l with
  | nil => refine ⟨by decide, fun k _ _ => ?_⟩; simp [sumB]
  | cons x l ih =>
    have hx := hd x (by simp)
    obtain ⟨h1, h2⟩ := ih (fun y hy => hd y (by simp [hy])) (List.nodup_cons.1 hn).2
    have hnot : x ∉ l := (List.nodup_cons.1 hn).1
    have h0 : sumB l / 2 ^ (x - 1).toNat % 2 = 0 := by
      have := h2 x hx.1 hx.2
      have h3 : ¬ (sumB l / bitN x % 2 = 1) := fun e => hnot (this.1 e)
      have h3' : ¬ (sumB l / 2 ^ (x - 1).toNat % 2 = 1) := h3
      omega
    obtain ⟨h4, h5⟩ := bit_fin ⟨(x - 1).toNat, by omega⟩ ⟨sumB l, h1⟩ h0
    have e : sumB (x :: l) = sumB l + 2 ^ (x - 1).toNat := by unfold sumB; rw [List.map_cons, List.sum_cons, Nat.add_comm]; rfl
    rw [e]
    refine ⟨h4, fun k hk1 hk2 => ?_⟩
    have h6 := h5 ⟨(k - 1).toNat, by omega⟩
    have h7 := h2 k hk1 hk2
    unfold bitN at h7 ⊢
    rw [List.mem_cons]
    constructor
    · intro h
      rcases h6.1 h with h | h
      · exact .inr (h7.1 h)
      · left
        have := congrArg Fin.val h
        simp at this
        omega
    · rintro (rfl | h)
      · exact h6.2 (.inr rfl)
      · exact h6.2 (.inl (h7.2 h))

/-- Of: the cell, and the error -/
def ofL (l : List Int) : Nat × Int := if l.any noDot then (0, 1) else if l.Nodup then (sumB l, 0) else (0, 7)
theorem ofL_arg {l : List Int} (h : l.any noDot = true) : ofL l = (0, 1) := by unfold ofL; rw [if_pos h]
theorem ofL_ok {l : List Int} (h : l.any noDot = false) (hn : l.Nodup) : ofL l = (sumB l, 0) := by unfold ofL; rw [if_neg (by simp [h]), if_pos hn]
theorem ofL_twice {l : List Int} (h : l.any noDot = false) (hn : ¬ l.Nodup) : ofL l = (0, 7) := by unfold ofL; rw [if_neg (by simp [h]), if_neg hn]
theorem any_no {l : List Int} (h : l.any noDot = false) : ∀ x ∈ l, 1 ≤ x ∧ x ≤ 6 := by
  intro x hx
  have := List.any_eq_false.1 h x hx
  exact (noDot_iff x).1 (by simpa using this)
theorem take_snoc {α : Type} {l : List α} {k : Nat} {x : α} (h : l[k]? = some x) : l.take (k + 1) = l.take k ++ [x] := by rw [List.take_add_one, h]; rfl
theorem nodup_snoc {l : List Int} {x : Int} : (l ++ [x]).Nodup ↔ l.Nodup ∧ x ∉ l := by
  rw [List.nodup_append]; simp
  intro _
  exact ⟨fun h hx => h x hx rfl, fun h a ha e => h (e ▸ ha)⟩
end Go.Proofs.Ytmjkhmebpciopaa
end

/- the text C3 -/
section
namespace Go.Proofs.Ytmjkhmebpciopaa
open Go.RowKit Go.Dx

def sumBit (s : Nat) (x : Int) : Prop := s / bitN x % 2 = 1
theorem raw_bit {x : Int} (h : 1 ≤ x ∧ x ≤ 6) : (2 : Int) ^ (x.toNat - 1) % 256 = ((bitN x : Nat) : Int) := by
  obtain ⟨h1, h2⟩ := h
  have : x = 1 ∨ x = 2 ∨ x = 3 ∨ x = 4 ∨ x = 5 ∨ x = 6 := by omega
  rcases this with rfl | rfl | rfl | rfl | rfl | rfl <;> rfl
theorem and_fin : ∀ s : Fin 64, ∀ j : Fin 6, (bits BinOp.and IntKind.u8 ((s.val : Nat) : Int) ((2 ^ j.val : Nat) : Int) != 0) = (s.val / 2 ^ j.val % 2 == 1) ∧ (s.val / 2 ^ j.val % 2 = 0 → bits BinOp.or IntKind.u8 ((s.val : Nat) : Int) ((2 ^ j.val : Nat) : Int) = ((s.val + 2 ^ j.val : Nat) : Int)) := by decide +kernel
theorem and_yes {s : Nat} (hs : s < 64) {x : Int} (h : 1 ≤ x ∧ x ≤ 6) (hb : sumBit s x) : (bits BinOp.and IntKind.u8 (s : Int) ((bitN x : Nat) : Int) != 0) = true := by
  rw [show bitN x = 2 ^ (x - 1).toNat from rfl, (and_fin ⟨s, hs⟩ ⟨(x - 1).toNat, by omega⟩).1]; exact beq_iff_eq.2 hb
theorem and_not {s : Nat} (hs : s < 64) {x : Int} (h : 1 ≤ x ∧ x ≤ 6) (hb : ¬ sumBit s x) : (bits BinOp.and IntKind.u8 (s : Int) ((bitN x : Nat) : Int) != 0) = false ∧ bits BinOp.or IntKind.u8 (s : Int) ((bitN x : Nat) : Int) = ((s + bitN x : Nat) : Int) := by
  have h1 := and_fin ⟨s, hs⟩ ⟨(x - 1).toNat, by omega⟩
  have h2 : s / 2 ^ (x - 1).toNat % 2 = 0 := by have : ¬ (s / 2 ^ (x - 1).toNat % 2 = 1) := hb; omega
  rw [show bitN x = 2 ^ (x - 1).toNat from rfl]
  refine ⟨?_, h1.2 h2⟩
  rw [h1.1]; exact beq_eq_false_iff_ne.2 hb

abbrev ROf (r : Nat × Int) : Value := .tuple #[.int .u8 (r.1 : Int), .int .i64 r.2]

end Go.Proofs.Ytmjkhmebpciopaa
end

/- the text C4 -/
section
namespace Go.Proofs.Ytmjkhmebpciopaa
open Go.RowKit Go.Dx

theorem half_step (n k : Nat) : n / 2 ^ k / 2 = n / 2 ^ (k + 1) := by rw [Nat.div_div_eq_div_mul, Nat.pow_succ]
end Go.Proofs.Ytmjkhmebpciopaa
end

/- the text C5 -/
section
namespace Go.Proofs.Ytmjkhmebpciopaa
open Go.RowKit Go.Dx

theorem bitN_le {x : Int} (h : 1 ≤ x ∧ x ≤ 6) : bitN x ≤ 32 := by
  unfold bitN
  exact Nat.pow_le_pow_right (n := 2) (j := 5) (by omega) (by omega)

end Go.Proofs.Ytmjkhmebpciopaa
end

/- the text C6 -/
section
namespace Go.Proofs.Ytmjkhmebpciopaa
open Go.RowKit Go.Dx

def flipD (x : Int) : Int := if x ≤ 3 then x + 3 else x - 3
theorem flip_lo {x : Int} (h : x ≤ 3) : flipD x = x + 3 := if_pos h
theorem flip_hi {x : Int} (h : ¬ x ≤ 3) : flipD x = x - 3 := if_neg h
theorem dots_mem {u : UInt8} {k : Nat} {x : Int} (h : x ∈ dotsTo u k) : 1 ≤ x ∧ x ≤ k := by
  unfold dotsTo at h
  obtain ⟨j, hj, rfl⟩ := List.mem_map.1 h
  have := List.mem_range.1 (List.mem_filter.1 hj).1
  omega
theorem back_of_fin : ∀ n : Fin 256, ofL ((dotsL (UInt8.ofNat n.val)).map flipD) = ((backC (UInt8.ofNat n.val)).toNat, 0) := by decide +kernel
theorem of_u8 (u : UInt8) : UInt8.ofNat u.toNat = u := by simp
theorem back_of (u : UInt8) : ofL ((dotsL u).map flipD) = ((backC u).toNat, 0) := by
  have h := back_of_fin ⟨u.toNat, u.toNat_lt⟩
  rw [of_u8] at h; exact h

end Go.Proofs.Ytmjkhmebpciopaa
end

/- the text C7 -/
section
namespace Go.Proofs.Ytmjkhmebpciopaa
open Go.RowKit Go.Dx

end Go.Proofs.Ytmjkhmebpciopaa
end

/- the text C8 -/
section
namespace Go.Proofs.Ytmjkhmebpciopaa
open Go.RowKit Go.Dx

abbrev Hd := Option Addr × Nat × Nat
def hv (h : Hd) : Value := .slice h.1 h.2.1 h.2.2
/-- A page: the slice of its lines, and each line. -/
structure Pg (w : World) (a : Option Addr) (n c : Nat) (hs : List Hd) (p : List (List UInt8)) : Prop where
  top : Sl w 1 a n c (hs.map hv)
  len : hs.length = p.length
  row : ∀ (i : Nat) (h : Hd) (r : List UInt8), hs[i]? = some h → p[i]? = some r → Sl w 1 h.1 h.2.1 h.2.2 (r.map B8)
theorem Pg.below {w w' : World} {a : Option Addr} {n c : Nat} {hs : List Hd} {p : List (List UInt8)} (h : Pg w a n c hs p) (hb : Below w.heap.size w w') : Pg w' a n c hs p :=
  ⟨h.top.below hb, h.len, fun i x r h1 h2 => (h.row i x r h1 h2).below hb⟩
theorem Pg.drew {w : World} {a : Option Addr} {n c : Nat} {hs : List Hd} {p : List (List UInt8)} (h : Pg w a n c hs p) : Pg w.drew a n c hs p :=
  ⟨h.top.drew, h.len, fun i x r h1 h2 => (h.row i x r h1 h2).drew⟩
theorem Pg.n_eq {w : World} {a : Option Addr} {n c : Nat} {hs : List Hd} {p : List (List UInt8)} (h : Pg w a n c hs p) : n = p.length := by rw [h.top.n_eq, h.len]
theorem Pg.get {w : World} {a : Option Addr} {n c : Nat} {hs : List Hd} {p : List (List UInt8)} (h : Pg w a n c hs p) {i : Nat} {r : List UInt8} (hr : p[i]? = some r) :
    ∃ a' c', (hs.map hv)[i]? = some (.slice a' r.length c') ∧ Sl w 1 a' r.length c' (r.map B8) := by
  have hi : i < hs.length := by rw [h.len]; exact (List.getElem?_eq_some_iff.1 hr).1
  have hx : hs[i]? = some hs[i] := by simp [hi]
  have h1 := h.row i _ r hx hr
  have h2 := h1.n_eq
  refine ⟨hs[i].1, hs[i].2.2, ?_, ?_⟩
  · rw [List.getElem?_map, hx]; unfold hv; rw [← h2]; rfl
  · rw [← h2]; exact h1

theorem size_row : (Try.prog.info? 47).map (·.size) = some 1 := by kernel_rfl
section
variable {w : World} {ops : Array Oper} {rest : List Oper} {act : Act} {Q : Exit → Act → World → Prop} {ty : TypeId} {pos : String} {after : Array Edge}
theorem idx_p (d : Nat) (x y : Operand) (a : Option Addr) (n c : Nat) (hs : List Hd) (hx : act.eval x = .slice a n c) (ht : Sl w 1 a n c (hs.map hv)) (k : IntKind) (iv : Int) (i : Nat) (hy : act.eval y = .int k iv) (hiv : iv = (i : Int))
    (u : Value) (hu : (hs.map hv)[i]? = some u)
    (hK : ∀ b o, w.cell? ⟨b, o, none⟩ = some u → b < w.heap.size → wpList Try.prog ops Q rest (act.put (some d) (.pointer (some ⟨b, o, none⟩))) w) :
    wpList Try.prog ops Q ({ dst := some d, op := .indexAddr 29 x y, type := ty, pos := pos, after := after, guard := none } :: rest) act w :=
  index_sl d 29 x y 47 Try.underlying29 size_row a n c _ hx ht k iv i hy hiv u hu hK
end

/-- cells that are not 0; dots -/
def cN (s : List UInt8) : Nat := (s.filter (· != 0)).length
def cM (s : List UInt8) : Nat := (s.map fun c => (dotsL c).length).sum
theorem cN_le (s : List UInt8) : cN s ≤ s.length := List.length_filter_le _ _
theorem cM_le (s : List UInt8) : cM s ≤ 6 * s.length := by
  unfold cM
  induction s with
  | nil => simp
  | cons c s ih => have := dotsTo_len c 6; simp only [List.map_cons, List.sum_cons, List.length_cons]; unfold dotsL at *; omega
theorem cN_snoc (s : List UInt8) (c : UInt8) : cN (s ++ [c]) = cN s + (if c = 0 then 0 else 1) := by
  unfold cN; rw [List.filter_append, List.length_append]
  by_cases h : c = 0 <;> simp [h]
theorem cM_snoc (s : List UInt8) (c : UInt8) : cM (s ++ [c]) = cM s + (dotsL c).length := by
  unfold cM; rw [List.map_append, List.sum_append]; simp
theorem seen_next {p : List (List UInt8)} {k : Nat} {r : List UInt8} (h : p[k]? = some r) : (p.take (k + 1)).flatten = (p.take k).flatten ++ r := by rw [take_snoc h, List.flatten_append]; simp
theorem seen_le {p : List (List UInt8)} {k : Nat} {r : List UInt8} (h : p[k]? = some r) (j : Nat) : ((p.take k).flatten ++ r.take j).length ≤ p.flatten.length := by
  have e : p.flatten = (p.take (k + 1)).flatten ++ (p.drop (k + 1)).flatten := by rw [← List.flatten_append, List.take_append_drop]
  rw [e, seen_next h]
  simp only [List.length_append, List.length_take]
  omega
theorem u8_ne {c : UInt8} (h : c ≠ 0) : ((c.toNat : Int) != 0) = true := by
  have : c.toNat ≠ 0 := fun e => h (UInt8.toNat_inj.1 e)
  simp; exact this

end Go.Proofs.Ytmjkhmebpciopaa
end

/- the text T1 -/
section
namespace Go.Proofs.Ytmjkhmebpciopaa
open Go.RowKit Go.Dx

/-- a cell at which an entry is none -/
def badAt (l : List UInt8) (i : Nat) : Bool := decide (63 < (l.getD i 0).toNat) || (decide (0 < i) && ((l.getD i 0).toNat == 0 && (l.getD (i - 1) 0).toNat == 0))
def entryB (l : List UInt8) : Bool := decide (1 ≤ l.length ∧ l.length ≤ 40) && ((l.getD 0 0).toNat != 0 && ((l.getD (l.length - 1) 0).toNat != 0 && !(List.range l.length).any (badAt l)))
theorem range_no {p : Nat → Bool} {k : Nat} (h : (List.range k).any p = false) (hk : p k = false) : (List.range (k + 1)).any p = false := by rw [List.range_succ, List.any_append, h]; simp [hk]
theorem range_yes {p : Nat → Bool} {k n : Nat} (h : k < n) (hk : p k = true) : (List.range n).any p = true := List.any_eq_true.2 ⟨k, List.mem_range.2 h, hk⟩
theorem entry_len {l : List UInt8} (h : ¬ (1 ≤ l.length ∧ l.length ≤ 40)) : entryB l = false := by unfold entryB; rw [decide_eq_false h]; rfl
theorem entry_first {l : List UInt8} (h : (l.getD 0 0).toNat = 0) : entryB l = false := by unfold entryB; rw [h]; simp
theorem entry_last {l : List UInt8} (h : (l.getD (l.length - 1) 0).toNat = 0) : entryB l = false := by unfold entryB; rw [h]; simp
theorem entry_bad {l : List UInt8} (h : (List.range l.length).any (badAt l) = true) : entryB l = false := by unfold entryB; rw [h]; simp
theorem entry_yes {l : List UInt8} (h1 : 1 ≤ l.length) (h2 : l.length ≤ 40) (h3 : (l.getD 0 0).toNat ≠ 0) (h4 : (l.getD (l.length - 1) 0).toNat ≠ 0) (h5 : (List.range l.length).any (badAt l) = false) : entryB l = true := by
  unfold entryB; rw [h5, decide_eq_true ⟨h1, h2⟩, bne_iff_ne.2 h3, bne_iff_ne.2 h4]; rfl
theorem getD_of {l : List UInt8} {i : Nat} {x : UInt8} (h : l[i]? = some x) : l.getD i 0 = x := by rw [List.getD_eq_getElem?_getD, h]; rfl

set_option maxRecDepth 100000 in
set_option maxHeartbeats 1000000 in
theorem tab_entry (l : List UInt8) (a : Option Addr) (n c : Nat) (w : World) (hs : Sl w 1 a n c (l.map B8)) :
    Calls Try.prog 48 #[.slice a n c] w fun e w' => e = .returned (.bool (entryB l)) ∧ w = w' := by
  have HN := hide hs.n_eq
  have hm1 := Nat.le_trans hs.le hs.cap
  unfold maxLen at hm1
  rcases Nat.eq_zero_or_pos n with h0 | h0
  · subst h0
    have HE := hide (entry_len (l := l) (by rw [← HN.out]; omega))
    go_enter Try.func48, Try.ntmps48
    go_wp2_with fail
    go_ret
    exact ⟨by rw [HE.out]; rfl, rfl⟩
  obtain ⟨m, rfl⟩ : ∃ m, n = m + 1 := ⟨n - 1, by omega⟩
  by_cases h40 : m + 1 ≤ 40
  case neg =>
    have HE := hide (entry_len (l := l) (by rw [← HN.out]; omega))
    have d1 : decide ((m : Int) + 1 < 1) = false := decide_eq_false (by omega)
    have d2 : decide (40 < (m : Int) + 1) = true := decide_eq_true (by omega)
    go_enter Try.func48, Try.ntmps48
    go_wp2_with fail
    go_ret
    exact ⟨by rw [HE.out]; rfl, rfl⟩
  have d1 : decide ((m : Int) + 1 < 1) = false := decide_eq_false (by omega)
  have d2 : decide (40 < (m : Int) + 1) = false := decide_eq_false (by omega)
  obtain ⟨b, o, hab, hbw, hcell⟩ := hs.ex (by rw [List.length_map, ← HN.out]; omega)
  subst hab
  have HC : Hid (∀ i x, l[i]? = some x → w.cell? ⟨b, o + i, none⟩ = some (.int .u8 (x.toNat : Int))) := hide (fun i x h => hcell i _ (by rw [List.getElem?_map, h]; rfl))
  obtain ⟨x0, hx0⟩ : ∃ x, l[0]? = some x := ⟨l[0]'(by rw [← HN.out]; omega), by simp⟩
  obtain ⟨xm, hxm⟩ : ∃ x, l[m]? = some x := ⟨l[m]'(by rw [← HN.out]; omega), by simp⟩
  have c0 := HC.out 0 x0 hx0
  have cm := HC.out m xm hxm
  have HX0 := hide (getD_of hx0)
  have HXM : Hid (l.getD (l.length - 1) 0 = xm) := by show _ = _; rw [← HN.out, Nat.add_sub_cancel]; exact getD_of hxm
  rw [Nat.add_zero] at c0
  clear hcell hx0 hxm
  by_cases hz0 : x0.toNat = 0
  · have e0 : ((x0.toNat : Int) == 0) = true := by simp [hz0]
    have HE := hide (entry_first (l := l) (by rw [HX0.out]; exact hz0))
    clear hz0
    go_enter Try.func48, Try.ntmps48
    go_wp2_with fail
    go_ret
    exact ⟨by rw [HE.out]; rfl, rfl⟩
  have e0 : ((x0.toNat : Int) == 0) = false := beq_eq_false_iff_ne.2 (by omega)
  by_cases hzm : xm.toNat = 0
  · have em : ((xm.toNat : Int) == 0) = true := by simp [hzm]
    have HE := hide (entry_last (l := l) (by rw [HXM.out]; exact hzm))
    clear hzm hz0
    go_enter Try.func48, Try.ntmps48
    go_wp2_with fail
    go_ret
    exact ⟨by rw [HE.out]; rfl, rfl⟩
  have em : ((xm.toNat : Int) == 0) = false := beq_eq_false_iff_ne.2 (by omega)
  have HY : Hid ((List.range l.length).any (badAt l) = false → entryB l = true) := hide (fun h => entry_yes (by rw [← HN.out]; omega) (by rw [← HN.out]; omega) (by rw [HX0.out]; exact hz0) (by rw [HXM.out]; exact hzm) h)
  clear hz0 hzm
  go_enter Try.func48, Try.ntmps48
  go_wp2_with fail
  clear c0 cm e0 em
  go_loopg [30] (m + 1) (fun g i w' => ∃ (k : Nat), k ≤ m + 1 ∧ g = m + 1 - k ∧ Hid ((List.range k).any (badAt l) = false) ∧ i = .int .i64 k ∧ w = w')
  case atStart => exact ⟨0, by omega, by omega, hide rfl, rfl, rfl⟩
  case round =>
    obtain ⟨k, hk, hg, HT, rfl, rfl⟩ := hrel
    have HG := hide hg
    clear hg
    by_cases hkl : k < m + 1
    · obtain ⟨u, hu⟩ : ∃ x, l[k]? = some x := ⟨l[k]'(by rw [← HN.out]; exact hkl), by simp⟩
      have cu := HC.out k u hu
      have HU := hide (getD_of hu)
      clear hu
      by_cases h63 : 63 < u.toNat
      · have HB : Hid (entryB l = false) := hide (entry_bad (range_yes (k := k) (by rw [← HN.out]; exact hkl) (by unfold badAt; rw [HU.out, decide_eq_true h63]; rfl)))
        have d3 : decide (63 < (u.toNat : Int)) = true := decide_eq_true (by omega)
        go_wp2_with fail
        go_ret
        exact ⟨by rw [HB.out]; rfl, rfl⟩
      · have d3 : decide (63 < (u.toNat : Int)) = false := decide_eq_false (by omega)
        rcases Nat.eq_zero_or_pos k with hk0 | hk0
        · subst hk0
          rw [Nat.add_zero] at cu
          have HB : Hid (badAt l 0 = false) := hide (by unfold badAt; rw [HU.out, decide_eq_false h63]; rfl)
          go_wp2_with fail
          go_roundg (m + 1 - (0 + 1))
          case measure => have := HG.out; omega
          case rel => exact ⟨0 + 1, by omega, rfl, hide (range_no HT.out HB.out), by go_num, rfl⟩
        · obtain ⟨j, rfl⟩ : ∃ j, k = j + 1 := ⟨k - 1, by omega⟩
          obtain ⟨v, hv⟩ : ∃ x, l[j]? = some x := ⟨l[j]'(by rw [← HN.out]; omega), by simp⟩
          have cv := HC.out j v hv
          have HV := hide (getD_of hv)
          have d4 : decide (0 < (j : Int) + 1) = true := decide_eq_true (by omega)
          have d5 : max (j : Int) 0 = (j : Int) := by omega
          clear hv
          have bad : Hid (badAt l (j + 1) = (u.toNat == 0 && v.toNat == 0)) := hide (by unfold badAt; rw [HU.out, Nat.add_sub_cancel, HV.out, decide_eq_false h63]; simp)
          by_cases hu0 : u.toNat = 0
          · have e1 : ((u.toNat : Int) == 0) = true := by simp [hu0]
            by_cases hv0 : v.toNat = 0
            · have e2 : ((v.toNat : Int) == 0) = true := by simp [hv0]
              have HB : Hid (entryB l = false) := hide (entry_bad (range_yes (k := j + 1) (by rw [← HN.out]; exact hkl) (by rw [bad.out, hu0, hv0]; rfl)))
              clear hu0 hv0
              go_wp2_with fail
              go_ret
              exact ⟨by rw [HB.out]; rfl, rfl⟩
            · have e2 : ((v.toNat : Int) == 0) = false := beq_eq_false_iff_ne.2 (by omega)
              have HB : Hid (badAt l (j + 1) = false) := hide (by rw [bad.out]; simp [hv0])
              clear hu0 hv0
              go_wp2_with fail
              go_roundg (m + 1 - (j + 1 + 1))
              case measure => have := HG.out; omega
              case rel => exact ⟨j + 1 + 1, by omega, rfl, hide (range_no HT.out HB.out), by go_num, rfl⟩
          · have e1 : ((u.toNat : Int) == 0) = false := beq_eq_false_iff_ne.2 (by omega)
            have HB : Hid (badAt l (j + 1) = false) := hide (by rw [bad.out]; simp [hu0])
            clear hu0
            go_wp2_with fail
            go_roundg (m + 1 - (j + 1 + 1))
            case measure => have := HG.out; omega
            case rel => exact ⟨j + 1 + 1, by omega, rfl, hide (range_no HT.out HB.out), by go_num, rfl⟩
    · obtain rfl : k = m + 1 := by omega
      have HB : Hid (entryB l = true) := hide (HY.out (by rw [← HN.out]; exact HT.out))
      go_wp2_with fail
      go_ret
      exact ⟨by rw [HB.out]; rfl, rfl⟩

set_option maxRecDepth 100000 in
set_option maxHeartbeats 1000000 in
theorem ref15_Entry (l : List UInt8) (a : Option Addr) (n c : Nat) (w : World) (hs : Sl w 1 a n c (l.map B8)) :
    Calls Try.prog 55 #[.slice a n c] w fun e w' => e = .returned (.bool (entryB l)) ∧ w = w' := by
  have HN := hide hs.n_eq
  have hm1 := Nat.le_trans hs.le hs.cap
  unfold maxLen at hm1
  rcases Nat.eq_zero_or_pos n with h0 | h0
  · subst h0
    have HE := hide (entry_len (l := l) (by rw [← HN.out]; omega))
    go_enter Try.func55, Try.ntmps55
    go_wp2_with fail
    go_ret
    exact ⟨by rw [HE.out]; rfl, rfl⟩
  obtain ⟨m, rfl⟩ : ∃ m, n = m + 1 := ⟨n - 1, by omega⟩
  by_cases h40 : m + 1 ≤ 40
  case neg =>
    have HE := hide (entry_len (l := l) (by rw [← HN.out]; omega))
    have d1 : decide ((m : Int) + 1 < 1) = false := decide_eq_false (by omega)
    have d2 : decide (40 < (m : Int) + 1) = true := decide_eq_true (by omega)
    go_enter Try.func55, Try.ntmps55
    go_wp2_with fail
    go_ret
    exact ⟨by rw [HE.out]; rfl, rfl⟩
  have d1 : decide ((m : Int) + 1 < 1) = false := decide_eq_false (by omega)
  have d2 : decide (40 < (m : Int) + 1) = false := decide_eq_false (by omega)
  obtain ⟨b, o, hab, hbw, hcell⟩ := hs.ex (by rw [List.length_map, ← HN.out]; omega)
  subst hab
  have HC : Hid (∀ i x, l[i]? = some x → w.cell? ⟨b, o + i, none⟩ = some (.int .u8 (x.toNat : Int))) := hide (fun i x h => hcell i _ (by rw [List.getElem?_map, h]; rfl))
  obtain ⟨x0, hx0⟩ : ∃ x, l[0]? = some x := ⟨l[0]'(by rw [← HN.out]; omega), by simp⟩
  obtain ⟨xm, hxm⟩ : ∃ x, l[m]? = some x := ⟨l[m]'(by rw [← HN.out]; omega), by simp⟩
  have c0 := HC.out 0 x0 hx0
  have cm := HC.out m xm hxm
  have HX0 := hide (getD_of hx0)
  have HXM : Hid (l.getD (l.length - 1) 0 = xm) := by show _ = _; rw [← HN.out, Nat.add_sub_cancel]; exact getD_of hxm
  rw [Nat.add_zero] at c0
  clear hcell hx0 hxm
  by_cases hz0 : x0.toNat = 0
  · have e0 : ((x0.toNat : Int) == 0) = true := by simp [hz0]
    have HE := hide (entry_first (l := l) (by rw [HX0.out]; exact hz0))
    clear hz0
    go_enter Try.func55, Try.ntmps55
    go_wp2_with fail
    go_ret
    exact ⟨by rw [HE.out]; rfl, rfl⟩
  have e0 : ((x0.toNat : Int) == 0) = false := beq_eq_false_iff_ne.2 (by omega)
  by_cases hzm : xm.toNat = 0
  · have em : ((xm.toNat : Int) == 0) = true := by simp [hzm]
    have HE := hide (entry_last (l := l) (by rw [HXM.out]; exact hzm))
    clear hzm hz0
    go_enter Try.func55, Try.ntmps55
    go_wp2_with fail
    go_ret
    exact ⟨by rw [HE.out]; rfl, rfl⟩
  have em : ((xm.toNat : Int) == 0) = false := beq_eq_false_iff_ne.2 (by omega)
  have HY : Hid ((List.range l.length).any (badAt l) = false → entryB l = true) := hide (fun h => entry_yes (by rw [← HN.out]; omega) (by rw [← HN.out]; omega) (by rw [HX0.out]; exact hz0) (by rw [HXM.out]; exact hzm) h)
  clear hz0 hzm
  go_enter Try.func55, Try.ntmps55
  go_wp2_with fail
  clear c0 cm e0 em
  go_loopg [3] (m + 1) (fun g i w' => ∃ (k : Nat), k ≤ m + 1 ∧ g = m + 1 - k ∧ Hid ((List.range k).any (badAt l) = false) ∧ i = .int .i64 k ∧ w = w')
  case atStart => exact ⟨0, by omega, by omega, hide rfl, rfl, rfl⟩
  case round =>
    obtain ⟨k, hk, hg, HT, rfl, rfl⟩ := hrel
    have HG := hide hg
    clear hg
    by_cases hkl : k < m + 1
    · obtain ⟨u, hu⟩ : ∃ x, l[k]? = some x := ⟨l[k]'(by rw [← HN.out]; exact hkl), by simp⟩
      have cu := HC.out k u hu
      have HU := hide (getD_of hu)
      clear hu
      by_cases h63 : 63 < u.toNat
      · have HB : Hid (entryB l = false) := hide (entry_bad (range_yes (k := k) (by rw [← HN.out]; exact hkl) (by unfold badAt; rw [HU.out, decide_eq_true h63]; rfl)))
        have d3 : decide (63 < (u.toNat : Int)) = true := decide_eq_true (by omega)
        go_wp2_with fail
        go_ret
        exact ⟨by rw [HB.out]; rfl, rfl⟩
      · have d3 : decide (63 < (u.toNat : Int)) = false := decide_eq_false (by omega)
        rcases Nat.eq_zero_or_pos k with hk0 | hk0
        · subst hk0
          rw [Nat.add_zero] at cu
          have HB : Hid (badAt l 0 = false) := hide (by unfold badAt; rw [HU.out, decide_eq_false h63]; rfl)
          go_wp2_with fail
          go_roundg (m + 1 - (0 + 1))
          case measure => have := HG.out; omega
          case rel => exact ⟨0 + 1, by omega, rfl, hide (range_no HT.out HB.out), by go_num, rfl⟩
        · obtain ⟨j, rfl⟩ : ∃ j, k = j + 1 := ⟨k - 1, by omega⟩
          obtain ⟨v, hv⟩ : ∃ x, l[j]? = some x := ⟨l[j]'(by rw [← HN.out]; omega), by simp⟩
          have cv := HC.out j v hv
          have HV := hide (getD_of hv)
          have d4 : decide (0 < (j : Int) + 1) = true := decide_eq_true (by omega)
          have d5 : max (j : Int) 0 = (j : Int) := by omega
          clear hv
          have bad : Hid (badAt l (j + 1) = (u.toNat == 0 && v.toNat == 0)) := hide (by unfold badAt; rw [HU.out, Nat.add_sub_cancel, HV.out, decide_eq_false h63]; simp)
          by_cases hu0 : u.toNat = 0
          · have e1 : ((u.toNat : Int) == 0) = true := by simp [hu0]
            by_cases hv0 : v.toNat = 0
            · have e2 : ((v.toNat : Int) == 0) = true := by simp [hv0]
              have HB : Hid (entryB l = false) := hide (entry_bad (range_yes (k := j + 1) (by rw [← HN.out]; exact hkl) (by rw [bad.out, hu0, hv0]; rfl)))
              clear hu0 hv0
              go_wp2_with fail
              go_ret
              exact ⟨by rw [HB.out]; rfl, rfl⟩
            · have e2 : ((v.toNat : Int) == 0) = false := beq_eq_false_iff_ne.2 (by omega)
              have HB : Hid (badAt l (j + 1) = false) := hide (by rw [bad.out]; simp [hv0])
              clear hu0 hv0
              go_wp2_with fail
              go_roundg (m + 1 - (j + 1 + 1))
              case measure => have := HG.out; omega
              case rel => exact ⟨j + 1 + 1, by omega, rfl, hide (range_no HT.out HB.out), by go_num, rfl⟩
          · have e1 : ((u.toNat : Int) == 0) = false := beq_eq_false_iff_ne.2 (by omega)
            have HB : Hid (badAt l (j + 1) = false) := hide (by rw [bad.out]; simp [hu0])
            clear hu0
            go_wp2_with fail
            go_roundg (m + 1 - (j + 1 + 1))
            case measure => have := HG.out; omega
            case rel => exact ⟨j + 1 + 1, by omega, rfl, hide (range_no HT.out HB.out), by go_num, rfl⟩
    · obtain rfl : k = m + 1 := by omega
      have HB : Hid (entryB l = true) := hide (HY.out (by rw [← HN.out]; exact HT.out))
      go_wp2_with fail
      go_ret
      exact ⟨by rw [HB.out]; rfl, rfl⟩
end Go.Proofs.Ytmjkhmebpciopaa
end

/- the text Ops4 -/
section
/- Regions that draw their order and whose callees make memory of their own: walked once, at the class 'whatever came on top'. No program in sight. -/
set_option linter.unusedVariables false
namespace Go.Dx
open Go.RowKit

/-- the worlds on top of w -/
structure OnTop (w : World) where
  v : World
  h : Below w.heap.size w v
theorem wp_region_below {P : Program} {id : Nat} {Q : Exit → Act → World → Prop} {a : Act} {w : World} {l : List Oper} (hm : P.follows .mixedOrders = true) (hB : Region.lexB .any l.toArray = true)
    (h : wpQuiet P l.toArray (fun w' => ∃ p : OnTop w, w' = p.v) (fun a' => ∀ w', (∃ p : OnTop w, w' = p.v) → Q .normal a' w') l a) : (Code.region id l.toArray true).wp P Q a w :=
  wp_region_quiet (C := fun w' => ∃ p : OnTop w, w' = p.v) hm hB ⟨⟨w.drewN 1, Still.below 1⟩, rfl⟩ (by simpa using h)
theorem onTop_call {P : Program} {f : FuncId} {args : Array Value} {w : World} {p : OnTop w} {v : Value}
    (h : Calls P f args p.v fun e w' => e = .returned v ∧ Below p.v.heap.size p.v w') : Calls P f args p.v fun e w'' => e = .returned v ∧ ∃ q : OnTop w, w'' = q.v :=
  h.mono fun _ w'' ⟨he, hb⟩ => ⟨he, ⟨w'', p.h.trans (hb.mono p.h.size)⟩, rfl⟩
section
variable {P : Program} {C : World → Prop} {ops : Array Oper} {rest : List Oper} {act : Act} {Q : Act → Prop}
/-- an operation of a quiet walk whose value is known, at whatever class of worlds, guarded or not -/
theorem quiet_at {o : Oper} (v : Value) (hw : Region.wanted o (yielded ops act.tmps) = true) (h : ∀ w, (execOp act.eval o).run P w = .ok (.value v) w)
    (hK : wpQuiet P ops C Q rest (act.put o.dst v)) : wpQuiet P ops C Q (o :: rest) act := by
  refine wpQuiet_step fun K hK' => ?_
  rw [if_pos hw]
  refine ⟨v, ?_, hK' _ hK⟩
  intro w' _
  unfold Oper.quietAt
  rw [h w']
  exact ⟨rfl, rfl⟩
end
end Go.Dx
end

/- the text Box -/
section
/- Blocks that are known whole: local arrays and structs. Laws of the walk on whole loads and stores, cuts of arrays, results that lie in memory. No program in sight. -/
set_option linter.unusedVariables false
set_option linter.unusedSimpArgs false
namespace Go.Dx
open Go.RowKit

/-- block g is just the cells cs of element type t -/
def Box (w : World) (g : Nat) (t : TypeId) (cs : List Value) : Prop := w.heap[g]? = some (.cells cs.toArray t (0, 0))
section
variable {w w' : World} {g : Nat} {t : TypeId} {cs : List Value}
theorem Box.lt (h : Box w g t cs) : g < w.heap.size := (Array.getElem?_eq_some_iff.1 h).1
theorem Box.cell (h : Box w g t cs) (j : Nat) : w.cell? ⟨g, j, none⟩ = cs[j]? := by rw [cell_of_row w g j cs.toArray t (0, 0) h]; simp
theorem Box.at_ (h : Box w g t cs) {j : Nat} {u : Value} (hu : cs[j]? = some u) : w.cell? ⟨g, j, none⟩ = some u := by rw [h.cell, hu]
theorem Box.free (h : Box w g t cs) (j : Nat) : w.frozen? ⟨g, j, none⟩ = false := by unfold Box at h; simp [World.frozen?, h]
theorem Box.new (w : World) (t : TypeId) (us : Array Value) : Box (w.alloc (.cells us t)) w.heap.size t us.toList := heap_alloc_new w _
theorem Box.drew (h : Box w g t cs) : Box w.drew g t cs := h
theorem Box.drewN (h : Box w g t cs) (n : Nat) : Box (w.drewN n) g t cs := h
theorem Box.alloc (h : Box w g t cs) (o : Obj) : Box (w.alloc o) g t cs := (Below.heap_alloc w o g h.lt).trans h
theorem Box.put (h : Box w g t cs) (j : Nat) (u : Value) : Box (w.setCell ⟨g, j, none⟩ u) g t (cs.set j u) := by
  unfold Box at h ⊢
  simp [World.setCell, Array.getElem?_modify, h]
theorem Box.far (h : Box w g t cs) {p : Addr} (hp : g ≠ p.block) (u : Value) : Box (w.setCell p u) g t cs := (Below.heap_setCell w p u g hp).trans h
theorem Box.below {B : Nat} (h : Box w g t cs) (hb : Below B w w') (hg : g < B) : Box w' g t cs := (hb.block g hg).trans h
theorem Box.under (h : Box w g t cs) (hb : Below w.heap.size w w') : Box w' g t cs := h.below hb h.lt
theorem Box.grown {row : Option Nat} (h : Box w g t cs) (hb : w.grownBy w' row) (hg : some g ≠ row) : Box w' g t cs := (hb.block g h.lt hg).trans h
theorem Box.sl (h : Box w g t cs) (off n c sz : Nat) (l : List Value) (hl : l.length = n * sz) (hc : n ≤ c) (hm : c ≤ maxLen) (he : ∀ j u, l[j]? = some u → cs[off + j]? = some u) : Sl w sz (some ⟨g, off, none⟩) n c l :=
  ⟨hl, hc, hm, (fun h => by cases h), fun p hp j u hj => by cases hp; rw [Addr.add_lit]; exact h.at_ (he j u hj)⟩
end

theorem belowN {B : Nat} {a w : World} (h : Below B a w) (n : Nat) : Below B a (w.drewN n) := ⟨h.os, h.tape, h.output, h.size, h.block⟩
section run
variable {P : Program} {w : World}
def IsAgg (P : Program) (t : TypeId) : Prop := (∃ n e, P.underlying t = some (.array n e)) ∨ ∃ fs, P.underlying t = some (.struct fs)
theorem run_isAgg {t : TypeId} (h : IsAgg P t) : (isAgg t).run P w = .ok true w := by
  rcases h with ⟨n, e, h⟩ | ⟨fs, h⟩ <;> simp [isAgg, run_underlying h]
theorem run_loadVar_box {t e : TypeId} {g off : Nat} {old cs : List Value} (hag : IsAgg P t) (hsz : (P.info? t).map (·.size) = some cs.length) (hb : Box w g e old) (hc : ∀ j u, cs[j]? = some u → old[off + j]? = some u) :
    (loadVar t ⟨g, off, none⟩).run P w = .ok (.agg cs.toArray) w := by
  obtain ⟨i, hi, hs0⟩ := Option.map_eq_some_iff.1 hsz
  have hl := run_loadCells_list (P := P) w ⟨g, off, none⟩ cs (fun j u hj => by rw [Addr.add_lit]; exact hb.at_ (hc j u hj))
  simp [loadVar, run_isAgg hag, sizeOf, typeInfo, hi, hs0, hl]
theorem run_results_cell {fn : Func} {tmps : Array Value} {t : Tmp} {ty e : TypeId} {g : Nat} {cs : List Value} (hr : fn.results = #[.cell t ty]) (ht : tmps.getD t undef = .pointer (some ⟨g, 0, none⟩)) (hag : IsAgg P ty) (hsz : (P.info? ty).map (·.size) = some cs.length)
    (hb : Box w g e cs) : (results fn tmps).run P w = .ok (.agg cs.toArray) w := by
  have hl := run_loadVar_box (P := P) (off := 0) hag hsz hb (fun j u hj => by rw [Nat.zero_add]; exact hj)
  have ht2 : tmps[t]?.getD undef = .pointer (some ⟨g, 0, none⟩) := by rw [← ht]; simp
  simp only [results, hr]
  simp [ht2, asAddr, hl]
end run

section ops
variable {P : Program} {w : World} {ops : Array Oper} {rest : List Oper} {act : Act} {Q : Exit → Act → World → Prop}
  {ty : TypeId} {pos : String} {after : Array Edge}
/-- a whole array or struct is loaded -/
theorem load_box (d : Nat) (t : TypeId) (x : Operand) (e : TypeId) (g off : Nat) (old cs : List Value) (hag : IsAgg P t) (hsz : (P.info? t).map (·.size) = some cs.length) (hb : Box w g e old) (hx : act.eval x = .pointer (some ⟨g, off, none⟩))
    (hc : ∀ j u, cs[j]? = some u → old[off + j]? = some u) (hK : wpList P ops Q rest (act.put (some d) (.agg cs.toArray)) w) :
    wpList P ops Q ({ dst := some d, op := .load t x, type := ty, pos := pos, after := after, guard := none } :: rest) act w := by
  refine wpList_plain rfl fun K hK' => ?_
  have hrun : (Instr.loadAt t (.pointer (some ⟨g, off, none⟩))).run P w = .ok (.agg cs.toArray) w := by
    simp [Instr.loadAt, Instr.sureAddr, run_loadVar_box hag hsz hb hc]
  unfold Oper.wp
  simp [execOp, hx, hrun, Result.andThen]
  exact hK' _ _ hK
/-- a whole array or struct is stored -/
theorem store_box (t : TypeId) (x y : Operand) (e : TypeId) (g off : Nat) (old cs : List Value) (v : Value) (hsz : (P.info? t).map (·.size) = some cs.length) (hb : Box w g e old) (hx : act.eval x = .pointer (some ⟨g, off, none⟩))
    (hy : act.eval y = v) (hv : v.cells = cs.toArray) (hl : off + cs.length ≤ old.length) (h1 : ∀ u ∈ cs, u.oneCell' = true)
    (hK : ∀ w', Box w' g e (old.take off ++ cs ++ old.drop (off + cs.length)) → w.grownBy w' (some g) → w'.heap.size = w.heap.size → wpList P ops Q rest act w') :
    wpList P ops Q ({ dst := none, op := .store t x y, type := ty, pos := pos, after := after, guard := none } :: rest) act w := by
  refine wpList_plain rfl fun K hK' => ?_
  obtain ⟨i, hi, hs0⟩ := Option.map_eq_some_iff.1 hsz
  have hst := run_storeCells_at P g off e cs 0 old.toArray w hb (by simpa using hl) h1
  simp only [Nat.add_zero, List.toList_toArray] at hst
  have hrun : (Instr.storeAt t (.pointer (some ⟨g, off, none⟩)) v).run P w = .ok () (w.setRow g (old.take off ++ cs ++ old.drop (off + cs.length)).toArray) := by
    simp [Instr.storeAt, Instr.sureAddr, storeVar, sizeOf, typeInfo, hi, hs0, hv, hst]
  unfold Oper.wp
  simp [execOp, hx, hy, hrun, Result.andThen]
  refine hK' _ _ (hK _ ?_ ⟨rfl, rfl, rfl, by simp [World.setRow], fun k _ hk => setRow_other w g k _ (fun e => hk (by rw [e]))⟩ (by simp [World.setRow]))
  have := setRow_heap w g old.toArray (old.take off ++ cs ++ old.drop (off + cs.length)).toArray e (0, 0) hb
  simpa [Box] using this
/-- the whole block is stored anew -/
theorem store_all (t : TypeId) (x y : Operand) (e : TypeId) (g : Nat) (old cs : List Value) (v : Value) (hsz : (P.info? t).map (·.size) = some cs.length) (hb : Box w g e old) (hx : act.eval x = .pointer (some ⟨g, 0, none⟩))
    (hy : act.eval y = v) (hv : v.cells = cs.toArray) (hl : cs.length = old.length) (h1 : ∀ u ∈ cs, u.oneCell' = true)
    (hK : ∀ w', Box w' g e cs → w.grownBy w' (some g) → w'.heap.size = w.heap.size → wpList P ops Q rest act w') :
    wpList P ops Q ({ dst := none, op := .store t x y, type := ty, pos := pos, after := after, guard := none } :: rest) act w :=
  store_box t x y e g 0 old cs v hsz hb hx hy hv (by omega) h1 (fun w' hb' hg hs => hK w' (by
    have e1 : old.drop (0 + cs.length) = [] := List.drop_eq_nil_of_le (by omega)
    rw [e1, List.take_zero, List.nil_append, List.append_nil] at hb'
    exact hb') hg hs)
/-- an operation whose value is known -/
theorem val_at {o : Oper} (hg : o.guard = none) (v : Value) (h : (execOp act.eval o).run P w = .ok (.value v) w) (hK : wpList P ops Q rest (act.put o.dst v) w) : wpList P ops Q (o :: rest) act w := by
  refine wpList_plain hg fun K hK' => ?_
  unfold Oper.wp
  rw [h]
  exact hK' _ _ hK
/-- the walk stops ahead of an operation 'build' -/
theorem hold_build {dst : Option Tmp} {t ty : TypeId} {ps : Array (Nat × Operand)} {pos : String} {after : Array Edge} {g : Option (Nat × Bool)}
    (h : Hid (wpList P ops Q ({ dst := dst, op := .build t ps, type := ty, pos := pos, after := after, guard := g } :: rest) act w)) : wpList P ops Q ({ dst := dst, op := .build t ps, type := ty, pos := pos, after := after, guard := g } :: rest) act w := h
/-- one cell of a block is stored -/
theorem store_cell (t : TypeId) (x y : Operand) (e : TypeId) (g j : Nat) (old : List Value) (v : Value) (hsz : (P.info? t).map (·.size) = some 1) (hb : Box w g e old) (hx : act.eval x = .pointer (some ⟨g, j, none⟩))
    (hy : act.eval y = v) (h1 : v.oneCell' = true) (hv : v.cells = #[v]) (hj : j < old.length)
    (hK : ∀ w', Box w' g e (old.set j v) → w.grownBy w' (some g) → w'.heap.size = w.heap.size → wpList P ops Q rest act w') :
    wpList P ops Q ({ dst := none, op := .store t x y, type := ty, pos := pos, after := after, guard := none } :: rest) act w :=
  store_box t x y e g j old [v] v hsz hb hx hy hv (by simp; omega) (by simpa using h1) (fun w' hb' hg hs => hK w' (by
    have e : old.take j ++ [v] ++ old.drop (j + [v].length) = old.set j v := by
      rw [List.set_eq_take_append_cons_drop, if_pos hj]
      simp
    rw [e] at hb'
    exact hb') hg hs)
/-- 'arr[lo:hi]' of an array in memory; lo, hi may lack -/
theorem cut_arr (d : Nat) (t arr e : TypeId) (n : Nat) (x : Operand) (lo hi : Option Operand) (ht : P.underlying t = some (.pointer arr)) (ha : P.underlying arr = some (.array n e)) (hsz : (P.info? e).map (·.size) = some 1)
    (g off : Nat) (hx : act.eval x = .pointer (some ⟨g, off, none⟩)) (l u : Nat)
    (hl : lo.map act.eval = none ∧ l = 0 ∨ ∃ k, lo.map act.eval = some (.int k (l : Int))) (hu : hi.map act.eval = none ∧ u = n ∨ ∃ k, hi.map act.eval = some (.int k (u : Int))) (hlu : l ≤ u) (hun : u ≤ n)
    (hK : ∀ a', (a' = some ⟨g, off + l, none⟩ ∨ (n = l ∧ a' = some ⟨g, off, none⟩)) → wpList P ops Q rest (act.put (some d) (.slice a' (u - l) (n - l))) w) :
    wpList P ops Q ({ dst := some d, op := .slice t x lo hi none, type := ty, pos := pos, after := after, guard := none } :: rest) act w := by
  refine wpList_plain rfl fun K hK' => ?_
  obtain ⟨i0, hi0, hs0⟩ := Option.map_eq_some_iff.1 hsz
  have h2 : (0 : Int) ≤ l ∧ (l : Int) ≤ u := by omega
  have h3 : (0 : Int) ≤ u ∧ (u : Int) ≤ n := by omega
  have e2 : (if n = l then (⟨g, off, none⟩ : Addr) else (⟨g, off, none⟩ : Addr).add (l * 1)) = (if n = l then ⟨g, off, none⟩ else ⟨g, off + l, none⟩) := by
    split
    · rfl
    · rw [Nat.mul_one, Addr.add_lit]
  have hrun : (Instr.sliceAt t (.pointer (some ⟨g, off, none⟩)) (lo.map act.eval) (hi.map act.eval) none).run P w = .ok (.slice (some (if n = l then ⟨g, off, none⟩ else ⟨g, off + l, none⟩)) (u - l) (n - l)) w := by
    rcases hl with ⟨hl, rfl⟩ | ⟨k1, hl⟩ <;> rcases hu with ⟨hu, rfl⟩ | ⟨k2, hu⟩ <;>
      simp [hl, hu, Instr.sliceAt, Instr.slice, Instr.sliceBounds, Instr.sliceBound, asIntOf, asAddr, run_underlying ht, run_underlying ha, sizeOf, typeInfo, hi0, hs0, h2, h3, Addr.add_lit, hlu, hun] <;> (try (split <;> simp_all [Addr.add])) <;> (try (intro _; simp_all [Addr.add]))
  unfold Oper.wp
  simp only [execOp, Option.map_none, hx, Sem.run_bind, hrun, Result.andThen, Sem.run_pure]
  refine hK' _ _ (hK _ ?_)
  by_cases hn : n = l
  · rw [if_pos hn]; exact .inr ⟨hn, rfl⟩
  · rw [if_neg hn]; exact .inl rfl
/-- 'v[i]' of an array that is a value, its elements of one cell -/
theorem index_val (d : Nat) (t e n : TypeId) (x y : Operand) (ht : P.underlying t = some (.array n e)) (hsz : (P.info? e).map (·.size) = some 1) (hna : ∀ w, (isAgg e).run P w = .ok false w) (cs : List Value) (hx : act.eval x = .agg cs.toArray) (k : IntKind) (i : Nat) (hy : act.eval y = .int k (i : Int)) (hi : i < n)
    (u : Value) (hu : cs[i]? = some u) (hK : wpList P ops Q rest (act.put (some d) u) w) :
    wpList P ops Q ({ dst := some d, op := .index t x y, type := ty, pos := pos, after := after, guard := none } :: rest) act w := by
  refine wpList_plain rfl fun K hK' => ?_
  obtain ⟨i0, hi0, hs0⟩ := Option.map_eq_some_iff.1 hsz
  have h3 : (0 : Int) ≤ i ∧ (i : Int) < n := by omega
  have hrun : (Instr.index t (.agg cs.toArray) (.int k (i : Int))).run P w = .ok u w := by
    simp [Instr.index, asIntOf, run_underlying ht, sizeOf, typeInfo, hi0, hs0, h3, part, hna, hu, hi]
  unfold Oper.wp
  simp [execOp, hx, hy, hrun, Result.andThen]
  exact hK' _ _ hK
end ops
section still
variable {P : Program} {w : World} {ops : Array Oper} {rest : List Oper} {act : Act} {Q : Act → Prop}
/-- an operation of a still head whose value is known -/
theorem still_at {o : Oper} (v : Value) (hw : Region.wanted o (yielded ops act.tmps) = true) (h : (execOp act.eval o).run P w = .ok (.value v) w)
    (hK : wpStill P ops w Q rest (act.put o.dst v)) : wpStill P ops w Q (o :: rest) act := by
  refine wpStill_step fun K hK' => ?_
  rw [if_pos hw]
  unfold Oper.still
  rw [h]
  exact ⟨rfl, hK' _ hK⟩
end still
theorem one_w {α : Type} {f : α → Value} (hf : ∀ x, (f x).oneCell' = true) (l : List α) : ∀ u ∈ l.map f, u.oneCell' = true := one_map f hf l
end Go.Dx
end

/- the text C9 -/
section
namespace Go.Proofs.Ytmjkhmebpciopaa
open Go.RowKit Go.Dx

theorem Sl.drewN {w : World} {sz : Nat} {a : Option Addr} {n c : Nat} {cs : List Value} (h : Sl w sz a n c cs) (m : Nat) : Sl (w.drewN m) sz a n c cs := ⟨h.len, h.le, h.cap, h.nil, h.cell⟩

theorem quiet_more {P : Program} {f : FuncId} {args : Array Value} {w : World} {a n : Nat} {v : Value} (h : Calls P f args ((w.drewN a).drewN n) (Still v ((w.drewN a).drewN n))) :
    Calls P f args ((w.drewN a).drewN n) fun e w'' => e = .returned v ∧ ∃ m, w'' = (w.drewN a).drewN m :=
  h.mono fun _ _ ⟨he, m, hm⟩ => ⟨he, n + m, by rw [hm, World.drewN_drewN]⟩
theorem quiet_flat {P : Program} {f : FuncId} {args : Array Value} {w : World} {a n : Nat} {v : Value} (h : Calls P f args (w.drewN (a + n)) (Still v (w.drewN (a + n)))) :
    Calls P f args (w.drewN (a + n)) fun e w'' => e = .returned v ∧ ∃ m, w'' = w.drewN (a + m) :=
  h.mono fun _ _ ⟨he, m, hm⟩ => ⟨he, n + m, by rw [hm, World.drewN_drewN, Nat.add_assoc]⟩
end Go.Proofs.Ytmjkhmebpciopaa
end

/- the text C10 -/
section
namespace Go.Proofs.Ytmjkhmebpciopaa
open Go.RowKit Go.Dx

/-- a raster as a value -/
abbrev RV (W H : Int) (a : Option Addr) (n c : Nat) : Value := .agg #[.int .i64 W, .int .i64 H, .slice a n c]

theorem bl2 (w : World) (o1 o2 : Obj) : Below w.heap.size w ((w.alloc o1).alloc o2) := ((Below.refl _ w).alloc (Nat.le_refl _) _).alloc (by simp) _
theorem bl2d (w : World) (o1 o2 : Obj) (n : Nat) : Below w.heap.size w (((w.alloc o1).alloc o2).drewN n) := (bl2 w o1 o2).trans ((Still.below n).mono (by simp; omega))
end Go.Proofs.Ytmjkhmebpciopaa
end

/- the text T2 -/
section
/- Chapter 15: rows of entries; valid. -/
namespace Go.Proofs.Ytmjkhmebpciopaa
open Go.RowKit Go.Dx

/-- Rows of rows of cells: the slice of its rows, and each row. -/
structure Pg3 (w : World) (a : Option Addr) (n c : Nat) (hs : List Hd) (X : List (List (List UInt8))) : Prop where
  top : Sl w 1 a n c (hs.map hv)
  len : hs.length = X.length
  row : ∀ (i : Nat) (h : Hd) (p : List (List UInt8)), hs[i]? = some h → X[i]? = some p → ∃ ks, Pg w h.1 h.2.1 h.2.2 ks p
theorem Pg3.below {w w' : World} {a : Option Addr} {n c : Nat} {hs : List Hd} {X : List (List (List UInt8))} (h : Pg3 w a n c hs X) (hb : Below w.heap.size w w') : Pg3 w' a n c hs X :=
  ⟨h.top.below hb, h.len, fun i x p h1 h2 => by obtain ⟨ks, hk⟩ := h.row i x p h1 h2; exact ⟨ks, hk.below hb⟩⟩
theorem Pg3.n_eq {w : World} {a : Option Addr} {n c : Nat} {hs : List Hd} {X : List (List (List UInt8))} (h : Pg3 w a n c hs X) : n = X.length := by rw [h.top.n_eq, h.len]
theorem Pg3.get {w : World} {a : Option Addr} {n c : Nat} {hs : List Hd} {X : List (List (List UInt8))} (h : Pg3 w a n c hs X) {i : Nat} {p : List (List UInt8)} (hp : X[i]? = some p) :
    ∃ a' c' ks, (hs.map hv)[i]? = some (.slice a' p.length c') ∧ Pg w a' p.length c' ks p := by
  have hi : i < hs.length := by rw [h.len]; exact (List.getElem?_eq_some_iff.1 hp).1
  have hx : hs[i]? = some hs[i] := by simp [hi]
  obtain ⟨ks, h1⟩ := h.row i _ p hx hp
  have h2 := h1.n_eq
  refine ⟨hs[i].1, hs[i].2.2, ks, ?_, ?_⟩
  · rw [List.getElem?_map, hx]; unfold hv; rw [← h2]; rfl
  · rw [← h2]; exact h1
theorem size_rows : (Try.prog.info? 28).map (·.size) = some 1 := by kernel_rfl
section
variable {w : World} {ops : Array Oper} {rest : List Oper} {act : Act} {Q : Exit → Act → World → Prop} {ty : TypeId} {pos : String} {after : Array Edge}
theorem idx_q (d : Nat) (x y : Operand) (a : Option Addr) (n c : Nat) (hs : List Hd) (hx : act.eval x = .slice a n c) (ht : Sl w 1 a n c (hs.map hv)) (k : IntKind) (iv : Int) (i : Nat) (hy : act.eval y = .int k iv) (hiv : iv = (i : Int))
    (u : Value) (hu : (hs.map hv)[i]? = some u)
    (hK : ∀ b o, w.cell? ⟨b, o, none⟩ = some u → b < w.heap.size → wpList Try.prog ops Q rest (act.put (some d) (.pointer (some ⟨b, o, none⟩))) w) :
    wpList Try.prog ops Q ({ dst := some d, op := .indexAddr 28 x y, type := ty, pos := pos, after := after, guard := none } :: rest) act w :=
  index_sl d 28 x y 47 Try.underlying28 size_row a n c _ hx ht k iv i hy hiv u hu hK
theorem idx_3 (d : Nat) (x y : Operand) (a : Option Addr) (n c : Nat) (hs : List Hd) (hx : act.eval x = .slice a n c) (ht : Sl w 1 a n c (hs.map hv)) (k : IntKind) (iv : Int) (i : Nat) (hy : act.eval y = .int k iv) (hiv : iv = (i : Int))
    (u : Value) (hu : (hs.map hv)[i]? = some u)
    (hK : ∀ b o, w.cell? ⟨b, o, none⟩ = some u → b < w.heap.size → wpList Try.prog ops Q rest (act.put (some d) (.pointer (some ⟨b, o, none⟩))) w) :
    wpList Try.prog ops Q ({ dst := some d, op := .indexAddr 23 x y, type := ty, pos := pos, after := after, guard := none } :: rest) act w :=
  index_sl d 23 x y 28 Try.underlying23 size_rows a n c _ hx ht k iv i hy hiv u hu hK
end

def noEntry (l : List UInt8) : Bool := !entryB l
def badRow (n : Nat) (row : List (List UInt8)) : Bool := decide (row.length ≠ n) || row.any noEntry

set_option maxHeartbeats 400000 in
theorem valid_11 (l : List UInt8) (a : Option Addr) (n c : Nat) (w : World) (hs : Sl w 1 a n c (l.map B8)) :
    Calls Try.prog 47 #[.slice a n c] w fun e w' => e = .returned (.bool (noEntry l)) ∧ w = w' := by
  unfold noEntry
  have hc := tab_entry l a n c w hs
  go_enter Try.func47, Try.ntmps47
  go_wp2_with (go_at_call 48; refine hc.mono ?_; rintro e w2 ⟨rfl, rfl⟩)
  go_ret
  exact ⟨rfl, rfl⟩

set_option maxHeartbeats 400000 in
theorem index_q (p : List (List UInt8)) (hs : List Hd) (a : Option Addr) (n c : Nat) (w : World) (hp : Pg w a n c hs p) :
    Calls Try.prog 56 #[.slice a n c, fnv 47] w fun e w' => ∃ i : Int, e = .returned (.int .i64 i) ∧ decide (0 ≤ i) = p.any noEntry ∧ w = w' := by
  unfold fnv
  obtain rfl := hp.n_eq
  have hm1 := Nat.le_trans hp.top.le hp.top.cap
  unfold maxLen at hm1
  go_enter Try.func56, Try.ntmps56
  go_wp2_with fail
  go_loopg [8] p.length (fun g i w' => ∃ (k : Nat), k ≤ p.length ∧ g = p.length - k ∧ (p.take k).any noEntry = false ∧ i = .int .i64 k ∧ w = w')
  case atStart => exact ⟨0, by omega, by omega, rfl, rfl, rfl⟩
  case round =>
    obtain ⟨k, hk, hg, ht, rfl, rfl⟩ := hrel
    have HG := hide hg
    have HT := hide ht
    clear hg ht
    by_cases hkl : k < p.length
    · obtain ⟨x, hx⟩ : ∃ x, p[k]? = some x := ⟨p[k], by simp [hkl]⟩
      obtain ⟨a', c', hu, hsx⟩ := hp.get hx
      have HH := hide hx
      have HU := hide hu
      clear hx hu
      cases hq : noEntry x
      · have HN := hide (any_take_no HH.out HT.out hq)
        have hc := valid_11 x _ _ _ w hsx
        rw [hq] at hc
        clear hq
        go_wp2_with (first
          | (with_reducible refine idx_q 14 _ _ _ _ _ hs rfl hp.top _ _ k rfl rfl _ HU.out ?_; intro b o hcell hbo)
          | (go_at_call 47; refine hc.mono ?_; rintro e w2 ⟨rfl, rfl⟩))
        go_roundg (p.length - (k + 1))
        case measure => have := HG.out; omega
        case rel => exact ⟨k + 1, by omega, rfl, HN.out, by go_num, rfl⟩
      · have HN := hide (any_of_get HH.out hq)
        have hc := valid_11 x _ _ _ w hsx
        rw [hq] at hc
        clear hq
        go_wp2_with (first
          | (with_reducible refine idx_q 14 _ _ _ _ _ hs rfl hp.top _ _ k rfl rfl _ HU.out ?_; intro b o hcell hbo)
          | (go_at_call 47; refine hc.mono ?_; rintro e w2 ⟨rfl, rfl⟩))
        go_ret
        exact ⟨_, rfl, by rw [HN.out]; exact decide_eq_true (by omega), rfl⟩
    · obtain rfl : k = p.length := by omega
      go_wp2
      go_ret
      have := HT.out
      rw [List.take_length] at this
      exact ⟨_, rfl, by rw [this]; rfl, rfl⟩
set_option maxHeartbeats 400000 in
theorem contains_q (p : List (List UInt8)) (hs : List Hd) (a : Option Addr) (n c : Nat) (w : World) (hp : Pg w a n c hs p) :
    Calls Try.prog 46 #[.slice a n c, fnv 47] w fun e w' => e = .returned (.bool (p.any noEntry)) ∧ w = w' := by
  have hc := index_q p hs a n c w hp
  unfold fnv at hc ⊢
  go_enter Try.func46, Try.ntmps46
  go_wp2_with (go_at_call 56; refine hc.mono ?_; rintro e w2 ⟨i, rfl, hi, rfl⟩)
  go_ret
  exact ⟨by rw [← hi]; rfl, rfl⟩
set_option maxHeartbeats 400000 in
theorem valid_1 (N : Nat) (p : List (List UInt8)) (hs : List Hd) (a : Option Addr) (n c g : Nat) (w : World) (hp : Pg w a n c hs p) (hg : w.cell? ⟨g, 0, none⟩ = some (.int .i64 (N : Int))) :
    Calls Try.prog 45 #[.slice a n c, .pointer (some ⟨g, 0, none⟩)] w fun e w' => e = .returned (.bool (badRow N p)) ∧ w = w' := by
  unfold badRow
  have hc := contains_q p hs a n c w hp
  unfold fnv at hc
  obtain rfl := hp.n_eq
  generalize p.any noEntry = v at hc ⊢
  by_cases h : p.length = N
  · have e : ((p.length : Int) != (N : Int)) = false := eq_nat h
    have HD := hide (decide_eq_false (fun h2 : p.length ≠ N => h2 h))
    clear h
    go_enter Try.func45, Try.ntmps45
    go_wp2_with (go_at_call 46; refine hc.mono ?_; rintro e w2 ⟨rfl, rfl⟩)
    go_ret
    exact ⟨by rw [HD.out]; rfl, rfl⟩
  · have e : ((p.length : Int) != (N : Int)) = true := neq_nat h
    have HD := hide (decide_eq_true h)
    clear h
    go_enter Try.func45, Try.ntmps45
    go_wp2_with fail
    go_ret
    exact ⟨by rw [HD.out]; rfl, rfl⟩
/-- the closure of valid -/
def fnc (g : Nat) : Value := .func (.func 45) #[] #[.pointer (some ⟨g, 0, none⟩)]
set_option maxHeartbeats 400000 in
theorem index_3 (N g : Nat) (X : List (List (List UInt8))) (hs : List Hd) (a : Option Addr) (n c : Nat) (w : World) (hp : Pg3 w a n c hs X) (hg : w.cell? ⟨g, 0, none⟩ = some (.int .i64 (N : Int))) :
    Calls Try.prog 57 #[.slice a n c, fnc g] w fun e w' => ∃ i : Int, e = .returned (.int .i64 i) ∧ decide (0 ≤ i) = X.any (badRow N) ∧ w = w' := by
  unfold fnc
  obtain rfl := hp.n_eq
  have hm1 := Nat.le_trans hp.top.le hp.top.cap
  unfold maxLen at hm1
  go_enter Try.func57, Try.ntmps57
  go_wp2_with fail
  go_loopg [8] X.length (fun g i w' => ∃ (k : Nat), k ≤ X.length ∧ g = X.length - k ∧ (X.take k).any (badRow N) = false ∧ i = .int .i64 k ∧ w = w')
  case atStart => exact ⟨0, by omega, by omega, rfl, rfl, rfl⟩
  case round =>
    obtain ⟨k, hk, hg1, ht, rfl, rfl⟩ := hrel
    have HG := hide hg1
    have HT := hide ht
    clear hg1 ht
    by_cases hkl : k < X.length
    · obtain ⟨x, hx⟩ : ∃ x, X[k]? = some x := ⟨X[k], by simp [hkl]⟩
      obtain ⟨a', c', ks, hu, hpx⟩ := hp.get hx
      have HH := hide hx
      have HU := hide hu
      clear hx hu
      cases hq : badRow N x
      · have HN := hide (any_take_no HH.out HT.out hq)
        have hc := valid_1 N x _ _ _ _ g w hpx hg
        rw [hq] at hc
        clear hq
        go_wp2_with (first
          | (with_reducible refine idx_3 14 _ _ _ _ _ hs rfl hp.top _ _ k rfl rfl _ HU.out ?_; intro b o hcell hbo)
          | (go_at_call 45; refine hc.mono ?_; rintro e w2 ⟨rfl, rfl⟩))
        go_roundg (X.length - (k + 1))
        case measure => have := HG.out; omega
        case rel => exact ⟨k + 1, by omega, rfl, HN.out, by go_num, rfl⟩
      · have HN := hide (any_of_get HH.out hq)
        have hc := valid_1 N x _ _ _ _ g w hpx hg
        rw [hq] at hc
        clear hq
        go_wp2_with (first
          | (with_reducible refine idx_3 14 _ _ _ _ _ hs rfl hp.top _ _ k rfl rfl _ HU.out ?_; intro b o hcell hbo)
          | (go_at_call 45; refine hc.mono ?_; rintro e w2 ⟨rfl, rfl⟩))
        go_ret
        exact ⟨_, rfl, by rw [HN.out]; exact decide_eq_true (by omega), rfl⟩
    · obtain rfl : k = X.length := by omega
      go_wp2
      go_ret
      have := HT.out
      rw [List.take_length] at this
      exact ⟨_, rfl, by rw [this]; rfl, rfl⟩
set_option maxHeartbeats 400000 in
theorem contains_3 (N g : Nat) (X : List (List (List UInt8))) (hs : List Hd) (a : Option Addr) (n c : Nat) (w : World) (hp : Pg3 w a n c hs X) (hg : w.cell? ⟨g, 0, none⟩ = some (.int .i64 (N : Int))) :
    Calls Try.prog 49 #[.slice a n c, fnc g] w fun e w' => e = .returned (.bool (X.any (badRow N))) ∧ w = w' := by
  have hc := index_3 N g X hs a n c w hp hg
  unfold fnc at hc ⊢
  go_enter Try.func49, Try.ntmps49
  go_wp2_with (go_at_call 57; refine hc.mono ?_; rintro e w2 ⟨i, rfl, hi, rfl⟩)
  go_ret
  exact ⟨by rw [← hi]; rfl, rfl⟩

def nCols (X : List (List (List UInt8))) : Nat := (X.getD 0 []).length
def validT (X : List (List (List UInt8))) : Bool := decide (1 ≤ X.length ∧ X.length ≤ 12) && (decide (1 ≤ nCols X ∧ nCols X ≤ 12) && !X.any (badRow (nCols X)))
theorem validT_rows {X : List (List (List UInt8))} (h : ¬ (1 ≤ X.length ∧ X.length ≤ 12)) : validT X = false := by unfold validT; rw [decide_eq_false h]; rfl
theorem validT_cols {X : List (List (List UInt8))} (h : ¬ (1 ≤ nCols X ∧ nCols X ≤ 12)) : validT X = false := by unfold validT; rw [decide_eq_false h, Bool.false_and, Bool.and_false]
theorem validT_in {X : List (List (List UInt8))} (h1 : 1 ≤ X.length ∧ X.length ≤ 12) (h2 : 1 ≤ nCols X ∧ nCols X ≤ 12) : validT X = !X.any (badRow (nCols X)) := by unfold validT; rw [decide_eq_true h1, decide_eq_true h2]; rfl
theorem nCols_of {X : List (List (List UInt8))} {x : List (List UInt8)} (h : X[0]? = some x) : nCols X = x.length := by unfold nCols; rw [List.getD_eq_getElem?_getD, h]; rfl

set_option maxHeartbeats 400000 in
theorem tab_valid (X : List (List (List UInt8))) (hs : List Hd) (a : Option Addr) (n c : Nat) (w : World) (hp : Pg3 w a n c hs X) :
    Calls Try.prog 26 #[.slice a n c] w fun e w' => e = .returned (.bool (validT X)) ∧ Below w.heap.size w w' := by
  obtain rfl := hp.n_eq
  by_cases hX : 1 ≤ X.length ∧ X.length ≤ 12
  · obtain ⟨x, hx⟩ : ∃ x, X[0]? = some x := ⟨X[0]'(by omega), by simp⟩
    obtain ⟨ax, cx, ks, hux, hpx⟩ := hp.get hx
    have HC := hide (nCols_of hx)
    have HUX := hide hux
    have d1 : decide ((X.length : Int) < 1) = false := decide_eq_false (by omega)
    have d2 : decide (12 < (X.length : Int)) = false := decide_eq_false (by omega)
    clear hx hux
    by_cases hc1 : 1 ≤ x.length ∧ x.length ≤ 12
    · have HV := hide (validT_in hX (by rw [HC.out]; exact hc1))
      obtain ⟨h3, h4⟩ := hc1
      have d3 : decide (1 ≤ (x.length : Int)) = true := decide_eq_true (by omega)
      have d4 : decide ((x.length : Int) ≤ 12) = true := decide_eq_true (by omega)
      have b0 := (Below.refl w.heap.size w).alloc (Nat.le_refl _) (.cells #[.int .i64 (x.length : Int)] 3)
      have hcl : (w.alloc (.cells #[.int .i64 (x.length : Int)] 3)).cell? ⟨w.heap.size, 0, none⟩ = some (.int .i64 (x.length : Int)) := (Box.new w 3 #[.int .i64 (x.length : Int)]).at_ rfl
      have hc := contains_3 x.length w.heap.size X hs a X.length c (w.alloc (.cells #[.int .i64 (x.length : Int)] 3)) (hp.below b0) hcl
      unfold fnc at hc
      clear hcl
      go_enter Try.func26, Try.ntmps26
      go_wp2_with (with_reducible refine idx_3 14 _ _ _ _ _ hs rfl hp.top _ _ 0 rfl rfl _ HUX.out ?_; intro b o hcell hbo)
      refine hc.mono ?_
      rintro e w2 ⟨rfl, rfl⟩
      go_wp2_with fail
      go_ret
      exact ⟨by rw [HV.out, HC.out]; rfl, b0⟩
    · have HV := hide (validT_cols (X := X) (by rw [HC.out]; exact hc1))
      have b0 := (Below.refl w.heap.size w).alloc (Nat.le_refl _) (.cells #[.int .i64 (x.length : Int)] 3)
      go_enter Try.func26, Try.ntmps26
      rcases Nat.eq_zero_or_pos x.length with h5 | h5
      · have d3 : decide (1 ≤ (x.length : Int)) = false := decide_eq_false (by omega)
        clear hc1 h5
        go_wp2_with (with_reducible refine idx_3 14 _ _ _ _ _ hs rfl hp.top _ _ 0 rfl rfl _ HUX.out ?_; intro b o hcell hbo)
        go_ret
        exact ⟨by rw [HV.out]; rfl, b0⟩
      · have d3 : decide (1 ≤ (x.length : Int)) = true := decide_eq_true (by omega)
        have d4 : decide ((x.length : Int) ≤ 12) = false := decide_eq_false (by omega)
        go_wp2_with (with_reducible refine idx_3 14 _ _ _ _ _ hs rfl hp.top _ _ 0 rfl rfl _ HUX.out ?_; intro b o hcell hbo)
        go_ret
        exact ⟨by rw [HV.out]; rfl, b0⟩
  · have HV := hide (validT_rows hX)
    go_enter Try.func26, Try.ntmps26
    rcases Nat.eq_zero_or_pos X.length with h5 | h5
    · have d3 : decide ((X.length : Int) < 1) = true := decide_eq_true (by omega)
      clear hX h5
      go_wp2_with fail
      go_ret
      exact ⟨by rw [HV.out]; rfl, Below.refl _ _⟩
    · have d3 : decide ((X.length : Int) < 1) = false := decide_eq_false (by omega)
      have d4 : decide (12 < (X.length : Int)) = true := decide_eq_true (by omega)
      go_wp2_with fail
      go_ret
      exact ⟨by rw [HV.out]; rfl, Below.refl _ _⟩
end Go.Proofs.Ytmjkhmebpciopaa
end

/- the text T3 -/
section
/- Chapter 15: the reference's Valid. -/
namespace Go.Proofs.Ytmjkhmebpciopaa
open Go.RowKit Go.Dx

theorem bad_len {N : Nat} {x : List (List UInt8)} (h : x.length ≠ N) : badRow N x = true := by unfold badRow; rw [decide_eq_true h]; rfl
theorem bad_of {N : Nat} {x : List (List UInt8)} (h : x.length = N) : badRow N x = x.any noEntry := by unfold badRow; rw [decide_eq_false (fun h2 => h2 h)]; rfl
theorem noEntry_no {l : List UInt8} (h : entryB l = true) : noEntry l = false := by unfold noEntry; rw [h]; rfl
theorem noEntry_yes {l : List UInt8} (h : entryB l = false) : noEntry l = true := by unfold noEntry; rw [h]; rfl

set_option maxHeartbeats 1000000 in
theorem ref15_Valid (X : List (List (List UInt8))) (hs : List Hd) (a : Option Addr) (n c : Nat) (w : World) (hp : Pg3 w a n c hs X) :
    Calls Try.prog 43 #[.slice a n c] w fun e w' => e = .returned (.bool (validT X)) ∧ w = w' := by
  obtain rfl := hp.n_eq
  by_cases hX : 1 ≤ X.length ∧ X.length ≤ 12
  · obtain ⟨x0, hx0⟩ : ∃ x, X[0]? = some x := ⟨X[0]'(by omega), by simp⟩
    obtain ⟨ax0, cx0, ks0, hux0, hpx0⟩ := hp.get hx0
    have HC := hide (nCols_of hx0)
    have HUX0 := hide hux0
    have d1 : decide ((X.length : Int) < 1) = false := decide_eq_false (by omega)
    have d2 : decide (12 < (X.length : Int)) = false := decide_eq_false (by omega)
    clear hx0 hux0
    by_cases hc1 : 1 ≤ x0.length ∧ x0.length ≤ 12
    · have HV := hide (validT_in hX (by rw [HC.out]; exact hc1))
      rw [HC.out] at HV
      obtain ⟨h3, h4⟩ := hc1
      have d3 : decide ((x0.length : Int) < 1) = false := decide_eq_false (by omega)
      have d4 : decide (12 < (x0.length : Int)) = false := decide_eq_false (by omega)
      have hm1 := hX.2
      generalize x0.length = N at *
      go_enter Try.func43, Try.ntmps43
      go_wp2_with (with_reducible refine idx_3 15 _ _ _ _ _ hs rfl hp.top _ _ 0 rfl rfl _ HUX0.out ?_; intro b o hcell hbo)
      clear hcell hbo
      go_loopg [4] X.length (fun g i w' => ∃ (k : Nat), k ≤ X.length ∧ g = X.length - k ∧ (X.take k).any (badRow N) = false ∧ i = .int .i64 k ∧ w = w')
      case atStart => exact ⟨0, by omega, by omega, rfl, rfl, rfl⟩
      case round =>
        obtain ⟨k, hk, hg1, ht, rfl, rfl⟩ := hrel
        have HG := hide hg1
        have HT := hide ht
        clear hg1 ht
        by_cases hkl : k < X.length
        · obtain ⟨x, hx⟩ : ∃ x, X[k]? = some x := ⟨X[k], by simp [hkl]⟩
          obtain ⟨ax, cx, ks, hu, hpx⟩ := hp.get hx
          have HH := hide hx
          have HU := hide hu
          clear hx hu
          by_cases hxl : x.length = N
          · have HBD := hide (bad_of hxl)
            have e : ((N : Int) != (N : Int)) = false := by simp
            have HXL := hide hxl
            rw [hxl] at hpx HU
            clear hxl
            go_wp2_with (with_reducible refine idx_3 32 _ _ _ _ _ hs rfl hp.top _ _ k rfl rfl _ HU.out ?_; intro b o hcell hbo)
            clear hcell hbo
            go_loopg [5] N (fun g j' w' => ∃ (j : Nat), j ≤ N ∧ g = N - j ∧ (x.take j).any noEntry = false ∧ j' = .int .i64 j ∧ w = w')
            case atStart => exact ⟨0, by omega, by omega, rfl, rfl, rfl⟩
            case round =>
              obtain ⟨j, hj, hg2, ht2, rfl, rfl⟩ := hrel
              have HG2 := hide hg2
              have HT2 := hide ht2
              clear hg2 ht2
              by_cases hjN : j < N
              · obtain ⟨r, hr⟩ : ∃ r, x[j]? = some r := ⟨x[j]'(by rw [HXL.out]; exact hjN), by simp⟩
                obtain ⟨ar, cr, hur, hsr⟩ := hpx.get hr
                have HR := hide hr
                have HUR := hide hur
                have hce := ref15_Entry r _ _ _ w hsr
                clear hr hur
                cases hq : entryB r
                · rw [hq] at hce
                  have HB : Hid (validT X = false) := hide (by rw [HV.out, any_of_get HH.out (by rw [HBD.out]; exact any_of_get HR.out (noEntry_yes hq))]; rfl)
                  clear hq
                  go_wp2_with (first
                    | (with_reducible refine idx_3 44 _ _ _ _ _ hs rfl hp.top _ _ k rfl rfl _ HU.out ?_; intro b o hcell hbo)
                    | (with_reducible refine idx_q 47 _ _ _ _ _ ks rfl hpx.top _ _ j rfl rfl _ HUR.out ?_; intro b2 o2 hcell2 hbo2)
                    | (go_at_call 55; refine hce.mono ?_; rintro e w2 ⟨rfl, rfl⟩))
                  go_ret
                  exact ⟨by rw [HB.out]; rfl, rfl⟩
                · rw [hq] at hce
                  have HN := hide (any_take_no HR.out HT2.out (noEntry_no hq))
                  clear hq
                  go_wp2_with (first
                    | (with_reducible refine idx_3 44 _ _ _ _ _ hs rfl hp.top _ _ k rfl rfl _ HU.out ?_; intro b o hcell hbo)
                    | (with_reducible refine idx_q 47 _ _ _ _ _ ks rfl hpx.top _ _ j rfl rfl _ HUR.out ?_; intro b2 o2 hcell2 hbo2)
                    | (go_at_call 55; refine hce.mono ?_; rintro e w2 ⟨rfl, rfl⟩))
                  go_roundg (N - (j + 1))
                  case measure => have := HG2.out; omega
                  case rel => exact ⟨j + 1, by omega, rfl, HN.out, by go_num, rfl⟩
              · obtain rfl : N = j := by omega
                have hbx : badRow N x = false := by
                  rw [HBD.out]
                  have := HT2.out
                  rwa [List.take_of_length_le (by rw [HXL.out]; omega)] at this
                have HN := hide (any_take_no HH.out HT.out hbx)
                clear hbx
                go_wp2_with fail
                go_roundg (X.length - (k + 1))
                case measure => have := HG.out; omega
                case rel => exact ⟨k + 1, by omega, rfl, HN.out, by go_num, rfl⟩
          · have e : ((x.length : Int) != (N : Int)) = true := neq_nat hxl
            have HB : Hid (validT X = false) := hide (by rw [HV.out, any_of_get HH.out (bad_len hxl)]; rfl)
            clear hxl
            go_wp2_with (with_reducible refine idx_3 32 _ _ _ _ _ hs rfl hp.top _ _ k rfl rfl _ HU.out ?_; intro b o hcell hbo)
            go_ret
            exact ⟨by rw [HB.out]; rfl, rfl⟩
        · obtain rfl : k = X.length := by omega
          have HB : Hid (validT X = true) := hide (by
            have := HT.out
            rw [List.take_length] at this
            rw [HV.out, this]; rfl)
          go_wp2_with fail
          go_ret
          exact ⟨by rw [HB.out]; rfl, rfl⟩
    · have HV := hide (validT_cols (X := X) (by rw [HC.out]; exact hc1))
      go_enter Try.func43, Try.ntmps43
      rcases Nat.eq_zero_or_pos x0.length with h5 | h5
      · have d3 : decide ((x0.length : Int) < 1) = true := decide_eq_true (by omega)
        clear hc1 h5
        go_wp2_with (with_reducible refine idx_3 15 _ _ _ _ _ hs rfl hp.top _ _ 0 rfl rfl _ HUX0.out ?_; intro b o hcell hbo)
        go_ret
        exact ⟨by rw [HV.out]; rfl, rfl⟩
      · have d3 : decide ((x0.length : Int) < 1) = false := decide_eq_false (by omega)
        have d4 : decide (12 < (x0.length : Int)) = true := decide_eq_true (by omega)
        go_wp2_with (with_reducible refine idx_3 15 _ _ _ _ _ hs rfl hp.top _ _ 0 rfl rfl _ HUX0.out ?_; intro b o hcell hbo)
        go_ret
        exact ⟨by rw [HV.out]; rfl, rfl⟩
  · have HV := hide (validT_rows hX)
    go_enter Try.func43, Try.ntmps43
    rcases Nat.eq_zero_or_pos X.length with h5 | h5
    · have d3 : decide ((X.length : Int) < 1) = true := decide_eq_true (by omega)
      clear hX h5
      go_wp2_with fail
      go_ret
      exact ⟨by rw [HV.out]; rfl, rfl⟩
    · have d3 : decide ((X.length : Int) < 1) = false := decide_eq_false (by omega)
      have d4 : decide (12 < (X.length : Int)) = true := decide_eq_true (by omega)
      go_wp2_with fail
      go_ret
      exact ⟨by rw [HV.out]; rfl, rfl⟩
end Go.Proofs.Ytmjkhmebpciopaa
end

/- the text CP3 -/
section
/- Plain laws on packed rasters: no program in sight. -/
namespace Go.Proofs.Ytmjkhmebpciopaa
open Go.RowKit Go.Dx

/-- six dots as a number -/
def bt (b : Bool) (n : Nat) : Nat := if b then n else 0
def six (p : Nat → Bool) : Nat := bt (p 0) 1 + bt (p 1) 2 + bt (p 2) 4 + bt (p 3) 8 + bt (p 4) 16 + bt (p 5) 32
theorem bt_le (b : Bool) (n : Nat) : bt b n ≤ n := by unfold bt; split <;> omega
theorem six_lt (p : Nat → Bool) : six p < 64 := by
  have h0 := bt_le (p 0) 1
  have h1 := bt_le (p 1) 2
  have h2 := bt_le (p 2) 4
  have h3 := bt_le (p 3) 8
  have h4 := bt_le (p 4) 16
  have h5 := bt_le (p 5) 32
  unfold six; omega
theorem six_congr {p q : Nat → Bool} (h : ∀ d, d < 6 → p d = q d) : six p = six q := by
  unfold six; rw [h 0 (by omega), h 1 (by omega), h 2 (by omega), h 3 (by omega), h 4 (by omega), h 5 (by omega)]
theorem six_none {p : Nat → Bool} (h : ∀ d, d < 6 → p d = false) : six p = 0 := by
  rw [six_congr (q := fun _ => false) h]; rfl
theorem six_fin : ∀ b0 b1 b2 b3 b4 b5 : Bool, ∀ d : Fin 6, ((bt b0 1 + bt b1 2 + bt b2 4 + bt b3 8 + bt b4 16 + bt b5 32) / 2 ^ d.val % 2 == 1) = (match d.val with | 0 => b0 | 1 => b1 | 2 => b2 | 3 => b3 | 4 => b4 | _ => b5) := by decide +kernel
theorem six_get (p : Nat → Bool) (d : Nat) (hd : d < 6) : (six p / 2 ^ d % 2 == 1) = p d := by
  have h := six_fin (p 0) (p 1) (p 2) (p 3) (p 4) (p 5) ⟨d, hd⟩
  unfold six
  rw [h]
  have : d = 0 ∨ d = 1 ∨ d = 2 ∨ d = 3 ∨ d = 4 ∨ d = 5 := by omega
  rcases this with rfl | rfl | rfl | rfl | rfl | rfl <;> rfl
/-- one more dot -/
theorem six_or {p q : Nat → Bool} {d : Nat} (hd : d < 6) (h0 : p d = false) (h : ∀ e, e < 6 → q e = (p e || decide (e = d))) :
    bits BinOp.or IntKind.u8 ((six p : Nat) : Int) ((2 ^ d : Nat) : Int) = ((six q : Nat) : Int) := by
  have h1 := six_get p d hd
  rw [h0] at h1
  have h1' : ¬ (six p / 2 ^ d % 2 = 1) := by simpa using h1
  have h2 : six p / 2 ^ d % 2 = 0 := by omega
  rw [(and_fin ⟨six p, six_lt p⟩ ⟨d, hd⟩).2 h2]
  congr 1
  have e : six q = six fun e => p e || decide (e = d) := six_congr h
  rw [e]
  unfold six
  have : d = 0 ∨ d = 1 ∨ d = 2 ∨ d = 3 ∨ d = 4 ∨ d = 5 := by omega
  rcases this with rfl | rfl | rfl | rfl | rfl | rfl <;> simp [h0, bt] <;> omega

/-- the dots as a list, and Of -/
def sixDots (p : Nat → Bool) (k : Nat) : List Int := List.map (fun j : Nat => (j : Int) + 1) ((List.range k).filter p)
theorem sixDots_yes {p : Nat → Bool} {k : Nat} (h : p k = true) : sixDots p (k + 1) = sixDots p k ++ [(k : Int) + 1] := by
  unfold sixDots; rw [List.range_succ, List.filter_append]; simp [h]
theorem sixDots_no {p : Nat → Bool} {k : Nat} (h : p k = false) : sixDots p (k + 1) = sixDots p k := by
  unfold sixDots; rw [List.range_succ, List.filter_append]; simp [h]
theorem sixDots_len (p : Nat → Bool) (k : Nat) : (sixDots p k).length ≤ k := by
  unfold sixDots; rw [List.length_map]; exact Nat.le_trans (List.length_filter_le _ _) (by simp)
theorem filter_congr' {p q : Nat → Bool} : ∀ (l : List Nat), (∀ x, x ∈ l → p x = q x) → l.filter p = l.filter q
  | [], _ => rfl
  | x :: l, h => by
    rw [List.filter_cons, List.filter_cons, h x (by simp), filter_congr' l (fun y hy => h y (by simp [hy]))]
theorem sixOf_fin : ∀ b0 b1 b2 b3 b4 b5 : Bool, ofL (sixDots (fun d => match d with | 0 => b0 | 1 => b1 | 2 => b2 | 3 => b3 | 4 => b4 | _ => b5) 6) = (bt b0 1 + bt b1 2 + bt b2 4 + bt b3 8 + bt b4 16 + bt b5 32, 0) := by decide +kernel
theorem sixOf (p : Nat → Bool) : ofL (sixDots p 6) = (six p, 0) := by
  have h := sixOf_fin (p 0) (p 1) (p 2) (p 3) (p 4) (p 5)
  have e : sixDots p 6 = sixDots (fun d => match d with | 0 => p 0 | 1 => p 1 | 2 => p 2 | 3 => p 3 | 4 => p 4 | _ => p 5) 6 := by
    unfold sixDots
    rw [filter_congr' (List.range 6)]
    intro x hx
    have : x < 6 := List.mem_range.1 hx
    have : x = 0 ∨ x = 1 ∨ x = 2 ∨ x = 3 ∨ x = 4 ∨ x = 5 := by omega
    rcases this with rfl | rfl | rfl | rfl | rfl | rfl <;> rfl
  rw [e, h]; rfl

/-- A raster's dot; the dots before the place k. -/
def dotAt (W H : Nat) (b : List Bool) (x y : Nat) : Bool := decide (x < W) && decide (y < H) && b.getD (y * W + x) false
def dotTo (W H : Nat) (b : List Bool) (k x y : Nat) : Bool := dotAt W H b x y && decide (y * W + x < k)
def cellTo (W H : Nat) (b : List Bool) (k Y X : Nat) : Nat := six fun d => dotTo W H b k (2 * X + d / 3) (3 * Y + d % 3)
def cellAt (W H : Nat) (b : List Bool) (Y X : Nat) : Nat := six fun d => dotAt W H b (2 * X + d / 3) (3 * Y + d % 3)
theorem cellTo_zero (W H : Nat) (b : List Bool) (Y X : Nat) : cellTo W H b 0 Y X = 0 := six_none fun d _ => by simp [dotTo]
theorem idx_lt {W H x y : Nat} (hx : x < W) (hy : y < H) : y * W + x < W * H := by
  have : (y + 1) * W ≤ H * W := Nat.mul_le_mul_right _ hy
  rw [Nat.add_mul, Nat.one_mul] at this
  rw [Nat.mul_comm W H]; omega
theorem cellTo_all {W H : Nat} {b : List Bool} {k : Nat} (hk : W * H ≤ k) (Y X : Nat) : cellTo W H b k Y X = cellAt W H b Y X := six_congr fun d _ => by
  unfold dotTo
  cases h : dotAt W H b (2 * X + d / 3) (3 * Y + d % 3)
  · rfl
  · unfold dotAt at h
    simp only [Bool.and_eq_true, decide_eq_true_eq] at h
    have := idx_lt h.1.1 h.1.2
    simp; omega
theorem divmod {W x y k : Nat} (hW : 0 < W) (hx : x < W) : y * W + x = k ↔ x = k % W ∧ y = k / W := by
  constructor
  · rintro rfl
    refine ⟨?_, ?_⟩
    · rw [Nat.mul_comm, Nat.mul_add_mod, Nat.mod_eq_of_lt hx]
    · rw [Nat.mul_comm, Nat.mul_add_div hW, Nat.div_eq_of_lt hx, Nat.add_zero]
  · rintro ⟨rfl, rfl⟩
    have := Nat.div_add_mod k W
    rw [Nat.mul_comm] at this; exact this
/-- a dot that is not set changes nothing -/
theorem cellTo_no {W H : Nat} {b : List Bool} {k : Nat} (h : b.getD k false = false) (Y X : Nat) : cellTo W H b (k + 1) Y X = cellTo W H b k Y X := six_congr fun d _ => by
  unfold dotTo
  cases hd : dotAt W H b (2 * X + d / 3) (3 * Y + d % 3)
  · rfl
  · have hne : (3 * Y + d % 3) * W + (2 * X + d / 3) ≠ k := by
      intro e
      unfold dotAt at hd
      rw [e, h] at hd
      simp at hd
    have : ((3 * Y + d % 3) * W + (2 * X + d / 3) < k + 1) = ((3 * Y + d % 3) * W + (2 * X + d / 3) < k) := propext ⟨fun h => by omega, fun h => by omega⟩
    simp only [this]
/-- a dot that is set: another cell stays -/
theorem cellTo_other {W H : Nat} {b : List Bool} {k : Nat} (hW : 0 < W) (Y X : Nat) (h : ¬ (Y = k / W / 3 ∧ X = k % W / 2)) : cellTo W H b (k + 1) Y X = cellTo W H b k Y X := six_congr fun d hd6 => by
  unfold dotTo
  cases hd : dotAt W H b (2 * X + d / 3) (3 * Y + d % 3)
  · rfl
  · have hne : (3 * Y + d % 3) * W + (2 * X + d / 3) ≠ k := by
      intro e
      unfold dotAt at hd
      simp only [Bool.and_eq_true, decide_eq_true_eq] at hd
      obtain ⟨e1, e2⟩ := (divmod hW hd.1.1).1 e
      exact h ⟨by omega, by omega⟩
    have : ((3 * Y + d % 3) * W + (2 * X + d / 3) < k + 1) = ((3 * Y + d % 3) * W + (2 * X + d / 3) < k) := propext ⟨fun h => by omega, fun h => by omega⟩
    simp only [this]
/-- .. and its own cell gets it -/
theorem cellTo_own {W H : Nat} {b : List Bool} {k : Nat} (hW : 0 < W) (hk : k < W * H) (h : b.getD k false = true) :
    bits BinOp.or IntKind.u8 ((cellTo W H b k (k / W / 3) (k % W / 2) : Nat) : Int) ((2 ^ (k / W % 3 + 3 * (k % W % 2)) : Nat) : Int) = ((cellTo W H b (k + 1) (k / W / 3) (k % W / 2) : Nat) : Int) := by
  have hxW : k % W < W := Nat.mod_lt _ hW
  have hyH : k / W < H := Nat.div_lt_of_lt_mul hk
  have hm : k % W % 2 < 2 := Nat.mod_lt _ (by omega)
  have hm3 : k / W % 3 < 3 := Nat.mod_lt _ (by omega)
  have hdk := Nat.div_add_mod k W
  rw [Nat.mul_comm] at hdk
  unfold cellTo
  have e1 : 2 * (k % W / 2) + (k / W % 3 + 3 * (k % W % 2)) / 3 = k % W := by omega
  have e2 : 3 * (k / W / 3) + (k / W % 3 + 3 * (k % W % 2)) % 3 = k / W := by omega
  refine six_or (by omega) ?_ ?_
  · show dotTo W H b k (2 * (k % W / 2) + (k / W % 3 + 3 * (k % W % 2)) / 3) (3 * (k / W / 3) + (k / W % 3 + 3 * (k % W % 2)) % 3) = false
    rw [e1, e2]
    unfold dotTo
    rw [hdk]; simp
  · intro d hd6
    show dotTo W H b (k + 1) (2 * (k % W / 2) + d / 3) (3 * (k / W / 3) + d % 3) = (dotTo W H b k (2 * (k % W / 2) + d / 3) (3 * (k / W / 3) + d % 3) || decide (d = k / W % 3 + 3 * (k % W % 2)))
    by_cases hd : d = k / W % 3 + 3 * (k % W % 2)
    · subst hd
      rw [e1, e2]
      unfold dotTo dotAt
      rw [hdk, h]
      simp [hxW, hyH]
    · rw [decide_eq_false hd, Bool.or_false]
      unfold dotTo
      cases hda : dotAt W H b (2 * (k % W / 2) + d / 3) (3 * (k / W / 3) + d % 3)
      · rfl
      · have hne : (3 * (k / W / 3) + d % 3) * W + (2 * (k % W / 2) + d / 3) ≠ k := by
          intro e
          unfold dotAt at hda
          simp only [Bool.and_eq_true, decide_eq_true_eq] at hda
          obtain ⟨f1, f2⟩ := (divmod hW hda.1.1).1 e
          exact hd (by omega)
        have : ((3 * (k / W / 3) + d % 3) * W + (2 * (k % W / 2) + d / 3) < k + 1) = ((3 * (k / W / 3) + d % 3) * W + (2 * (k % W / 2) + d / 3) < k) := propext ⟨fun h => by omega, fun h => by omega⟩
        simp only [this]
/-- the packed page -/
def packRow (W H : Nat) (b : List Bool) (Y : Nat) : List UInt8 := (List.range ((W + 1) / 2)).map fun X => UInt8.ofNat (cellAt W H b Y X)
def packL (W H : Nat) (b : List Bool) : List (List UInt8) := (List.range ((H + 2) / 3)).map (packRow W H b)
theorem u8_six (n : Nat) (h : n < 64) : (UInt8.ofNat n).toNat = n := by rw [UInt8.toNat_ofNat']; omega
end Go.Proofs.Ytmjkhmebpciopaa
end

/- the text CP4 -/
section
/- Plain laws on unpacked pages: no program in sight. -/
namespace Go.Proofs.Ytmjkhmebpciopaa
open Go.RowKit Go.Dx

def wideL (p : List (List UInt8)) : Nat := p.foldl (fun m l => max m l.length) 0
theorem wideL_snoc (p : List (List UInt8)) (l : List UInt8) : wideL (p ++ [l]) = max (wideL p) l.length := by unfold wideL; rw [List.foldl_append]; rfl
theorem fold_ge (p : List (List UInt8)) : ∀ m, m ≤ p.foldl (fun m l => max m l.length) m ∧ ∀ l ∈ p, l.length ≤ p.foldl (fun m l => max m l.length) m := by
  induction p with
  | nil => intro m; simp
  | cons x p ih =>
    intro m
    have h := ih (max m x.length)
    refine ⟨by have := h.1; simp only [List.foldl_cons]; omega, ?_⟩
    intro l hl
    rcases List.mem_cons.1 hl with rfl | hl
    · have := h.1; simp only [List.foldl_cons]; omega
    · exact h.2 l hl
theorem wideL_ge {p : List (List UInt8)} {l : List UInt8} (h : l ∈ p) : l.length ≤ wideL p := (fold_ge p 0).2 l h
theorem fold_le {p : List (List UInt8)} {b : Nat} (h : ∀ l ∈ p, l.length ≤ b) : ∀ m, m ≤ b → p.foldl (fun m l => max m l.length) m ≤ b := by
  induction p with
  | nil => intro m hm; exact hm
  | cons x p ih =>
    intro m hm
    simp only [List.foldl_cons]
    refine ih (fun l hl => h l (by simp [hl])) _ ?_
    have := h x (by simp); omega
theorem wideL_le {p : List (List UInt8)} {b : Nat} (h : ∀ l ∈ p, l.length ≤ b) : wideL p ≤ b := fold_le h 0 (Nat.zero_le _)

/-- a cell of a page, 0 where there is none -/
def pcell (p : List (List UInt8)) (Y X : Nat) : UInt8 := (p.getD Y []).getD X 0
/-- the dot of a raster of width W at the index i -/
def rdot (p : List (List UInt8)) (W i : Nat) : Bool := dot (pcell p (i / W / 3) (i % W / 2)) (i / W % 3 + 3 * (i % W % 2))
def rbits (p : List (List UInt8)) (W k : Nat) : List Bool := (List.range k).map (rdot p W)
theorem rbits_succ (p : List (List UInt8)) (W k : Nat) : rbits p W (k + 1) = rbits p W k ++ [rdot p W k] := by unfold rbits; rw [List.range_succ, List.map_append]; rfl
theorem rbits_len (p : List (List UInt8)) (W k : Nat) : (rbits p W k).length = k := by unfold rbits; simp
theorem dot_zero (d : Nat) : dot 0 d = false := by
  unfold dot
  have : (0 : UInt8).toNat = 0 := rfl
  rw [this, Nat.zero_div]; rfl

/-- what is set when the rows before Y0, its cells before X0, and of this one the dots ds are set -/
def upTo (p : List (List UInt8)) (W Y0 X0 : Nat) (ds : List Int) (i : Nat) : Bool :=
  rdot p W i && (decide (i / W / 3 < Y0) || (decide (i / W / 3 = Y0) && (decide (i % W / 2 < X0) || (decide (i % W / 2 = X0) && decide (((i / W % 3 + 3 * (i % W % 2) : Nat) : Int) + 1 ∈ ds)))))
theorem upTo_zero (p : List (List UInt8)) (W i : Nat) : upTo p W 0 0 [] i = false := by unfold upTo; simp
theorem mem_dots {c : UInt8} {d : Nat} (hd : d < 6) : ((d : Int) + 1 ∈ dotsL c) ↔ dot c d = true := by
  unfold dotsL dotsTo
  rw [List.mem_map]
  constructor
  · rintro ⟨j, hj, e⟩
    obtain rfl : j = d := by omega
    exact (List.mem_filter.1 hj).2
  · intro h
    exact ⟨d, List.mem_filter.2 ⟨List.mem_range.2 hd, h⟩, rfl⟩
theorem six_idx (i W : Nat) : i / W % 3 + 3 * (i % W % 2) < 6 := by omega
theorem upTo_cell (p : List (List UInt8)) (W Y0 X0 i : Nat) : upTo p W Y0 X0 (dotsL (pcell p Y0 X0)) i = upTo p W Y0 (X0 + 1) [] i := by
  unfold upTo
  cases h : rdot p W i
  · rfl
  · congr 1
    by_cases hY : i / W / 3 = Y0
    · by_cases hX : i % W / 2 = X0
      · have hm : ((i / W % 3 + 3 * (i % W % 2) : Nat) : Int) + 1 ∈ dotsL (pcell p Y0 X0) := (mem_dots (six_idx i W)).2 (by unfold rdot at h; rw [hY, hX] at h; exact h)
        rw [decide_eq_true hm]
        simp [hY, hX]
      · have : (i % W / 2 < X0 + 1) = (i % W / 2 < X0) := propext ⟨fun h => by omega, fun h => by omega⟩
        simp [hY, hX, this]
    · simp [hY]
theorem pcell_out {p : List (List UInt8)} {r : List UInt8} {Y X : Nat} (hr : p[Y]? = some r) (hX : r.length ≤ X) : pcell p Y X = 0 := by
  unfold pcell
  rw [List.getD_eq_getElem?_getD, List.getD_eq_getElem?_getD, hr]
  simp only [Option.getD_some]
  rw [List.getElem?_eq_none hX]; rfl
theorem upTo_row {p : List (List UInt8)} {r : List UInt8} {Y0 : Nat} (hr : p[Y0]? = some r) (W i : Nat) : upTo p W Y0 r.length [] i = upTo p W (Y0 + 1) 0 [] i := by
  unfold upTo
  cases h : rdot p W i
  · rfl
  · congr 1
    by_cases hY : i / W / 3 = Y0
    · have hX : i % W / 2 < r.length := by
        rcases Nat.lt_or_ge (i % W / 2) r.length with h1 | h1
        · exact h1
        · exfalso
          unfold rdot at h
          rw [hY, pcell_out hr h1, dot_zero] at h
          cases h
      simp [hY, hX]
    · have : (i / W / 3 < Y0 + 1) = (i / W / 3 < Y0) := propext ⟨fun h => by omega, fun h => by omega⟩
      simp [hY, this]
theorem upTo_all {p : List (List UInt8)} {W i : Nat} (hi : i < W * (3 * p.length)) : upTo p W p.length 0 [] i = rdot p W i := by
  unfold upTo
  have h1 : i / W < 3 * p.length := Nat.div_lt_of_lt_mul hi
  have : i / W / 3 < p.length := by omega
  simp [this]
/-- one more dot -/
theorem upTo_dot {p : List (List UInt8)} {W Y0 X0 : Nat} {ds : List Int} {d : Nat} (hd : d < 6) (hW : 2 * X0 + 1 < W) (hdot : dot (pcell p Y0 X0) d = true) (i : Nat) :
    upTo p W Y0 X0 (ds ++ [(d : Int) + 1]) i = if i = (3 * Y0 + d % 3) * W + (2 * X0 + d / 3) then true else upTo p W Y0 X0 ds i := by
  have hx : 2 * X0 + d / 3 < W := by omega
  by_cases h : i = (3 * Y0 + d % 3) * W + (2 * X0 + d / 3)
  · rw [if_pos h]
    obtain ⟨e1, e2⟩ := (divmod (by omega) hx).1 h.symm
    have e3 : i / W / 3 = Y0 := by omega
    have e4 : i % W / 2 = X0 := by omega
    have e5 : i / W % 3 + 3 * (i % W % 2) = d := by omega
    unfold upTo rdot
    rw [e3, e4, e5, hdot]
    simp
  · rw [if_neg h]
    unfold upTo
    by_cases hY : i / W / 3 = Y0
    · by_cases hX : i % W / 2 = X0
      · have hne : ((i / W % 3 + 3 * (i % W % 2) : Nat) : Int) + 1 ≠ (d : Int) + 1 := by
          intro e
          have e5 : i / W % 3 + 3 * (i % W % 2) = d := by omega
          exact h ((divmod (by omega) hx).2 ⟨by omega, by omega⟩).symm
        simp only [List.mem_append, List.mem_singleton, hne, or_false]
      · simp [hX]
    · simp [hY]
theorem dotsTo_take (c : UInt8) (j : Nat) (x : Int) (h : (dotsL c)[j]? = some x) : ∃ d : Nat, d < 6 ∧ x = (d : Int) + 1 ∧ dot c d = true := by
  have hm := List.mem_of_getElem? h
  unfold dotsL dotsTo at hm
  obtain ⟨d, hd, rfl⟩ := List.mem_map.1 hm
  obtain ⟨h1, h2⟩ := List.mem_filter.1 hd
  exact ⟨d, List.mem_range.1 h1, rfl, h2⟩

/-- Unpack: width, height, dots, error -/
def unpackL (p : List (List UInt8)) : Nat × Nat × List Bool × Int :=
  if p.any (fun l => !validB l) then (0, 0, [], 1)
  else if 65536 < 2 * wideL p ∨ 65536 < 3 * p.length ∨ 65536 < 2 * wideL p * (3 * p.length) then (0, 0, [], 4)
  else (2 * wideL p, 3 * p.length, rbits p (2 * wideL p) (2 * wideL p * (3 * p.length)), 0)
end Go.Proofs.Ytmjkhmebpciopaa
end
