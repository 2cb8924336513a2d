/- The contracts of the functions that the law reaches, joined into one text. -/
import Derived.WalkKit
import Derived.Lib.Hide
import Derived.Deep.LoopGhost
import Derived.Deep.DeepCutAuto
import Derived.Deep.AppendSrc
import Derived.Deep.QuietTactic
import Derived.BigQuiet
import Derived.Deep.RegionWith
import Derived.Laws.IdiomStrings
import Derived.Laws.BitsAllLaws
import Derived.IntWalk
import Derived.Test.YtblgmjnkllkhbaaDoorChecked
import Derived.StillTailTactics
import Derived.Laws.CopyRow
set_option linter.unusedVariables false
set_option linter.unusedSimpArgs false

/- the text Mem -/
section
/- Memory words shared by all walks of this seat: what a slice reads as, what a call owns, and the laws on append in the walk's form. No program in sight. -/
namespace Go.Dx
open Go.RowKit

/-- a byte, an int as a cell -/
abbrev B8 (d : UInt8) : Value := .int .u8 (d.toNat : Int)
abbrev I64 (n : Int) : Value := .int .i64 n
theorem one_map {α : Type} (f : α → Value) (hf : ∀ x, (f x).oneCell' = true) (l : List α) : ∀ u ∈ l.map f, u.oneCell' = true := by
  intro u hu
  obtain ⟨x, _, rfl⟩ := List.mem_map.1 hu
  exact hf x
theorem hide {p : Prop} (h : p) : Hid p := h

/-- The slice value '.slice a n c' reads as the flat cells cs: n elements of sz cells each. -/
structure Sl (w : World) (sz : Nat) (a : Option Addr) (n c : Nat) (cs : List Value) : Prop where
  len : cs.length = n * sz
  le : n ≤ c
  cap : c ≤ maxLen
  nil : a = none → c = 0
  cell : ∀ p, a = some p → ∀ j u, cs[j]? = some u → w.cell? (p.add j) = some u

theorem Sl.n_eq {α : Type} {f : α → Value} {w : World} {a : Option Addr} {n c : Nat} {l : List α} (h : Sl w 1 a n c (l.map f)) : n = l.length := by
  have := h.len; simp at this; omega
theorem Sl.take {w : World} {a : Option Addr} {n c : Nat} {cs : List Value} (h : Sl w 1 a n c cs) (k : Nat) (hk : k ≤ n) : Sl w 1 a k c (cs.take k) := by
  have h1 := h.len
  have h2 := h.le
  refine ⟨by rw [List.length_take]; omega, by omega, h.cap, h.nil, fun p hp j u hj => h.cell p hp j u ?_⟩
  rw [List.getElem?_take] at hj
  split at hj
  · exact hj
  · cases hj
theorem Sl.ex {w : World} {sz : Nat} {a : Option Addr} {n c : Nat} {cs : List Value} (h : Sl w sz a n c cs) (h0 : 0 < cs.length) :
    ∃ b off, a = some ⟨b, off, none⟩ ∧ b < w.heap.size ∧ ∀ j u, cs[j]? = some u → w.cell? ⟨b, off + j, none⟩ = some u := by
  cases a with
  | none =>
    have := h.nil rfl
    have h1 := h.len
    have h2 := h.le
    have : n = 0 := by omega
    subst this
    simp at h1
    simp [h1] at h0
  | some p =>
    obtain ⟨b, off, spot⟩ := p
    have h1 := h.cell _ rfl 0 (cs[0]'h0) (by simp)
    have hs : spot = none := by simpa [Addr.add] using World.cell?_spot h1
    subst hs
    refine ⟨b, off, rfl, ?_, fun j u hj => ?_⟩
    · have := World.block_lt_of_cell? w _ h1
      simpa [Addr.add] using this
    · have := h.cell _ rfl j u hj
      rwa [Addr.add_lit] at this

theorem Sl.below {w w' : World} {sz : Nat} {a : Option Addr} {n c : Nat} {cs : List Value} (h : Sl w sz a n c cs) (hb : Below w.heap.size w w') : Sl w' sz a n c cs :=
  ⟨h.len, h.le, h.cap, h.nil, fun p hp j u hj => by
    have h1 := h.cell p hp j u hj
    rw [hb.cell (World.block_lt_of_cell? w _ h1)]
    exact h1⟩

theorem Sl.grown {w w' : World} {row : Option Nat} {sz : Nat} {a : Option Addr} {n c : Nat} {cs : List Value} (h : Sl w sz a n c cs) (hb : w.grownBy w' row) (hr : ∀ p, a = some p → some p.block ≠ row) : Sl w' sz a n c cs :=
  ⟨h.len, h.le, h.cap, h.nil, fun p hp j u hj => by
    have h1 := h.cell p hp j u hj
    refine hb.cell h1 ?_
    have : (p.add j).block = p.block := by unfold Addr.add; split <;> rfl
    rw [this]
    exact hr p hp⟩

theorem Sl.alloc {w : World} {sz : Nat} {a : Option Addr} {n c : Nat} {cs : List Value} (h : Sl w sz a n c cs) (o : Obj) : Sl (w.alloc o) sz a n c cs :=
  h.below ((Below.refl _ _).alloc (Nat.le_refl _) _)

theorem Sl.drew {w : World} {sz : Nat} {a : Option Addr} {n c : Nat} {cs : List Value} (h : Sl w sz a n c cs) : Sl w.drew sz a n c cs := ⟨h.len, h.le, h.cap, h.nil, h.cell⟩

theorem Sl.empty (w : World) (sz : Nat) : Sl w sz none 0 0 [] := ⟨by simp, Nat.le_refl _, Nat.zero_le _, fun _ => rfl, fun _ h => by cases h⟩

/-- What the call owns: the slice '.slice a n c' begins a row of its own, from block B on. -/
def Own (w : World) (B : Nat) (e : TypeId) (sz : Nat) (a : Option Addr) (n c : Nat) (cs : List Value) : Prop := w.ownsRow B e sz (.slice a n c) n cs

theorem Own.nil (w : World) (B : Nat) (e : TypeId) (sz : Nat) : Own w B e sz none 0 0 [] := World.ownsRow_nil w B e sz

theorem Own.len {w : World} {B : Nat} {e : TypeId} {sz : Nat} {a : Option Addr} {n c : Nat} {cs : List Value} (h : Own w B e sz a n c cs) : cs.length = n * sz := h.1

theorem Own.sl {w : World} {B : Nat} {e : TypeId} {sz : Nat} {a : Option Addr} {n c : Nat} {cs : List Value} (h : Own w B e sz a n c cs) : Sl w sz a n c cs := by
  refine ⟨h.1, ?_, ?_, ?_, ?_⟩
  · rcases h.2 with ⟨h1, h2⟩ | ⟨g, cap, cur, h1, _, _, h2, _⟩
    · omega
    · injection h1 with _ _ h1; omega
  · rcases h.2 with ⟨h1, h2⟩ | ⟨g, cap, cur, h1, _, _, _, h2, _⟩
    · injection h1 with _ _ h1; unfold maxLen; omega
    · injection h1 with _ _ h1; omega
  · intro ha
    rcases h.2 with ⟨h1, h2⟩ | ⟨g, cap, cur, h1, _, _, h2, _⟩
    · injection h1
    · injection h1 with h1; rw [ha] at h1; cases h1
  · intro p hp j u hj
    subst hp
    have h2 := h.2
    have hg : (Value.slice (some p) n c).ownBlock = some p.block := rfl
    have := World.ownsRow.cells h hg j u hj
    rcases h.2 with ⟨h1, _⟩ | ⟨g, cap, cur, h1, _⟩
    · cases h1
    · injection h1 with h1
      injection h1 with h1
      subst h1
      exact this

theorem Own.base {w : World} {B : Nat} {e : TypeId} {sz : Nat} {p : Addr} {n c : Nat} {cs : List Value} (h : Own w B e sz (some p) n c cs) : B ≤ p.block ∧ p.block < w.heap.size :=
  World.ownsRow.lt h p.block rfl

theorem Own.below {w w' : World} {B : Nat} {e : TypeId} {sz : Nat} {a : Option Addr} {n c : Nat} {cs : List Value} (h : Own w B e sz a n c cs) (hb : Below w.heap.size w w') : Own w' B e sz a n c cs := by
  refine ⟨h.1, ?_⟩
  rcases h.2 with h2 | ⟨g, cap, cur, h1, h2, h3, r⟩
  · exact .inl h2
  · refine .inr ⟨g, cap, cur, h1, h2, ?_, r⟩
    rw [hb.block g (Array.getElem?_eq_some_iff.1 h3).1]
    exact h3

theorem Own.mono {w : World} {B B' : Nat} {e : TypeId} {sz : Nat} {a : Option Addr} {n c : Nat} {cs : List Value} (h : Own w B e sz a n c cs) (hb : B' ≤ B) : Own w B' e sz a n c cs := by
  refine ⟨h.1, ?_⟩
  rcases h.2 with h2 | ⟨g, cap, cur, h1, h2, r⟩
  · exact .inl h2
  · exact .inr ⟨g, cap, cur, h1, by omega, r⟩

theorem Own.alloc {w : World} {B : Nat} {e : TypeId} {sz : Nat} {a : Option Addr} {n c : Nat} {cs : List Value} (h : Own w B e sz a n c cs) (o : Obj) : Own (w.alloc o) B e sz a n c cs :=
  World.ownsRow.alloc h o

theorem Own.drew {w : World} {B : Nat} {e : TypeId} {sz : Nat} {a : Option Addr} {n c : Nat} {cs : List Value} (h : Own w B e sz a n c cs) : Own w.drew B e sz a n c cs := h

theorem Own.kept {w w' : World} {row : Option Nat} {B : Nat} {e : TypeId} {sz : Nat} {a : Option Addr} {n c : Nat} {cs : List Value} (h : Own w B e sz a n c cs) (hg : w.grownBy w' row) (hne : ∀ p, a = some p → some p.block ≠ row) : Own w' B e sz a n c cs := by
  refine World.ownsRow.kept h hg ?_
  cases a with
  | none => exact .inl rfl
  | some p => exact .inr (hne p rfl)

/-- a literal slice just built -/
theorem Own.built (w : World) (B : Nat) (e : TypeId) (sz n : Nat) (us : Array Value) (hB : B ≤ w.heap.size) (hn : us.size = n * sz) (hm : n ≤ maxLen) :
    Own (w.alloc (.cells us e)) B e sz (some ⟨w.heap.size, 0, none⟩) n n us.toList :=
  ⟨by simpa using hn, .inr ⟨w.heap.size, n, us, rfl, hB, heap_alloc_new w _, Nat.le_refl _, hm, hn, by rw [← hn, ← Array.length_toList]; exact List.take_length⟩⟩

theorem ownBlock_of (a : Option Addr) (n c : Nat) : (Value.slice a n c).ownBlock = a.map (·.block) := by cases a <;> rfl

theorem undrew {B : Nat} {w w' : World} (h : Below B w.drew w') : Below B w w' := ⟨h.os, h.tape, h.output, h.size, h.block⟩
theorem undrewN {B n : Nat} {w w' : World} (h : Below B (w.drewN n) w') : Below B w w' := ⟨h.os, h.tape, h.output, h.size, h.block⟩

section laws
variable {P : Program} {w : World} {ops : Array Oper} {rest : List Oper} {o : Oper} {act : Act} {Q : Exit → Act → World → Prop}

theorem Sl.src {sz : Nat} {a : Option Addr} {m c : Nat} {ys : List Value} (h : Sl w sz a m c ys) {tx e' : TypeId} (hk : P.underlying tx = some (.slice e')) (h1 : ∀ u ∈ ys, u.oneCell' = true) : Src P sz tx (.slice a m c) m ys w := by
  cases a with
  | some ad => exact Src.ofSlice w hk ad m c ys h.len (h.cell ad rfl) h1
  | none =>
    have hc := h.nil rfl
    have hle := h.le
    obtain rfl : m = 0 := by omega
    have hnews : ys = [] := List.eq_nil_of_length_eq_zero (by simpa using h.len)
    subst hnews
    exact Src.ofNil w hk c

theorem run_append_any (base : Nat) (t tx ty e : TypeId) (i : TypeInfo) (z : Value) (ht : P.underlying t = some (.slice e)) (hi : P.info? e = some i) (hz : i.zero = some z)
    (hzs : z.cells.size = i.size) (a : Option Addr) (n c : Nat) (xs : List Value) (hown : Own w base e i.size a n c xs)
    (x : Value) (m : Nat) (news : List Value) (hs : Src P i.size tx x m news w)
    (h63 : n + m ≤ maxLen) (hbytes : (n + m) * i.bytes ≤ 140737488355328) (hbase : base ≤ w.heap.size) :
    ∃ a' c' w', (Builtin.append_ #[t, tx] ty #[.slice a n c, x]).run P w = .ok (.slice a' (n + m) c') w' ∧ Own w' base e i.size a' (n + m) c' (xs ++ news) ∧ w.grownBy w' (a.map (·.block)) := by
  have hsmall : n + m ≤ 9223372036854775807 := by simp only [maxLen] at h63; omega
  have hlen : (xs ++ news).length = (n + m) * i.size := by rw [List.length_append, hown.1, hs.newsLen, Nat.add_mul]
  have hold : (Builtin.firstCells i.size n (.slice a n c)).run P w.drew = .ok xs.toArray w.drew := by
    have hsl := hown.sl
    cases a with
    | none =>
      have := hsl.nil rfl
      have := hsl.le
      obtain rfl : n = 0 := by omega
      have hnews : xs = [] := List.eq_nil_of_length_eq_zero (by simpa using hsl.len)
      subst hnews
      exact run_firstCells_none w.drew i.size 0 0 c
    | some p => exact run_firstCells_some w.drew i.size n p n c xs hsl.len (by simpa using hsl.cell p rfl)
  by_cases hroom : n + m ≤ c
  · rcases hown.2 with ⟨h1, h2⟩ | ⟨g, cap, cur, h1, hbg, hg, hnc, hcm, hcs, htake⟩
    · injection h1 with h1 h3 h4
      subst h1 h3 h4
      obtain rfl : m = 0 := by omega
      have hx : xs = [] := List.eq_nil_of_length_eq_zero (by simpa using hown.1)
      have hnews : news = [] := List.eq_nil_of_length_eq_zero (by simpa using hs.newsLen)
      subst hx hnews
      refine ⟨none, 0, w, ?_, Own.nil w base e i.size, World.grownBy.refl _ _⟩
      rcases hs.kind with ⟨e', hk⟩ | hk <;> simp [Builtin.append_, run_underlying ht, run_underlying hk, sizeOf, typeInfo, hi, hs.len, hs.cells]
    · injection h1 with h1 h3 h4
      subst h1 h4
      have hfit : n * i.size + news.length ≤ cur.size := by rw [hs.newsLen, hcs, ← Nat.add_mul]; exact Nat.mul_le_mul_right _ hroom
      have hst := run_storeCells_at P g (n * i.size) e news 0 cur w hg (by simpa using hfit) hs.one
      simp only [Nat.add_zero] at hst
      refine ⟨some ⟨g, 0, none⟩, c, w.setRow g (cur.toList.take (n * i.size) ++ news ++ cur.toList.drop (n * i.size + news.length)).toArray, ?_, ⟨hlen, .inr ⟨g, c, _, rfl, hbg, setRow_heap w g cur _ e _ hg, hroom, hcm, ?_, ?_⟩⟩, ⟨rfl, rfl, rfl, by simp, fun k _ hk => setRow_other w g k _ (fun e => hk (by simp [e]))⟩⟩
      · rcases hs.kind with ⟨e', hk⟩ | hk <;> simp [Builtin.append_, run_underlying ht, run_underlying hk, sizeOf, typeInfo, hi, hs.len, hroom, hs.cells, Addr.add_lit, hst]
      · simp only [List.size_toArray, List.length_append, List.length_take, List.length_drop, Array.length_toList]
        omega
      · rw [htake, ← hlen]
        exact List.take_left
  · have hr := run_append_grow_src (P := P) w t tx ty e i z ht hi hz a n c xs hold x m news hs (by omega) (by omega) (growslice_fits (by omega) hbytes)
    have hge := grownCap_ge w (n + m) c e
    have hcm : grownCap w (n + m) c e ≤ maxLen := grownCap_le_maxLen w (n + m) c e h63
    refine ⟨_, _, _, hr, ⟨hlen, .inr ⟨w.heap.size, _, _, rfl, hbase, heap_alloc_new w.drew _, hge, hcm, ?_, ?_⟩⟩, ⟨rfl, rfl, rfl, by simp, fun k hk _ => Below.heap_alloc w.drew _ k hk⟩⟩
    · simp only [Array.size_append, List.size_toArray, size_zeroCells, hzs, hlen, ← Nat.add_mul]
      congr 1
      omega
    · simp only [Array.toList_append, List.append_assoc]
      rw [← List.append_assoc, ← hlen]
      exact List.take_left

/-- 'append(out, x...)', out owned, whatever x is: the general law. -/
theorem append_src (hg : o.guard = none) (s x : Operand) (t tx : TypeId) (hop : o.op = Op.call { callee := Callee.builtin Builtin.append, args := #[s, x], argTypes := #[t, tx] })
    (e : TypeId) (z : Value) (sz bytes : Nat) (ht : P.underlying t = some (.slice e)) (hi : (P.info? e).map (fun i => (i.zero, i.size, i.bytes)) = some (some z, sz, bytes)) (hz : z.cells.size = sz)
    (w0 : World) (B : Nat) (a : Option Addr) (n c : Nat) (xs : List Value) (hs : act.eval s = .slice a n c) (hown : Own w B e sz a n c xs)
    (v : Value) (m : Nat) (ys : List Value) (hx : act.eval x = v) (hy : Src P sz tx v m ys w)
    (hn : (n + m) * bytes ≤ 140737488355328) (hn2 : n + m ≤ maxLen) (hB : B ≤ w.heap.size) (hbel : Below B w0 w)
    (hK : ∀ a' c' w', Own w' B e sz a' (n + m) c' (xs ++ ys) → w.grownBy w' (a.map (·.block)) → Below B w0 w' → wpList P ops Q rest (act.put o.dst (.slice a' (n + m) c')) w') :
    wpList P ops Q (o :: rest) act w := by
  obtain ⟨i, hi0, hz0, hz1, hz2⟩ := info_parts hi
  subst hz1 hz2
  clear hi
  obtain ⟨a', c', w', hrun, ho, hgr⟩ := run_append_any B t tx o.type e i z ht hi0 hz0 hz a n c xs hown v m ys hy hn2 hn hB
  refine wpList_plain hg fun K hK' => ?_
  unfold Oper.wp
  simp [execOp, hop, resolve, invoke, builtin, hs, hx, hrun, Result.andThen]
  refine hK' _ _ (hK a' c' w' ho hgr (hbel.grown hgr hB ?_))
  intro k hk
  cases a with
  | none => cases hk
  | some p => injection hk with hk; subst hk; exact hown.base.1

/-- 'append(out, ys...)', out owned, ys a slice. -/
theorem append_own (hg : o.guard = none) (s x : Operand) (t : TypeId) (hop : o.op = Op.call { callee := Callee.builtin Builtin.append, args := #[s, x], argTypes := #[t, t] })
    (e : TypeId) (z : Value) (sz bytes : Nat) (ht : P.underlying t = some (.slice e)) (hi : (P.info? e).map (fun i => (i.zero, i.size, i.bytes)) = some (some z, sz, bytes)) (hz : z.cells.size = sz)
    (w0 : World) (B : Nat) (a : Option Addr) (n c : Nat) (xs : List Value) (hs : act.eval s = .slice a n c) (hown : Own w B e sz a n c xs)
    (a2 : Option Addr) (m c2 : Nat) (ys : List Value) (hx : act.eval x = .slice a2 m c2) (hy : Sl w sz a2 m c2 ys) (h1 : ∀ u ∈ ys, u.oneCell' = true)
    (hn : (n + m) * bytes ≤ 140737488355328) (hn2 : n + m ≤ maxLen) (hB : B ≤ w.heap.size) (hbel : Below B w0 w)
    (hK : ∀ a' c' w', Own w' B e sz a' (n + m) c' (xs ++ ys) → w.grownBy w' (a.map (·.block)) → Below B w0 w' → wpList P ops Q rest (act.put o.dst (.slice a' (n + m) c')) w') :
    wpList P ops Q (o :: rest) act w :=
  append_src hg s x t t hop e z sz bytes ht hi hz w0 B a n c xs hs hown _ m ys hx (hy.src ht h1) hn hn2 hB hbel hK

/-- 'append(out, u, ..)': what is appended lies in a block that was laid just before. -/
theorem append_lit (hg : o.guard = none) (s x : Operand) (t : TypeId) (hop : o.op = Op.call { callee := Callee.builtin Builtin.append, args := #[s, x], argTypes := #[t, t] })
    (e : TypeId) (z : Value) (sz bytes : Nat) (ht : P.underlying t = some (.slice e)) (hi : (P.info? e).map (fun i => (i.zero, i.size, i.bytes)) = some (some z, sz, bytes)) (hz : z.cells.size = sz)
    (w0 : World) (B : Nat) (a : Option Addr) (n c : Nat) (xs : List Value) (hs : act.eval s = .slice a n c) (hown : Own w B e sz a n c xs)
    (m : Nat) (us : List Value) (hx : act.eval x = .slice (some ⟨w.heap.size, 0, none⟩) m m) (hu : us.length = m * sz) (h1 : ∀ u ∈ us, u.oneCell' = true)
    (hn : (n + m) * bytes ≤ 140737488355328) (hn2 : n + m ≤ maxLen) (hB : B ≤ w.heap.size) (hbel : Below B w0 w)
    (hK : ∀ a' c' w', Own w' B e sz a' (n + m) c' (xs ++ us) → w.grownBy w' (a.map (·.block)) → Below B w0 w' → wpList P ops Q rest (act.put o.dst (.slice a' (n + m) c')) w') :
    wpList P ops Q (o :: rest) act (w.alloc (.cells us.toArray e)) := by
  refine append_own hg s x t hop e z sz bytes ht hi hz w0 B a n c xs hs (hown.alloc _) _ m m us hx ?_ h1 hn hn2 (by simp; omega) (hbel.alloc hB _) ?_
  · have := (Own.built w 0 e sz m us.toArray (Nat.zero_le _) (by simpa using hu) (by omega)).sl
    simpa using this
  · intro a' c' w' ho hgr hb
    refine hK a' c' w' ho ⟨hgr.os, hgr.tape, hgr.output, ?_, ?_⟩ hb
    · have := hgr.size; simp at this; omega
    · intro k hk hne
      rw [hgr.block k (by simp; omega) hne]
      rw [Below.heap_alloc _ _ _ hk]
/-- What a call hands back that returns a slice of its own. -/
def Gives (e : TypeId) (sz n : Nat) (cs : List Value) (w : World) (r : Ending) (w' : World) : Prop :=
  ∃ a c, r = .returned (.slice a n c) ∧ Own w' w.heap.size e sz a n c cs ∧ Below w.heap.size w w'
/-- What a call hands back that only reads. -/
def Still (v : Value) (w : World) (r : Ending) (w' : World) : Prop := r = .returned v ∧ ∃ n, w' = w.drewN n
theorem Still.below {w : World} (n : Nat) : Below w.heap.size w (w.drewN n) := ⟨rfl, rfl, rfl, Nat.le_refl _, fun _ _ => rfl⟩
end laws
end Go.Dx
end

/- the text Ops -/
section
/- Laws of the walk in terms of 'Sl': an index, a cut, a conversion. No program in sight. -/
set_option linter.unusedVariables false
namespace Go.Dx
open Go.RowKit

theorem sl_add {p : Addr} (i j : Nat) : (p.add i).add j = p.add (i + j) := by
  unfold Addr.add
  by_cases hi : i = 0
  · subst hi; simp
  · by_cases hj : j = 0
    · subst hj; simp
    · simp [hi, hj]; omega

theorem Sl.cut {w : World} {sz : Nat} {a : Option Addr} {n c : Nat} {cs : List Value} (h : Sl w sz a n c cs) (l u : Nat) (hl : l ≤ u) (hu : u ≤ n) :
    Sl w sz (if c = l then a else a.map (·.add (l * sz))) (u - l) (c - l) ((cs.drop (l * sz)).take ((u - l) * sz)) := by
  have h1 := h.len
  have h2 := h.le
  have h3 := h.cap
  have hm : u * sz ≤ n * sz := Nat.mul_le_mul_right _ hu
  have hm2 : l * sz ≤ u * sz := Nat.mul_le_mul_right _ hl
  have hsub : (u - l) * sz = u * sz - l * sz := Nat.sub_mul _ _ _
  refine ⟨?_, by omega, by omega, ?_, ?_⟩
  · rw [List.length_take, List.length_drop]; omega
  · intro ha
    by_cases hc : c = l
    · omega
    · rw [if_neg hc] at ha
      cases a with
      | none => have := h.nil rfl; omega
      | some p => cases ha
  · intro p hp j v hj
    rw [List.getElem?_take] at hj
    split at hj
    · rename_i hlt
      rw [List.getElem?_drop] at hj
      by_cases hc : c = l
      · have : (u - l) * sz = 0 := by have : u - l = 0 := by omega
                                      rw [this, Nat.zero_mul]
        omega
      · rw [if_neg hc] at hp
        cases a with
        | none => cases hp
        | some q =>
          simp only [Option.map_some, Option.some.injEq] at hp
          subst hp
          rw [sl_add]
          exact h.cell q rfl _ _ hj
    · cases hj

theorem Sl.fresh (w : World) (e : TypeId) (sz n : Nat) (us : List Value) (hn : us.length = n * sz) (hm : n ≤ maxLen) : Sl (w.alloc (.cells us.toArray e)) sz (some ⟨w.heap.size, 0, none⟩) n n us :=
  ⟨hn, Nat.le_refl _, hm, (fun h => by cases h), fun p hp j u hj => by
    cases hp
    rw [Addr.add_lit, Nat.zero_add, cell_of_row _ w.heap.size j us.toArray e _ (heap_alloc_new w _)]
    simpa using hj⟩

section ops
variable {P : Program} {w : World} {ops : Array Oper} {rest : List Oper} {act : Act} {Q : Exit → Act → World → Prop}
  {ty : TypeId} {pos : String} {after : Array Edge}

/-- 'xs[i]', the address: a cell that holds u. -/
theorem index_sl (d : Nat) (t : TypeId) (x y : Operand) (e : TypeId) (ht : P.underlying t = some (.slice e)) (hsz : (P.info? e).map (·.size) = some 1)
    (a : Option Addr) (n c : Nat) (cs : List Value) (hx : act.eval x = .slice a n c) (hs : Sl w 1 a n c cs) (k : IntKind) (iv : Int) (i : Nat) (hy : act.eval y = .int k iv) (hiv : iv = (i : Int))
    (u : Value) (hu : cs[i]? = some u)
    (hK : ∀ b o, w.cell? ⟨b, o, none⟩ = some u → b < w.heap.size → wpList P ops Q rest (act.put (some d) (.pointer (some ⟨b, o, none⟩))) w) :
    wpList P ops Q ({ dst := some d, op := .indexAddr t x y, type := ty, pos := pos, after := after, guard := none } :: rest) act w := by
  refine wpList_plain rfl fun K hK' => ?_
  have hil : i < cs.length := (List.getElem?_eq_some_iff.1 hu).1
  have hn : i < n := by have := hs.len; omega
  obtain ⟨b, o, rfl, hb, hc⟩ := hs.ex (by omega)
  obtain ⟨i0, hi0, hs0⟩ := Option.map_eq_some_iff.1 hsz
  subst hiv
  have hrun : (Instr.indexAt t (.slice (some ⟨b, o, none⟩) n c) (.int k (i : Int))).run P w = .ok (.pointer (some ⟨b, o + i, none⟩)) w := by
    simp [Instr.indexAt, asIntOf, run_underlying ht, sizeOf, typeInfo, hi0, hs0, hn, Addr.add_lit]
  unfold Oper.wp
  simp [execOp, hx, hy, hrun, Result.andThen]
  exact hK' _ _ (hK b (o + i) (hc i u hu) hb)

/-- 'xs[l:u]' -/
theorem cut_sl (d : Nat) (t : TypeId) (x lo hi : Operand) (e : TypeId) (ht : P.underlying t = some (.slice e)) (sz : Nat) (hsz : (P.info? e).map (·.size) = some sz)
    (a : Option Addr) (n c : Nat) (cs : List Value) (hx : act.eval x = .slice a n c) (hs : Sl w sz a n c cs) (kl ku : IntKind) (lv uv : Int) (l u : Nat) (hl : act.eval lo = .int kl lv) (hu : act.eval hi = .int ku uv)
    (hlv : lv = (l : Int)) (huv : uv = (u : Int)) (hlu : l ≤ u) (hun : u ≤ n)
    (hK : ∀ a', Sl w sz a' (u - l) (c - l) ((cs.drop (l * sz)).take ((u - l) * sz)) → (∀ p, a' = some p → ∃ q, a = some q ∧ q.block = p.block) → wpList P ops Q rest (act.put (some d) (.slice a' (u - l) (c - l))) w) :
    wpList P ops Q ({ dst := some d, op := .slice t x (some lo) (some hi) none, type := ty, pos := pos, after := after, guard := none } :: rest) act w := by
  refine wpList_plain rfl fun K hK' => ?_
  subst hlv huv
  obtain ⟨i0, hi0, hs0⟩ := Option.map_eq_some_iff.1 hsz
  have hle := hs.le
  have hrun : (Instr.sliceAt t (.slice a n c) (some (.int kl (l : Int))) (some (.int ku (u : Int))) none).run P w = .ok (.slice (if c = l then a else a.map (·.add (l * sz))) (u - l) (c - l)) w := by
    have h2 : (0 : Int) ≤ l ∧ (l : Int) ≤ u := by omega
    have h3 : (0 : Int) ≤ u ∧ (u : Int) ≤ c := by omega
    simp [Instr.sliceAt, Instr.slice, Instr.sliceBounds, Instr.sliceBound, asIntOf, run_underlying ht, sizeOf, typeInfo, hi0, hs0, h2, h3, show u ≤ c by omega, hlu]
  unfold Oper.wp
  simp only [execOp, Option.map_some, Option.map_none, hx, hl, hu, Sem.run_bind, hrun, Result.andThen, Sem.run_pure]
  refine hK' _ _ (hK _ (hs.cut l u hlu hun) ?_)
  intro p hp
  by_cases hc : c = l
  · rw [if_pos hc] at hp; exact ⟨p, hp, rfl⟩
  · rw [if_neg hc] at hp
    cases a with
    | none => cases hp
    | some q =>
      simp only [Option.map_some, Option.some.injEq] at hp
      exact ⟨q, rfl, by rw [← hp]; unfold Addr.add; split <;> rfl⟩

/-- 'xs[l:]' -/
theorem cut_lo (d : Nat) (t : TypeId) (x lo : Operand) (e : TypeId) (ht : P.underlying t = some (.slice e)) (sz : Nat) (hsz : (P.info? e).map (·.size) = some sz)
    (a : Option Addr) (n c : Nat) (cs : List Value) (hx : act.eval x = .slice a n c) (hs : Sl w sz a n c cs) (kl : IntKind) (lv : Int) (l : Nat) (hl : act.eval lo = .int kl lv)
    (hlv : lv = (l : Int)) (hln : l ≤ n)
    (hK : ∀ a', Sl w sz a' (n - l) (c - l) (cs.drop (l * sz)) → (∀ p, a' = some p → ∃ q, a = some q ∧ q.block = p.block) → wpList P ops Q rest (act.put (some d) (.slice a' (n - l) (c - l))) w) :
    wpList P ops Q ({ dst := some d, op := .slice t x (some lo) none none, type := ty, pos := pos, after := after, guard := none } :: rest) act w := by
  refine wpList_plain rfl fun K hK' => ?_
  subst hlv
  obtain ⟨i0, hi0, hs0⟩ := Option.map_eq_some_iff.1 hsz
  have hle := hs.le
  have hrun : (Instr.sliceAt t (.slice a n c) (some (.int kl (l : Int))) none none).run P w = .ok (.slice (if c = l then a else a.map (·.add (l * sz))) (n - l) (c - l)) w := by
    have h2 : (0 : Int) ≤ l ∧ (l : Int) ≤ n := by omega
    simp [Instr.sliceAt, Instr.slice, Instr.sliceBounds, Instr.sliceBound, asIntOf, run_underlying ht, sizeOf, typeInfo, hi0, hs0, h2, hln]
  have hcut := hs.cut l n hln (Nat.le_refl _)
  have e2 : (cs.drop (l * sz)).take ((n - l) * sz) = cs.drop (l * sz) := by
    apply List.take_of_length_le
    have := hs.len
    rw [List.length_drop, this, Nat.sub_mul]; omega
  rw [e2] at hcut
  unfold Oper.wp
  simp only [execOp, Option.map_some, Option.map_none, hx, hl, Sem.run_bind, hrun, Result.andThen, Sem.run_pure]
  refine hK' _ _ (hK _ hcut ?_)
  intro p hp
  by_cases hc : c = l
  · rw [if_pos hc] at hp; exact ⟨p, hp, rfl⟩
  · rw [if_neg hc] at hp
    cases a with
    | none => cases hp
    | some q =>
      simp only [Option.map_some, Option.some.injEq] at hp
      exact ⟨q, rfl, by rw [← hp]; unfold Addr.add; split <;> rfl⟩

/-- 'xs[:u]': the address stays. -/
theorem cut_hi (d : Nat) (t : TypeId) (x hi : Operand) (e : TypeId) (ht : P.underlying t = some (.slice e)) (sz : Nat) (hsz : (P.info? e).map (·.size) = some sz)
    (a : Option Addr) (n c : Nat) (cs : List Value) (hx : act.eval x = .slice a n c) (hs : Sl w sz a n c cs) (ku : IntKind) (uv : Int) (u : Nat) (hu : act.eval hi = .int ku uv)
    (huv : uv = (u : Int)) (hun : u ≤ n)
    (hK : Sl w sz a u c (cs.take (u * sz)) → wpList P ops Q rest (act.put (some d) (.slice a u c)) w) :
    wpList P ops Q ({ dst := some d, op := .slice t x none (some hi) none, type := ty, pos := pos, after := after, guard := none } :: rest) act w := by
  refine wpList_plain rfl fun K hK' => ?_
  subst huv
  obtain ⟨i0, hi0, hs0⟩ := Option.map_eq_some_iff.1 hsz
  have hle := hs.le
  have hrun : (Instr.sliceAt t (.slice a n c) none (some (.int ku (u : Int))) none).run P w = .ok (.slice a u c) w := by
    have h3 : (0 : Int) ≤ u ∧ (u : Int) ≤ c := by omega
    simp [Instr.sliceAt, Instr.slice, Instr.sliceBounds, Instr.sliceBound, asIntOf, run_underlying ht, sizeOf, typeInfo, hi0, h3, show u ≤ c by omega]
    intro _
    cases a with
    | none => rfl
    | some p => simp [Addr.add]
  have hcut := hs.cut 0 u (Nat.zero_le _) hun
  have e2 : (if c = 0 then a else a.map (·.add (0 * sz))) = a := by
    split
    · rfl
    · cases a with
      | none => rfl
      | some p => simp [Addr.add]
  rw [e2] at hcut
  simp only [Nat.sub_zero, Nat.zero_mul, List.drop_zero] at hcut
  unfold Oper.wp
  simp only [execOp, Option.map_some, Option.map_none, hx, hu, Sem.run_bind, hrun, Result.andThen, Sem.run_pure]
  exact hK' _ _ (hK hcut)

/-- 'string(b)' -/
theorem conv_str (d : Nat) (src dst : TypeId) (x : Operand) (e : TypeId) (hsr : P.underlying src = some (.slice e)) (he : P.underlying e = some (.int .u8)) (hd : P.underlying dst = some .string)
    (a : Option Addr) (n c : Nat) (l : List UInt8) (hx : act.eval x = .slice a n c) (hs : Sl w 1 a n c (l.map B8))
    (hK : wpList P ops Q rest (act.put (some d) (.string ⟨l.toArray⟩)) w) :
    wpList P ops Q ({ dst := some d, op := .convert src dst x, type := ty, pos := pos, after := after, guard := none } :: rest) act w := by
  refine wpList_plain rfl fun K hK' => ?_
  obtain rfl := hs.n_eq
  have hrun : (convert src dst (.slice a l.length c)).run P w = .ok (.string ⟨l.toArray⟩) w := by
    cases a with
    | some p =>
      exact run_convert_bytes_back w src dst e p c l hsr he hd (fun j hj => hs.cell p rfl j _ (by simp [hj]))
    | none =>
      have := hs.nil rfl
      have := hs.le
      have hl : l = [] := List.eq_nil_of_length_eq_zero (by omega)
      subst hl
      simp [convert, run_underlying hsr, run_underlying hd, run_underlying he, Conv.bytesToString]
      rfl
  unfold Oper.wp
  simp [execOp, hx, hrun, Result.andThen]
  exact hK' _ _ hK

/-- '[]byte(s)' -/
theorem conv_bytes (d : Nat) (src dst : TypeId) (x : Operand) (e : TypeId) (hsr : P.underlying src = some .string) (hd : P.underlying dst = some (.slice e)) (he : P.underlying e = some (.int .u8))
    (s : ByteArray) (hx : act.eval x = .string s) (hm : s.size ≤ maxLen)
    (hK : ∀ a c w', Sl w' 1 a s.size c (s.data.toList.map B8) → Below w.heap.size w w' → (∀ p, a = some p → w.heap.size ≤ p.block) → wpList P ops Q rest (act.put (some d) (.slice a s.size c)) w') :
    wpList P ops Q ({ dst := some d, op := .convert src dst x, type := ty, pos := pos, after := after, guard := none } :: rest) act w := by
  refine wpList_plain rfl fun K hK' => ?_
  have hrun := run_bytes_of_string (P := P) w src dst e s hsr hd he
  have hge := grownCap_ge w s.size 0 e
  have hcm := grownCap_le_maxLen w s.size 0 e hm
  unfold Oper.wp
  simp only [execOp, hx, Sem.run_bind, hrun, Result.andThen, Sem.run_pure]
  refine hK' _ _ (hK _ _ _ ⟨?_, hge, hcm, (fun h => by cases h), ?_⟩ ((Below.refl _ _).drew.alloc (Nat.le_refl _) _) (fun p hp => by cases hp; exact Nat.le_refl _))
  · rw [List.length_map, Array.length_toList, Nat.mul_one]; rfl
  · intro p hp j u hj
    cases hp
    rw [Addr.add_lit, Nat.zero_add, cell_of_row _ w.heap.size j (bytesRow s (grownCap w s.size 0 e)) e _ (heap_alloc_new w.drew _)]
    have hj2 : j < s.size := by
      have := (List.getElem?_eq_some_iff.1 hj).1
      rw [List.length_map, Array.length_toList] at this
      exact this
    unfold bytesRow
    rw [Array.getElem?_append_left (by rw [Array.size_map]; exact hj2)]
    rw [← hj]
    simp
/-- a whole array or struct is loaded -/
theorem load_agg (d : Nat) (t : TypeId) (x : Operand) (sz : Nat) (hsz : (P.info? t).map (·.size) = some sz) (n e : Nat) (hag : P.underlying t = some (.array n e))
    (p : Addr) (hx : act.eval x = .pointer (some p)) (cs : List Value) (hl : cs.length = sz) (hc : ∀ j u, cs[j]? = some u → w.cell? (p.add j) = some u)
    (hK : wpList P ops Q rest (act.put (some d) (.agg cs.toArray)) w) :
    wpList P ops Q ({ dst := some d, op := .load t x, type := ty, pos := pos, after := after, guard := none } :: rest) act w := by
  refine wpList_plain rfl fun K hK' => ?_
  obtain ⟨i, hi, hs0⟩ := Option.map_eq_some_iff.1 hsz
  subst hs0
  have hrun : (Instr.loadAt t (.pointer (some p))).run P w = .ok (.agg cs.toArray) w := by
    have hl2 := run_loadCells_list (P := P) w p cs hc
    rw [hl] at hl2
    simp [Instr.loadAt, Instr.sureAddr, loadVar, isAgg, run_underlying hag, sizeOf, typeInfo, hi, hl2]
  unfold Oper.wp
  simp [execOp, hx, hrun, Result.andThen]
  exact hK' _ _ hK

/-- a whole value is stored into a block that was laid just before -/
theorem store_fresh (t e : TypeId) (x y : Operand) (sz : Nat) (hsz : (P.info? t).map (·.size) = some sz) (zs : Array Value)
    (hx : act.eval x = .pointer (some ⟨w.heap.size, 0, none⟩)) (v : Value) (cs : List Value) (hy : act.eval y = v) (hv : v.cells = cs.toArray) (hl : cs.length = sz) (hz : zs.size = sz) (h1 : ∀ u ∈ cs, u.oneCell' = true)
    (hK : wpList P ops Q rest act (w.alloc (.cells cs.toArray e))) :
    wpList P ops Q ({ dst := none, op := .store t x y, type := ty, pos := pos, after := after, guard := none } :: rest) act (w.alloc (.cells zs e)) := by
  refine wpList_plain rfl fun K hK' => ?_
  obtain ⟨i, hi, hs0⟩ := Option.map_eq_some_iff.1 hsz
  subst hs0
  have hst := run_storeCells_at P w.heap.size 0 e cs 0 zs (w.alloc (.cells zs e)) (heap_alloc_new w _) (by omega) h1
  simp only [Nat.add_zero, Nat.zero_add, List.take_zero, List.nil_append] at hst
  have hd : zs.toList.drop cs.length = [] := by
    apply List.drop_eq_nil_of_le; rw [Array.length_toList]; omega
  rw [hd, List.append_nil] at hst
  have hset : (w.alloc (.cells zs e)).setRow w.heap.size cs.toArray = w.alloc (.cells cs.toArray e) := by
    unfold World.setRow World.alloc
    congr 1
    apply Array.ext
    · simp
    · intro k h1 h2
      simp only [Array.getElem_modify, Array.getElem_push]
      by_cases h : w.heap.size = k
      · subst h; simp
      · have hk : k < w.heap.size := by simp at h1; omega
        simp [h, hk]
  rw [hset] at hst
  have hrun : (Instr.storeAt t (.pointer (some ⟨w.heap.size, 0, none⟩)) v).run P (w.alloc (.cells zs e)) = .ok () (w.alloc (.cells cs.toArray e)) := by
    simp [Instr.storeAt, Instr.sureAddr, storeVar, sizeOf, typeInfo, hi, hv, hl, hst]
  unfold Oper.wp
  simp [execOp, hx, hy, hrun, Result.andThen]
  exact hK' _ _ hK
end ops
end Go.Dx
end

/- the text Hash1 -/
section
/- Words of 32 bits: what the model computes, as UInt32. No program. -/
namespace Go.Dx
open Go.RowKit

/-- a word as a cell -/
abbrev W32 (x : UInt32) : Value := .int .u32 (x.toNat : Int)
theorem w_lt (x : UInt32) : x.toNat < 4294967296 := UInt32.toNat_lt x
theorem w_add (x y : UInt32) : IntKind.u32.wrap ((x.toNat : Int) + (y.toNat : Int)) = ((x + y).toNat : Int) := by
  rw [IntKind.wrap_u32', UInt32.toNat_add]; omega
theorem w_xor (x y : UInt32) : bits .xor .u32 (x.toNat : Int) (y.toNat : Int) = ((x ^^^ y).toNat : Int) := by
  rw [u32_xor_nat _ _ (w_lt x) (w_lt y), UInt32.toNat_xor]
theorem w_and (x y : UInt32) : bits .and .u32 (x.toNat : Int) (y.toNat : Int) = ((x &&& y).toNat : Int) := by
  rw [u32_and_nat _ _ (w_lt x) (w_lt y), UInt32.toNat_and]
theorem w_or (x y : UInt32) : bits .or .u32 (x.toNat : Int) (y.toNat : Int) = ((x ||| y).toNat : Int) := by
  rw [u32_or_nat _ _ (w_lt x) (w_lt y), UInt32.toNat_or]
theorem w_all : (4294967295 : Int) = (((-1 : UInt32)).toNat : Int) := by decide
theorem w_not (x : UInt32) : bits .xor .u32 4294967295 (x.toNat : Int) = ((x ^^^ (-1)).toNat : Int) := by
  rw [w_all, w_xor, UInt32.xor_comm]
theorem w_not' (x : UInt32) : bits .xor .u32 (x.toNat : Int) 4294967295 = ((x ^^^ (-1)).toNat : Int) := by
  rw [w_all, w_xor]
/-- a word shifted right -/
def shr (x : UInt32) (n : Nat) : UInt32 := UInt32.ofNat (x.toNat / 2 ^ n)
def shl (x : UInt32) (n : Nat) : UInt32 := UInt32.ofNat (x.toNat * 2 ^ n)
theorem shr_toNat (x : UInt32) (n : Nat) : (shr x n).toNat = x.toNat / 2 ^ n := by
  unfold shr
  rw [UInt32.toNat_ofNat']
  exact Nat.mod_eq_of_lt (Nat.lt_of_le_of_lt (Nat.div_le_self _ _) (w_lt x))
theorem w_shr (x : UInt32) (n : Nat) : (x.toNat : Int) / 2 ^ n = ((shr x n).toNat : Int) := by rw [shr_toNat]; simp
theorem w_shl (x : UInt32) (n : Nat) : IntKind.u32.wrap ((x.toNat : Int) * 2 ^ n) = ((shl x n).toNat : Int) := by
  unfold shl
  rw [IntKind.wrap_u32', UInt32.toNat_ofNat']
  have e : ((x.toNat : Int) * 2 ^ n) = ((x.toNat * 2 ^ n : Nat) : Int) := by simp
  rw [e]
  omega
theorem w_shl' (x : UInt32) (n : Nat) : (x.toNat : Int) * 2 ^ n % 4294967296 = ((shl x n).toNat : Int) := by rw [← w_shl, IntKind.wrap_u32']
/-- a word turned right -/
def ror (x : UInt32) (n : Nat) : UInt32 := shl x (32 - n) ||| shr x n
def mix3 (x : UInt32) (i j k : Nat) : UInt32 := ror x i ^^^ ror x j ^^^ ror x k
theorem val_w {a : Int} {x : UInt32} (h : a = (x.toNat : Int)) : Value.int .u32 a = W32 x := by rw [h]
theorem ret_w {a : Int} {x : UInt32} (h : a = (x.toNat : Int)) : Ending.returned (.int .u32 a) = .returned (W32 x) := by rw [h]
end Go.Dx
end

/- the text HashP -/
section
/- SHA-256 in plain words: the schedule, the rounds, the blocks. No Go. -/
namespace Go.Dx

/-- four bytes as a word -/
def be4 (a b c d : UInt8) : UInt32 := UInt32.ofNat (((a.toNat * 256 + b.toNat) * 256 + c.toNat) * 256 + d.toNat)
def sig0 (x : UInt32) : UInt32 := ror x 7 ^^^ ror x 18 ^^^ shr x 3
def sig1 (x : UInt32) : UInt32 := ror x 17 ^^^ ror x 19 ^^^ shr x 10
def wnext (b : List UInt8) (ws : List UInt32) (t : Nat) : UInt32 :=
  if t < 16 then be4 (b.getD (4 * t) 0) (b.getD (4 * t + 1) 0) (b.getD (4 * t + 2) 0) (b.getD (4 * t + 3) 0)
  else ws.getD (t - 16) 0 + sig0 (ws.getD (t - 15) 0) + ws.getD (t - 7) 0 + sig1 (ws.getD (t - 2) 0)
def wl (b : List UInt8) : Nat → List UInt32
  | 0 => []
  | t + 1 => wl b t ++ [wnext b (wl b t) t]
theorem wl_length (b : List UInt8) : ∀ t, (wl b t).length = t
  | 0 => rfl
  | t + 1 => by rw [wl, List.length_append, wl_length b t]; rfl
/-- the array of 64 words behind t steps -/
def warr (b : List UInt8) (t : Nat) : List UInt32 := wl b t ++ List.replicate (64 - t) 0
theorem warr_length (b : List UInt8) {t : Nat} (h : t ≤ 64) : (warr b t).length = 64 := by unfold warr; rw [List.length_append, wl_length, List.length_replicate]; omega
theorem warr_get (b : List UInt8) {t i : Nat} (h : i < t) : (warr b t)[i]? = some ((wl b t).getD i 0) := by
  have hl := wl_length b t
  unfold warr
  rw [List.getElem?_append_left (by omega), List.getD_eq_getElem?_getD, List.getElem?_eq_getElem (by omega)]
  rfl
theorem warr_at (b : List UInt8) {t : Nat} (h : t < 64) : (warr b t)[t]? = some 0 := by
  have hl := wl_length b t
  unfold warr
  rw [List.getElem?_append_right (by omega), hl, Nat.sub_self, List.getElem?_replicate, if_pos (by omega)]
theorem warr_set (b : List UInt8) {t : Nat} (h : t < 64) (v : UInt32) : (warr b t).set t v = wl b t ++ [v] ++ List.replicate (64 - (t + 1)) 0 := by
  have hl := wl_length b t
  unfold warr
  rw [List.set_append_right _ _ (by omega), hl, Nat.sub_self]
  obtain ⟨n, hn⟩ : ∃ n, 64 - t = n + 1 := ⟨63 - t, by omega⟩
  rw [hn, List.replicate_succ, List.set_cons_zero, show 64 - (t + 1) = n by omega]
  simp
theorem warr_next (b : List UInt8) {t : Nat} (h : t < 64) : (warr b t).set t (wnext b (wl b t) t) = warr b (t + 1) := by
  rw [warr_set b h]; rfl
theorem warr_all (b : List UInt8) : warr b 64 = wl b 64 := by unfold warr; simp

structure St where
  (a b c d e f g h : UInt32)
def rnd (s : St) (k w : UInt32) : St :=
  let x := s.h + mix3 s.e 6 11 25 + ((s.e &&& s.f) ^^^ ((s.e ^^^ (-1)) &&& s.g)) + k + w
  let y := mix3 s.a 2 13 22 + ((s.a &&& s.b) ^^^ (s.a &&& s.c) ^^^ (s.b &&& s.c))
  ⟨x + y, s.a, s.b, s.c, s.d + x, s.e, s.f, s.g⟩
def rnds (ks ws : List UInt32) (s : St) : Nat → St
  | 0 => s
  | t + 1 => rnd (rnds ks ws s t) (ks.getD t 0) (ws.getD t 0)
def St.add (s r : St) : St := ⟨s.a + r.a, s.b + r.b, s.c + r.c, s.d + r.d, s.e + r.e, s.f + r.f, s.g + r.g, s.h + r.h⟩
def St.list (s : St) : List UInt32 := [s.a, s.b, s.c, s.d, s.e, s.f, s.g, s.h]
def K256 : List UInt32 := [0x428a2f98, 0x71374491, 0xb5c0fbcf, 0xe9b5dba5, 0x3956c25b, 0x59f111f1, 0x923f82a4, 0xab1c5ed5,
  0xd807aa98, 0x12835b01, 0x243185be, 0x550c7dc3, 0x72be5d74, 0x80deb1fe, 0x9bdc06a7, 0xc19bf174,
  0xe49b69c1, 0xefbe4786, 0x0fc19dc6, 0x240ca1cc, 0x2de92c6f, 0x4a7484aa, 0x5cb0a9dc, 0x76f988da,
  0x983e5152, 0xa831c66d, 0xb00327c8, 0xbf597fc7, 0xc6e00bf3, 0xd5a79147, 0x06ca6351, 0x14292967,
  0x27b70a85, 0x2e1b2138, 0x4d2c6dfc, 0x53380d13, 0x650a7354, 0x766a0abb, 0x81c2c92e, 0x92722c85,
  0xa2bfe8a1, 0xa81a664b, 0xc24b8b70, 0xc76c51a3, 0xd192e819, 0xd6990624, 0xf40e3585, 0x106aa070,
  0x19a4c116, 0x1e376c08, 0x2748774c, 0x34b0bcb5, 0x391c0cb3, 0x4ed8aa4a, 0x5b9cca4f, 0x682e6ff3,
  0x748f82ee, 0x78a5636f, 0x84c87814, 0x8cc70208, 0x90befffa, 0xa4506ceb, 0xbef9a3f7, 0xc67178f2]
/-- one block of 64 bytes -/
def comp (s : St) (b : List UInt8) : St := s.add (rnds K256 (wl b 64) s 64)
def H0 : St := ⟨0x6a09e667, 0xbb67ae85, 0x3c6ef372, 0xa54ff53a, 0x510e527f, 0x9b05688c, 0x1f83d9ab, 0x5be0cd19⟩
theorem mix3_lists (s : St) : s.list.length = 8 := rfl

theorem sh8 (x : UInt32) (c : UInt8) (h : x.toNat < 16777216) : bits .or .u32 ((x.toNat : Int) * 256 % 4294967296) (c.toNat : Int) = ((UInt32.ofNat (x.toNat * 256 + c.toNat)).toNat : Int) := by
  have hc := UInt8.toNat_lt c
  have e : ((x.toNat : Int) * 256 % 4294967296) = ((x.toNat * 256 : Nat) : Int) := by omega
  rw [e, u32_or_nat _ _ (by omega) (by omega), nat_join 8 _ _ (by omega) (by omega), UInt32.toNat_ofNat']
  congr 1
  omega
theorem u32_id (n : Nat) (h : n < 4294967296) : IntKind.u32.wrap (n : Int) = (n : Int) := by rw [IntKind.wrap_u32']; omega
theorem be4_or (a b c d : UInt8) : bits .or .u32 (bits .or .u32 (bits .or .u32 (IntKind.u32.wrap (IntKind.u32.wrap (a.toNat : Int) * 16777216)) (IntKind.u32.wrap (IntKind.u32.wrap (b.toNat : Int) * 65536))) (IntKind.u32.wrap (IntKind.u32.wrap (c.toNat : Int) * 256))) (IntKind.u32.wrap (d.toNat : Int)) = ((be4 a b c d).toNat : Int) := by
  have ha := UInt8.toNat_lt a
  have hb := UInt8.toNat_lt b
  have hc := UInt8.toNat_lt c
  have hd := UInt8.toNat_lt d
  rw [u32_id _ (by omega), u32_id _ (by omega), u32_id _ (by omega), u32_id _ (by omega)]
  have e1 : (a.toNat : Int) * 16777216 = ((a.toNat * 16777216 : Nat) : Int) := by omega
  have e2 : (b.toNat : Int) * 65536 = ((b.toNat * 65536 : Nat) : Int) := by omega
  have e3 : (c.toNat : Int) * 256 = ((c.toNat * 256 : Nat) : Int) := by omega
  rw [e1, e2, e3, u32_id _ (by omega), u32_id _ (by omega), u32_id _ (by omega)]
  rw [u32_or_nat _ _ (by omega) (by omega), nat_join 24 _ _ (by omega) (by omega), u32_or_nat _ _ (by omega) (by omega), nat_join 16 _ _ (by omega) (by omega), u32_or_nat _ _ (by omega) (by omega), nat_join 8 _ _ (by omega) (by omega)]
  unfold be4
  rw [UInt32.toNat_ofNat']
  congr 1
  omega
theorem be4_or' (a b c d : UInt8) : bits .or .u32 (bits .or .u32 (bits .or .u32 ((a.toNat : Int) % 4294967296 * 16777216 % 4294967296) ((b.toNat : Int) % 4294967296 * 65536 % 4294967296)) ((c.toNat : Int) % 4294967296 * 256 % 4294967296)) ((d.toNat : Int) % 4294967296) = ((be4 a b c d).toNat : Int) := by
  have h := be4_or a b c d
  simpa only [IntKind.wrap_u32'] using h
theorem sig0_raw (x : UInt32) : bits .xor .u32 (bits .xor .u32 ((ror x 7).toNat : Int) ((ror x 18).toNat : Int)) ((x.toNat : Int) / 8) = ((sig0 x).toNat : Int) := by
  rw [show (8 : Int) = 2 ^ 3 from rfl, w_shr, w_xor, w_xor]; rfl
theorem sig1_raw (x : UInt32) : bits .xor .u32 (bits .xor .u32 ((ror x 17).toNat : Int) ((ror x 19).toNat : Int)) ((x.toNat : Int) / 1024) = ((sig1 x).toNat : Int) := by
  rw [show (1024 : Int) = 2 ^ 10 from rfl, w_shr, w_xor, w_xor]; rfl
theorem w_add' (x y : UInt32) : ((x.toNat : Int) + (y.toNat : Int)) % 4294967296 = ((x + y).toNat : Int) := by rw [← w_add, IntKind.wrap_u32']
theorem w_add3 (a b c : UInt32) : ((a.toNat : Int) + (b.toNat : Int) + (c.toNat : Int)) % 4294967296 = ((a + b + c).toNat : Int) := by rw [← w_add', ← w_add']; omega
theorem w_add4 (a b c d : UInt32) : ((a.toNat : Int) + (b.toNat : Int) + (c.toNat : Int) + (d.toNat : Int)) % 4294967296 = ((a + b + c + d).toNat : Int) := by rw [← w_add', ← w_add3]; omega
theorem w_add5 (a b c d e : UInt32) : ((a.toNat : Int) + (b.toNat : Int) + (c.toNat : Int) + (d.toNat : Int) + (e.toNat : Int)) % 4294967296 = ((a + b + c + d + e).toNat : Int) := by rw [← w_add', ← w_add4]; omega
theorem sh8n (x : UInt32) (c : UInt8) (h : x.toNat < 16777216) : bits .or .u32 ((x.toNat : Int) * 256) (c.toNat : Int) = ((UInt32.ofNat (x.toNat * 256 + c.toNat)).toNat : Int) := by
  rw [← sh8 x c h]; congr 1; omega
theorem not_raw : (if IntKind.u32.signed = true then (-1 : Int) else IntKind.u32.max) = 4294967295 := by decide
theorem ch_raw (e f g : UInt32) : bits .xor .u32 (bits .and .u32 (e.toNat : Int) (f.toNat : Int)) (bits .and .u32 (bits .xor .u32 4294967295 (e.toNat : Int)) (g.toNat : Int)) = (((e &&& f) ^^^ ((e ^^^ (-1)) &&& g)).toNat : Int) := by
  rw [w_and, w_not, w_and, w_xor]
theorem ch_raw' (e f g : UInt32) : bits .xor .u32 (bits .and .u32 (e.toNat : Int) (f.toNat : Int)) (bits .and .u32 (bits .xor .u32 (e.toNat : Int) 4294967295) (g.toNat : Int)) = (((e &&& f) ^^^ ((e ^^^ (-1)) &&& g)).toNat : Int) := by
  rw [w_and, w_not', w_and, w_xor]
theorem maj_raw (a b c : UInt32) : bits .xor .u32 (bits .xor .u32 (bits .and .u32 (a.toNat : Int) (b.toNat : Int)) (bits .and .u32 (a.toNat : Int) (c.toNat : Int))) (bits .and .u32 (b.toNat : Int) (c.toNat : Int)) = (((a &&& b) ^^^ (a &&& c) ^^^ (b &&& c)).toNat : Int) := by
  rw [w_and, w_and, w_and, w_xor, w_xor]
theorem sum_x (h m c k w : UInt32) : (((h.toNat : Int) + (m.toNat : Int) + (c.toNat : Int) + (k.toNat : Int)) % 4294967296 + (w.toNat : Int)) % 4294967296 = ((h + m + c + k + w).toNat : Int) := by
  simp only [UInt32.toNat_add]
  omega
theorem box_at {α : Type} {f : α → Value} {l : List α} {i : Nat} {x : α} (h : l[i]? = some x) : (l.map f)[i]? = some (f x) := by rw [List.getElem?_map, h]; rfl
theorem box_set {α : Type} (f : α → Value) (l : List α) (i : Nat) (x : α) : (l.map f).set i (f x) = (l.set i x).map f := by rw [List.map_set]
end Go.Dx
end

/- the text HashQ -/
section
/- A message that is hashed piece by piece: the state, the last block (with what stands behind its bytes) and the length, as functions of the message. No Go. -/
namespace Go.Dx

/-- the whole blocks of a message, one after the other -/
def blocks (m : List UInt8) : Nat → St
  | 0 => H0
  | k + 1 => comp (blocks m k) ((m.drop (64 * k)).take 64)
theorem blocks_append (m t : List UInt8) : ∀ k, 64 * k ≤ m.length → blocks (m ++ t) k = blocks m k
  | 0, _ => rfl
  | k + 1, h => by
    have ih := blocks_append m t k (by omega)
    rw [blocks, blocks, ih, List.drop_append_of_le_length (by omega), List.take_append_of_le_length (by rw [List.length_drop]; omega)]
def putBlk (blk : List UInt8) (i : Nat) (t : List UInt8) : List UInt8 := blk.take i ++ t ++ blk.drop (i + t.length)
/-- the last whole block of a message, zeros ahead of the first -/
def stale (m : List UInt8) : List UInt8 := if m.length / 64 = 0 then List.replicate 64 0 else (m.drop (64 * (m.length / 64 - 1))).take 64
/-- the stream's block: the bytes behind the whole blocks, and behind them what stood there -/
def blkOf (m : List UInt8) : List UInt8 := m.drop (64 * (m.length / 64)) ++ (stale m).drop (m.length % 64)
def stOf (m : List UInt8) : St := blocks m (m.length / 64)
theorem stale_len (m : List UInt8) : (stale m).length = 64 := by
  unfold stale
  split
  · simp
  · rw [List.length_take, List.length_drop]; omega
theorem blkOf_len (m : List UInt8) : (blkOf m).length = 64 := by
  unfold blkOf
  rw [List.length_append, List.length_drop, List.length_drop, stale_len]; omega
theorem blkOf_nil : blkOf [] = List.replicate 64 0 := by decide
theorem stOf_nil : stOf [] = H0 := rfl
theorem tail_len (m : List UInt8) : (m.drop (64 * (m.length / 64))).length = m.length % 64 := by rw [List.length_drop]; omega
theorem put_list (M t D : List UInt8) : putBlk (M ++ D.drop M.length) M.length t = M ++ t ++ D.drop (M.length + t.length) := by
  unfold putBlk
  rw [List.take_left, List.drop_append, List.drop_eq_nil_of_le (by omega), List.nil_append, Nat.add_sub_cancel_left, List.drop_drop]
theorem put_eq (m t : List UInt8) : putBlk (blkOf m) (m.length % 64) t = m.drop (64 * (m.length / 64)) ++ t ++ (stale m).drop (m.length % 64 + t.length) := by
  have h := put_list (m.drop (64 * (m.length / 64))) t (stale m)
  rw [tail_len] at h
  exact h
theorem blkOf_part (m t : List UInt8) (h : m.length % 64 + t.length < 64) : putBlk (blkOf m) (m.length % 64) t = blkOf (m ++ t) ∧ stOf (m ++ t) = stOf m := by
  have e1 : (m ++ t).length / 64 = m.length / 64 := by rw [List.length_append]; omega
  have e2 : (m ++ t).length % 64 = m.length % 64 + t.length := by rw [List.length_append]; omega
  have e3 : stale (m ++ t) = stale m := by
    unfold stale
    rw [e1]
    split
    · rfl
    · rw [List.drop_append_of_le_length (by omega), List.take_append_of_le_length (by rw [List.length_drop]; omega)]
  refine ⟨?_, ?_⟩
  · rw [put_eq]
    unfold blkOf
    rw [e1, e2, e3, List.drop_append_of_le_length (by omega)]
  · unfold stOf
    rw [e1, blocks_append _ _ _ (by omega)]
theorem blkOf_full (m t : List UInt8) (h : m.length % 64 + t.length = 64) : putBlk (blkOf m) (m.length % 64) t = blkOf (m ++ t) ∧ stOf (m ++ t) = comp (stOf m) (blkOf (m ++ t)) := by
  have e1 : (m ++ t).length / 64 = m.length / 64 + 1 := by rw [List.length_append]; omega
  have e2 : (m ++ t).length % 64 = 0 := by rw [List.length_append]; omega
  have e3 : stale (m ++ t) = m.drop (64 * (m.length / 64)) ++ t := by
    unfold stale
    rw [e1, if_neg (by omega), Nat.add_sub_cancel, List.drop_append_of_le_length (by omega), List.take_of_length_le (by rw [List.length_append, tail_len]; omega)]
  have e4 : blkOf (m ++ t) = m.drop (64 * (m.length / 64)) ++ t := by
    unfold blkOf
    rw [e1, e2, e3, List.drop_eq_nil_of_le (by rw [List.length_append]; omega), List.nil_append, List.drop_zero]
  refine ⟨?_, ?_⟩
  · rw [put_eq, e4, (List.drop_eq_nil_of_le (by rw [stale_len]; omega) : (stale m).drop (m.length % 64 + t.length) = []), List.append_nil]
  · rw [e4]
    unfold stOf
    rw [e1, blocks, blocks_append _ _ _ (by omega), List.drop_append_of_le_length (by omega), List.take_of_length_le (by rw [List.length_append, tail_len]; omega)]
end Go.Dx
end

/- the text N1 -/
section
/- SHA-256 on natural numbers, for the kernel: the word functions. No Go. -/
namespace Go.Dx
namespace NS
theorem ror_nat (x : UInt32) {n : Nat} (h0 : 0 < n) (h : n < 32) : (ror x n).toNat = ((x.toNat * 4294967297) >>> n) % 4294967296 := by
  have hx := UInt32.toNat_lt x
  unfold ror
  rw [UInt32.toNat_or, shr_toNat]
  unfold shl
  rw [UInt32.toNat_ofNat', Nat.shiftRight_eq_div_pow]
  generalize x.toNat = y at *
  have e : y * 4294967297 / 2 ^ n = y * 2 ^ (32 - n) + y / 2 ^ n := by
    have h2 : (4294967296 : Nat) = 2 ^ (32 - n) * 2 ^ n := by rw [← Nat.pow_add, show 32 - n + n = 32 by omega]
    rw [show y * 4294967297 = y + (y * 2 ^ (32 - n)) * 2 ^ n by rw [Nat.mul_assoc, ← h2]; omega, Nat.add_mul_div_right _ _ (Nat.pow_pos (by decide))]
    omega
  rw [e]
  have h3 : y / 2 ^ n < 2 ^ (32 - n) := by
    rw [Nat.div_lt_iff_lt_mul (Nat.pow_pos (by decide)), ← Nat.pow_add, show 32 - n + n = 32 by omega]
    exact hx
  have h4 : y * 2 ^ (32 - n) % 4294967296 = (y % 2 ^ n) * 2 ^ (32 - n) := by
    rw [show (4294967296 : Nat) = 2 ^ n * 2 ^ (32 - n) by rw [← Nat.pow_add, show n + (32 - n) = 32 by omega], Nat.mul_mod_mul_right]
  show y * 2 ^ (32 - n) % 4294967296 ||| y / 2 ^ n = _
  have h5 : y % 2 ^ n < 2 ^ n := Nat.mod_lt _ (Nat.pow_pos (by decide))
  have h7 : y % 2 ^ n * 2 ^ (32 - n) + y / 2 ^ n < 4294967296 := by
    have h6 : (4294967296 : Nat) = 2 ^ n * 2 ^ (32 - n) := by rw [← Nat.pow_add, show n + (32 - n) = 32 by omega]
    rw [h6]
    calc y % 2 ^ n * 2 ^ (32 - n) + y / 2 ^ n < y % 2 ^ n * 2 ^ (32 - n) + 2 ^ (32 - n) := by omega
      _ = (y % 2 ^ n + 1) * 2 ^ (32 - n) := by rw [Nat.add_mul, Nat.one_mul]
      _ ≤ 2 ^ n * 2 ^ (32 - n) := Nat.mul_le_mul_right _ h5
  rw [h4, Nat.mul_comm, ← Nat.two_pow_add_eq_or_of_lt h3, Nat.mul_comm]
  generalize y % 2 ^ n * 2 ^ (32 - n) = C at *
  generalize y * 2 ^ (32 - n) = A at *
  generalize y / 2 ^ n = B at *
  omega
def s3 (y a b c : Nat) : Nat := Nat.mod (Nat.xor (Nat.xor (Nat.shiftRight y a) (Nat.shiftRight y b)) (Nat.shiftRight y c)) 4294967296
def S0 (x : Nat) : Nat := s3 (Nat.mul x 4294967297) 2 13 22
def S1 (x : Nat) : Nat := s3 (Nat.mul x 4294967297) 6 11 25
def g0 (x : Nat) : Nat := Nat.xor (Nat.mod (Nat.xor (Nat.shiftRight (Nat.mul x 4294967297) 7) (Nat.shiftRight (Nat.mul x 4294967297) 18)) 4294967296) (Nat.shiftRight x 3)
def g1 (x : Nat) : Nat := Nat.xor (Nat.mod (Nat.xor (Nat.shiftRight (Nat.mul x 4294967297) 17) (Nat.shiftRight (Nat.mul x 4294967297) 19)) 4294967296) (Nat.shiftRight x 10)
def ch (e f g : Nat) : Nat := Nat.xor g (Nat.land e (Nat.xor f g))
def maj (a b c : Nat) : Nat := Nat.xor (Nat.land a b) (Nat.land c (Nat.xor a b))
theorem xor_mod (a b : Nat) : (a ^^^ b) % 4294967296 = (a % 4294967296) ^^^ (b % 4294967296) := by
  rw [show (4294967296 : Nat) = 2 ^ 32 from rfl, Nat.xor_mod_two_pow]
theorem s3_nat (x : UInt32) {i j k : Nat} (hi : 0 < i ∧ i < 32) (hj : 0 < j ∧ j < 32) (hk : 0 < k ∧ k < 32) : s3 (Nat.mul x.toNat 4294967297) i j k = (mix3 x i j k).toNat := by
  unfold mix3
  rw [UInt32.toNat_xor, UInt32.toNat_xor, ror_nat x hi.1 hi.2, ror_nat x hj.1 hj.2, ror_nat x hk.1 hk.2, ← xor_mod, ← xor_mod]
  rfl
theorem S0_nat (x : UInt32) : S0 x.toNat = (mix3 x 2 13 22).toNat := s3_nat x (by decide) (by decide) (by decide)
theorem S1_nat (x : UInt32) : S1 x.toNat = (mix3 x 6 11 25).toNat := s3_nat x (by decide) (by decide) (by decide)
theorem g0_nat (x : UInt32) : g0 x.toNat = (sig0 x).toNat := by
  unfold sig0
  rw [UInt32.toNat_xor, UInt32.toNat_xor, ror_nat x (by decide) (by decide), ror_nat x (by decide) (by decide), ← xor_mod, shr_toNat, ← Nat.shiftRight_eq_div_pow]
  rfl
theorem g1_nat (x : UInt32) : g1 x.toNat = (sig1 x).toNat := by
  unfold sig1
  rw [UInt32.toNat_xor, UInt32.toNat_xor, ror_nat x (by decide) (by decide), ror_nat x (by decide) (by decide), ← xor_mod, shr_toNat, ← Nat.shiftRight_eq_div_pow]
  rfl
theorem ch_u (e f g : UInt32) : g ^^^ (e &&& (f ^^^ g)) = (e &&& f) ^^^ ((e ^^^ (-1)) &&& g) := by
  apply UInt32.toBitVec_inj.1
  have h1 : (-1 : UInt32).toBitVec = BitVec.allOnes 32 := by decide
  rw [UInt32.toBitVec_xor, UInt32.toBitVec_and, UInt32.toBitVec_xor, UInt32.toBitVec_xor, UInt32.toBitVec_and, UInt32.toBitVec_and, UInt32.toBitVec_xor, h1]
  apply BitVec.eq_of_getLsbD_eq
  intro i hi
  simp only [BitVec.getLsbD_xor, BitVec.getLsbD_and, BitVec.getLsbD_allOnes, hi, decide_true]
  cases e.toBitVec.getLsbD i <;> cases f.toBitVec.getLsbD i <;> cases g.toBitVec.getLsbD i <;> rfl
theorem maj_u (a b c : UInt32) : (a &&& b) ^^^ (c &&& (a ^^^ b)) = (a &&& b) ^^^ (a &&& c) ^^^ (b &&& c) := by
  apply UInt32.toBitVec_inj.1
  rw [UInt32.toBitVec_xor, UInt32.toBitVec_and, UInt32.toBitVec_and, UInt32.toBitVec_xor, UInt32.toBitVec_xor, UInt32.toBitVec_xor, UInt32.toBitVec_and, UInt32.toBitVec_and, UInt32.toBitVec_and]
  apply BitVec.eq_of_getLsbD_eq
  intro i hi
  simp only [BitVec.getLsbD_xor, BitVec.getLsbD_and]
  cases a.toBitVec.getLsbD i <;> cases b.toBitVec.getLsbD i <;> cases c.toBitVec.getLsbD i <;> rfl
theorem ch_nat (e f g : UInt32) : ch e.toNat f.toNat g.toNat = ((e &&& f) ^^^ ((e ^^^ (-1)) &&& g)).toNat := by
  rw [← ch_u, UInt32.toNat_xor, UInt32.toNat_and, UInt32.toNat_xor]; rfl
theorem maj_nat (a b c : UInt32) : maj a.toNat b.toNat c.toNat = ((a &&& b) ^^^ (a &&& c) ^^^ (b &&& c)).toNat := by
  rw [← maj_u, UInt32.toNat_xor, UInt32.toNat_and, UInt32.toNat_and, UInt32.toNat_xor]; rfl
end NS
end Go.Dx
end

/- the text Pure1 -/
section
/- The plain mathematics of layer 1 (wire): what an integer's encoding is, what a decoding returns. No Go. -/
set_option linter.unusedVariables false
namespace Go.Dx

/-- digit i of m in base 256 -/
def dig (m i : Nat) : UInt8 := UInt8.ofNat (m / 256 ^ i % 256)
/-- the first j of k digits of m, the greatest first -/
def digs (m k j : Nat) : List UInt8 := (List.range j).map fun t => dig m (k - 1 - t)
theorem digs_zero (m k : Nat) : digs m k 0 = [] := rfl
theorem digs_succ (m k j : Nat) : digs m k (j + 1) = digs m k j ++ [dig m (k - 1 - j)] := by simp [digs, List.range_succ]
theorem digs_length (m k j : Nat) : (digs m k j).length = j := by simp [digs]
theorem dig_toNat (m i : Nat) : (dig m i).toNat = m / 256 ^ i % 256 := by
  unfold dig
  rw [UInt8.toNat_ofNat']
  omega

/-- k is the number of digits of m -/
def Len (m k : Nat) : Prop := k ≤ 8 ∧ m < 256 ^ k ∧ (k = 0 ∨ 256 ^ (k - 1) ≤ m)
def klen (m : Nat) : Nat := if m < 1 then 0 else if m < 256 then 1 else if m < 65536 then 2 else if m < 16777216 then 3 else if m < 4294967296 then 4 else if m < 1099511627776 then 5 else if m < 281474976710656 then 6 else if m < 72057594037927936 then 7 else 8
theorem klen_le (m : Nat) : klen m ≤ 8 := by unfold klen; repeat' split
                                             all_goals omega
theorem klen_of {m k : Nat} (h : Len m k) : klen m = k := by
  obtain ⟨h8, h1, h2⟩ := h
  match k, h8 with
  | 0, _ => simp at h1; subst h1; rfl
  | 1, _ => simp at h1 h2; unfold klen; repeat' split
            all_goals omega
  | 2, _ => simp at h1 h2; unfold klen; repeat' split
            all_goals omega
  | 3, _ => simp at h1 h2; unfold klen; repeat' split
            all_goals omega
  | 4, _ => simp at h1 h2; unfold klen; repeat' split
            all_goals omega
  | 5, _ => simp at h1 h2; unfold klen; repeat' split
            all_goals omega
  | 6, _ => simp at h1 h2; unfold klen; repeat' split
            all_goals omega
  | 7, _ => simp at h1 h2; unfold klen; repeat' split
            all_goals omega
  | 8, _ => simp at h1 h2; unfold klen; repeat' split
            all_goals omega
theorem len_klen {m : Nat} (h : m < 18446744073709551616) : Len m (klen m) := by
  unfold klen Len
  repeat' split
  all_goals (refine ⟨by omega, ?_, ?_⟩ <;> simp <;> omega)

def mag (n : Int) : Nat := if n < 0 then (-1 - n).toNat else n.toNat
/-- a digit as it is written: with the other bits where the integer is negative -/
def fl (neg : Bool) : UInt8 := if neg then 255 else 0
def flp (neg : Bool) (d : UInt8) : UInt8 := d ^^^ fl neg
def hd (neg : Bool) (k : Nat) : UInt8 := flp neg (UInt8.ofNat (128 + k))
def encInt (n : Int) : List UInt8 := hd (decide (n < 0)) (klen (mag n)) :: (digs (mag n) (klen (mag n)) (klen (mag n))).map (flp (decide (n < 0)))
theorem encInt_length (n : Int) : (encInt n).length = klen (mag n) + 1 := by simp [encInt, digs_length]
theorem encInt_pos (n : Int) : 1 ≤ (encInt n).length := by rw [encInt_length]; omega
theorem encInt_le (n : Int) : (encInt n).length ≤ 9 := by rw [encInt_length]; have := klen_le (mag n); omega

/-- the number with some digits, the greatest first -/
def val (l : List UInt8) : Nat := l.foldl (fun m d => 256 * m + d.toNat) 0
theorem val_snoc (l : List UInt8) (d : UInt8) : val (l ++ [d]) = 256 * val l + d.toNat := by simp [val, List.foldl_append]
/-- decoding behind the first byte -/
def decK (neg : Bool) (k : Nat) (t : List UInt8) : Int × Int × Int :=
  if 8 < k then (0, 0, 2)
  else if t.length < k then (0, 0, 3)
  else if 0 < k ∧ flp neg (t.getD 0 0) = 0 then (0, 0, 2)
  else if 9223372036854775808 ≤ val ((t.take k).map (flp neg)) then (0, 0, 2)
  else (if neg then -1 - (val ((t.take k).map (flp neg)) : Int) else val ((t.take k).map (flp neg)), (k : Int) + 1, 0)
/-- what decoding at the beginning of a byte sequence returns: the integer, the number of bytes, the error -/
def decInt (b : List UInt8) : Int × Int × Int :=
  match b with
  | [] => (0, 0, 3)
  | h :: t => decK (decide (h.toNat < 128)) ((flp (decide (h.toNat < 128)) h).toNat - 128) t
section
variable {neg : Bool} {k : Nat} {t : List UInt8}
theorem decK_8 (h8 : 8 < k) : decK neg k t = (0, 0, 2) := by unfold decK; rw [if_pos h8]
theorem decK_more (h8 : ¬ 8 < k) (hl : t.length < k) : decK neg k t = (0, 0, 3) := by unfold decK; rw [if_neg h8, if_pos hl]
theorem decK_zero (h8 : ¬ 8 < k) (hl : ¬ t.length < k) (h0 : 0 < k) (hz : flp neg (t.getD 0 0) = 0) : decK neg k t = (0, 0, 2) := by unfold decK; rw [if_neg h8, if_neg hl, if_pos ⟨h0, hz⟩]
theorem decK_big (h8 : ¬ 8 < k) (hl : ¬ t.length < k) (hz : k = 0 ∨ flp neg (t.getD 0 0) ≠ 0) (hb : 9223372036854775808 ≤ val ((t.take k).map (flp neg))) : decK neg k t = (0, 0, 2) := by
  unfold decK; rw [if_neg h8, if_neg hl, if_neg (by rintro ⟨h1, h2⟩; rcases hz with h | h; omega; exact h h2), if_pos hb]
theorem decK_form (h8 : ¬ 8 < k) (hl : ¬ t.length < k) (hb : 9223372036854775808 ≤ val ((t.take k).map (flp neg))) : decK neg k t = (0, 0, 2) := by
  unfold decK; rw [if_neg h8, if_neg hl]
  by_cases hz : 0 < k ∧ flp neg (t.getD 0 0) = 0
  · rw [if_pos hz]
  · rw [if_neg hz, if_pos hb]
theorem decK_ok (h8 : ¬ 8 < k) (hl : ¬ t.length < k) (hz : k = 0 ∨ flp neg (t.getD 0 0) ≠ 0) (hb : ¬ 9223372036854775808 ≤ val ((t.take k).map (flp neg))) :
    decK neg k t = (if neg then -1 - (val ((t.take k).map (flp neg)) : Int) else val ((t.take k).map (flp neg)), (k : Int) + 1, 0) := by
  unfold decK; rw [if_neg h8, if_neg hl, if_neg (by rintro ⟨h1, h2⟩; rcases hz with h | h; omega; exact h h2), if_neg hb]
end

theorem xor_u8 (a b : UInt8) : bits .xor .u8 (a.toNat : Int) (b.toNat : Int) = ((a ^^^ b).toNat : Int) := by
  rw [u8_xor_nat _ _ (UInt8.toNat_lt a) (UInt8.toNat_lt b), UInt8.toNat_xor]
theorem wrap_u8 (n : Nat) : IntKind.u8.wrap (n : Int) = ((UInt8.ofNat n).toNat : Int) := by
  rw [UInt8.toNat_ofNat', IntKind.wrap_u8']; omega
theorem u64_not (a : Nat) (ha : a < 18446744073709551616) : bits .xor .u64 IntKind.u64.max (a : Int) = ((18446744073709551615 - a : Nat) : Int) := by
  have h : IntKind.u64.max = ((18446744073709551615 : Nat) : Int) := rfl
  rw [h, u64_xor_nat _ _ (by omega) ha]
  congr 1
  have h2 : (18446744073709551615 : Nat) = 2 ^ 64 - 1 := by decide
  have := BitVec.toNat_not (x := BitVec.ofNat 64 a)
  have h3 := BitVec.allOnes_xor (x := BitVec.ofNat 64 a)
  rw [← h3, BitVec.toNat_xor, BitVec.toNat_allOnes, BitVec.toNat_ofNat, Nat.mod_eq_of_lt (by omega)] at this
  rw [h2, this]
theorem mag_lt {n : Int} (h0 : -9223372036854775808 ≤ n) (h1 : n ≤ 9223372036854775807) : mag n < 9223372036854775808 := by unfold mag; split <;> omega
theorem mag_pos {n : Int} (h : ¬ n < 0) : n = (mag n : Int) := by unfold mag; rw [if_neg h]; omega
theorem mag_neg {n : Int} (h : n < 0) (h0 : -9223372036854775808 ≤ n) : bits .xor .u64 IntKind.u64.max (IntKind.u64.wrap n) = (mag n : Int) := by
  have e : IntKind.u64.wrap n = ((n + 18446744073709551616).toNat : Int) := by rw [IntKind.wrap_u64]; omega
  rw [e, u64_not _ (by omega)]
  unfold mag
  rw [if_pos h]
  omega
theorem pow_shift (j : Nat) : (2 : Nat) ^ (8 * j) = 256 ^ j := by rw [Nat.pow_mul]
theorem shift_int (m j : Nat) : (m : Int) / 2 ^ (8 * j) = ((m / 256 ^ j : Nat) : Int) := by
  rw [← pow_shift]; simp
theorem len_brk {m k : Nat} (hk : k ≤ 8) (hm : m < 256 ^ k) (_h0 : 0 < k) (h : 0 < (m : Int) / 2 ^ (8 * (k - 1))) : Len m k := by
  refine ⟨hk, hm, .inr ?_⟩
  rw [shift_int] at h
  have h1 : 0 < m / 256 ^ (k - 1) := by omega
  exact Nat.le_of_not_lt fun h2 => by rw [Nat.div_eq_of_lt h2] at h1; omega
theorem len_zero {m k : Nat} (hk : k ≤ 8) (hm : m < 256 ^ k) (h0 : ¬ 0 < k) : Len m k := ⟨hk, hm, .inl (by omega)⟩
theorem len_next {m k : Nat} (hk : 0 < k) (h : (m : Int) / 2 ^ (8 * (k - 1)) ≤ 0) : m < 256 ^ (k - 1) := by
  rw [shift_int] at h
  have h1 : m / 256 ^ (k - 1) = 0 := Nat.le_zero.1 (by exact_mod_cast h)
  rcases Nat.div_eq_zero_iff.1 h1 with h2 | h2
  · have : 0 < 256 ^ (k - 1) := Nat.pow_pos (by omega)
    omega
  · exact h2
theorem hd_eq (neg : Bool) (k : Nat) (hk : k ≤ 8) : bits .xor .u8 (128 + (k : Int)) ((fl neg).toNat : Int) = ((hd neg k).toNat : Int) := by
  have e : (128 + (k : Int)) = ((UInt8.ofNat (128 + k)).toNat : Int) := by rw [UInt8.toNat_ofNat']; omega
  rw [e, xor_u8]; rfl
theorem dig_eq (neg : Bool) (m i : Nat) : bits .xor .u8 ((m : Int) / 2 ^ (8 * i) % 256) ((fl neg).toNat : Int) = ((flp neg (dig m i)).toNat : Int) := by
  rw [← IntKind.wrap_u8', shift_int, wrap_u8, xor_u8]
  congr 2
  unfold flp dig
  congr 1
  apply UInt8.toNat_inj.1
  rw [UInt8.toNat_ofNat', UInt8.toNat_ofNat']; omega
/-- the encoding as far as j digits are written -/
def encTo (neg : Bool) (m k j : Nat) : List UInt8 := hd neg k :: (digs m k j).map (flp neg)
theorem encTo_zero (neg : Bool) (m k : Nat) : encTo neg m k 0 = [hd neg k] := rfl
theorem encTo_succ (neg : Bool) (m k j : Nat) : encTo neg m k (j + 1) = encTo neg m k j ++ [flp neg (dig m (k - 1 - j))] := by simp [encTo, digs_succ]
theorem encTo_length (neg : Bool) (m k j : Nat) : (encTo neg m k j).length = j + 1 := by simp [encTo, digs_length]
theorem encTo_all {n : Int} {k : Nat} (h : Len (mag n) k) : encTo (decide (n < 0)) (mag n) k k = encInt n := by
  unfold encTo encInt; rw [klen_of h]
theorem xor_fl (d : UInt8) (neg : Bool) : bits .xor .u8 (d.toNat : Int) ((fl neg).toNat : Int) = ((flp neg d).toNat : Int) := xor_u8 _ _
theorem or_u64 (m : Nat) (d : UInt8) (h : m < 72057594037927936) : bits .or .u64 ((m : Int) * 256) (d.toNat : Int) = ((256 * m + d.toNat : Nat) : Int) := by
  have hd := UInt8.toNat_lt d
  have e : (m : Int) * (256 : Int) = ((m <<< 8 : Nat) : Int) := by rw [Nat.shiftLeft_eq]; omega
  rw [e, u64_or_nat _ _ (by rw [Nat.shiftLeft_eq]; omega) (by omega), ← Nat.shiftLeft_add_eq_or_of_lt (show d.toNat < 2 ^ 8 by omega), Nat.shiftLeft_eq]
  omega
theorem val_from (l : List UInt8) : ∀ m0, l.foldl (fun m d => 256 * m + d.toNat) m0 < (m0 + 1) * 256 ^ l.length := by
  induction l with
  | nil => intro m0; simp
  | cons d l ih =>
    intro m0
    have hd := UInt8.toNat_lt d
    have := ih (256 * m0 + d.toNat)
    rw [List.foldl_cons, List.length_cons, Nat.pow_succ, Nat.mul_comm (256 ^ l.length), ← Nat.mul_assoc]
    exact Nat.lt_of_lt_of_le this (Nat.mul_le_mul_right _ (by omega))
theorem val_lt (l : List UInt8) : val l < 256 ^ l.length := by simpa [val] using val_from l 0
theorem val_lt7 (l : List UInt8) (h : l.length ≤ 7) : val l < 72057594037927936 := Nat.lt_of_lt_of_le (val_lt l) (Nat.le_trans (Nat.pow_le_pow_right (by omega) h) (by decide))
theorem val_lt8 (l : List UInt8) (h : l.length ≤ 8) : val l < 18446744073709551616 := Nat.lt_of_lt_of_le (val_lt l) (Nat.le_trans (Nat.pow_le_pow_right (by omega) h) (by decide))
/-- the digits, the least first -/
def lows (m t : Nat) : List UInt8 := (List.range t).map (dig m)
theorem lows_succ (m t : Nat) : lows m (t + 1) = lows m t ++ [dig m t] := by simp [lows, List.range_succ]
theorem lows_length (m t : Nat) : (lows m t).length = t := by simp [lows]
theorem lows_get (m t i : Nat) (h : i < t) : (lows m t)[i]? = some (dig m i) := by simp [lows, h]
theorem dig_int (m t : Nat) : ((m / 256 ^ t : Nat) : Int) % 256 = ((dig m t).toNat : Int) := by rw [dig_toNat]; omega
theorem div_int (m t : Nat) : ((m / 256 ^ t : Nat) : Int) / 256 = ((m / 256 ^ (t + 1) : Nat) : Int) := by
  rw [Nat.pow_succ, ← Nat.div_div_eq_div_mul]; omega
theorem flp_neg (d : UInt8) : ((flp true d).toNat : Int) = 255 - (d.toNat : Int) := by
  have h : ∀ x : Fin 256, (x.1 ^^^ 255) = 255 - x.1 := by decide +kernel
  have := h ⟨d.toNat, UInt8.toNat_lt d⟩
  unfold flp fl
  rw [UInt8.toNat_xor]
  have h2 := UInt8.toNat_lt d
  simp only [if_true, UInt8.toNat_ofNat] at *
  simp at this ⊢
  omega
theorem flp_ge (h : UInt8) (neg : Bool) (hn : neg = decide (h.toNat < 128)) : 128 ≤ (flp neg h).toNat := by
  have hb := UInt8.toNat_lt h
  by_cases hx : h.toNat < 128
  · rw [hn, decide_eq_true hx]
    have := flp_neg h
    omega
  · rw [hn, decide_eq_false hx]
    unfold flp fl
    simp
    omega
theorem flp_pos (d : UInt8) : flp false d = d := by unfold flp fl; simp
theorem flp_pos_int (d : UInt8) : ((flp false d).toNat : Int) = (d.toNat : Int) := by rw [flp_pos]
theorem hd_pos (k : Nat) (h : k ≤ 8) : ((hd false k).toNat : Int) = 128 + k := by unfold hd; rw [flp_pos, UInt8.toNat_ofNat']; omega
theorem hd_neg (k : Nat) (h : k ≤ 8) : ((hd true k).toNat : Int) = 127 - k := by unfold hd; rw [flp_neg, UInt8.toNat_ofNat']; omega
theorem mag_of_nat (m : Nat) : mag (m : Int) = m := by unfold mag; rw [if_neg (by omega)]; omega
theorem mag_of_neg (m : Nat) : mag (-1 - (m : Int)) = m := by unfold mag; rw [if_pos (by omega)]; omega
theorem Len.lt {m t : Nat} (h : m < 9223372036854775808) (h1 : m / 256 ^ t ≠ 0) (ht : t ≤ 8) : t < 8 := by
  refine Nat.lt_of_le_of_ne ht ?_
  rintro rfl
  exact h1 (Nat.div_eq_of_lt (by simp; omega))
theorem Len.next {m t : Nat} (h1 : m / 256 ^ t ≠ 0) : 256 ^ t ≤ m := Nat.le_of_not_lt fun h => h1 (Nat.div_eq_of_lt h)
theorem Len.fin {m t : Nat} (h : m / 256 ^ t = 0) (ht : t ≤ 8) (h2 : t = 0 ∨ 256 ^ (t - 1) ≤ m) : Len m t := by
  refine ⟨ht, ?_, h2⟩
  rcases Nat.div_eq_zero_iff.1 h with h3 | h3
  · have : 0 < 256 ^ t := Nat.pow_pos (by omega)
    omega
  · exact h3
theorem dig_zero (m : Nat) (d : UInt8) : dig (256 * m + d.toNat) 0 = d := by
  apply UInt8.toNat_inj.1; rw [dig_toNat, Nat.pow_zero, Nat.div_one]; have := UInt8.toNat_lt d; omega
theorem dig_up (m i : Nat) (d : UInt8) : dig (256 * m + d.toNat) (i + 1) = dig m i := by
  apply UInt8.toNat_inj.1; rw [dig_toNat, dig_toNat, Nat.pow_succ, Nat.mul_comm (256 ^ i), ← Nat.div_div_eq_div_mul]
  have := UInt8.toNat_lt d
  congr 2; omega
theorem digs_val_rev (r : List UInt8) : digs (val r.reverse) r.length r.length = r.reverse := by
  induction r with
  | nil => rfl
  | cons d r ih =>
    rw [List.reverse_cons, val_snoc, List.length_cons, digs_succ]
    congr 1
    · rw [← ih]
      simp only [ih]
      unfold digs
      rw [← ih]
      unfold digs
      apply List.map_congr_left
      intro t ht
      have ht2 : t < r.length := by simpa using ht
      have e : r.length + 1 - 1 - t = (r.length - 1 - t) + 1 := by omega
      have ih2 : val (List.map (fun t => dig (val r.reverse) (r.length - 1 - t)) (List.range r.length)) = val r.reverse := by
        have := ih; unfold digs at this; rw [this]
      rw [e, ih2, dig_up]
    · have e : r.length + 1 - 1 - r.length = 0 := by omega
      rw [e, dig_zero]
theorem digs_val (l : List UInt8) : digs (val l) l.length l.length = l := by
  have := digs_val_rev l.reverse
  simpa using this
theorem flp_flp (neg : Bool) (d : UInt8) : flp neg (flp neg d) = d := by unfold flp; rw [UInt8.xor_assoc, UInt8.xor_self, UInt8.xor_zero]
theorem val_first (d : UInt8) (l : List UInt8) : val (d :: l) = d.toNat * 256 ^ l.length + val l := by
  have key : ∀ (l : List UInt8) (m0 : Nat), l.foldl (fun m d => 256 * m + d.toNat) m0 = m0 * 256 ^ l.length + l.foldl (fun m d => 256 * m + d.toNat) 0 := by
    intro l
    induction l with
    | nil => intro m0; simp
    | cons x l ih =>
      intro m0
      rw [List.foldl_cons, List.foldl_cons, ih (256 * m0 + x.toNat), ih (256 * 0 + x.toNat), List.length_cons, Nat.pow_succ, Nat.add_mul, Nat.add_mul]
      simp only [Nat.mul_zero, Nat.zero_mul, Nat.zero_add]
      rw [Nat.mul_comm 256 m0, Nat.mul_assoc, Nat.mul_comm (256 ^ l.length) 256]
      omega
  have := key l (256 * 0 + d.toNat)
  simp only [Nat.mul_zero, Nat.zero_add] at this
  simpa [val] using this
/-- an encoding is met where no digit is wasted -/
theorem enc_iff {neg : Bool} {h : UInt8} {K : Nat} {t : List UInt8} (hh : (flp neg h).toNat = 128 + K) (h8 : K ≤ 8) (hl : K ≤ t.length)
    (hb : val ((t.take K).map (flp neg)) < 9223372036854775808) :
    encInt (if neg then -1 - (val ((t.take K).map (flp neg)) : Int) else val ((t.take K).map (flp neg))) = h :: t.take K ↔ (K = 0 ∨ flp neg (t.getD 0 0) ≠ 0) := by
  obtain ⟨v, hv⟩ : ∃ v, v = val ((t.take K).map (flp neg)) := ⟨_, rfl⟩
  have hlen : ((t.take K).map (flp neg)).length = K := by simp; omega
  have hvK : v < 256 ^ K := by rw [hv]; have := val_lt ((t.take K).map (flp neg)); rwa [hlen] at this
  rw [← hv] at hb ⊢
  have hmag : mag (if neg then -1 - (v : Int) else v) = v := by cases neg; exact mag_of_nat v; exact mag_of_neg v
  have hneg : decide ((if neg then -1 - (v : Int) else v) < 0) = neg := by cases neg <;> simp <;> omega
  constructor
  · intro he
    have h2 := congrArg List.length he
    rw [encInt_length, hmag, List.length_cons, List.length_take, Nat.min_eq_left hl] at h2
    have hk : klen v = K := by omega
    have hL := len_klen (m := v) (by omega)
    rw [hk] at hL
    rcases hL.2.2 with h0 | h0
    · exact .inl h0
    · cases K with
      | zero => exact .inl rfl
      | succ K =>
        refine .inr fun hz => ?_
        cases t with
        | nil => simp at hl
        | cons d t =>
          simp only [List.getD_cons_zero] at hz
          rw [List.take_succ_cons, List.map_cons, val_first, hz] at hv
          have := val_lt ((t.take K).map (flp neg))
          simp only [List.length_map, List.length_take] at this hv
          simp only [List.length_cons] at hl
          rw [Nat.min_eq_left (by omega)] at this hv
          have h0' : 256 ^ K ≤ v := by simpa using h0
          have hv' : v = val ((t.take K).map (flp neg)) := by rw [hv]; simp
          rw [← hv'] at this
          omega
  · intro hz
    have hL : Len v K := by
      refine ⟨h8, hvK, ?_⟩
      rcases hz with h0 | hz
      · exact .inl h0
      · cases K with
        | zero => exact .inl rfl
        | succ K =>
          refine .inr ?_
          cases t with
          | nil => simp at hl
          | cons d t =>
            simp only [List.getD_cons_zero] at hz
            rw [List.take_succ_cons, List.map_cons, val_first] at hv
            simp only [List.length_cons] at hl
            simp only [List.length_map, List.length_take] at hv
            rw [Nat.min_eq_left (by omega)] at hv
            have h1 : 0 < (flp neg d).toNat := Nat.pos_of_ne_zero fun e => hz (UInt8.toNat_inj.1 e)
            have h3 : 1 * 256 ^ K ≤ (flp neg d).toNat * 256 ^ K := Nat.mul_le_mul_right _ h1
            simp
            omega
    have hk := klen_of hL
    unfold encInt
    rw [hmag, hneg, hk]
    congr 1
    · unfold hd
      have : UInt8.ofNat (128 + K) = flp neg h := by apply UInt8.toNat_inj.1; rw [hh, UInt8.toNat_ofNat']; omega
      rw [this, flp_flp]
    · have := digs_val ((t.take K).map (flp neg))
      rw [hlen, ← hv] at this
      rw [this, List.map_map]
      have e : flp neg ∘ flp neg = id := funext fun d => flp_flp neg d
      rw [e, List.map_id]
theorem decK_used {neg : Bool} {k : Nat} {t : List UInt8} (h : (decK neg k t).2.2 = 0) : (decK neg k t).2.1 = k + 1 ∧ k ≤ t.length ∧ -9223372036854775808 ≤ (decK neg k t).1 ∧ (decK neg k t).1 ≤ 9223372036854775807 := by
  by_cases h8 : 8 < k
  · rw [decK_8 h8] at h; simp at h
  · by_cases hl : t.length < k
    · rw [decK_more h8 hl] at h; simp at h
    · by_cases hz : 0 < k ∧ flp neg (t.getD 0 0) = 0
      · rw [decK_zero h8 hl hz.1 hz.2] at h; simp at h
      · have hz' : k = 0 ∨ flp neg (t.getD 0 0) ≠ 0 := by
          by_cases h0 : k = 0
          · exact .inl h0
          · exact .inr fun e => hz ⟨by omega, e⟩
        by_cases hb : 9223372036854775808 ≤ val ((t.take k).map (flp neg))
        · rw [decK_big h8 hl hz' hb] at h; simp at h
        · rw [decK_ok h8 hl hz' hb]
          refine ⟨rfl, by omega, ?_, ?_⟩ <;> (simp only; split <;> omega)
theorem decInt_cons (h : UInt8) (t : List UInt8) : decInt (h :: t) = decK (decide (h.toNat < 128)) ((flp (decide (h.toNat < 128)) h).toNat - 128) t := rfl
theorem decInt_used {l : List UInt8} (h : (decInt l).2.2 = 0) : 1 ≤ (decInt l).2.1 ∧ (decInt l).2.1 ≤ l.length ∧ -9223372036854775808 ≤ (decInt l).1 ∧ (decInt l).1 ≤ 9223372036854775807 := by
  cases l with
  | nil => simp [decInt] at h
  | cons x t =>
    rw [decInt_cons] at h ⊢
    obtain ⟨h1, h2, h3, h4⟩ := decK_used h
    rw [List.length_cons]
    generalize (flp (decide (x.toNat < 128)) x).toNat - 128 = k at *
    exact ⟨by omega, by omega, h3, h4⟩
theorem decK_err {neg : Bool} {k : Nat} {t : List UInt8} (h : (decK neg k t).2.2 ≠ 0) : decK neg k t = (0, 0, (decK neg k t).2.2) := by
  unfold decK at *
  by_cases h8 : 8 < k
  · rw [if_pos h8]
  · rw [if_neg h8] at h ⊢
    by_cases hl : t.length < k
    · rw [if_pos hl]
    · rw [if_neg hl] at h ⊢
      by_cases hz : 0 < k ∧ flp neg (t.getD 0 0) = 0
      · rw [if_pos hz]
      · rw [if_neg hz] at h ⊢
        by_cases hb : 9223372036854775808 ≤ val ((t.take k).map (flp neg))
        · rw [if_pos hb]
        · rw [if_neg hb] at h; exact absurd rfl h
theorem decInt_err {l : List UInt8} (h : (decInt l).2.2 ≠ 0) : decInt l = (0, 0, (decInt l).2.2) := by
  cases l with
  | nil => rfl
  | cons x t => rw [decInt_cons] at h ⊢; exact decK_err h
/-- the error of a list's length, where each element takes at least 'size' bytes -/
def cntErr (l : List UInt8) (size : Int) : Int :=
  if (decInt l).2.2 ≠ 0 then (decInt l).2.2 else if (decInt l).1 < 0 then 2 else if ((l.length : Int) - (decInt l).2.1) / size < (decInt l).1 then 3 else 0
end Go.Dx
end

/- the text N2 -/
section
/- SHA-256 on natural numbers, for the kernel: a block. No Go. -/
namespace Go.Dx
namespace NS
/-- force -/
noncomputable def fc {α : Type} (n : Nat) (f : Nat → α) : α := Nat.rec (f 0) (fun k _ => f (Nat.succ k)) n
theorem fc_eq {α : Type} (n : Nat) (f : Nat → α) : fc n f = f n := by cases n <;> rfl

abbrev F : Type := Nat → Nat → Nat → Nat → Nat → Nat → Nat → Nat → Nat → Nat → Nat → Nat → Nat → Nat → Nat → Nat → Nat → Nat → Nat → Nat → Nat → Nat → Nat → Nat → Nat
noncomputable def stepF (k : Nat) (ih : F) (a b c d e f g h w0 w1 w2 w3 w4 w5 w6 w7 w8 w9 w10 w11 w12 w13 w14 w15 : Nat) : Nat :=
    fc (Nat.add (Nat.add (Nat.add (Nat.add h (S1 e)) (ch e f g)) k) w0) fun x =>
    fc (Nat.mod (Nat.add x (Nat.add (S0 a) (maj a b c))) 4294967296) fun a' =>
    fc (Nat.mod (Nat.add d x) 4294967296) fun e' =>
    fc (Nat.mod (Nat.add (Nat.add (Nat.add w0 (g0 w1)) w9) (g1 w14)) 4294967296) fun w16 =>
    ih a' a b c e' e f g w1 w2 w3 w4 w5 w6 w7 w8 w9 w10 w11 w12 w13 w14 w15 w16
noncomputable def rounds (fin : Nat → Nat → Nat → Nat → Nat → Nat → Nat → Nat → Nat) (ks : List Nat) : F :=
  @List.rec Nat (fun _ => F) (fun a b c d e f g h _ _ _ _ _ _ _ _ _ _ _ _ _ _ _ _ => fin a b c d e f g h)
  (fun k _ ih => stepF k ih) ks
theorem rounds_nil (fin : Nat → Nat → Nat → Nat → Nat → Nat → Nat → Nat → Nat) (a b c d e f g h w0 w1 w2 w3 w4 w5 w6 w7 w8 w9 w10 w11 w12 w13 w14 w15 : Nat) : rounds fin [] a b c d e f g h w0 w1 w2 w3 w4 w5 w6 w7 w8 w9 w10 w11 w12 w13 w14 w15 = fin a b c d e f g h := rfl
theorem rounds_cons (fin : Nat → Nat → Nat → Nat → Nat → Nat → Nat → Nat → Nat) (k : Nat) (ks : List Nat) (a b c d e f g h w0 w1 w2 w3 w4 w5 w6 w7 w8 w9 w10 w11 w12 w13 w14 w15 : Nat) : rounds fin (k :: ks) a b c d e f g h w0 w1 w2 w3 w4 w5 w6 w7 w8 w9 w10 w11 w12 w13 w14 w15 = rounds fin ks ((h + S1 e + ch e f g + k + w0 + (S0 a + maj a b c)) % 4294967296) a b c ((d + (h + S1 e + ch e f g + k + w0)) % 4294967296) e f g w1 w2 w3 w4 w5 w6 w7 w8 w9 w10 w11 w12 w13 w14 w15 ((w0 + g0 w1 + w9 + g1 w14) % 4294967296) := by
  have e : rounds fin (k :: ks) = stepF k (rounds fin ks) := rfl
  rw [e]
  unfold stepF
  rw [fc_eq, fc_eq, fc_eq, fc_eq]
  rfl
theorem n_a (h s c k w t m : Nat) : (h + s + c + k + w + (t + m)) % 4294967296 = (((((h + s) % 4294967296 + c) % 4294967296 + k) % 4294967296 + w) % 4294967296 + (t + m) % 4294967296) % 4294967296 := by omega
theorem n_e (d h s c k w : Nat) : (d + (h + s + c + k + w)) % 4294967296 = (d + ((((h + s) % 4294967296 + c) % 4294967296 + k) % 4294967296 + w) % 4294967296) % 4294967296 := by omega
theorem n_w (a b c d : Nat) : (a + b + c + d) % 4294967296 = (((a + b) % 4294967296 + c) % 4294967296 + d) % 4294967296 := by omega
theorem add_u (x y : UInt32) : (x + y).toNat = (x.toNat + y.toNat) % 4294967296 := UInt32.toNat_add x y
/-- the rounds, the words as a stream -/
noncomputable def rg (g : St → UInt32 → UInt32 → St) (ks : List UInt32) : (Nat → UInt32) → St → St :=
  @List.rec UInt32 (fun _ => (Nat → UInt32) → St → St) (fun _ x => x) (fun k _ ih V x => ih (fun j => V (j + 1)) (g x k (V 0))) ks
theorem rg_cons (g : St → UInt32 → UInt32 → St) (k : UInt32) (ks : List UInt32) (V : Nat → UInt32) (x : St) : rg g (k :: ks) V x = rg g ks (fun j => V (j + 1)) (g x k (V 0)) := rfl
noncomputable def rf (V : Nat → UInt32) (ks : List UInt32) (x : St) : St := rg rnd ks V x
theorem rf_nil (V : Nat → UInt32) (x : St) : rf V [] x = x := rfl
theorem rf_cons (V : Nat → UInt32) (k : UInt32) (ks : List UInt32) (x : St) : rf V (k :: ks) x = rf (fun j => V (j + 1)) ks (rnd x k (V 0)) := rg_cons rnd k ks V x

theorem rounds_eq (fin : Nat → Nat → Nat → Nat → Nat → Nat → Nat → Nat → Nat) : ∀ (ks : List UInt32) (V : Nat → UInt32) (_ : ∀ t, V (t + 16) = V t + sig0 (V (t + 1)) + V (t + 9) + sig1 (V (t + 14))) (x : St),
    rounds fin (ks.map UInt32.toNat) x.a.toNat x.b.toNat x.c.toNat x.d.toNat x.e.toNat x.f.toNat x.g.toNat x.h.toNat (V 0).toNat (V 1).toNat (V 2).toNat (V 3).toNat (V 4).toNat (V 5).toNat (V 6).toNat (V 7).toNat (V 8).toNat (V 9).toNat (V 10).toNat (V 11).toNat (V 12).toNat (V 13).toNat (V 14).toNat (V 15).toNat = fin (rf V ks x).a.toNat (rf V ks x).b.toNat (rf V ks x).c.toNat (rf V ks x).d.toNat (rf V ks x).e.toNat (rf V ks x).f.toNat (rf V ks x).g.toNat (rf V ks x).h.toNat
  | [], _, _, _ => rfl
  | k :: ks, V, hV, x => by
    have ih := rounds_eq fin ks (fun j => V (j + 1)) (fun t => hV (t + 1)) (rnd x k (V 0))
    rw [List.map_cons, rounds_cons, rf_cons, ← ih]
    have h16 := congrArg UInt32.toNat (hV 0)
    have ea : (x.h.toNat + S1 x.e.toNat + ch x.e.toNat x.f.toNat x.g.toNat + k.toNat + (V 0).toNat + (S0 x.a.toNat + maj x.a.toNat x.b.toNat x.c.toNat)) % 4294967296 = (rnd x k (V 0)).a.toNat := by
      rw [S1_nat, S0_nat, ch_nat, maj_nat, n_a]
      unfold rnd
      rw [add_u, add_u, add_u, add_u, add_u, add_u]
    have ee : (x.d.toNat + (x.h.toNat + S1 x.e.toNat + ch x.e.toNat x.f.toNat x.g.toNat + k.toNat + (V 0).toNat)) % 4294967296 = (rnd x k (V 0)).e.toNat := by
      rw [S1_nat, ch_nat, n_e]
      unfold rnd
      rw [add_u, add_u, add_u, add_u, add_u]
    have ew : ((V 0).toNat + g0 (V 1).toNat + (V 9).toNat + g1 (V 14).toNat) % 4294967296 = (V 16).toNat := by
      rw [g0_nat, g1_nat]
      have h16 : (V 16).toNat = (V 0 + sig0 (V 1) + V 9 + sig1 (V 14)).toNat := h16
      rw [h16, n_w, add_u, add_u, add_u]
    rw [ea, ee, ew]
    rfl
theorem rf_rnds (V : Nat → UInt32) (K ws : List UInt32) (s : St) (hws : ∀ t, t < K.length → ws.getD t 0 = V t) : ∀ n t, t + n = K.length → rf (fun j => V (t + j)) (K.drop t) (rnds K ws s t) = rnds K ws s K.length := by
  intro n
  induction n with
  | zero => intro t h; rw [List.drop_eq_nil_of_le (by omega), rf_nil, show t = K.length by omega]
  | succ n ih =>
    intro t h
    have ht : t < K.length := by omega
    rw [List.drop_eq_getElem_cons ht, rf_cons, ← ih (t + 1) (by omega), rnds, hws t ht]
    have e : K.getD t 0 = K[t] := by rw [List.getD_eq_getElem?_getD, List.getElem?_eq_getElem ht]; rfl
    have e2 : (fun j => V (t + (j + 1))) = fun j => V (t + 1 + j) := by funext j; congr 1; omega
    rw [e, e2]
    rfl
theorem wl_get (b : List UInt8) (j : Nat) : ∀ n, j < n → (wl b n).getD j 0 = wnext b (wl b j) j
  | 0, h => by omega
  | n + 1, h => by
    rw [wl]
    by_cases e : j = n
    · subst e
      rw [List.getD_eq_getElem?_getD, List.getElem?_append_right (by rw [wl_length]; exact Nat.le_refl _), wl_length, Nat.sub_self]; rfl
    · rw [List.getD_eq_getElem?_getD, List.getElem?_append_left (by rw [wl_length]; omega), ← List.getD_eq_getElem?_getD]
      exact wl_get b j n (by omega)
/-- the word with a number -/
def wv (b : List UInt8) (t : Nat) : UInt32 := wnext b (wl b t) t
theorem wv_next (b : List UInt8) (t : Nat) : wv b (t + 16) = wv b t + sig0 (wv b (t + 1)) + wv b (t + 9) + sig1 (wv b (t + 14)) := by
  rw [wv, wnext, if_neg (by omega), wl_get b _ _ (by omega), wl_get b _ _ (by omega), wl_get b _ _ (by omega), wl_get b _ _ (by omega)]
  rw [show t + 16 - 16 = t by omega, show t + 16 - 15 = t + 1 by omega, show t + 16 - 7 = t + 9 by omega, show t + 16 - 2 = t + 14 by omega]
  rfl
theorem wv_first (b : List UInt8) {t : Nat} (h : t < 16) : wv b t = be4 (b.getD (4 * t) 0) (b.getD (4 * t + 1) 0) (b.getD (4 * t + 2) 0) (b.getD (4 * t + 3) 0) := by rw [wv, wnext, if_pos h]
def K : List Nat := [0x428a2f98, 0x71374491, 0xb5c0fbcf, 0xe9b5dba5, 0x3956c25b, 0x59f111f1, 0x923f82a4, 0xab1c5ed5,
  0xd807aa98, 0x12835b01, 0x243185be, 0x550c7dc3, 0x72be5d74, 0x80deb1fe, 0x9bdc06a7, 0xc19bf174,
  0xe49b69c1, 0xefbe4786, 0x0fc19dc6, 0x240ca1cc, 0x2de92c6f, 0x4a7484aa, 0x5cb0a9dc, 0x76f988da,
  0x983e5152, 0xa831c66d, 0xb00327c8, 0xbf597fc7, 0xc6e00bf3, 0xd5a79147, 0x06ca6351, 0x14292967,
  0x27b70a85, 0x2e1b2138, 0x4d2c6dfc, 0x53380d13, 0x650a7354, 0x766a0abb, 0x81c2c92e, 0x92722c85,
  0xa2bfe8a1, 0xa81a664b, 0xc24b8b70, 0xc76c51a3, 0xd192e819, 0xd6990624, 0xf40e3585, 0x106aa070,
  0x19a4c116, 0x1e376c08, 0x2748774c, 0x34b0bcb5, 0x391c0cb3, 0x4ed8aa4a, 0x5b9cca4f, 0x682e6ff3,
  0x748f82ee, 0x78a5636f, 0x84c87814, 0x8cc70208, 0x90befffa, 0xa4506ceb, 0xbef9a3f7, 0xc67178f2]
theorem K_eq : K = K256.map UInt32.toNat := by decide +kernel
def pk (x y : Nat) : Nat := Nat.add (Nat.mul x 4294967296) y
def pk8 (a b c d e f g h : Nat) : Nat := pk (pk (pk (pk (pk (pk (pk a b) c) d) e) f) g) h
def ad (x y : Nat) : Nat := Nat.mod (Nat.add x y) 4294967296
theorem ad_eq (x y : UInt32) : ad y.toNat x.toNat = (x + y).toNat := by
  unfold ad
  rw [add_u, Nat.add_comm x.toNat]
  rfl
/-- a state as one number -/
def pack (s : St) : Nat := pk8 s.a.toNat s.b.toNat s.c.toNat s.d.toNat s.e.toNat s.f.toNat s.g.toNat s.h.toNat
def wd (m : Nat) (t : Nat) : Nat := Nat.mod (Nat.shiftRight m t) 4294967296
theorem wd_pk (x y t : Nat) (hy : y < 4294967296) : wd (pk x y) (t + 32) = wd x t := by
  unfold wd pk
  show ((x * 4294967296 + y) >>> (t + 32)) % 4294967296 = (x >>> t) % 4294967296
  rw [Nat.add_comm t 32, Nat.shiftRight_add, Nat.shiftRight_eq_div_pow (x * 4294967296 + y) 32]
  rw [show (x * 4294967296 + y) / 2 ^ 32 = x by omega]
theorem wd_low (x y : Nat) (hy : y < 4294967296) : wd (pk x y) 0 = y := by
  unfold wd pk
  show ((x * 4294967296 + y) >>> 0) % 4294967296 = y
  rw [Nat.shiftRight_zero]; omega
theorem wd_top (y : Nat) (hy : y < 4294967296) : wd y 0 = y := by
  unfold wd
  show (y >>> 0) % 4294967296 = y
  rw [Nat.shiftRight_zero]; omega
theorem wd_a (s : St) : wd (pack s) 224 = s.a.toNat := by
  exact (wd_pk _ _ 192 (w_lt _)).trans ((wd_pk _ _ 160 (w_lt _)).trans ((wd_pk _ _ 128 (w_lt _)).trans ((wd_pk _ _ 96 (w_lt _)).trans ((wd_pk _ _ 64 (w_lt _)).trans ((wd_pk _ _ 32 (w_lt _)).trans ((wd_pk _ _ 0 (w_lt _)).trans (wd_top _ (w_lt _))))))))
theorem wd_b (s : St) : wd (pack s) 192 = s.b.toNat := by
  exact (wd_pk _ _ 160 (w_lt _)).trans ((wd_pk _ _ 128 (w_lt _)).trans ((wd_pk _ _ 96 (w_lt _)).trans ((wd_pk _ _ 64 (w_lt _)).trans ((wd_pk _ _ 32 (w_lt _)).trans ((wd_pk _ _ 0 (w_lt _)).trans (wd_low _ _ (w_lt _)))))))
theorem wd_c (s : St) : wd (pack s) 160 = s.c.toNat := by
  exact (wd_pk _ _ 128 (w_lt _)).trans ((wd_pk _ _ 96 (w_lt _)).trans ((wd_pk _ _ 64 (w_lt _)).trans ((wd_pk _ _ 32 (w_lt _)).trans ((wd_pk _ _ 0 (w_lt _)).trans (wd_low _ _ (w_lt _))))))
theorem wd_d (s : St) : wd (pack s) 128 = s.d.toNat := by
  exact (wd_pk _ _ 96 (w_lt _)).trans ((wd_pk _ _ 64 (w_lt _)).trans ((wd_pk _ _ 32 (w_lt _)).trans ((wd_pk _ _ 0 (w_lt _)).trans (wd_low _ _ (w_lt _)))))
theorem wd_e (s : St) : wd (pack s) 96 = s.e.toNat := by
  exact (wd_pk _ _ 64 (w_lt _)).trans ((wd_pk _ _ 32 (w_lt _)).trans ((wd_pk _ _ 0 (w_lt _)).trans (wd_low _ _ (w_lt _))))
theorem wd_f (s : St) : wd (pack s) 64 = s.f.toNat := by
  exact (wd_pk _ _ 32 (w_lt _)).trans ((wd_pk _ _ 0 (w_lt _)).trans (wd_low _ _ (w_lt _)))
theorem wd_g (s : St) : wd (pack s) 32 = s.g.toNat := by
  exact (wd_pk _ _ 0 (w_lt _)).trans (wd_low _ _ (w_lt _))
theorem wd_h (s : St) : wd (pack s) 0 = s.h.toNat := by
  exact wd_low _ _ (w_lt _)
theorem val_append (l r : List UInt8) : val (l ++ r) = val l * 256 ^ r.length + val r := by
  induction l with
  | nil => simp [val]
  | cons d l ih => rw [List.cons_append, val_first, val_first, ih, List.length_append, Nat.add_mul, Nat.pow_add, Nat.mul_assoc, Nat.add_assoc]
/-- a word of a block -/
theorem wd_block {b : List UInt8} (hb : b.length = 64) {t : Nat} (ht : t < 16) : wd (val b) (480 - 32 * t) = (wv b t).toNat := by
  have e : b = b.take (4 * t) ++ ([b.getD (4 * t) 0, b.getD (4 * t + 1) 0, b.getD (4 * t + 2) 0, b.getD (4 * t + 3) 0] ++ b.drop (4 * t + 4)) := by
    apply List.ext_getElem?
    intro i
    have g : ∀ j, j < 64 → b[j]? = some (b.getD j 0) := fun j hj => by rw [List.getD_eq_getElem?_getD, List.getElem?_eq_getElem (by omega)]; rfl
    by_cases h1 : i < 4 * t
    · rw [List.getElem?_append_left (by rw [List.length_take]; omega), List.getElem?_take, if_pos h1]
    · rw [List.getElem?_append_right (by rw [List.length_take]; omega), List.length_take, Nat.min_eq_left (by omega)]
      by_cases h2 : i < 4 * t + 4
      · rw [List.getElem?_append_left (by simp; omega), g i (by omega)]
        rcases (by omega : i = 4 * t ∨ i = 4 * t + 1 ∨ i = 4 * t + 2 ∨ i = 4 * t + 3) with rfl | rfl | rfl | rfl
        · rw [Nat.sub_self]; rfl
        · rw [show 4 * t + 1 - 4 * t = 1 by omega]; rfl
        · rw [show 4 * t + 2 - 4 * t = 2 by omega]; rfl
        · rw [show 4 * t + 3 - 4 * t = 3 by omega]; rfl
      · rw [List.getElem?_append_right (by simp; omega), List.getElem?_drop]
        congr 1
        simp only [List.length_cons, List.length_nil]
        omega
  rw [wv_first b ht]
  generalize b.getD (4 * t) 0 = x0 at *
  generalize b.getD (4 * t + 1) 0 = x1 at *
  generalize b.getD (4 * t + 2) 0 = x2 at *
  generalize b.getD (4 * t + 3) 0 = x3 at *
  have hD := val_lt (b.drop (4 * t + 4))
  have hl : (b.drop (4 * t + 4)).length = 60 - 4 * t := by rw [List.length_drop]; omega
  rw [hl] at hD
  have ev := congrArg val e
  rw [val_append, val_append, List.length_append, hl] at ev
  have h4 : val [x0, x1, x2, x3] = (be4 x0 x1 x2 x3).toNat := by
    have := UInt8.toNat_lt x0
    have := UInt8.toNat_lt x1
    have := UInt8.toNat_lt x2
    have := UInt8.toNat_lt x3
    unfold be4
    rw [UInt32.toNat_ofNat', val, List.foldl_cons, List.foldl_cons, List.foldl_cons, List.foldl_cons, List.foldl_nil]
    omega
  have hw := UInt32.toNat_lt (be4 x0 x1 x2 x3)
  rw [h4] at ev
  show ((val b) >>> (480 - 32 * t)) % 4294967296 = _
  rw [ev, Nat.shiftRight_eq_div_pow]
  generalize val (b.drop (4 * t + 4)) = Y at *
  generalize val (b.take (4 * t)) = X at *
  generalize (be4 x0 x1 x2 x3).toNat = Z at *
  have ep : 2 ^ (480 - 32 * t) = 256 ^ (60 - 4 * t) := by rw [show (256 : Nat) = 2 ^ 8 from rfl, ← Nat.pow_mul]; congr 1; omega
  rw [ep]
  have eq : X * 256 ^ (4 + (60 - 4 * t)) + (Z * 256 ^ (60 - 4 * t) + Y) = (X * 4294967296 + Z) * 256 ^ (60 - 4 * t) + Y := by
    rw [Nat.pow_add, Nat.add_mul, Nat.add_assoc, Nat.mul_assoc]
  show (X * 256 ^ (4 + (60 - 4 * t)) + (Z * 256 ^ (60 - 4 * t) + Y)) / 256 ^ (60 - 4 * t) % 4294967296 = Z
  rw [eq, Nat.add_comm, Nat.add_mul_div_right _ _ (Nat.pow_pos (by decide)), Nat.div_eq_of_lt hD]
  omega
/-- a block: the state and the 64 bytes as numbers -/
noncomputable def compN (s m : Nat) : Nat :=
  fc (wd s 224) fun a => fc (wd s 192) fun b => fc (wd s 160) fun c => fc (wd s 128) fun d => fc (wd s 96) fun e => fc (wd s 64) fun f => fc (wd s 32) fun g => fc (wd s 0) fun h =>
  fc (wd m 480) fun w0 => fc (wd m 448) fun w1 => fc (wd m 416) fun w2 => fc (wd m 384) fun w3 => fc (wd m 352) fun w4 => fc (wd m 320) fun w5 => fc (wd m 288) fun w6 => fc (wd m 256) fun w7 => fc (wd m 224) fun w8 => fc (wd m 192) fun w9 => fc (wd m 160) fun w10 => fc (wd m 128) fun w11 => fc (wd m 96) fun w12 => fc (wd m 64) fun w13 => fc (wd m 32) fun w14 => fc (wd m 0) fun w15 =>
  rounds (fun a' b' c' d' e' f' g' h' => pk8 (ad a' a) (ad b' b) (ad c' c) (ad d' d) (ad e' e) (ad f' f) (ad g' g) (ad h' h)) K a b c d e f g h w0 w1 w2 w3 w4 w5 w6 w7 w8 w9 w10 w11 w12 w13 w14 w15
theorem compN_eq (s : St) {b : List UInt8} (hb : b.length = 64) : compN (pack s) (val b) = pack (comp s b) := by
  unfold compN
  simp only [fc_eq]
  rw [wd_a s, wd_b s, wd_c s, wd_d s, wd_e s, wd_f s, wd_g s, wd_h s]
  rw [(wd_block hb (t := 0) (by decide) : wd (val b) 480 = _), (wd_block hb (t := 1) (by decide) : wd (val b) 448 = _), (wd_block hb (t := 2) (by decide) : wd (val b) 416 = _), (wd_block hb (t := 3) (by decide) : wd (val b) 384 = _), (wd_block hb (t := 4) (by decide) : wd (val b) 352 = _), (wd_block hb (t := 5) (by decide) : wd (val b) 320 = _), (wd_block hb (t := 6) (by decide) : wd (val b) 288 = _), (wd_block hb (t := 7) (by decide) : wd (val b) 256 = _), (wd_block hb (t := 8) (by decide) : wd (val b) 224 = _), (wd_block hb (t := 9) (by decide) : wd (val b) 192 = _), (wd_block hb (t := 10) (by decide) : wd (val b) 160 = _), (wd_block hb (t := 11) (by decide) : wd (val b) 128 = _), (wd_block hb (t := 12) (by decide) : wd (val b) 96 = _), (wd_block hb (t := 13) (by decide) : wd (val b) 64 = _), (wd_block hb (t := 14) (by decide) : wd (val b) 32 = _), (wd_block hb (t := 15) (by decide) : wd (val b) 0 = _)]
  rw [K_eq, rounds_eq _ K256 (wv b) (wv_next b) s]
  have h := rf_rnds (wv b) K256 (wl b 64) s (fun t ht => wl_get b t 64 ht) 64 0 rfl
  have h2 : rf (wv b) K256 s = rnds K256 (wl b 64) s 64 := by
    have e : (fun j => wv b (0 + j)) = wv b := by funext j; rw [Nat.zero_add]
    rw [e] at h
    exact h
  rw [h2]
  unfold comp
  generalize rnds K256 (wl b 64) s 64 = y
  unfold St.add pack
  simp only [ad_eq]
end NS
end Go.Dx
end

/- the text Types -/
section
/- The seat's numbers of types, and the laws on append at each slice type. -/
namespace Go.Proofs.YtblgmjnkllkhbaaDoor
open Go.RowKit Go.Dx

theorem info_int : (Tryd.prog.info? 3).map (fun i => (i.zero, i.size, i.bytes)) = some (some (.int .i64 0), 1, 8) := by kernel_rfl
theorem info_u8 : (Tryd.prog.info? 5).map (fun i => (i.zero, i.size, i.bytes)) = some (some (.int .u8 0), 1, 1) := by kernel_rfl


theorem info_str : (Tryd.prog.info? 9).map (fun i => (i.zero, i.size, i.bytes)) = some (some (.string ⟨#[]⟩), 1, 16) := by kernel_rfl
theorem size_int : (Tryd.prog.info? 3).map (·.size) = some 1 := by kernel_rfl
theorem size_u8 : (Tryd.prog.info? 5).map (·.size) = some 1 := by kernel_rfl
theorem size_dig : (Tryd.prog.info? 23).map (·.size) = some 16 := by kernel_rfl
theorem size_str : (Tryd.prog.info? 9).map (·.size) = some 1 := by kernel_rfl

section
variable {w : World} {ops : Array Oper} {rest : List Oper} {o : Oper} {act : Act} {Q : Exit → Act → World → Prop}

/-- 'append(out, d)' on []byte -/
theorem app_b (hg : o.guard = none) (s x : Operand) (hop : o.op = Op.call { callee := Callee.builtin Builtin.append, args := #[s, x], argTypes := #[52, 52] })
    (w0 : World) (B : Nat) (a : Option Addr) (n c : Nat) (xs : List Value) (hs : act.eval s = .slice a n c) (hown : Own w B 5 1 a n c xs)
    (u : Int) (hx : act.eval x = .slice (some ⟨w.heap.size, 0, none⟩) 1 1)
    (hn : n + 1 ≤ 140737488355328) (hB : B ≤ w.heap.size) (hbel : Below B w0 w)
    (hK : ∀ a' c' w', Own w' B 5 1 a' (n + 1) c' (xs ++ [.int .u8 u]) → w.grownBy w' (a.map (·.block)) → Below B w0 w' → wpList Tryd.prog ops Q rest (act.put o.dst (.slice a' (n + 1) c')) w') :
    wpList Tryd.prog ops Q (o :: rest) act (w.alloc (.cells #[.int .u8 u] 5)) :=
  append_lit hg s x 52 hop 5 (.int .u8 0) 1 1 Tryd.underlying52 info_u8 rfl w0 B a n c xs hs hown 1 [.int .u8 u] hx rfl (by simp [Value.oneCell']) (by omega) (by unfold maxLen; omega) hB hbel hK

/-- 'append(out, n)' on []int -/
theorem app_i (hg : o.guard = none) (s x : Operand) (hop : o.op = Op.call { callee := Callee.builtin Builtin.append, args := #[s, x], argTypes := #[25, 25] })
    (w0 : World) (B : Nat) (a : Option Addr) (n c : Nat) (xs : List Value) (hs : act.eval s = .slice a n c) (hown : Own w B 3 1 a n c xs)
    (u : Int) (hx : act.eval x = .slice (some ⟨w.heap.size, 0, none⟩) 1 1)
    (hn : (n + 1) * 8 ≤ 140737488355328) (hB : B ≤ w.heap.size) (hbel : Below B w0 w)
    (hK : ∀ a' c' w', Own w' B 3 1 a' (n + 1) c' (xs ++ [.int .i64 u]) → w.grownBy w' (a.map (·.block)) → Below B w0 w' → wpList Tryd.prog ops Q rest (act.put o.dst (.slice a' (n + 1) c')) w') :
    wpList Tryd.prog ops Q (o :: rest) act (w.alloc (.cells #[.int .i64 u] 3)) :=
  append_lit hg s x 25 hop 3 (.int .i64 0) 1 8 Tryd.underlying25 info_int rfl w0 B a n c xs hs hown 1 [.int .i64 u] hx rfl (by simp [Value.oneCell']) hn (by unfold maxLen; omega) hB hbel hK

/-- 'append(out, s)' on []string -/
theorem app_s (hg : o.guard = none) (s x : Operand) (hop : o.op = Op.call { callee := Callee.builtin Builtin.append, args := #[s, x], argTypes := #[66, 66] })
    (w0 : World) (B : Nat) (a : Option Addr) (n c : Nat) (xs : List Value) (hs : act.eval s = .slice a n c) (hown : Own w B 9 1 a n c xs)
    (u : ByteArray) (hx : act.eval x = .slice (some ⟨w.heap.size, 0, none⟩) 1 1)
    (hn : (n + 1) * 16 ≤ 140737488355328) (hB : B ≤ w.heap.size) (hbel : Below B w0 w)
    (hK : ∀ a' c' w', Own w' B 9 1 a' (n + 1) c' (xs ++ [.string u]) → w.grownBy w' (a.map (·.block)) → Below B w0 w' → wpList Tryd.prog ops Q rest (act.put o.dst (.slice a' (n + 1) c')) w') :
    wpList Tryd.prog ops Q (o :: rest) act (w.alloc (.cells #[.string u] 9)) :=
  append_lit hg s x 66 hop 9 (.string ⟨#[]⟩) 1 16 Tryd.underlying66 info_str rfl w0 B a n c xs hs hown 1 [.string u] hx rfl (by simp [Value.oneCell']) hn (by unfold maxLen; omega) hB hbel hK

/-- 'append(out, ys...)' on []byte -/
theorem app_bs (hg : o.guard = none) (s x : Operand) (hop : o.op = Op.call { callee := Callee.builtin Builtin.append, args := #[s, x], argTypes := #[52, 52] })
    (w0 : World) (B : Nat) (a : Option Addr) (n c : Nat) (xs : List Value) (hs : act.eval s = .slice a n c) (hown : Own w B 5 1 a n c xs)
    (a2 : Option Addr) (m c2 : Nat) (ys : List UInt8) (hx : act.eval x = .slice a2 m c2) (hy : Sl w 1 a2 m c2 (ys.map B8))
    (hn : n + m ≤ 140737488355328) (hB : B ≤ w.heap.size) (hbel : Below B w0 w)
    (hK : ∀ a' c' w', Own w' B 5 1 a' (n + m) c' (xs ++ ys.map B8) → w.grownBy w' (a.map (·.block)) → Below B w0 w' → wpList Tryd.prog ops Q rest (act.put o.dst (.slice a' (n + m) c')) w') :
    wpList Tryd.prog ops Q (o :: rest) act w :=
  append_own hg s x 52 hop 5 (.int .u8 0) 1 1 Tryd.underlying52 info_u8 rfl w0 B a n c xs hs hown a2 m c2 (ys.map B8) hx hy (one_map _ (fun _ => rfl) _) (by omega) (by unfold maxLen; omega) hB hbel hK
/-- 'append(out, s...)' on []byte, s a string -/
theorem app_str (hg : o.guard = none) (s x : Operand) (hop : o.op = Op.call { callee := Callee.builtin Builtin.append, args := #[s, x], argTypes := #[52, 9] })
    (w0 : World) (B : Nat) (a : Option Addr) (n c : Nat) (xs : List Value) (hs : act.eval s = .slice a n c) (hown : Own w B 5 1 a n c xs)
    (y : ByteArray) (hx : act.eval x = .string y)
    (hn : n + y.size ≤ 140737488355328) (hB : B ≤ w.heap.size) (hbel : Below B w0 w)
    (hK : ∀ a' c' w', Own w' B 5 1 a' (n + y.size) c' (xs ++ y.data.toList.map B8) → w.grownBy w' (a.map (·.block)) → Below B w0 w' → wpList Tryd.prog ops Q rest (act.put o.dst (.slice a' (n + y.size) c')) w') :
    wpList Tryd.prog ops Q (o :: rest) act w :=
  append_src hg s x 52 9 hop 5 (.int .u8 0) 1 1 Tryd.underlying52 info_u8 rfl w0 B a n c xs hs hown (.string y) y.size (byteCells y) hx (Src.ofString w Tryd.underlying9 y) (by omega) (by unfold maxLen; omega) hB hbel hK
end
section
variable {w : World} {ops : Array Oper} {rest : List Oper} {act : Act} {Q : Exit → Act → World → Prop} {ty : TypeId} {pos : String} {after : Array Edge}

theorem idx_b (d : Nat) (x y : Operand) (a : Option Addr) (n c : Nat) (cs : List UInt8) (hx : act.eval x = .slice a n c) (hs : Sl w 1 a n c (cs.map B8)) (k : IntKind) (iv : Int) (i : Nat) (hy : act.eval y = .int k iv) (hiv : iv = (i : Int))
    (u : UInt8) (hu : cs[i]? = some u)
    (hK : ∀ b o, w.cell? ⟨b, o, none⟩ = some (B8 u) → b < w.heap.size → wpList Tryd.prog ops Q rest (act.put (some d) (.pointer (some ⟨b, o, none⟩))) w) :
    wpList Tryd.prog ops Q ({ dst := some d, op := .indexAddr 52 x y, type := ty, pos := pos, after := after, guard := none } :: rest) act w :=
  index_sl d 52 x y 5 Tryd.underlying52 size_u8 a n c _ hx hs k iv i hy hiv _ (by rw [List.getElem?_map, hu]; rfl) hK
theorem idx_i (d : Nat) (x y : Operand) (a : Option Addr) (n c : Nat) (cs : List Int) (hx : act.eval x = .slice a n c) (hs : Sl w 1 a n c (cs.map I64)) (k : IntKind) (iv : Int) (i : Nat) (hy : act.eval y = .int k iv) (hiv : iv = (i : Int))
    (u : Int) (hu : cs[i]? = some u)
    (hK : ∀ b o, w.cell? ⟨b, o, none⟩ = some (I64 u) → b < w.heap.size → wpList Tryd.prog ops Q rest (act.put (some d) (.pointer (some ⟨b, o, none⟩))) w) :
    wpList Tryd.prog ops Q ({ dst := some d, op := .indexAddr 25 x y, type := ty, pos := pos, after := after, guard := none } :: rest) act w :=
  index_sl d 25 x y 3 Tryd.underlying25 size_int a n c _ hx hs k iv i hy hiv _ (by rw [List.getElem?_map, hu]; rfl) hK
theorem idx_s (d : Nat) (x y : Operand) (a : Option Addr) (n c : Nat) (cs : List ByteArray) (hx : act.eval x = .slice a n c) (hs : Sl w 1 a n c (cs.map Value.string)) (k : IntKind) (iv : Int) (i : Nat) (hy : act.eval y = .int k iv) (hiv : iv = (i : Int))
    (u : ByteArray) (hu : cs[i]? = some u)
    (hK : ∀ b o, w.cell? ⟨b, o, none⟩ = some (Value.string u) → b < w.heap.size → wpList Tryd.prog ops Q rest (act.put (some d) (.pointer (some ⟨b, o, none⟩))) w) :
    wpList Tryd.prog ops Q ({ dst := some d, op := .indexAddr 66 x y, type := ty, pos := pos, after := after, guard := none } :: rest) act w :=
  index_sl d 66 x y 9 Tryd.underlying66 size_str a n c _ hx hs k iv i hy hiv _ (by rw [List.getElem?_map, hu]; rfl) hK
theorem cut_b (d : Nat) (x lo hi : Operand) (a : Option Addr) (n c : Nat) (cs : List UInt8) (hx : act.eval x = .slice a n c) (hs : Sl w 1 a n c (cs.map B8)) (kl ku : IntKind) (lv uv : Int) (l u : Nat) (hl : act.eval lo = .int kl lv) (hu : act.eval hi = .int ku uv)
    (hlv : lv = (l : Int)) (huv : uv = (u : Int)) (hlu : l ≤ u) (hun : u ≤ n)
    (hK : ∀ a', Sl w 1 a' (u - l) (c - l) (((cs.drop l).take (u - l)).map B8) → (∀ p, a' = some p → ∃ q, a = some q ∧ q.block = p.block) → wpList Tryd.prog ops Q rest (act.put (some d) (.slice a' (u - l) (c - l))) w) :
    wpList Tryd.prog ops Q ({ dst := some d, op := .slice 52 x (some lo) (some hi) none, type := ty, pos := pos, after := after, guard := none } :: rest) act w :=
  cut_sl d 52 x lo hi 5 Tryd.underlying52 1 size_u8 a n c _ hx hs kl ku lv uv l u hl hu hlv huv hlu hun (fun a' h => hK a' (by rw [Nat.mul_one, Nat.mul_one, ← List.map_drop, ← List.map_take] at h; exact h))
theorem cutlo_b (d : Nat) (x lo : Operand) (a : Option Addr) (n c : Nat) (cs : List UInt8) (hx : act.eval x = .slice a n c) (hs : Sl w 1 a n c (cs.map B8)) (kl : IntKind) (lv : Int) (l : Nat) (hl : act.eval lo = .int kl lv)
    (hlv : lv = (l : Int)) (hun : l ≤ n)
    (hK : ∀ a', Sl w 1 a' (n - l) (c - l) ((cs.drop l).map B8) → (∀ p, a' = some p → ∃ q, a = some q ∧ q.block = p.block) → wpList Tryd.prog ops Q rest (act.put (some d) (.slice a' (n - l) (c - l))) w) :
    wpList Tryd.prog ops Q ({ dst := some d, op := .slice 52 x (some lo) none none, type := ty, pos := pos, after := after, guard := none } :: rest) act w :=
  cut_lo d 52 x lo 5 Tryd.underlying52 1 size_u8 a n c _ hx hs kl lv l hl hlv hun (fun a' h => hK a' (by rw [Nat.mul_one, ← List.map_drop] at h; exact h))
theorem cuthi_b (d : Nat) (x hi : Operand) (a : Option Addr) (n c : Nat) (cs : List UInt8) (hx : act.eval x = .slice a n c) (hs : Sl w 1 a n c (cs.map B8)) (ku : IntKind) (uv : Int) (u : Nat) (hu : act.eval hi = .int ku uv)
    (huv : uv = (u : Int)) (hun : u ≤ n)
    (hK : Sl w 1 a u c ((cs.take u).map B8) → wpList Tryd.prog ops Q rest (act.put (some d) (.slice a u c)) w) :
    wpList Tryd.prog ops Q ({ dst := some d, op := .slice 52 x none (some hi) none, type := ty, pos := pos, after := after, guard := none } :: rest) act w :=
  cut_hi d 52 x hi 5 Tryd.underlying52 1 size_u8 a n c _ hx hs ku uv u hu huv hun (fun h => hK (by rw [Nat.mul_one, ← List.map_take] at h; exact h))
theorem load_dig (d : Nat) (x : Operand) (p : Addr) (hx : act.eval x = .pointer (some p)) (cs : List Value) (hl : cs.length = 16) (hc : ∀ j u, cs[j]? = some u → w.cell? (p.add j) = some u)
    (hK : wpList Tryd.prog ops Q rest (act.put (some d) (.agg cs.toArray)) w) :
    wpList Tryd.prog ops Q ({ dst := some d, op := .load 23 x, type := ty, pos := pos, after := after, guard := none } :: rest) act w :=
  load_agg d 23 x 16 size_dig _ _ Tryd.underlying23 p hx cs hl hc hK
theorem store_dig (e : TypeId) (x y : Operand) (zs : Array Value)
    (hx : act.eval x = .pointer (some ⟨w.heap.size, 0, none⟩)) (cs : List Value) (hy : act.eval y = .agg cs.toArray) (hl : cs.length = 16) (hz : zs.size = 16) (h1 : ∀ u ∈ cs, u.oneCell' = true)
    (hK : wpList Tryd.prog ops Q rest act (w.alloc (.cells cs.toArray e))) :
    wpList Tryd.prog ops Q ({ dst := none, op := .store 23 x y, type := ty, pos := pos, after := after, guard := none } :: rest) act (w.alloc (.cells zs e)) :=
  store_fresh 23 e x y 16 size_dig zs hx _ cs hy rfl hl hz h1 hK
theorem to_str (d : Nat) (x : Operand) (a : Option Addr) (n c : Nat) (l : List UInt8) (hx : act.eval x = .slice a n c) (hs : Sl w 1 a n c (l.map B8))
    (hK : wpList Tryd.prog ops Q rest (act.put (some d) (.string ⟨l.toArray⟩)) w) :
    wpList Tryd.prog ops Q ({ dst := some d, op := .convert 52 9 x, type := ty, pos := pos, after := after, guard := none } :: rest) act w :=
  conv_str d 52 9 x 5 Tryd.underlying52 Tryd.underlying5 Tryd.underlying9 a n c l hx hs hK
theorem to_bytes (d : Nat) (x : Operand) (s : ByteArray) (hx : act.eval x = .string s) (hm : s.size ≤ maxLen)
    (hK : ∀ a c w', Sl w' 1 a s.size c (s.data.toList.map B8) → Below w.heap.size w w' → (∀ p, a = some p → w.heap.size ≤ p.block) → wpList Tryd.prog ops Q rest (act.put (some d) (.slice a s.size c)) w') :
    wpList Tryd.prog ops Q ({ dst := some d, op := .convert 9 52 x, type := ty, pos := pos, after := after, guard := none } :: rest) act w :=
  conv_bytes d 9 52 x 5 Tryd.underlying9 Tryd.underlying52 Tryd.underlying5 s hx hm hK
end
end Go.Proofs.YtblgmjnkllkhbaaDoor
end

/- the text Pure2 -/
section
/- The plain mathematics of layer 1, lists. No Go. -/
namespace Go.Dx

def encBytes (l : List UInt8) : List UInt8 := encInt l.length ++ l
def encInts (l : List Int) : List UInt8 := encInt l.length ++ l.flatMap encInt
def encStrs (x : List ByteArray) : List UInt8 := encInt x.length ++ x.flatMap fun s => encBytes s.data.toList
def encDigs (x : List (List UInt8)) : List UInt8 := encInt x.length ++ x.flatMap id

/-- what decoding a string returns -/
def decBytes (l : List UInt8) : ByteArray × Int × Int :=
  if cntErr l 1 = 0 then (⟨((l.drop (decInt l).2.1.toNat).take (decInt l).1.toNat).toArray⟩, (decInt l).2.1 + (decInt l).1, 0) else (⟨#[]⟩, 0, cntErr l 1)

theorem cnt_facts {l : List UInt8} {size : Int} (h1 : 1 ≤ size) (h : cntErr l size = 0) :
    ∃ A N : Nat, (decInt l).2.1 = (A : Int) ∧ (decInt l).1 = (N : Int) ∧ (decInt l).2.2 = 0 ∧ 1 ≤ A ∧ A + N * size.toNat ≤ l.length ∧ N ≤ l.length := by
  unfold cntErr at h
  by_cases hE : (decInt l).2.2 = 0
  · obtain ⟨u1, u2, u3, u4⟩ := decInt_used hE
    rw [if_neg (by simp [hE])] at h
    by_cases hN : (decInt l).1 < 0
    · rw [if_pos hN] at h; omega
    · rw [if_neg hN] at h
      by_cases hq : ((l.length : Int) - (decInt l).2.1) / size < (decInt l).1
      · rw [if_pos hq] at h; omega
      · obtain ⟨A, hA⟩ := Int.eq_ofNat_of_zero_le (a := (decInt l).2.1) (by omega)
        obtain ⟨N, hN'⟩ := Int.eq_ofNat_of_zero_le (a := (decInt l).1) (by omega)
        obtain ⟨S, hS⟩ := Int.eq_ofNat_of_zero_le (a := size) (by omega)
        rw [hA, hN'] at hq
        have hq2 : (N : Int) * size ≤ (l.length : Int) - A := (Int.le_ediv_iff_mul_le (by omega)).1 (by omega)
        subst hS
        have hq3 : N * S ≤ l.length - A := by
          have : ((N * S : Nat) : Int) ≤ (l.length : Int) - A := by simpa using hq2
          omega
        have hS1 : 1 ≤ S := by omega
        have hNS : N * 1 ≤ N * S := Nat.mul_le_mul_left _ hS1
        refine ⟨A, N, hA, hN', hE, by omega, ?_, by omega⟩
        simp only [Int.toNat_natCast]
        omega
  · rw [if_pos hE] at h; exact absurd h hE
end Go.Dx
end

/- the text Wire1 -/
section
namespace Go.Proofs.YtblgmjnkllkhbaaDoor
open Go.RowKit Go.Dx

set_option maxHeartbeats 400000 in
theorem wire_Int (n : Int) (hn0 : -9223372036854775808 ≤ n) (hn1 : n ≤ 9223372036854775807) (w : World) :
    Calls Tryd.prog 26 #[.int .i64 n] w (Gives 5 1 (encInt n).length ((encInt n).map B8) w) := by
  obtain ⟨m, HM⟩ : ∃ m, Hid (m = mag n) := ⟨_, rfl⟩
  have hm2 : m < 9223372036854775808 := by rw [HM.out]; exact mag_lt hn0 hn1
  have hneg : n < 0 → bits .xor .u64 IntKind.u64.max (IntKind.u64.wrap n) = (m : Int) := fun h => by rw [HM.out]; exact mag_neg h hn0
  have HP : Hid (¬ n < 0 → n = (m : Int)) := fun h => by rw [HM.out]; exact mag_pos h
  go_enter Tryd.func26, Tryd.ntmps26
  go_wp2
  go_step3
  go_upto_if 11 with (fail)
  go_cut [3, 4] (fun x f w' => x = .int .u64 (m : Int) ∧ f = .int .u8 ((fl (decide (n < 0))).toNat : Int) ∧ w = w')
  case first =>
    go_wp2
    · have h : n < 0 := by assumption
      go_meet
      exact ⟨rfl, by simp [fl, h], rfl⟩
    · have h : 0 ≤ n := by assumption
      go_meet
      exact ⟨by rw [← HP.out (by omega)]; congr 1; rw [IntKind.wrap_u64]; omega, by rw [show decide (n < 0) = false from by simp; omega]; rfl, rfl⟩
  case rest =>
    obtain ⟨neg, HN⟩ : ∃ neg, Hid (neg = decide (n < 0)) := ⟨_, rfl⟩
    rw [← HN.out] at hcut
    obtain ⟨rfl, rfl, rfl⟩ := hcut
    clear HP hneg
    go_wp2
    go_step3
    go_wp2
    have hm8 : m < 256 ^ 8 := by simp; omega
    go_loopg [5] 8 (fun g x w' => ∃ k : Nat, k = g ∧ k ≤ 8 ∧ m < 256 ^ k ∧ x = .int .i64 k ∧ w = w')
    case atStart => exact ⟨8, rfl, by omega, hm8, rfl, rfl⟩
    case round =>
      obtain ⟨k, rfl, hk, hmk, rfl, rfl⟩ := hrel
      have h01 : (0 < k ∧ (m : Int) / 2 ^ (8 * (k - 1)) ≤ 0) ∨ (0 < k ∧ 0 < (m : Int) / 2 ^ (8 * (k - 1))) ∨ ¬ 0 < k := by omega
      rcases h01 with ⟨h0, h1⟩ | ⟨h0, h1⟩ | h0
      · go_wp2
        go_roundg (k - 1)
        case measure => omega
        case rel => exact ⟨k - 1, rfl, by omega, len_next h0 h1, by go_num, rfl⟩
      all_goals
        have hL : Len m k := by first | exact len_brk hk hmk h0 h1 | exact len_zero hk hmk h0
        go_wp2
        rw [hd_eq neg k hk]
        go_loopg [6, 7] k (fun g x i w' => ∃ (j : Nat) (a : Option Addr) (c : Nat), j ≤ k ∧ g = k - j ∧ i = .int .i64 ((k : Int) - 1 - j) ∧ x = .slice a (j + 1) c ∧ Own w' w.heap.size 5 1 a (j + 1) c ((encTo neg m k j).map B8) ∧ Below w.heap.size w w')
        case atStart => exact ⟨0, _, _, by omega, by omega, by simp, rfl, Own.built w _ _ 1 1 _ (Nat.le_refl _) rfl (by decide), (Below.refl _ _).alloc (Nat.le_refl _) _⟩
        case round =>
          obtain ⟨j, a, c, hj, hg, rfl, rfl, hown, hb⟩ := hrel
          go_wp2_with (at_builtin; refine app_b rfl _ _ rfl w w.heap.size _ _ _ _ rfl hown _ rfl (by omega) hb.size hb ?_; intro a' c' w' hown' hgr' hb')
          all_goals first
            | (have hx : (k : Int) - 1 < (j : Int) := by assumption
               obtain rfl : j = k := by omega
               rw [Exit.noGoto_ret]
               go_ret
               have e : encTo neg m j j = encInt n := by have hL' := hL; rw [HM.out] at hL' ⊢; rw [HN.out]; exact encTo_all hL'
               have el : (encInt n).length = j + 1 := by rw [← e, encTo_length]
               rw [el]
               exact ⟨a, c, rfl, by rw [← e]; exact hown, hb⟩)
            | (go_roundg (k - (j + 1))
               case measure => omega
               case rel =>
                 have e := dig_eq neg m (k - 1 - j)
                 refine ⟨j + 1, a', c', by omega, rfl, by congr 1; omega, rfl, ?_, hb'⟩
                 rw [encTo_succ]
                 rw [e] at hown'
                 simpa using hown')
end Go.Proofs.YtblgmjnkllkhbaaDoor
end

/- the text Wire2 -/
section
namespace Go.Proofs.YtblgmjnkllkhbaaDoor
open Go.RowKit Go.Dx

set_option maxHeartbeats 400000 in
theorem ref_Int_neg (m : Nat) (hm : m < 9223372036854775808) (w : World) :
    Calls Tryd.prog 30 #[.int .i64 (-1 - (m : Int))] w (Gives 5 1 (encInt (-1 - (m : Int))).length ((encInt (-1 - (m : Int))).map B8) w) := by
  have hd0 : decide (-1 - (m : Int) < 0) = true := by simp; omega
  have hd1 : decide (0 ≤ -1 - (m : Int)) = false := by simp; omega
  have hd2 : decide ((m : Int) ≤ -1) = false := by simp; omega
  have HA : Hid (∀ k, Len m k → encTo true m k k = encInt (-1 - (m : Int))) := fun k h => by
    have := @encTo_all (-1 - (m : Int)) k (by rw [mag_of_neg]; exact h)
    rw [mag_of_neg, show decide ((-1 - (m : Int)) < 0) = true by simp; omega] at this
    exact this
  go_enter Tryd.func30, Tryd.ntmps30
  go_wp2
  go_loopg [3, 4] 8 (fun g x v w' => ∃ (t : Nat) (a : Option Addr) (c : Nat), t ≤ 8 ∧ g = 8 - t ∧ (t = 0 ∨ 256 ^ (t - 1) ≤ m) ∧ x = .int .i64 ((m / 256 ^ t : Nat) : Int) ∧ v = .slice a t c ∧ Own w' w.heap.size 5 1 a t c ((lows m t).map B8) ∧ Below w.heap.size w w')
  case atStart => exact ⟨0, none, 0, by omega, by omega, .inl rfl, by simp; omega, rfl, Own.nil _ _ _ _, Below.refl _ _⟩
  case round =>
    obtain ⟨t, a, c, ht, hg, hlo, rfl, rfl, hown, hb⟩ := hrel
    have HG := hide hg
    have hq : m / 256 ^ t < 9223372036854775808 := Nat.lt_of_le_of_lt (Nat.div_le_self _ _) hm
    have HQ := hide (@Len.lt m t hm)
    have HF := hide (@Len.fin m t)
    have HN := hide (@Len.next m t)
    have HD := hide (dig_int m t)
    have HV := hide (div_int m t)
    clear hg
    generalize m / 256 ^ t = q at *
    by_cases h0 : 0 < q
    · go_wp2_with (at_builtin; refine app_b rfl _ _ rfl w w.heap.size _ _ _ _ rfl hown _ rfl (by omega) hb.size hb ?_; intro a' c' w' hown' hgr' hb')
      have h8 := HQ.out (by omega) ht
      go_roundg (8 - (t + 1))
      case measure => have := HG.out; omega
      case rel =>
        refine ⟨t + 1, a', c', by omega, rfl, .inr (HN.out (by omega)), by rw [HV.out], rfl, ?_, hb'⟩
        rw [lows_succ]
        rw [HD.out] at hown'
        simpa using hown'
    · have hL := HF.out (by omega) ht hlo
      have hk8 := hL.1
      have HS := hide hown.sl
      go_wp2_with (at_builtin; refine app_b rfl _ _ rfl wr wr.heap.size none 0 0 [] rfl (Own.nil _ _ _ _) _ rfl (by omega) (Nat.le_refl _) (Below.refl _ _) ?_; intro a6 c6 w6 hown6 hgr6 hb6)
      obtain ⟨wo, rfl⟩ : ∃ wo : World, wo = wr := ⟨_, rfl⟩
      go_loopg [6, 7] t (fun g x i w' => ∃ (j : Nat) (a : Option Addr) (c : Nat), j ≤ t ∧ g = t - j ∧ i = .int .i64 ((t : Int) - 1 - j) ∧ x = .slice a (j + 1) c ∧ Own w' wo.heap.size 5 1 a (j + 1) c ((encTo true m t j).map B8) ∧ Below wo.heap.size wo w')
      case atStart =>
        refine ⟨0, a6, c6, by omega, by omega, by simp, rfl, ?_, hb6⟩
        rw [encTo_zero]
        have e := hd_neg t hk8
        simp only [List.map_cons, List.map_nil, B8, e]
        simpa using hown6
      case round =>
        obtain ⟨j, a7, c7, hj, hg7, rfl, rfl, hown7, hb7⟩ := hrel
        have HG7 := hide hg7
        clear hg7
        by_cases hjt : j < t
        · obtain ⟨b, off, rfl, hbs, hcell⟩ := Sl.ex (HS.out.below hb7) (by simp [lows_length]; omega)
          have hc : wr.cell? ⟨b, off + (t - 1 - j), none⟩ = some (B8 (dig m (t - 1 - j))) := hcell _ _ (by rw [List.getElem?_map, lows_get m t _ (by omega)]; rfl)
          clear hcell
          have hdb := UInt8.toNat_lt (dig m (t - 1 - j))
          go_wp2_with (at_builtin; refine app_b rfl _ _ rfl wo wo.heap.size _ _ _ _ rfl hown7 _ rfl (by omega) hb7.size hb7 ?_; intro a' c' w' hown' hgr' hb')
          go_roundg (t - (j + 1))
          case measure => have := HG7.out; omega
          case rel =>
            refine ⟨j + 1, a', c', by omega, rfl, by congr 1; omega, rfl, ?_, hb'⟩
            rw [encTo_succ]
            have e := flp_neg (dig m (t - 1 - j))
            simp only [List.map_append, List.map_cons, List.map_nil, B8, e]
            simpa using hown'
        · obtain rfl : j = t := by omega
          go_wp2
          go_ret
          have e := HA.out j hL
          have el : (encInt (-1 - (m : Int))).length = j + 1 := by rw [← e, encTo_length]
          rw [el, ← e]
          exact ⟨a7, c7, rfl, hown7.mono hb.size, hb.trans (hb7.mono hb.size)⟩

set_option maxHeartbeats 400000 in
theorem ref_Int_pos (m : Nat) (hm : m < 9223372036854775808) (w : World) :
    Calls Tryd.prog 30 #[.int .i64 (m : Int)] w (Gives 5 1 (encInt (m : Int)).length ((encInt (m : Int)).map B8) w) := by
  have hd0 : decide ((m : Int) < 0) = false := by simp
  have HA : Hid (∀ k, Len m k → encTo false m k k = encInt (m : Int)) := fun k h => by
    have := @encTo_all (m : Int) k (by rw [mag_of_nat]; exact h)
    rw [mag_of_nat, show decide ((m : Int) < 0) = false by simp] at this
    exact this
  go_enter Tryd.func30, Tryd.ntmps30
  go_wp2
  go_loopg [3, 4] 8 (fun g x v w' => ∃ (t : Nat) (a : Option Addr) (c : Nat), t ≤ 8 ∧ g = 8 - t ∧ (t = 0 ∨ 256 ^ (t - 1) ≤ m) ∧ x = .int .i64 ((m / 256 ^ t : Nat) : Int) ∧ v = .slice a t c ∧ Own w' w.heap.size 5 1 a t c ((lows m t).map B8) ∧ Below w.heap.size w w')
  case atStart => exact ⟨0, none, 0, by omega, by omega, .inl rfl, by simp, rfl, Own.nil _ _ _ _, Below.refl _ _⟩
  case round =>
    obtain ⟨t, a, c, ht, hg, hlo, rfl, rfl, hown, hb⟩ := hrel
    have HG := hide hg
    have hq : m / 256 ^ t < 9223372036854775808 := Nat.lt_of_le_of_lt (Nat.div_le_self _ _) hm
    have HQ := hide (@Len.lt m t hm)
    have HF := hide (@Len.fin m t)
    have HN := hide (@Len.next m t)
    have HD := hide (dig_int m t)
    have HV := hide (div_int m t)
    clear hg
    generalize m / 256 ^ t = q at *
    by_cases h0 : 0 < q
    · go_wp2_with (at_builtin; refine app_b rfl _ _ rfl w w.heap.size _ _ _ _ rfl hown _ rfl (by omega) hb.size hb ?_; intro a' c' w' hown' hgr' hb')
      have h8 := HQ.out (by omega) ht
      go_roundg (8 - (t + 1))
      case measure => have := HG.out; omega
      case rel =>
        refine ⟨t + 1, a', c', by omega, rfl, .inr (HN.out (by omega)), by rw [HV.out], rfl, ?_, hb'⟩
        rw [lows_succ]
        rw [HD.out] at hown'
        simpa using hown'
    · have hL := HF.out (by omega) ht hlo
      have hk8 := hL.1
      have HS := hide hown.sl
      go_wp2_with (at_builtin; refine app_b rfl _ _ rfl wr wr.heap.size none 0 0 [] rfl (Own.nil _ _ _ _) _ rfl (by omega) (Nat.le_refl _) (Below.refl _ _) ?_; intro a6 c6 w6 hown6 hgr6 hb6)
      obtain ⟨wo, rfl⟩ : ∃ wo : World, wo = wr := ⟨_, rfl⟩
      go_loopg [6, 7] t (fun g x i w' => ∃ (j : Nat) (a : Option Addr) (c : Nat), j ≤ t ∧ g = t - j ∧ i = .int .i64 ((t : Int) - 1 - j) ∧ x = .slice a (j + 1) c ∧ Own w' wo.heap.size 5 1 a (j + 1) c ((encTo false m t j).map B8) ∧ Below wo.heap.size wo w')
      case atStart =>
        refine ⟨0, a6, c6, by omega, by omega, by simp, rfl, ?_, hb6⟩
        rw [encTo_zero]
        have e := hd_pos t hk8
        simp only [List.map_cons, List.map_nil, B8, e]
        simpa using hown6
      case round =>
        obtain ⟨j, a7, c7, hj, hg7, rfl, rfl, hown7, hb7⟩ := hrel
        have HG7 := hide hg7
        clear hg7
        by_cases hjt : j < t
        · obtain ⟨b, off, rfl, hbs, hcell⟩ := Sl.ex (HS.out.below hb7) (by simp [lows_length]; omega)
          have hc : wr.cell? ⟨b, off + (t - 1 - j), none⟩ = some (B8 (dig m (t - 1 - j))) := hcell _ _ (by rw [List.getElem?_map, lows_get m t _ (by omega)]; rfl)
          clear hcell
          have hdb := UInt8.toNat_lt (dig m (t - 1 - j))
          go_wp2_with (at_builtin; refine app_b rfl _ _ rfl wo wo.heap.size _ _ _ _ rfl hown7 _ rfl (by omega) hb7.size hb7 ?_; intro a' c' w' hown' hgr' hb')
          go_roundg (t - (j + 1))
          case measure => have := HG7.out; omega
          case rel =>
            refine ⟨j + 1, a', c', by omega, rfl, by congr 1; omega, rfl, ?_, hb'⟩
            rw [encTo_succ]
            have e := flp_pos_int (dig m (t - 1 - j))
            simp only [List.map_append, List.map_cons, List.map_nil, B8, e]
            simpa using hown'
        · obtain rfl : j = t := by omega
          go_wp2
          go_ret
          have e := HA.out j hL
          have el : (encInt (m : Int)).length = j + 1 := by rw [← e, encTo_length]
          rw [el, ← e]
          exact ⟨a7, c7, rfl, hown7.mono hb.size, hb.trans (hb7.mono hb.size)⟩

theorem ref_Int (n : Int) (hn0 : -9223372036854775808 ≤ n) (hn1 : n ≤ 9223372036854775807) (w : World) :
    Calls Tryd.prog 30 #[.int .i64 n] w (Gives 5 1 (encInt n).length ((encInt n).map B8) w) := by
  by_cases h : n < 0
  · obtain ⟨m, rfl⟩ : ∃ m : Nat, n = -1 - (m : Int) := ⟨(-1 - n).toNat, by omega⟩
    exact ref_Int_neg m (by omega) w
  · obtain ⟨m, rfl⟩ : ∃ m : Nat, n = (m : Int) := ⟨n.toNat, by omega⟩
    exact ref_Int_pos m (by omega) w
end Go.Proofs.YtblgmjnkllkhbaaDoor
end

/- the text Hash2 -/
section
namespace Go.Proofs.YtblgmjnkllkhbaaDoor
open Go.RowKit Go.Dx

theorem rot_count (n m : Nat) (h0 : 1 ≤ n) (h1 : n + m = 32) : bits .and .u64 (IntKind.u64.wrap (-(n : Int))) 31 = (m : Int) := by
  have e : IntKind.u64.wrap (-(n : Int)) = ((18446744073709551616 - n : Nat) : Int) := by
    simp [IntKind.wrap, IntKind.bits, IntKind.signed]; omega
  rw [e, show (31 : Int) = ((31 : Nat) : Int) from rfl, u64_and_nat _ _ (by omega) (by omega), nat_mask5]
  omega
theorem rotl_any (x : UInt32) (n : Nat) (h0 : 1 ≤ n) (h2 : n ≤ 31) (w : World) :
    Calls Tryd.prog 74 #[W32 x, .int .i64 (-(n : Int))] w fun e w' => e = .returned (W32 (ror x n)) ∧ w = w' := by
  obtain ⟨m, h1⟩ : ∃ m, n + m = 32 := ⟨32 - n, by omega⟩
  have hx := w_lt x
  have hs := rot_count n m h0 h1
  have h3 : m ≤ 31 := by omega
  have hn : n = 32 - m := by omega
  have hm : m = 32 - n := by omega
  have HN := hide hn
  have HM := hide hm
  clear h1 hn hm
  go_enter Tryd.func74, Tryd.ntmps74
  go_wp2
  go_ret
  exact ⟨ret_w (by rw [w_shl', w_shr, w_or, ← HN.out, HM.out]; rfl), rfl⟩
theorem rotl_c (x : UInt32) (n : Nat) (k : Int) (hk : k = -(n : Int)) (h0 : 1 ≤ n) (h2 : n ≤ 31) (w : World) :
    Calls Tryd.prog 74 #[W32 x, .int .i64 k] w fun e w' => e = .returned (W32 (ror x n)) ∧ w = w' := by
  subst hk; exact rotl_any x n h0 h2 w
theorem mix_any (x : UInt32) (i j k : Nat) (i0 : 1 ≤ i) (i1 : i ≤ 31) (j0 : 1 ≤ j) (j1 : j ≤ 31) (k0 : 1 ≤ k) (k1 : k ≤ 31) (w : World) :
    Calls Tryd.prog 73 #[W32 x, .int .i64 (i : Int), .int .i64 (j : Int), .int .i64 (k : Int)] w fun e w' => e = .returned (W32 (mix3 x i j k)) ∧ w = w' := by
  have hx := w_lt x
  go_enter Tryd.func73, Tryd.ntmps73
  go_wp2_with (go_at_call 74; refine (rotl_any x _ (by assumption) (by assumption) _).mono ?_; rintro e w' ⟨rfl, rfl⟩)
  go_ret
  exact ⟨ret_w (by rw [w_xor, w_xor]; rfl), rfl⟩
theorem rotr_any (x : UInt32) (n : Nat) (h0 : 1 ≤ n) (h2 : n ≤ 31) (w : World) :
    Calls Tryd.prog 71 #[W32 x, .int .i64 (n : Int)] w (Still (W32 (ror x n)) w) := by
  obtain ⟨m, hm⟩ : ∃ m, m = 32 - n := ⟨32 - n, by omega⟩
  have hx := w_lt x
  have e1 : (32 : Int) - (n : Int) = (m : Int) := by omega
  have h3 : m ≤ 31 := by omega
  have h4 : (0 : Int) ≤ (n : Int) := by omega
  have HM := hide hm
  clear hm
  go_enter Tryd.func71, Tryd.ntmps71
  go_wp2
  go_quiet (fail)
  go_wp2
  go_ret
  exact ⟨ret_w (by rw [w_shl', w_shr, w_or, HM.out, UInt32.or_comm]; rfl), _, rfl⟩
theorem rotr_c (x : UInt32) (n : Nat) (k : Int) (hk : k = (n : Int)) (h0 : 1 ≤ n) (h2 : n ≤ 31) (w : World) :
    Calls Tryd.prog 71 #[W32 x, .int .i64 k] w (Still (W32 (ror x n)) w) := by subst hk; exact rotr_any x n h0 h2 w
theorem quiet_more {P : Program} {f : FuncId} {args : Array Value} {w : World} {a n : Nat} {v : Value} (h : Calls P f args (w.drewN (a + n)) (Still v (w.drewN (a + n)))) :
    Calls P f args (w.drewN (a + n)) fun e w'' => e = .returned v ∧ ∃ m, w'' = w.drewN (a + m) :=
  h.mono fun _ _ ⟨he, m, hm⟩ => ⟨he, n + m, by rw [hm, World.drewN_drewN, Nat.add_assoc]⟩
theorem mix_c (x : UInt32) (i j k : Nat) (i' j' k' : Int) (hi : i' = i) (hj : j' = j) (hk : k' = k) (i0 : 1 ≤ i) (i1 : i ≤ 31) (j0 : 1 ≤ j) (j1 : j ≤ 31) (k0 : 1 ≤ k) (k1 : k ≤ 31) (w : World) :
    Calls Tryd.prog 73 #[W32 x, .int .i64 i', .int .i64 j', .int .i64 k'] w fun e w' => e = .returned (W32 (mix3 x i j k)) ∧ w = w' := by subst hi hj hk; exact mix_any x i j k i0 i1 j0 j1 k0 k1 w
theorem mix_6 (x : UInt32) (w : World) : Calls Tryd.prog 73 #[W32 x, .int .i64 6, .int .i64 11, .int .i64 25] w fun e w' => e = .returned (W32 (mix3 x 6 11 25)) ∧ w = w' := mix_any x 6 11 25 (by decide) (by decide) (by decide) (by decide) (by decide) (by decide) w
theorem mix_2 (x : UInt32) (w : World) : Calls Tryd.prog 73 #[W32 x, .int .i64 2, .int .i64 13, .int .i64 22] w fun e w' => e = .returned (W32 (mix3 x 2 13 22)) ∧ w = w' := mix_any x 2 13 22 (by decide) (by decide) (by decide) (by decide) (by decide) (by decide) w
theorem quiet_left {P : Program} {f : FuncId} {args : Array Value} {w : World} {n : Nat} {v : Value} (h : Calls P f args (w.drewN n) fun e w' => e = .returned v ∧ w.drewN n = w') :
    Calls P f args (w.drewN n) fun e w'' => e = .returned v ∧ ∃ m, w'' = w.drewN m := h.mono fun _ _ ⟨he, hm⟩ => ⟨he, n, hm.symm⟩
theorem quiet_left2 {P : Program} {f : FuncId} {args : Array Value} {w : World} {a n : Nat} {v : Value} (h : Calls P f args (w.drewN (a + n)) fun e w' => e = .returned v ∧ w.drewN (a + n) = w') :
    Calls P f args (w.drewN (a + n)) fun e w'' => e = .returned v ∧ ∃ m, w'' = w.drewN (a + m) := h.mono fun _ _ ⟨he, hm⟩ => ⟨he, n, hm.symm⟩
end Go.Proofs.YtblgmjnkllkhbaaDoor
end

/- the text Ops2 -/
section
/- More laws of the walk: a slice literal of one element that is an array or a struct; a slice to an array. No program in sight. -/
set_option linter.unusedVariables false
namespace Go.Dx
open Go.RowKit

theorem fill_list : ∀ (l : List Value) (k : Nat) (cs : Array Value), cs.size = k + l.length →
    ((l.zipIdx k).foldl (fun cs (x : Value × Nat) => cs.setIfInBounds x.2 x.1) cs).toList = cs.toList.take k ++ l
  | [], k, cs, h => by simp at h ⊢; rw [List.take_of_length_le]; simp; omega
  | x :: r, k, cs, h => by
    rw [List.zipIdx_cons, List.foldl_cons, fill_list r (k + 1) _ (by simp at h ⊢; omega)]
    simp only [Array.toList_setIfInBounds]
    have hk : k < cs.toList.length := by simp at h ⊢; omega
    rw [List.take_succ_eq_append_getElem (by simpa using hk)]
    simp [List.take_set_of_le]
theorem fill_one (v cs : Array Value) (h : cs.size = v.size) : v.zipIdx.foldl (fun cs (x : Value × Nat) => cs.setIfInBounds (0 + x.2) x.1) cs = v := by
  apply Array.ext'
  have := fill_list v.toList 0 cs (by simpa using h)
  simp only [List.take_zero, List.nil_append] at this
  rw [← Array.foldl_toList, Array.toList_zipIdx]
  simpa using this

section ops
variable {P : Program} {w : World} {ops : Array Oper} {rest : List Oper} {act : Act} {Q : Exit → Act → World → Prop}
  {ty : TypeId} {pos : String} {after : Array Edge}

/-- '[]T{x}', T an array or a struct. -/
theorem build_one (d : Nat) (t : TypeId) (x : Operand) (e : TypeId) (ht : P.underlying t = some (.slice e)) (z : Value) (sz bytes : Nat) (hi : (P.info? e).map (fun i => (i.zero, i.size, i.bytes)) = some (some z, sz, bytes))
    (hz : z.cells.size = sz) (hs0 : 0 < sz) (hs1 : sz ≤ 16777216) (v : Value) (us : List Value) (hx : act.eval x = v) (hv : v.cells = us.toArray) (hl : us.length = sz)
    (hK : wpList P ops Q rest (act.put (some d) (.slice (some ⟨w.heap.size, 0, none⟩) 1 1)) (w.alloc (.cells us.toArray e))) :
    wpList P ops Q ({ dst := some d, op := .buildSlice t 1 #[(0, x)], type := ty, pos := pos, after := after, guard := none } :: rest) act w := by
  refine wpList_plain rfl fun K hK' => ?_
  obtain ⟨i, hi0, hz0, hz1, hz2⟩ := info_parts hi
  subst hz1
  have hrun : (Instr.buildSlice t 1 #[(0, v)]).run P w = .ok (.slice (some ⟨w.heap.size, 0, none⟩) 1 1) (w.alloc (.cells us.toArray e)) := by
    have h1 : ¬ (i.size > 16777216) := by omega
    have h2 : i.size ≠ 0 := by omega
    have hf := fill_one us.toArray ((Array.range i.size).map (z.cells[· % z.cells.size]!)) (by simp [hl])
    simp [Instr.buildSlice, run_underlying ht, sizeOf, typeInfo, hi0, h1, h2, zeroValue, hz0, Instr.fill, hv, hl, newRow]
    simp at hf
    rw [hf]
  unfold Oper.wp
  simp [execOp, hx, hrun, Result.andThen]
  exact hK' _ _ hK

/-- '[n]T(xs)' and '(*[n]T)(xs)' -/
theorem to_array (d : Nat) (t : TypeId) (x : Operand) (n e : Nat) (ht : P.underlying t = some (.array n e)) (a : Option Addr) (len c : Nat) (hx : act.eval x = .slice a len c) (hn : n ≤ len)
    (hK : wpList P ops Q rest (act.put (some d) (.pointer a)) w) :
    wpList P ops Q ({ dst := some d, op := .sliceToArrayPointer t x, type := ty, pos := pos, after := after, guard := none } :: rest) act w := by
  refine wpList_plain rfl fun K hK' => ?_
  have hrun : (Instr.arrayAt t (.slice a len c)).run P w = .ok (.pointer a) w := by
    simp [Instr.arrayAt, run_underlying ht, Nat.not_lt.2 hn]
  unfold Oper.wp
  simp [execOp, hx, hrun, Result.andThen]
  exact hK' _ _ hK
end ops

theorem run_forIn_eq {P : Program} (w : World) (n : Nat) (xs ys : List Int) (hx : xs.length = n) (hy : ys.length = n) (F : Nat → Option Bool × Unit → Sem (ForInStep (Option Bool × Unit)))
    (hF : ∀ i s, i < n → (F i s).run P w = .ok (if xs[i]? = ys[i]? then ForInStep.yield (none, ()) else ForInStep.done (some false, ())) w) :
    ∀ (m s : Nat), s + m = n → (forIn (List.range' s m) ((none, ()) : Option Bool × Unit) F).run P w = .ok (if xs.drop s = ys.drop s then (none, ()) else (some false, ())) w := by
  intro m
  induction m with
  | zero =>
    intro s hs
    rw [List.drop_eq_nil_of_le (by omega), List.drop_eq_nil_of_le (by omega)]
    simp [Sem.run_pure]
  | succ m ih =>
    intro s hs
    rw [List.range'_succ, List.forIn_cons, Sem.run_bind, hF s _ (by omega)]
    have ex : xs.drop s = xs[s]'(by omega) :: xs.drop (s + 1) := List.drop_eq_getElem_cons (by omega)
    have ey : ys.drop s = ys[s]'(by omega) :: ys.drop (s + 1) := List.drop_eq_getElem_cons (by omega)
    rw [ex, ey]
    by_cases h : xs[s]? = ys[s]?
    · rw [if_pos h, Result.andThen_ok]
      have h2 : xs[s]'(by omega) = ys[s]'(by omega) := by
        rw [List.getElem?_eq_getElem (by omega), List.getElem?_eq_getElem (by omega)] at h
        exact Option.some.inj h
      simp only [ih (s + 1) (by omega), h2, List.cons.injEq, true_and]
    · rw [if_neg h, Result.andThen_ok]
      have h2 : ¬ xs[s]'(by omega) = ys[s]'(by omega) := fun e => h (by rw [List.getElem?_eq_getElem (by omega), List.getElem?_eq_getElem (by omega), e])
      rw [if_neg (fun e => h2 (List.cons.inj e).1)]
      simp only [Sem.run_pure]

theorem run_equalIn_arr {P : Program} (w : World) (d : Nat) (t e n : Nat) (k : IntKind) (ht : P.underlying t = some (.array n e)) (he : P.underlying e = some (.int k)) (hsz : (P.info? e).map (·.size) = some 1)
    (xs ys : List Int) (hx : xs.length = n) (hy : ys.length = n) :
    (Op.equalIn (d + 2) t (.agg (xs.map (Value.int k)).toArray) (.agg (ys.map (Value.int k)).toArray)).run P w = .ok (decide (xs = ys)) w := by
  obtain ⟨i, hi, hs⟩ := Option.map_eq_some_iff.1 hsz
  unfold Op.equalIn
  simp only [Sem.run_bind, run_underlying ht, Result.andThen_ok, sizeOf, typeInfo]
  simp [hi, hs, Std.Legacy.Range.forIn_eq_forIn_range']
  rw [run_forIn_eq w n xs ys hx hy _ ?_ n 0 (by omega)]
  · simp only [List.drop_zero, Result.andThen_ok]
    by_cases h : xs = ys
    · simp [h, Sem.run_pure]
    · simp [h, Sem.run_pure]
  · intro j s hj
    have h1 : xs[j]? = some xs[j] := List.getElem?_eq_getElem (by omega)
    have h2 : ys[j]? = some ys[j] := List.getElem?_eq_getElem (by omega)
    have p1 : ∀ l : List Int, (hl : l.length = n) → (part e (l.map (Value.int k)).toArray j).run P w = .ok (.int k (l[j]'(by omega))) w := by
      intro l hl
      have h3 : ((l.map (Value.int k)).toArray)[j]? = some (.int k (l[j]'(by omega))) := by simp [hl, hj]
      unfold part
      simp only [Sem.run_bind, isAgg, run_underlying he, Result.andThen_ok, Sem.run_pure]
      simp only [Bool.false_eq_true, if_false, h3, Sem.run_pure]
    simp only [Sem.run_bind, p1 xs hx, p1 ys hy, Result.andThen_ok, run_equalIn_int w d e k k _ _ he]
    by_cases h : xs[j] = ys[j]
    · simp [h1, h2, h, Sem.run_pure]
    · simp [h1, h2, h, Sem.run_pure]

theorem run_eql_arr {P : Program} (w : World) (t e n : Nat) (k : IntKind) (ht : P.underlying t = some (.array n e)) (he : P.underlying e = some (.int k)) (hsz : (P.info? e).map (·.size) = some 1)
    (xs ys : List Int) (hx : xs.length = n) (hy : ys.length = n) :
    (binOp .eql t (.agg (xs.map (Value.int k)).toArray) (.agg (ys.map (Value.int k)).toArray)).run P w = .ok (.bool (decide (xs = ys))) w := by
  rw [run_eql_struct, run_equalIn_arr w 9998 t e n k ht he hsz xs ys hx hy]; rfl
theorem run_neq_arr {P : Program} (w : World) (t e n : Nat) (k : IntKind) (ht : P.underlying t = some (.array n e)) (he : P.underlying e = some (.int k)) (hsz : (P.info? e).map (·.size) = some 1)
    (xs ys : List Int) (hx : xs.length = n) (hy : ys.length = n) :
    (binOp .neq t (.agg (xs.map (Value.int k)).toArray) (.agg (ys.map (Value.int k)).toArray)).run P w = .ok (.bool (!decide (xs = ys))) w := by
  rw [run_neq_struct, run_equalIn_arr w 9998 t e n k ht he hsz xs ys hx hy]; rfl

theorem bytes_ints (l : List UInt8) : l.map B8 = (l.map fun d => (d.toNat : Int)).map (Value.int .u8) := by rw [List.map_map]; rfl
theorem bytes_inj {l m : List UInt8} : (l.map fun d => (d.toNat : Int)) = (m.map fun d => (d.toNat : Int)) ↔ l = m := by
  constructor
  · intro h
    refine List.map_inj_right (fun x y hxy => ?_) |>.1 h
    have h2 : (x.toNat : Int) = (y.toNat : Int) := hxy
    exact UInt8.toNat_inj.1 (by omega)
  · intro h; rw [h]

section quiet
variable {P : Program} {w : World} {ops : Array Oper} {rest : List Oper} {act : Act} {Q : Act → Prop} {ty : TypeId} {pos : String} {after : Array Edge}

theorem quiet_val {o : Oper} (hg : o.guard = none) (v : Value) (h : ∀ n, (execOp act.eval o).run P (w.drewN n) = .ok (.value v) (w.drewN n))
    (hK : wpQuiet P ops (fun w' => ∃ n, w' = w.drewN n) Q rest (act.put o.dst v)) : wpQuiet P ops (fun w' => ∃ n, w' = w.drewN n) Q (o :: rest) act := by
  refine wpQuiet_step fun K hK' => ?_
  have hw : Region.wanted o (yielded ops act.tmps) = true := by simp [Region.wanted, hg]
  rw [if_pos hw]
  refine ⟨v, ?_, hK' _ hK⟩
  rintro w' ⟨n, rfl⟩
  unfold Oper.quietAt
  rw [h n]
  exact ⟨rfl, rfl⟩

/-- in a region that draws and only reads: a whole array is loaded -/
theorem quiet_load_agg (d : Nat) (t : TypeId) (x : Operand) (sz : Nat) (hsz : (P.info? t).map (·.size) = some sz) (n e : Nat) (hag : P.underlying t = some (.array n e))
    (p : Addr) (hx : act.eval x = .pointer (some p)) (cs : List Value) (hl : cs.length = sz) (hc : ∀ j u, cs[j]? = some u → w.cell? (p.add j) = some u)
    (hK : wpQuiet P ops (fun w' => ∃ n, w' = w.drewN n) Q rest (act.put (some d) (.agg cs.toArray))) :
    wpQuiet P ops (fun w' => ∃ n, w' = w.drewN n) Q ({ dst := some d, op := .load t x, type := ty, pos := pos, after := after, guard := none } :: rest) act := by
  obtain ⟨i, hi, hs0⟩ := Option.map_eq_some_iff.1 hsz
  subst hs0
  refine quiet_val rfl _ (fun m => ?_) hK
  have hl2 := run_loadCells_list (P := P) (w.drewN m) p cs hc
  rw [hl] at hl2
  simp [execOp, hx, Instr.loadAt, Instr.sureAddr, loadVar, isAgg, run_underlying hag, sizeOf, typeInfo, hi, hl2]

/-- '!=' of two arrays of bytes -/
theorem quiet_neq_bytes (d : Nat) (t : TypeId) (x y : Operand) (e n : Nat) (ht : P.underlying t = some (.array n e)) (he : P.underlying e = some (.int .u8)) (hsz : (P.info? e).map (·.size) = some 1) (hgt : P.eqGuardType P.depth t = false)
    (xs ys : List UInt8) (hx : act.eval x = .agg (xs.map B8).toArray) (hy : act.eval y = .agg (ys.map B8).toArray) (hxl : xs.length = n) (hyl : ys.length = n)
    (hK : wpQuiet P ops (fun w' => ∃ n, w' = w.drewN n) Q rest (act.put (some d) (.bool (!decide (xs = ys))))) :
    wpQuiet P ops (fun w' => ∃ n, w' = w.drewN n) Q ({ dst := some d, op := .binOp .neq t x y t, type := ty, pos := pos, after := after, guard := none } :: rest) act := by
  refine quiet_val rfl _ (fun m => ?_) hK
  have h1 := run_eqGuard_agg (P := P) (w := w.drewN m) .neq t x y (xs.map B8).toArray (ys.map B8).toArray hgt
  have h2 := run_neq_arr (P := P) (w.drewN m) t e n .u8 ht he hsz (xs.map fun d => (d.toNat : Int)) (ys.map fun d => (d.toNat : Int)) (by simpa using hxl) (by simpa using hyl)
  rw [← bytes_ints, ← bytes_ints] at h2
  have h3 : decide ((xs.map fun d => (d.toNat : Int)) = (ys.map fun d => (d.toNat : Int))) = decide (xs = ys) := decide_eq_decide.2 bytes_inj
  rw [h3] at h2
  simp only [execOp, hx, hy, Sem.run_bind, h1, h2, Result.andThen_ok, Sem.run_pure]
end quiet
end Go.Dx
end

/- the text Ops3 -/
section
/- Laws on full slices: 'b[:len:len]' and an append behind it, which copies. No program in sight. -/
set_option linter.unusedVariables false
set_option linter.unusedSimpArgs false
namespace Go.Dx
open Go.RowKit

section ops
variable {P : Program} {w : World} {ops : Array Oper} {rest : List Oper} {o : Oper} {act : Act} {Q : Exit → Act → World → Prop}
  {ty : TypeId} {pos : String} {after : Array Edge}
/-- 'xs[:len(xs):len(xs)]' -/
theorem cut_full (d : Nat) (t : TypeId) (x hi mx : Operand) (e : TypeId) (ht : P.underlying t = some (.slice e)) (sz : Nat) (hsz : (P.info? e).map (·.size) = some sz)
    (a : Option Addr) (n c : Nat) (hx : act.eval x = .slice a n c) (hnc : n ≤ c) (ku km : IntKind) (uv mv : Int) (hu : act.eval hi = .int ku uv) (hm : act.eval mx = .int km mv)
    (huv : uv = (n : Int)) (hmv : mv = (n : Int)) (hn : a = none → n = 0)
    (hK : wpList P ops Q rest (act.put (some d) (.slice a n n)) w) :
    wpList P ops Q ({ dst := some d, op := .slice t x none (some hi) (some mx), type := ty, pos := pos, after := after, guard := none } :: rest) act w := by
  refine wpList_plain rfl fun K hK' => ?_
  subst huv hmv
  obtain ⟨i0, hi0, hs0⟩ := Option.map_eq_some_iff.1 hsz
  have hrun : (Instr.sliceAt t (.slice a n c) none (some (.int ku (n : Int))) (some (.int km (n : Int)))).run P w = .ok (.slice a n n) w := by
    by_cases h0 : n = 0
    · subst h0
      simp [Instr.sliceAt, Instr.slice, Instr.sliceBounds, Instr.sliceBound, asIntOf, run_underlying ht, sizeOf, typeInfo, hi0, hs0, Addr.add]
    · cases a with
      | none => exact absurd (hn rfl) h0
      | some p =>
        obtain ⟨b, off, sp⟩ := p
        simp [Instr.sliceAt, Instr.slice, Instr.sliceBounds, Instr.sliceBound, asIntOf, run_underlying ht, sizeOf, typeInfo, hi0, hs0, hnc, Addr.add, h0]
  unfold Oper.wp
  simp only [execOp, Option.map_some, Option.map_none, hx, hu, hm, Sem.run_bind, hrun, Result.andThen, Sem.run_pure]
  exact hK' _ _ hK

theorem run_append_full (t tx ty e : TypeId) (i : TypeInfo) (z : Value) (ht : P.underlying t = some (.slice e)) (hi : P.info? e = some i) (hz : i.zero = some z)
    (hzs : z.cells.size = i.size) (a : Option Addr) (n : Nat) (xs : List Value) (hown : Sl w i.size a n n xs)
    (x : Value) (m : Nat) (news : List Value) (hs : Src P i.size tx x m news w)
    (h63 : n + m ≤ maxLen) (hbytes : (n + m) * i.bytes ≤ 140737488355328) :
    ∃ a' c' w', (Builtin.append_ #[t, tx] ty #[.slice a n n, x]).run P w = .ok (.slice a' (n + m) c') w' ∧ Sl w' i.size a' (n + m) c' (xs ++ news) ∧ Below w.heap.size w w' := by
  have hsmall : n + m ≤ 9223372036854775807 := by simp only [maxLen] at h63; omega
  have hlen : (xs ++ news).length = (n + m) * i.size := by rw [List.length_append, hown.1, hs.newsLen, Nat.add_mul]
  have hold : (Builtin.firstCells i.size n (.slice a n n)).run P w.drew = .ok xs.toArray w.drew := by
    cases a with
    | none =>
      have := hown.nil rfl
      obtain rfl : n = 0 := by omega
      have hnews : xs = [] := List.eq_nil_of_length_eq_zero (by simpa using hown.len)
      subst hnews
      exact run_firstCells_none w.drew i.size 0 0 0
    | some p => exact run_firstCells_some w.drew i.size n p n n xs hown.len (by simpa using hown.cell p rfl)
  by_cases hm : m = 0
  · subst hm
    have hnews : news = [] := List.eq_nil_of_length_eq_zero (by simpa using hs.newsLen)
    subst hnews
    refine ⟨a, n, w, ?_, by simpa using hown, Below.refl _ _⟩
    cases a with
    | none =>
      have := hown.nil rfl
      obtain rfl : n = 0 := by omega
      rcases hs.kind with ⟨e', hk⟩ | hk <;> simp [Builtin.append_, run_underlying ht, run_underlying hk, sizeOf, typeInfo, hi, hs.len, hs.cells]
    | some p =>
      have hst : ∀ q : Addr, (storeCells q ([] : List Value)).run P w = .ok () w := by intro q; simp [storeCells]
      rcases hs.kind with ⟨e', hk⟩ | hk <;> simp [Builtin.append_, run_underlying ht, run_underlying hk, sizeOf, typeInfo, hi, hs.len, hs.cells, hst]
  · have hr := run_append_grow_src (P := P) w t tx ty e i z ht hi hz a n n xs hold x m news hs (by omega) (by omega) (growslice_fits (by omega) hbytes)
    have hge := grownCap_ge w (n + m) n e
    have hcm : grownCap w (n + m) n e ≤ maxLen := grownCap_le_maxLen w (n + m) n e h63
    refine ⟨_, _, _, hr, ?_, undrew (Below.alloc (Below.refl w.heap.size w.drew) (Nat.le_refl w.heap.size) _)⟩
    have ho : Own (w.drew.alloc (.cells ((xs ++ news).toArray ++ Builtin.zeroCells z.cells (grownCap w (n + m) n e - (n + m))) e)) 0 e i.size (some ⟨w.heap.size, 0, none⟩) (n + m) (grownCap w (n + m) n e) (xs ++ news) := by
      refine ⟨hlen, .inr ⟨w.heap.size, _, _, rfl, Nat.zero_le _, heap_alloc_new w.drew _, hge, hcm, ?_, ?_⟩⟩
      · simp only [Array.size_append, List.size_toArray, size_zeroCells, hzs, hlen, ← Nat.add_mul]
        congr 1
        omega
      · simp only [Array.toList_append, List.append_assoc]
        rw [← List.append_assoc, ← hlen]
        exact List.take_left
    exact ho.sl

/-- 'append(xs[:n:n], ys...)' -/
theorem append_full (hg : o.guard = none) (s x : Operand) (t : TypeId) (hop : o.op = Op.call { callee := Callee.builtin Builtin.append, args := #[s, x], argTypes := #[t, t] })
    (e : TypeId) (z : Value) (sz bytes : Nat) (ht : P.underlying t = some (.slice e)) (hi : (P.info? e).map (fun i => (i.zero, i.size, i.bytes)) = some (some z, sz, bytes)) (hz : z.cells.size = sz)
    (a : Option Addr) (n : Nat) (xs : List Value) (hs : act.eval s = .slice a n n) (hxs : Sl w sz a n n xs)
    (a2 : Option Addr) (m c2 : Nat) (ys : List Value) (hx : act.eval x = .slice a2 m c2) (hy : Sl w sz a2 m c2 ys) (h1 : ∀ u ∈ ys, u.oneCell' = true)
    (hn : (n + m) * bytes ≤ 140737488355328) (hn2 : n + m ≤ maxLen)
    (hK : ∀ a' c' w', Sl w' sz a' (n + m) c' (xs ++ ys) → Below w.heap.size w w' → wpList P ops Q rest (act.put o.dst (.slice a' (n + m) c')) w') :
    wpList P ops Q (o :: rest) act w := by
  obtain ⟨i, hi0, hz0, hz1, hz2⟩ := info_parts hi
  subst hz1 hz2
  clear hi
  obtain ⟨a', c', w', hrun, ho, hgr⟩ := run_append_full t t o.type e i z ht hi0 hz0 hz a n xs hxs _ m ys (hy.src ht h1) hn2 hn
  refine wpList_plain hg fun K hK' => ?_
  unfold Oper.wp
  simp [execOp, hop, resolve, invoke, builtin, hs, hx, hrun, Result.andThen]
  exact hK' _ _ (hK a' c' w' ho hgr)
end ops
end Go.Dx
end

/- the text Ops4 -/
section
/- Regions that draw their order and whose callees make memory of their own: walked once, at the class 'whatever came on top'. No program in sight. -/
set_option linter.unusedVariables false
namespace Go.Dx
open Go.RowKit

/-- the worlds on top of w -/
structure OnTop (w : World) where
  v : World
  h : Below w.heap.size w v
theorem wp_region_below {P : Program} {id : Nat} {Q : Exit → Act → World → Prop} {a : Act} {w : World} {l : List Oper} (hm : P.follows .mixedOrders = true) (hB : Region.lexB .any l.toArray = true)
    (h : wpQuiet P l.toArray (fun w' => ∃ p : OnTop w, w' = p.v) (fun a' => ∀ w', (∃ p : OnTop w, w' = p.v) → Q .normal a' w') l a) : (Code.region id l.toArray true).wp P Q a w :=
  wp_region_quiet (C := fun w' => ∃ p : OnTop w, w' = p.v) hm hB ⟨⟨w.drewN 1, Still.below 1⟩, rfl⟩ (by simpa using h)
theorem onTop_call {P : Program} {f : FuncId} {args : Array Value} {w : World} {p : OnTop w} {v : Value}
    (h : Calls P f args p.v fun e w' => e = .returned v ∧ Below p.v.heap.size p.v w') : Calls P f args p.v fun e w'' => e = .returned v ∧ ∃ q : OnTop w, w'' = q.v :=
  h.mono fun _ w'' ⟨he, hb⟩ => ⟨he, ⟨w'', p.h.trans (hb.mono p.h.size)⟩, rfl⟩
section
variable {P : Program} {C : World → Prop} {ops : Array Oper} {rest : List Oper} {act : Act} {Q : Act → Prop}
/-- an operation of a quiet walk whose value is known, at whatever class of worlds, guarded or not -/
theorem quiet_at {o : Oper} (v : Value) (hw : Region.wanted o (yielded ops act.tmps) = true) (h : ∀ w, (execOp act.eval o).run P w = .ok (.value v) w)
    (hK : wpQuiet P ops C Q rest (act.put o.dst v)) : wpQuiet P ops C Q (o :: rest) act := by
  refine wpQuiet_step fun K hK' => ?_
  rw [if_pos hw]
  refine ⟨v, ?_, hK' _ hK⟩
  intro w' _
  unfold Oper.quietAt
  rw [h w']
  exact ⟨rfl, rfl⟩
end
end Go.Dx
end

/- the text Box -/
section
/- Blocks that are known whole: local arrays and structs. Laws of the walk on whole loads and stores, cuts of arrays, results that lie in memory. No program in sight. -/
set_option linter.unusedVariables false
set_option linter.unusedSimpArgs false
namespace Go.Dx
open Go.RowKit

/-- block g is just the cells cs of element type t -/
def Box (w : World) (g : Nat) (t : TypeId) (cs : List Value) : Prop := w.heap[g]? = some (.cells cs.toArray t (0, 0))
section
variable {w w' : World} {g : Nat} {t : TypeId} {cs : List Value}
theorem Box.lt (h : Box w g t cs) : g < w.heap.size := (Array.getElem?_eq_some_iff.1 h).1
theorem Box.cell (h : Box w g t cs) (j : Nat) : w.cell? ⟨g, j, none⟩ = cs[j]? := by rw [cell_of_row w g j cs.toArray t (0, 0) h]; simp
theorem Box.at_ (h : Box w g t cs) {j : Nat} {u : Value} (hu : cs[j]? = some u) : w.cell? ⟨g, j, none⟩ = some u := by rw [h.cell, hu]
theorem Box.free (h : Box w g t cs) (j : Nat) : w.frozen? ⟨g, j, none⟩ = false := by unfold Box at h; simp [World.frozen?, h]
theorem Box.new (w : World) (t : TypeId) (us : Array Value) : Box (w.alloc (.cells us t)) w.heap.size t us.toList := heap_alloc_new w _
theorem Box.drew (h : Box w g t cs) : Box w.drew g t cs := h
theorem Box.drewN (h : Box w g t cs) (n : Nat) : Box (w.drewN n) g t cs := h
theorem Box.alloc (h : Box w g t cs) (o : Obj) : Box (w.alloc o) g t cs := (Below.heap_alloc w o g h.lt).trans h
theorem Box.put (h : Box w g t cs) (j : Nat) (u : Value) : Box (w.setCell ⟨g, j, none⟩ u) g t (cs.set j u) := by
  unfold Box at h ⊢
  simp [World.setCell, Array.getElem?_modify, h]
theorem Box.far (h : Box w g t cs) {p : Addr} (hp : g ≠ p.block) (u : Value) : Box (w.setCell p u) g t cs := (Below.heap_setCell w p u g hp).trans h
theorem Box.below {B : Nat} (h : Box w g t cs) (hb : Below B w w') (hg : g < B) : Box w' g t cs := (hb.block g hg).trans h
theorem Box.under (h : Box w g t cs) (hb : Below w.heap.size w w') : Box w' g t cs := h.below hb h.lt
theorem Box.grown {row : Option Nat} (h : Box w g t cs) (hb : w.grownBy w' row) (hg : some g ≠ row) : Box w' g t cs := (hb.block g h.lt hg).trans h
theorem Box.sl (h : Box w g t cs) (off n c sz : Nat) (l : List Value) (hl : l.length = n * sz) (hc : n ≤ c) (hm : c ≤ maxLen) (he : ∀ j u, l[j]? = some u → cs[off + j]? = some u) : Sl w sz (some ⟨g, off, none⟩) n c l :=
  ⟨hl, hc, hm, (fun h => by cases h), fun p hp j u hj => by cases hp; rw [Addr.add_lit]; exact h.at_ (he j u hj)⟩
end

theorem belowN {B : Nat} {a w : World} (h : Below B a w) (n : Nat) : Below B a (w.drewN n) := ⟨h.os, h.tape, h.output, h.size, h.block⟩
section run
variable {P : Program} {w : World}
def IsAgg (P : Program) (t : TypeId) : Prop := (∃ n e, P.underlying t = some (.array n e)) ∨ ∃ fs, P.underlying t = some (.struct fs)
theorem run_isAgg {t : TypeId} (h : IsAgg P t) : (isAgg t).run P w = .ok true w := by
  rcases h with ⟨n, e, h⟩ | ⟨fs, h⟩ <;> simp [isAgg, run_underlying h]
theorem run_loadVar_box {t e : TypeId} {g off : Nat} {old cs : List Value} (hag : IsAgg P t) (hsz : (P.info? t).map (·.size) = some cs.length) (hb : Box w g e old) (hc : ∀ j u, cs[j]? = some u → old[off + j]? = some u) :
    (loadVar t ⟨g, off, none⟩).run P w = .ok (.agg cs.toArray) w := by
  obtain ⟨i, hi, hs0⟩ := Option.map_eq_some_iff.1 hsz
  have hl := run_loadCells_list (P := P) w ⟨g, off, none⟩ cs (fun j u hj => by rw [Addr.add_lit]; exact hb.at_ (hc j u hj))
  simp [loadVar, run_isAgg hag, sizeOf, typeInfo, hi, hs0, hl]
theorem run_results_cell {fn : Func} {tmps : Array Value} {t : Tmp} {ty e : TypeId} {g : Nat} {cs : List Value} (hr : fn.results = #[.cell t ty]) (ht : tmps.getD t undef = .pointer (some ⟨g, 0, none⟩)) (hag : IsAgg P ty) (hsz : (P.info? ty).map (·.size) = some cs.length)
    (hb : Box w g e cs) : (results fn tmps).run P w = .ok (.agg cs.toArray) w := by
  have hl := run_loadVar_box (P := P) (off := 0) hag hsz hb (fun j u hj => by rw [Nat.zero_add]; exact hj)
  have ht2 : tmps[t]?.getD undef = .pointer (some ⟨g, 0, none⟩) := by rw [← ht]; simp
  simp only [results, hr]
  simp [ht2, asAddr, hl]
end run

section ops
variable {P : Program} {w : World} {ops : Array Oper} {rest : List Oper} {act : Act} {Q : Exit → Act → World → Prop}
  {ty : TypeId} {pos : String} {after : Array Edge}
/-- a whole array or struct is loaded -/
theorem load_box (d : Nat) (t : TypeId) (x : Operand) (e : TypeId) (g off : Nat) (old cs : List Value) (hag : IsAgg P t) (hsz : (P.info? t).map (·.size) = some cs.length) (hb : Box w g e old) (hx : act.eval x = .pointer (some ⟨g, off, none⟩))
    (hc : ∀ j u, cs[j]? = some u → old[off + j]? = some u) (hK : wpList P ops Q rest (act.put (some d) (.agg cs.toArray)) w) :
    wpList P ops Q ({ dst := some d, op := .load t x, type := ty, pos := pos, after := after, guard := none } :: rest) act w := by
  refine wpList_plain rfl fun K hK' => ?_
  have hrun : (Instr.loadAt t (.pointer (some ⟨g, off, none⟩))).run P w = .ok (.agg cs.toArray) w := by
    simp [Instr.loadAt, Instr.sureAddr, run_loadVar_box hag hsz hb hc]
  unfold Oper.wp
  simp [execOp, hx, hrun, Result.andThen]
  exact hK' _ _ hK
/-- a whole array or struct is stored -/
theorem store_box (t : TypeId) (x y : Operand) (e : TypeId) (g off : Nat) (old cs : List Value) (v : Value) (hsz : (P.info? t).map (·.size) = some cs.length) (hb : Box w g e old) (hx : act.eval x = .pointer (some ⟨g, off, none⟩))
    (hy : act.eval y = v) (hv : v.cells = cs.toArray) (hl : off + cs.length ≤ old.length) (h1 : ∀ u ∈ cs, u.oneCell' = true)
    (hK : ∀ w', Box w' g e (old.take off ++ cs ++ old.drop (off + cs.length)) → w.grownBy w' (some g) → w'.heap.size = w.heap.size → wpList P ops Q rest act w') :
    wpList P ops Q ({ dst := none, op := .store t x y, type := ty, pos := pos, after := after, guard := none } :: rest) act w := by
  refine wpList_plain rfl fun K hK' => ?_
  obtain ⟨i, hi, hs0⟩ := Option.map_eq_some_iff.1 hsz
  have hst := run_storeCells_at P g off e cs 0 old.toArray w hb (by simpa using hl) h1
  simp only [Nat.add_zero, List.toList_toArray] at hst
  have hrun : (Instr.storeAt t (.pointer (some ⟨g, off, none⟩)) v).run P w = .ok () (w.setRow g (old.take off ++ cs ++ old.drop (off + cs.length)).toArray) := by
    simp [Instr.storeAt, Instr.sureAddr, storeVar, sizeOf, typeInfo, hi, hs0, hv, hst]
  unfold Oper.wp
  simp [execOp, hx, hy, hrun, Result.andThen]
  refine hK' _ _ (hK _ ?_ ⟨rfl, rfl, rfl, by simp [World.setRow], fun k _ hk => setRow_other w g k _ (fun e => hk (by rw [e]))⟩ (by simp [World.setRow]))
  have := setRow_heap w g old.toArray (old.take off ++ cs ++ old.drop (off + cs.length)).toArray e (0, 0) hb
  simpa [Box] using this
/-- the whole block is stored anew -/
theorem store_all (t : TypeId) (x y : Operand) (e : TypeId) (g : Nat) (old cs : List Value) (v : Value) (hsz : (P.info? t).map (·.size) = some cs.length) (hb : Box w g e old) (hx : act.eval x = .pointer (some ⟨g, 0, none⟩))
    (hy : act.eval y = v) (hv : v.cells = cs.toArray) (hl : cs.length = old.length) (h1 : ∀ u ∈ cs, u.oneCell' = true)
    (hK : ∀ w', Box w' g e cs → w.grownBy w' (some g) → w'.heap.size = w.heap.size → wpList P ops Q rest act w') :
    wpList P ops Q ({ dst := none, op := .store t x y, type := ty, pos := pos, after := after, guard := none } :: rest) act w :=
  store_box t x y e g 0 old cs v hsz hb hx hy hv (by omega) h1 (fun w' hb' hg hs => hK w' (by
    have e1 : old.drop (0 + cs.length) = [] := List.drop_eq_nil_of_le (by omega)
    rw [e1, List.take_zero, List.nil_append, List.append_nil] at hb'
    exact hb') hg hs)
/-- an operation whose value is known -/
theorem val_at {o : Oper} (hg : o.guard = none) (v : Value) (h : (execOp act.eval o).run P w = .ok (.value v) w) (hK : wpList P ops Q rest (act.put o.dst v) w) : wpList P ops Q (o :: rest) act w := by
  refine wpList_plain hg fun K hK' => ?_
  unfold Oper.wp
  rw [h]
  exact hK' _ _ hK
/-- the walk stops ahead of an operation 'build' -/
theorem hold_build {dst : Option Tmp} {t ty : TypeId} {ps : Array (Nat × Operand)} {pos : String} {after : Array Edge} {g : Option (Nat × Bool)}
    (h : Hid (wpList P ops Q ({ dst := dst, op := .build t ps, type := ty, pos := pos, after := after, guard := g } :: rest) act w)) : wpList P ops Q ({ dst := dst, op := .build t ps, type := ty, pos := pos, after := after, guard := g } :: rest) act w := h
/-- one cell of a block is stored -/
theorem store_cell (t : TypeId) (x y : Operand) (e : TypeId) (g j : Nat) (old : List Value) (v : Value) (hsz : (P.info? t).map (·.size) = some 1) (hb : Box w g e old) (hx : act.eval x = .pointer (some ⟨g, j, none⟩))
    (hy : act.eval y = v) (h1 : v.oneCell' = true) (hv : v.cells = #[v]) (hj : j < old.length)
    (hK : ∀ w', Box w' g e (old.set j v) → w.grownBy w' (some g) → w'.heap.size = w.heap.size → wpList P ops Q rest act w') :
    wpList P ops Q ({ dst := none, op := .store t x y, type := ty, pos := pos, after := after, guard := none } :: rest) act w :=
  store_box t x y e g j old [v] v hsz hb hx hy hv (by simp; omega) (by simpa using h1) (fun w' hb' hg hs => hK w' (by
    have e : old.take j ++ [v] ++ old.drop (j + [v].length) = old.set j v := by
      rw [List.set_eq_take_append_cons_drop, if_pos hj]
      simp
    rw [e] at hb'
    exact hb') hg hs)
/-- 'arr[lo:hi]' of an array in memory; lo, hi may lack -/
theorem cut_arr (d : Nat) (t arr e : TypeId) (n : Nat) (x : Operand) (lo hi : Option Operand) (ht : P.underlying t = some (.pointer arr)) (ha : P.underlying arr = some (.array n e)) (hsz : (P.info? e).map (·.size) = some 1)
    (g off : Nat) (hx : act.eval x = .pointer (some ⟨g, off, none⟩)) (l u : Nat)
    (hl : lo.map act.eval = none ∧ l = 0 ∨ ∃ k, lo.map act.eval = some (.int k (l : Int))) (hu : hi.map act.eval = none ∧ u = n ∨ ∃ k, hi.map act.eval = some (.int k (u : Int))) (hlu : l ≤ u) (hun : u ≤ n)
    (hK : ∀ a', (a' = some ⟨g, off + l, none⟩ ∨ (n = l ∧ a' = some ⟨g, off, none⟩)) → wpList P ops Q rest (act.put (some d) (.slice a' (u - l) (n - l))) w) :
    wpList P ops Q ({ dst := some d, op := .slice t x lo hi none, type := ty, pos := pos, after := after, guard := none } :: rest) act w := by
  refine wpList_plain rfl fun K hK' => ?_
  obtain ⟨i0, hi0, hs0⟩ := Option.map_eq_some_iff.1 hsz
  have h2 : (0 : Int) ≤ l ∧ (l : Int) ≤ u := by omega
  have h3 : (0 : Int) ≤ u ∧ (u : Int) ≤ n := by omega
  have e2 : (if n = l then (⟨g, off, none⟩ : Addr) else (⟨g, off, none⟩ : Addr).add (l * 1)) = (if n = l then ⟨g, off, none⟩ else ⟨g, off + l, none⟩) := by
    split
    · rfl
    · rw [Nat.mul_one, Addr.add_lit]
  have hrun : (Instr.sliceAt t (.pointer (some ⟨g, off, none⟩)) (lo.map act.eval) (hi.map act.eval) none).run P w = .ok (.slice (some (if n = l then ⟨g, off, none⟩ else ⟨g, off + l, none⟩)) (u - l) (n - l)) w := by
    rcases hl with ⟨hl, rfl⟩ | ⟨k1, hl⟩ <;> rcases hu with ⟨hu, rfl⟩ | ⟨k2, hu⟩ <;>
      simp [hl, hu, Instr.sliceAt, Instr.slice, Instr.sliceBounds, Instr.sliceBound, asIntOf, asAddr, run_underlying ht, run_underlying ha, sizeOf, typeInfo, hi0, hs0, h2, h3, Addr.add_lit, hlu, hun] <;> (try (split <;> simp_all [Addr.add])) <;> (try (intro _; simp_all [Addr.add]))
  unfold Oper.wp
  simp only [execOp, Option.map_none, hx, Sem.run_bind, hrun, Result.andThen, Sem.run_pure]
  refine hK' _ _ (hK _ ?_)
  by_cases hn : n = l
  · rw [if_pos hn]; exact .inr ⟨hn, rfl⟩
  · rw [if_neg hn]; exact .inl rfl
/-- 'v[i]' of an array that is a value, its elements of one cell -/
theorem index_val (d : Nat) (t e n : TypeId) (x y : Operand) (ht : P.underlying t = some (.array n e)) (hsz : (P.info? e).map (·.size) = some 1) (hna : ∀ w, (isAgg e).run P w = .ok false w) (cs : List Value) (hx : act.eval x = .agg cs.toArray) (k : IntKind) (i : Nat) (hy : act.eval y = .int k (i : Int)) (hi : i < n)
    (u : Value) (hu : cs[i]? = some u) (hK : wpList P ops Q rest (act.put (some d) u) w) :
    wpList P ops Q ({ dst := some d, op := .index t x y, type := ty, pos := pos, after := after, guard := none } :: rest) act w := by
  refine wpList_plain rfl fun K hK' => ?_
  obtain ⟨i0, hi0, hs0⟩ := Option.map_eq_some_iff.1 hsz
  have h3 : (0 : Int) ≤ i ∧ (i : Int) < n := by omega
  have hrun : (Instr.index t (.agg cs.toArray) (.int k (i : Int))).run P w = .ok u w := by
    simp [Instr.index, asIntOf, run_underlying ht, sizeOf, typeInfo, hi0, hs0, h3, part, hna, hu, hi]
  unfold Oper.wp
  simp [execOp, hx, hy, hrun, Result.andThen]
  exact hK' _ _ hK
end ops
section still
variable {P : Program} {w : World} {ops : Array Oper} {rest : List Oper} {act : Act} {Q : Act → Prop}
/-- an operation of a still head whose value is known -/
theorem still_at {o : Oper} (v : Value) (hw : Region.wanted o (yielded ops act.tmps) = true) (h : (execOp act.eval o).run P w = .ok (.value v) w)
    (hK : wpStill P ops w Q rest (act.put o.dst v)) : wpStill P ops w Q (o :: rest) act := by
  refine wpStill_step fun K hK' => ?_
  rw [if_pos hw]
  unfold Oper.still
  rw [h]
  exact ⟨rfl, hK' _ hK⟩
end still
theorem one_w {α : Type} {f : α → Value} (hf : ∀ x, (f x).oneCell' = true) (l : List α) : ∀ u ∈ l.map f, u.oneCell' = true := one_map f hf l
end Go.Dx
end

/- the text Hash3 -/
section
namespace Go.Proofs.YtblgmjnkllkhbaaDoor
open Go.RowKit Go.Dx

theorem isAgg_64 : IsAgg Tryd.prog 103 := .inl ⟨_, _, Tryd.underlying103⟩
theorem size_64 : (Tryd.prog.info? 103).map (·.size) = some 64 := by kernel_rfl
theorem box_zero (w : World) (us : Array Value) (t : TypeId) (b : Nat) (hb : b = w.heap.size) (l : List UInt32) (hus : us.toList = l.map W32) : Box (w.alloc (.cells us t)) b t (l.map W32) := by
  subst hb; rw [← hus]; exact Box.new w t us
theorem box_zero2 (w w2 : World) (us : Array Value) (t : TypeId) (o : Obj) (hw : w2 = (w.alloc (.cells us t)).alloc o) (l : List UInt32) (hus : us.toList = l.map W32) : Box w2 w.heap.size t (l.map W32) := by
  subst hw; exact (box_zero w us t _ rfl l hus).alloc o
theorem warr_zero (l : List UInt8) : warr l 0 = List.replicate 64 0 := rfl

set_option maxRecDepth 100000 in
set_option maxHeartbeats 4000000 in
theorem words_any (l : List UInt8) (a : Option Addr) (c : Nat) (w : World) (hs : Sl w 1 a 64 c (l.map B8)) :
    Calls Tryd.prog 70 #[.slice a 64 c] w fun e w' => e = .returned (.agg ((wl l 64).map W32).toArray) ∧ Below w.heap.size w w' := by
  have hl : l.length = 64 := hs.n_eq.symm
  have HL := hide hl
  clear hl
  go_enter Tryd.func70, Tryd.ntmps70
  go_wp2
  go_loopg [4] 16 (fun g i w' => ∃ t : Nat, t ≤ 16 ∧ g = 16 - t ∧ i = .int .i64 t ∧ Box w' (w.heap.size + 1) 103 ((warr l t).map W32) ∧ Box w' w.heap.size 103 ((List.replicate 64 (0 : UInt32)).map W32) ∧ Below w.heap.size w w')
  case atStart =>
    refine ⟨0, by omega, by omega, rfl, box_zero _ _ _ _ (by simp) _ rfl, box_zero2 w _ _ _ _ rfl _ rfl, ((Below.refl _ _).alloc (Nat.le_refl _) _).alloc (by simp) _⟩
  case round =>
    obtain ⟨t, ht, hg, rfl, hx3, hx2, hb⟩ := hrel
    have HG := hide hg
    clear hg
    by_cases hlt : t < 16
    · obtain ⟨b, off, rfl, hbs, hcell⟩ := (hs.below hb).ex (by simp [HL.out])
      obtain ⟨p0, h0⟩ : ∃ p, p = 4 * t := ⟨_, rfl⟩
      obtain ⟨p1, h1⟩ : ∃ p, p = 4 * t + 1 := ⟨_, rfl⟩
      obtain ⟨p2, h2⟩ : ∃ p, p = 4 * t + 2 := ⟨_, rfl⟩
      obtain ⟨p3, h3⟩ : ∃ p, p = 4 * t + 3 := ⟨_, rfl⟩
      obtain ⟨x0, q0⟩ : ∃ x, l[p0]? = some x := ⟨l[p0]'(by have := HL.out; omega), by simp⟩
      obtain ⟨x1, q1⟩ : ∃ x, l[p1]? = some x := ⟨l[p1]'(by have := HL.out; omega), by simp⟩
      obtain ⟨x2, q2⟩ : ∃ x, l[p2]? = some x := ⟨l[p2]'(by have := HL.out; omega), by simp⟩
      obtain ⟨x3, q3⟩ : ∃ x, l[p3]? = some x := ⟨l[p3]'(by have := HL.out; omega), by simp⟩
      have c0 : wr.cell? ⟨b, off + p0, none⟩ = some (B8 x0) := hcell _ _ (by rw [List.getElem?_map, q0]; rfl)
      have c1 : wr.cell? ⟨b, off + p1, none⟩ = some (B8 x1) := hcell _ _ (by rw [List.getElem?_map, q1]; rfl)
      have c2 : wr.cell? ⟨b, off + p2, none⟩ = some (B8 x2) := hcell _ _ (by rw [List.getElem?_map, q2]; rfl)
      have c3 : wr.cell? ⟨b, off + p3, none⟩ = some (B8 x3) := hcell _ _ (by rw [List.getElem?_map, q3]; rfl)
      have d0 : wr.cell? ⟨w.heap.size + 1, t, none⟩ = some (W32 0) := hx3.at_ (by rw [List.getElem?_map, warr_at l (by omega)]; rfl)
      have f0 := hx3.free t
      have HN : Hid (be4 x0 x1 x2 x3 = wnext l (wl l t) t) := by
        show _ = _
        unfold wnext
        rw [if_pos hlt, ← h1, ← h2, ← h3, ← h0, List.getD_eq_getElem?_getD, List.getD_eq_getElem?_getD, List.getD_eq_getElem?_getD, List.getD_eq_getElem?_getD, q0, q1, q2, q3]
        rfl
      have e0 : 4 * (t : Int) = (p0 : Int) := by omega
      have e1 : (p0 : Int) + 1 = (p1 : Int) := by omega
      have e2 : (p0 : Int) + 2 = (p2 : Int) := by omega
      have e3 : (p0 : Int) + 3 = (p3 : Int) := by omega
      have z0 : IntKind.i64.wrap (p0 : Int) = (p0 : Int) := IntWalk.i64_in _ (by omega)
      have z1 : IntKind.i64.wrap (p1 : Int) = (p1 : Int) := IntWalk.i64_in _ (by omega)
      have z2 : IntKind.i64.wrap (p2 : Int) = (p2 : Int) := IntWalk.i64_in _ (by omega)
      have z3 : IntKind.i64.wrap (p3 : Int) = (p3 : Int) := IntWalk.i64_in _ (by omega)
      have m0 : p0 < 64 := by omega
      have m1 : p1 < 64 := by omega
      have m2 : p2 < 64 := by omega
      have m3 : p3 < 64 := by omega
      have it : (t : Int) < 64 := by omega
      have i0 : (p0 : Int) < 64 := by omega
      have i1 : (p1 : Int) < 64 := by omega
      have i2 : (p2 : Int) < 64 := by omega
      have i3 : (p3 : Int) < 64 := by omega
      clear hcell q0 q1 q2 q3 h0 h1 h2 h3
      go_wp2
      go_still_tail 35, (by kernel_rfl)
      change wpList _ _ _ _ _ wr.drew
      go_wp2
      go_roundg (16 - (t + 1))
      case measure => have := HG.out; omega
      case rel =>
        refine ⟨t + 1, by omega, rfl, by go_num, ?_, ?_, ?_⟩
        · rw [be4_or', HN.out]
          have h := hx3.put t (W32 (wnext l (wl l t) t))
          rw [box_set, warr_next l (by omega)] at h
          exact h.drew
        · exact (hx2.far (by simp) _).drew
        · exact (hb.setCell (p := ⟨w.heap.size + 1, t, none⟩) (Nat.le_succ _) _).drew
    · obtain rfl : t = 16 := by omega
      clear HG
      go_wp2
      obtain ⟨wo, rfl⟩ : ∃ wo : World, wo = wr := ⟨_, rfl⟩
      go_loopg [5] 48 (fun g i w' => ∃ t : Nat, 16 ≤ t ∧ t ≤ 64 ∧ g = 64 - t ∧ i = .int .i64 t ∧ Box w' (w.heap.size + 1) 103 ((warr l t).map W32) ∧ Box w' w.heap.size 103 ((List.replicate 64 (0 : UInt32)).map W32) ∧ Below w.heap.size w w')
      case atStart => exact ⟨16, by omega, by omega, by omega, rfl, hx3, hx2, hb⟩
      case round =>
        clear hx3 hx2 hb
        obtain ⟨t, ht0, ht, hg, rfl, hx3, hx2, hb⟩ := hrel
        have HG := hide hg
        clear hg
        by_cases hlt : t < 64
        · obtain ⟨u0, h0⟩ : ∃ p, p = t - 16 := ⟨_, rfl⟩
          obtain ⟨u1, h1⟩ : ∃ p, p = t - 15 := ⟨_, rfl⟩
          obtain ⟨u7, h7⟩ : ∃ p, p = t - 7 := ⟨_, rfl⟩
          obtain ⟨u2, h2⟩ : ∃ p, p = t - 2 := ⟨_, rfl⟩
          obtain ⟨x0, g0⟩ : ∃ x, x = (wl l t).getD u0 0 := ⟨_, rfl⟩
          obtain ⟨x1, g1⟩ : ∃ x, x = (wl l t).getD u1 0 := ⟨_, rfl⟩
          obtain ⟨x7, g7⟩ : ∃ x, x = (wl l t).getD u7 0 := ⟨_, rfl⟩
          obtain ⟨x2, g2⟩ : ∃ x, x = (wl l t).getD u2 0 := ⟨_, rfl⟩
          have c0 : wr.cell? ⟨w.heap.size + 1, u0, none⟩ = some (W32 x0) := hx3.at_ (by rw [g0]; exact box_at (warr_get l (by omega)))
          have c1 : wr.cell? ⟨w.heap.size + 1, u1, none⟩ = some (W32 x1) := hx3.at_ (by rw [g1]; exact box_at (warr_get l (by omega)))
          have c7 : wr.cell? ⟨w.heap.size + 1, u7, none⟩ = some (W32 x7) := hx3.at_ (by rw [g7]; exact box_at (warr_get l (by omega)))
          have c2 : wr.cell? ⟨w.heap.size + 1, u2, none⟩ = some (W32 x2) := hx3.at_ (by rw [g2]; exact box_at (warr_get l (by omega)))
          have d0 : wr.cell? ⟨w.heap.size + 1, t, none⟩ = some (W32 0) := hx3.at_ (box_at (warr_at l (by omega)))
          have f0 := hx3.free t
          have HN : Hid (x0 + sig0 x1 + x7 + sig1 x2 = wnext l (wl l t) t) := by
            show _ = _
            unfold wnext
            rw [if_neg (by omega), ← h0, ← h1, ← h7, ← h2, ← g0, ← g1, ← g7, ← g2]
          have e0 : (t : Int) - 16 = (u0 : Int) := by omega
          have e1 : (t : Int) - 15 = (u1 : Int) := by omega
          have e7 : (t : Int) - 7 = (u7 : Int) := by omega
          have e2 : (t : Int) - 2 = (u2 : Int) := by omega
          have z0 : IntKind.i64.wrap (u0 : Int) = (u0 : Int) := IntWalk.i64_in _ (by omega)
          have z1 : IntKind.i64.wrap (u1 : Int) = (u1 : Int) := IntWalk.i64_in _ (by omega)
          have z7 : IntKind.i64.wrap (u7 : Int) = (u7 : Int) := IntWalk.i64_in _ (by omega)
          have z2 : IntKind.i64.wrap (u2 : Int) = (u2 : Int) := IntWalk.i64_in _ (by omega)
          have it : (t : Int) < 64 := by omega
          have i0 : (u0 : Int) < 64 := by omega
          have i1 : (u1 : Int) < 64 := by omega
          have i7 : (u7 : Int) < 64 := by omega
          have i2 : (u2 : Int) < 64 := by omega
          clear h0 h1 h7 h2 g0 g1 g7 g2
          go_wp2
          go_quiet (first | (go_at_call_of 71 (Value.int IntKind.i64 7); exact Calls.quiet_of (rotr_c _ 7 7 rfl (by omega) (by omega) _)) | (go_at_call_of 71 (Value.int IntKind.i64 18); exact Calls.quiet_of (rotr_c _ 18 18 rfl (by omega) (by omega) _)))
          go_wp2
          go_quiet (first | (go_at_call_of 71 (Value.int IntKind.i64 17); exact quiet_more (rotr_c _ 17 17 rfl (by omega) (by omega) _)) | (go_at_call_of 71 (Value.int IntKind.i64 19); exact quiet_more (rotr_c _ 19 19 rfl (by omega) (by omega) _)))
          go_wp2
          refine wp_region_still_tail 15 (by kernel_rfl) (by kernel_rfl) ?_
          change wpStill _ _ (World.drew _) _ _ _
          simp only [List.take_succ_cons, List.take_zero, List.drop_succ_cons, List.drop_zero]
          repeat still_step
          refine wpStill_nil ?_
          change wpList _ _ _ _ _ (World.drew _)
          go_wp2
          go_roundg (64 - (t + 1))
          case measure => have := HG.out; omega
          case rel =>
            refine ⟨t + 1, by omega, by omega, rfl, by go_num, ?_, ?_, ?_⟩
            · rw [sig0_raw, sig1_raw]
              rw [w_add4, HN.out]
              have h := hx3.put t (W32 (wnext l (wl l t) t))
              rw [box_set, warr_next l (by omega)] at h
              exact h
            · exact (hx2.far (by simp) _)
            · exact (belowN hb _).setCell (p := ⟨w.heap.size + 1, t, none⟩) (Nat.le_succ _) _
        · obtain rfl : t = 64 := by omega
          obtain ⟨ws, hws⟩ : ∃ ws, Hid (wl l 64 = ws) := ⟨_, rfl⟩
          have hwl : ws.length = 64 := by rw [← hws.out]; exact wl_length l 64
          rw [warr_all, hws.out] at hx3
          have hz : (Tryd.prog.info? 103).map (·.size) = some (ws.map W32).length := by rw [List.length_map, hwl]; exact size_64
          have hz2 := hide hz
          have hl2 := hide (show (ws.map W32).length = ((List.replicate 64 (0 : UInt32)).map W32).length by rw [List.length_map, List.length_map, List.length_replicate, hwl])
          clear hz hwl
          go_wp2_with (first
            | (with_reducible refine load_box 100 103 _ 103 _ 0 _ (ws.map W32) isAgg_64 hz2.out hx3 rfl (fun j u hj => by rw [Nat.zero_add]; exact hj) ?_)
            | (with_reducible refine store_all 103 _ _ 103 _ _ (ws.map W32) _ hz2.out hx2 rfl rfl rfl hl2.out (one_map _ (fun _ => rfl) _) ?_; intro w5 hx5 hg5 hs5))
          refine bodyPost_ret (run_results_cell rfl rfl isAgg_64 hz2.out hx5) rfl ⟨by rw [hws.out], hb.grown hg5 (hb.size) (fun k hk => by cases hk; exact Nat.le_refl _)⟩
end Go.Proofs.YtblgmjnkllkhbaaDoor
end

/- the text Hash4 -/
section
namespace Go.Proofs.YtblgmjnkllkhbaaDoor
open Go.RowKit Go.Dx

theorem be4_val (l : List UInt8) (p : Nat) (h : p + 3 < l.length) : be4 (l.getD p 0) (l.getD (p + 1) 0) (l.getD (p + 2) 0) (l.getD (p + 3) 0) = UInt32.ofNat (val ((l.drop p).take 4)) := by
  have e : (l.drop p).take 4 = [l[p], l[p + 1], l[p + 2], l[p + 3]] := by
    apply List.ext_getElem
    · simp; omega
    · intro i h1 h2
      have : i = 0 ∨ i = 1 ∨ i = 2 ∨ i = 3 := by simp at h2; omega
      rcases this with rfl | rfl | rfl | rfl <;> simp
  rw [e, List.getD_eq_getElem?_getD, List.getD_eq_getElem?_getD, List.getD_eq_getElem?_getD, List.getD_eq_getElem?_getD, List.getElem?_eq_getElem (by omega), List.getElem?_eq_getElem (by omega), List.getElem?_eq_getElem (by omega), List.getElem?_eq_getElem (by omega)]
  simp only [Option.getD_some, be4, val, List.foldl_cons, List.foldl_nil]
  congr 1
  omega
theorem warr_same (b : List UInt8) {t : Nat} (h : t < 64) : (warr b t).set t 0 = warr b t := by
  have h1 := warr_at b h
  apply List.ext_getElem?
  intro i
  rw [List.getElem?_set]
  split
  · rename_i e; subst e
    rw [if_pos (by rw [warr_length b (by omega)]; exact h), h1]
  · rfl
set_option maxRecDepth 100000 in
set_option maxHeartbeats 4000000 in
theorem schedule_any (l : List UInt8) (a : Option Addr) (c : Nat) (w : World) (hs : Sl w 1 a 64 c (l.map B8)) :
    Calls Tryd.prog 72 #[.slice a 64 c] w fun e w' => e = .returned (.agg ((wl l 64).map W32).toArray) ∧ Below w.heap.size w w' := by
  have hl : l.length = 64 := hs.n_eq.symm
  have HL := hide hl
  clear hl
  go_enter Tryd.func72, Tryd.ntmps72
  go_wp2
  go_loopg [11] 64 (fun g i w' => ∃ t : Nat, t ≤ 64 ∧ g = 64 - t ∧ i = .int .i64 t ∧ Box w' (w.heap.size + 1) 103 ((warr l t).map W32) ∧ Box w' w.heap.size 103 ((List.replicate 64 (0 : UInt32)).map W32) ∧ Below w.heap.size w w')
  case atStart =>
    refine ⟨0, by omega, by omega, rfl, box_zero _ _ _ _ (by simp) _ rfl, box_zero2 w _ _ _ _ rfl _ rfl, ((Below.refl _ _).alloc (Nat.le_refl _) _).alloc (by simp) _⟩
  case round =>
    obtain ⟨t, ht, hg, rfl, hx3, hx2, hb⟩ := hrel
    have HG := hide hg
    clear hg
    have it64 : (t : Int) ≤ 64 := by omega
    by_cases hlt : t < 16
    · obtain ⟨b0, o0, rfl, hb0, _⟩ := hs.ex (by simp [HL.out])
      have hs1 := hs.below hb
      have hp : 4 * t + 4 ≤ 64 := by omega
      go_wp2_with (with_reducible refine cut_b 22 _ _ _ _ _ _ _ rfl hs1 _ _ _ _ (4 * t) (4 * t + 4) rfl rfl (by omega) (by omega) (by omega) (by omega) ?_; intro a2 hs2 hblk)
      obtain ⟨bs, hbs⟩ : ∃ bs, Hid ((l.drop (4 * t)).take (4 * t + 4 - 4 * t) = bs) := ⟨_, rfl⟩
      rw [hbs.out] at hs2
      have hbl : bs.length = 4 := by rw [← hbs.out, List.length_take, List.length_drop, HL.out]; omega
      obtain ⟨b, off, rfl, hbb, hcell⟩ := hs2.ex (by simp [hbl])
      obtain ⟨q, hq, hqb⟩ := hblk _ rfl
      injection hq with hq
      subst hq
      have hqb : b0 = b := hqb
      subst hqb
      have HN : Hid (UInt32.ofNat (val bs) = wnext l (wl l t) t) := by
        show _ = _
        unfold wnext
        rw [if_pos hlt, be4_val l (4 * t) (by rw [HL.out]; omega), ← hbs.out, show 4 * t + 4 - 4 * t = 4 by omega]
      have hcw : ∀ j u, (bs.map B8)[j]? = some u → w.cell? ⟨b0, off + j, none⟩ = some u := fun j u hj => by rw [← hcell j u hj, hb.cell hb0]
      have hcw := hide hcw
      have hbl := hide hbl
      clear hcell hblk hs2 hbb
      obtain ⟨wo, rfl⟩ : ∃ wo : World, wo = wr := ⟨_, rfl⟩
      go_loopg [24] 4 (fun g i w' => ∃ k : Nat, k ≤ 4 ∧ g = 4 - k ∧ i = .int .i64 k ∧ Box w' (w.heap.size + 1) 103 (((warr l t).set t (UInt32.ofNat (val (bs.take k)))).map W32) ∧ Box w' w.heap.size 103 ((List.replicate 64 (0 : UInt32)).map W32) ∧ Below w.heap.size w w')
      case atStart =>
        refine ⟨0, by omega, by omega, rfl, ?_, hx2, hb⟩
        rw [List.take_zero, show UInt32.ofNat (val []) = 0 from rfl, warr_same l (by omega)]
        exact hx3
      case round =>
        clear hx3 hx2 hb hs1
        obtain ⟨k, hk, hg2, rfl, hx3, hx2, hb⟩ := hrel
        have HG2 := hide hg2
        clear hg2
        by_cases hkl : k < 4
        · obtain ⟨x, hx⟩ : ∃ x, bs[k]? = some x := ⟨bs[k]'(by rw [hbl.out]; exact hkl), by simp⟩
          have c0 : wr.cell? ⟨b0, off + k, none⟩ = some (B8 x) := by rw [hb.cell hb0]; exact hcw.out k _ (by rw [List.getElem?_map, hx]; rfl)
          obtain ⟨y, hy⟩ : ∃ y, Hid (UInt32.ofNat (val (bs.take k)) = y) := ⟨_, rfl⟩
          have hv : val (bs.take k) < 16777216 := Nat.lt_of_lt_of_le (val_lt _) (Nat.le_trans (Nat.pow_le_pow_right (by omega) (show (bs.take k).length ≤ 3 by rw [List.length_take]; omega)) (by decide))
          have hyn : y.toNat = val (bs.take k) := by rw [← hy.out, UInt32.toNat_ofNat']; omega
          have hy24 : y.toNat < 16777216 := by omega
          have HE : Hid (UInt32.ofNat (y.toNat * 256 + x.toNat) = UInt32.ofNat (val (bs.take (k + 1)))) := by
            show _ = _
            rw [List.take_add_one, hx, Option.toList_some, val_snoc, hyn, Nat.mul_comm]
          rw [hy.out] at hx3
          have d0 : wr.cell? ⟨w.heap.size + 1, t, none⟩ = some (W32 y) := hx3.at_ (box_at (by rw [List.getElem?_set_self (by rw [warr_length l (by omega)]; omega)]))
          have f0 := hx3.free t
          have hx8 := UInt8.toNat_lt x
          clear hx hyn hv
          go_wp2
          go_roundg (4 - (k + 1))
          case measure => have := HG2.out; omega
          case rel =>
            refine ⟨k + 1, by omega, rfl, by go_num, ?_, hx2.far (by simp) _, hb.setCell (p := ⟨w.heap.size + 1, t, none⟩) (Nat.le_succ _) _⟩
            rw [sh8n y x hy24, HE.out]
            have h := hx3.put t (W32 (UInt32.ofNat (val (bs.take (k + 1)))))
            rw [box_set, List.set_set] at h
            exact h
        · obtain rfl : k = 4 := by omega
          rw [List.take_of_length_le (by rw [hbl.out]; omega), HN.out, warr_next l (by omega)] at hx3
          go_wp2
          go_roundg (64 - (t + 1))
          case measure => have := HG.out; omega
          case rel => exact ⟨t + 1, by omega, rfl, by go_num, hx3, hx2, hb⟩
    · by_cases hlt2 : t < 64
      · obtain ⟨u0, h0⟩ : ∃ p, p = t - 16 := ⟨_, rfl⟩
        obtain ⟨u1, h1⟩ : ∃ p, p = t - 15 := ⟨_, rfl⟩
        obtain ⟨u7, h7⟩ : ∃ p, p = t - 7 := ⟨_, rfl⟩
        obtain ⟨u2, h2⟩ : ∃ p, p = t - 2 := ⟨_, rfl⟩
        obtain ⟨x0, g0⟩ : ∃ x, x = (wl l t).getD u0 0 := ⟨_, rfl⟩
        obtain ⟨x1, g1⟩ : ∃ x, x = (wl l t).getD u1 0 := ⟨_, rfl⟩
        obtain ⟨x7, g7⟩ : ∃ x, x = (wl l t).getD u7 0 := ⟨_, rfl⟩
        obtain ⟨x2, g2⟩ : ∃ x, x = (wl l t).getD u2 0 := ⟨_, rfl⟩
        have c0 : wr.cell? ⟨w.heap.size + 1, u0, none⟩ = some (W32 x0) := hx3.at_ (by rw [g0]; exact box_at (warr_get l (by omega)))
        have c1 : wr.cell? ⟨w.heap.size + 1, u1, none⟩ = some (W32 x1) := hx3.at_ (by rw [g1]; exact box_at (warr_get l (by omega)))
        have c7 : wr.cell? ⟨w.heap.size + 1, u7, none⟩ = some (W32 x7) := hx3.at_ (by rw [g7]; exact box_at (warr_get l (by omega)))
        have c2 : wr.cell? ⟨w.heap.size + 1, u2, none⟩ = some (W32 x2) := hx3.at_ (by rw [g2]; exact box_at (warr_get l (by omega)))
        have d0 : wr.cell? ⟨w.heap.size + 1, t, none⟩ = some (W32 0) := hx3.at_ (box_at (warr_at l (by omega)))
        have f0 := hx3.free t
        have HN : Hid (x0 + sig0 x1 + x7 + sig1 x2 = wnext l (wl l t) t) := by
          show _ = _
          unfold wnext
          rw [if_neg (by omega), ← h0, ← h1, ← h7, ← h2, ← g0, ← g1, ← g7, ← g2]
        have e0 : (t : Int) - 16 = (u0 : Int) := by omega
        have e1 : (t : Int) - 15 = (u1 : Int) := by omega
        have e7 : (t : Int) - 7 = (u7 : Int) := by omega
        have e2 : (t : Int) - 2 = (u2 : Int) := by omega
        have z0 : IntKind.i64.wrap (u0 : Int) = (u0 : Int) := IntWalk.i64_in _ (by omega)
        have z1 : IntKind.i64.wrap (u1 : Int) = (u1 : Int) := IntWalk.i64_in _ (by omega)
        have z7 : IntKind.i64.wrap (u7 : Int) = (u7 : Int) := IntWalk.i64_in _ (by omega)
        have z2 : IntKind.i64.wrap (u2 : Int) = (u2 : Int) := IntWalk.i64_in _ (by omega)
        have it : (t : Int) < 64 := by omega
        have i0 : (u0 : Int) < 64 := by omega
        have i1 : (u1 : Int) < 64 := by omega
        have i7 : (u7 : Int) < 64 := by omega
        have i2 : (u2 : Int) < 64 := by omega
        clear h0 h1 h7 h2 g0 g1 g7 g2
        go_wp2
        go_quiet (fail)
        go_wp2_with fail
        refine (rotl_c _ 7 _ rfl (by omega) (by omega) _).mono ?_
        rintro e w' ⟨rfl, rfl⟩
        go_wp2_with fail
        refine (rotl_c _ 18 _ rfl (by omega) (by omega) _).mono ?_
        rintro e w' ⟨rfl, rfl⟩
        go_wp2_with fail
        refine (rotl_c _ 17 _ rfl (by omega) (by omega) _).mono ?_
        rintro e w' ⟨rfl, rfl⟩
        go_wp2_with fail
        refine (rotl_c _ 19 _ rfl (by omega) (by omega) _).mono ?_
        rintro e w' ⟨rfl, rfl⟩
        go_wp2_with fail
        refine wp_region_still_tail 15 (by kernel_rfl) (by kernel_rfl) ?_
        change wpStill _ _ (World.drew _) _ _ _
        simp only [List.take_succ_cons, List.take_zero, List.drop_succ_cons, List.drop_zero]
        repeat still_step
        refine wpStill_nil ?_
        change wpList _ _ _ _ _ (World.drew _)
        go_wp2
        go_roundg (64 - (t + 1))
        case measure => have := HG.out; omega
        case rel =>
          refine ⟨t + 1, by omega, rfl, by go_num, ?_, hx2.far (by simp) _, (belowN hb _).setCell (p := ⟨w.heap.size + 1, t, none⟩) (Nat.le_succ _) _⟩
          rw [sig0_raw, sig1_raw, w_add4, HN.out]
          have h := hx3.put t (W32 (wnext l (wl l t) t))
          rw [box_set, warr_next l (by omega)] at h
          exact h
      · obtain rfl : t = 64 := by omega
        obtain ⟨ws, hws⟩ : ∃ ws, Hid (wl l 64 = ws) := ⟨_, rfl⟩
        have hwl : ws.length = 64 := by rw [← hws.out]; exact wl_length l 64
        rw [warr_all, hws.out] at hx3
        have hz : (Tryd.prog.info? 103).map (·.size) = some (ws.map W32).length := by rw [List.length_map, hwl]; exact size_64
        have hz2 := hide hz
        have hl2 := hide (show (ws.map W32).length = ((List.replicate 64 (0 : UInt32)).map W32).length by rw [List.length_map, List.length_map, List.length_replicate, hwl])
        clear hz hwl
        go_wp2_with (first
          | (with_reducible refine load_box 78 103 _ 103 _ 0 _ (ws.map W32) isAgg_64 hz2.out hx3 rfl (fun j u hj => by rw [Nat.zero_add]; exact hj) ?_)
          | (with_reducible refine store_all 103 _ _ 103 _ _ (ws.map W32) _ hz2.out hx2 rfl rfl rfl hl2.out (one_map _ (fun _ => rfl) _) ?_; intro w5 hx5 hg5 hs5))
        refine bodyPost_ret (run_results_cell rfl rfl isAgg_64 hz2.out hx5) rfl ⟨by rw [hws.out], hb.grown hg5 (hb.size) (fun k hk => by cases hk; exact Nat.le_refl _)⟩
end Go.Proofs.YtblgmjnkllkhbaaDoor
end
