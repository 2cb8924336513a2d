/- The contracts of the functions that the law reaches, joined into one text. -/
import Derived.WalkKit
import Derived.Lib.Hide
import Derived.Deep.LoopGhost
import Derived.Deep.DeepCutAuto
import Derived.Deep.AppendSrc
import Derived.Deep.QuietTactic
import Derived.BigQuiet
import Derived.Deep.RegionWith
import Derived.Laws.IdiomStrings
import Derived.MapKept
import Derived.StillTailTactics
import Derived.Laws.CopyRow
import Derived.StillTail
import Derived.Deep.Quiet
import Derived.Lib.Strings
import Derived.Laws.OwnMore
import Derived.Test.YtlpkicjijlcbfaaChecked
set_option linter.unusedVariables false
set_option linter.unusedSimpArgs false
namespace Go
open Go.RowKit
theorem oj {α : Type} {a b : α} (h : some a = some b) : a = b := Option.some.inj h
theorem br {B : Nat} {w : World} : Below B w w := Below.refl B w
end Go

section
/- Memory words shared by all walks of this seat: what a slice reads as, what a call owns, and the laws on append in the walk's form. No program in sight. -/
namespace Go.Dx
open Go.RowKit
abbrev B8 (d : UInt8) : Value := .int .u8 (d.toNat : Int)
abbrev I64 (n : Int) : Value := .int .i64 n
theorem one_map {α : Type} (f : α → Value) (hf : ∀ x, (f x).oneCell' = true) (l : List α) : ∀ u ∈ l.map f, u.oneCell' = true := by
 intro u hu
 obtain ⟨x, _, rfl⟩ := List.mem_map.1 hu
 exact hf x
theorem hide {p : Prop} (h : p) : Hid p := h
structure Sl (w : World) (sz : Nat) (a : Option Addr) (n c : Nat) (cs : List Value) : Prop where
 len : cs.length = n * sz
 le : n ≤ c
 cap : c ≤ maxLen
 nil : a = none → c = 0
 cell : ∀ p, a = some p → ∀ j u, cs[j]? = some u → w.cell? (p.add j) = some u

theorem Sl.n_eq {α : Type} {f : α → Value} {w : World} {a : Option Addr} {n c : Nat} {l : List α} (h : Sl w 1 a n c (l.map f)) : n = l.length := by
 have := h.len; simp at this; omega
theorem Sl.take {w : World} {a : Option Addr} {n c : Nat} {cs : List Value} (h : Sl w 1 a n c cs) (k : Nat) (hk : k ≤ n) : Sl w 1 a k c (cs.take k) := by
 have h1 := h.len
 have h2 := h.le
 refine ⟨by rw [List.length_take]; omega, by omega, h.cap, h.nil, fun p hp j u hj => h.cell p hp j u ?_⟩
 rw [List.getElem?_take] at hj
 split at hj
 ·exact hj
 ·cases hj
theorem Sl.ex {w : World} {sz : Nat} {a : Option Addr} {n c : Nat} {cs : List Value} (h : Sl w sz a n c cs) (h0 : 0 < cs.length) :
  ∃ b off, a = some ⟨b, off, none⟩ ∧ b < w.heap.size ∧ ∀ j u, cs[j]? = some u → w.cell? ⟨b, off + j, none⟩ = some u := by
 cases a with
 | none =>
  have := h.nil rfl
  have h1 := h.len
  have h2 := h.le
  have : n = 0 := by omega
  subst this
  simp at h1
  simp [h1] at h0
 | some p =>
  obtain ⟨b, off, spot⟩ := p
  have h1 := h.cell _ rfl 0 (cs[0]'h0) (by simp)
  have hs : spot = none := by simpa [Addr.add] using World.cell?_spot h1
  subst hs
  refine ⟨b, off, rfl, ?_, fun j u hj => ?_⟩
  ·have := World.block_lt_of_cell? w _ h1
   simpa [Addr.add] using this
  ·have := h.cell _ rfl j u hj
   rwa [Addr.add_lit] at this

theorem Sl.below {w w' : World} {sz : Nat} {a : Option Addr} {n c : Nat} {cs : List Value} (h : Sl w sz a n c cs) (hb : Below w.heap.size w w') : Sl w' sz a n c cs :=
 ⟨h.len, h.le, h.cap, h.nil, fun p hp j u hj => by
  have h1 := h.cell p hp j u hj
  rw [hb.cell (World.block_lt_of_cell? w _ h1)]
  exact h1⟩

theorem Sl.grown {w w' : World} {row : Option Nat} {sz : Nat} {a : Option Addr} {n c : Nat} {cs : List Value} (h : Sl w sz a n c cs) (hb : w.grownBy w' row) (hr : ∀ p, a = some p → some p.block ≠ row) : Sl w' sz a n c cs :=
 ⟨h.len, h.le, h.cap, h.nil, fun p hp j u hj => by
  have h1 := h.cell p hp j u hj
  refine hb.cell h1 ?_
  have : (p.add j).block = p.block := by unfold Addr.add; split <;> rfl
  rw [this]
  exact hr p hp⟩

theorem Sl.alloc {w : World} {sz : Nat} {a : Option Addr} {n c : Nat} {cs : List Value} (h : Sl w sz a n c cs) (o : Obj) : Sl (w.alloc o) sz a n c cs :=
 h.below ((Below.refl _ _).alloc (Nat.le_refl _) _)

theorem Sl.empty (w : World) (sz : Nat) : Sl w sz none 0 0 [] := ⟨by simp, Nat.le_refl _, Nat.zero_le _, fun _ => rfl, fun _ h => by cases h⟩
def Own (w : World) (B : Nat) (e : TypeId) (sz : Nat) (a : Option Addr) (n c : Nat) (cs : List Value) : Prop := w.ownsRow B e sz (.slice a n c) n cs

theorem Own.nil (w : World) (B : Nat) (e : TypeId) (sz : Nat) : Own w B e sz none 0 0 [] := World.ownsRow_nil w B e sz

theorem Own.len {w : World} {B : Nat} {e : TypeId} {sz : Nat} {a : Option Addr} {n c : Nat} {cs : List Value} (h : Own w B e sz a n c cs) : cs.length = n * sz := h.1

theorem Own.sl {w : World} {B : Nat} {e : TypeId} {sz : Nat} {a : Option Addr} {n c : Nat} {cs : List Value} (h : Own w B e sz a n c cs) : Sl w sz a n c cs := by
 refine ⟨h.1, ?_, ?_, ?_, ?_⟩
 ·rcases h.2 with ⟨h1, h2⟩ | ⟨g, cap, cur, h1, _, _, h2, _⟩
  ·omega
  ·injection h1 with _ _ h1; omega
 ·rcases h.2 with ⟨h1, h2⟩ | ⟨g, cap, cur, h1, _, _, _, h2, _⟩
  ·injection h1 with _ _ h1; unfold maxLen; omega
  ·injection h1 with _ _ h1; omega
 ·intro ha
  rcases h.2 with ⟨h1, h2⟩ | ⟨g, cap, cur, h1, _, _, h2, _⟩
  ·injection h1
  ·injection h1 with h1; rw [ha] at h1; cases h1
 ·intro p hp j u hj
  subst hp
  have h2 := h.2
  have hg : (Value.slice (some p) n c).ownBlock = some p.block := rfl
  have := World.ownsRow.cells h hg j u hj
  rcases h.2 with ⟨h1, _⟩ | ⟨g, cap, cur, h1, _⟩
  ·cases h1
  ·injection h1 with h1
   injection h1 with h1
   subst h1
   exact this

theorem Own.base {w : World} {B : Nat} {e : TypeId} {sz : Nat} {p : Addr} {n c : Nat} {cs : List Value} (h : Own w B e sz (some p) n c cs) : B ≤ p.block ∧ p.block < w.heap.size :=
 World.ownsRow.lt h p.block rfl

theorem Own.below {w w' : World} {B : Nat} {e : TypeId} {sz : Nat} {a : Option Addr} {n c : Nat} {cs : List Value} (h : Own w B e sz a n c cs) (hb : Below w.heap.size w w') : Own w' B e sz a n c cs := by
 refine ⟨h.1, ?_⟩
 rcases h.2 with h2 | ⟨g, cap, cur, h1, h2, h3, r⟩
 ·exact .inl h2
 ·refine .inr ⟨g, cap, cur, h1, h2, ?_, r⟩
  rw [hb.block g (Array.getElem?_eq_some_iff.1 h3).1]
  exact h3

theorem Own.mono {w : World} {B B' : Nat} {e : TypeId} {sz : Nat} {a : Option Addr} {n c : Nat} {cs : List Value} (h : Own w B e sz a n c cs) (hb : B' ≤ B) : Own w B' e sz a n c cs := by
 refine ⟨h.1, ?_⟩
 rcases h.2 with h2 | ⟨g, cap, cur, h1, h2, r⟩
 ·exact .inl h2
 ·exact .inr ⟨g, cap, cur, h1, by omega, r⟩

theorem Own.alloc {w : World} {B : Nat} {e : TypeId} {sz : Nat} {a : Option Addr} {n c : Nat} {cs : List Value} (h : Own w B e sz a n c cs) (o : Obj) : Own (w.alloc o) B e sz a n c cs :=
 World.ownsRow.alloc h o

theorem Own.kept {w w' : World} {row : Option Nat} {B : Nat} {e : TypeId} {sz : Nat} {a : Option Addr} {n c : Nat} {cs : List Value} (h : Own w B e sz a n c cs) (hg : w.grownBy w' row) (hne : ∀ p, a = some p → some p.block ≠ row) : Own w' B e sz a n c cs := by
 refine World.ownsRow.kept h hg ?_
 cases a with
 | none => exact .inl rfl
 | some p => exact .inr (hne p rfl)
theorem Own.built (w : World) (B : Nat) (e : TypeId) (sz n : Nat) (us : Array Value) (hB : B ≤ w.heap.size) (hn : us.size = n * sz) (hm : n ≤ maxLen) :
  Own (w.alloc (.cells us e)) B e sz (some ⟨w.heap.size, 0, none⟩) n n us.toList :=
 ⟨by simpa using hn, .inr ⟨w.heap.size, n, us, rfl, hB, heap_alloc_new w _, Nat.le_refl _, hm, hn, by rw [← hn, ← Array.length_toList]; exact List.take_length⟩⟩

section laws
variable {P : Program} {w : World} {ops : Array Oper} {rest : List Oper} {o : Oper} {act : Act} {Q : Exit → Act → World → Prop}

theorem Sl.src {sz : Nat} {a : Option Addr} {m c : Nat} {ys : List Value} (h : Sl w sz a m c ys) {tx e' : TypeId} (hk : P.underlying tx = some (.slice e')) (h1 : ∀ u ∈ ys, u.oneCell' = true) : Src P sz tx (.slice a m c) m ys w := by
 cases a with
 | some ad => exact Src.ofSlice w hk ad m c ys h.len (h.cell ad rfl) h1
 | none =>
  have hc := h.nil rfl
  have hle := h.le
  obtain rfl : m = 0 := by omega
  have hnews : ys = [] := List.eq_nil_of_length_eq_zero (by simpa using h.len)
  subst hnews
  exact Src.ofNil w hk c

theorem run_append_any (base : Nat) (t tx ty e : TypeId) (i : TypeInfo) (z : Value) (ht : P.underlying t = some (.slice e)) (hi : P.info? e = some i) (hz : i.zero = some z)
  (hzs : z.cells.size = i.size) (a : Option Addr) (n c : Nat) (xs : List Value) (hown : Own w base e i.size a n c xs)
  (x : Value) (m : Nat) (news : List Value) (hs : Src P i.size tx x m news w)
  (h63 : n + m ≤ maxLen) (hbytes : (n + m) * i.bytes ≤ 140737488355328) (hbase : base ≤ w.heap.size) :
  ∃ a' c' w', (Builtin.append_ #[t, tx] ty #[.slice a n c, x]).run P w = .ok (.slice a' (n + m) c') w' ∧ Own w' base e i.size a' (n + m) c' (xs ++ news) ∧ w.grownBy w' (a.map (·.block)) := by
 have hsmall : n + m ≤ 9223372036854775807 := by simp only [maxLen] at h63; omega
 have hlen : (xs ++ news).length = (n + m) * i.size := by rw [List.length_append, hown.1, hs.newsLen, Nat.add_mul]
 have hold : (Builtin.firstCells i.size n (.slice a n c)).run P w.drew = .ok xs.toArray w.drew := by
  have hsl := hown.sl
  cases a with
  | none =>
   have := hsl.nil rfl
   have := hsl.le
   obtain rfl : n = 0 := by omega
   have hnews : xs = [] := List.eq_nil_of_length_eq_zero (by simpa using hsl.len)
   subst hnews
   exact run_firstCells_none w.drew i.size 0 0 c
  | some p => exact run_firstCells_some w.drew i.size n p n c xs hsl.len (by simpa using hsl.cell p rfl)
 by_cases hroom : n + m ≤ c
 ·rcases hown.2 with ⟨h1, h2⟩ | ⟨g, cap, cur, h1, hbg, hg, hnc, hcm, hcs, htake⟩
  ·injection h1 with h1 h3 h4
   subst h1 h3 h4
   obtain rfl : m = 0 := by omega
   have hx : xs = [] := List.eq_nil_of_length_eq_zero (by simpa using hown.1)
   have hnews : news = [] := List.eq_nil_of_length_eq_zero (by simpa using hs.newsLen)
   subst hx hnews
   refine ⟨none, 0, w, ?_, Own.nil w base e i.size, World.grownBy.refl _ _⟩
   rcases hs.kind with ⟨e', hk⟩ | hk <;> simp [Builtin.append_, run_underlying ht, run_underlying hk, sizeOf, typeInfo, hi, hs.len, hs.cells]
  ·injection h1 with h1 h3 h4
   subst h1 h4
   have hfit : n * i.size + news.length ≤ cur.size := by rw [hs.newsLen, hcs, ← Nat.add_mul]; exact Nat.mul_le_mul_right _ hroom
   have hst := run_storeCells_at P g (n * i.size) e news 0 cur w hg (by simpa using hfit) hs.one
   simp only [Nat.add_zero] at hst
   refine ⟨some ⟨g, 0, none⟩, c, w.setRow g (cur.toList.take (n * i.size) ++ news ++ cur.toList.drop (n * i.size + news.length)).toArray, ?_, ⟨hlen, .inr ⟨g, c, _, rfl, hbg, setRow_heap w g cur _ e _ hg, hroom, hcm, ?_, ?_⟩⟩, ⟨rfl, rfl, rfl, by simp, fun k _ hk => setRow_other w g k _ (fun e => hk (by simp [e]))⟩⟩
   ·rcases hs.kind with ⟨e', hk⟩ | hk <;> simp [Builtin.append_, run_underlying ht, run_underlying hk, sizeOf, typeInfo, hi, hs.len, hroom, hs.cells, Addr.add_lit, hst]
   ·simp only [List.size_toArray, List.length_append, List.length_take, List.length_drop, Array.length_toList]
    omega
   ·rw [htake, ← hlen]
    exact List.take_left
 ·have hr := run_append_grow_src (P := P) w t tx ty e i z ht hi hz a n c xs hold x m news hs (by omega) (by omega) (growslice_fits (by omega) hbytes)
  have hge := grownCap_ge w (n + m) c e
  have hcm : grownCap w (n + m) c e ≤ maxLen := grownCap_le_maxLen w (n + m) c e h63
  refine ⟨_, _, _, hr, ⟨hlen, .inr ⟨w.heap.size, _, _, rfl, hbase, heap_alloc_new w.drew _, hge, hcm, ?_, ?_⟩⟩, ⟨rfl, rfl, rfl, by simp, fun k hk _ => Below.heap_alloc w.drew _ k hk⟩⟩
  ·simp only [Array.size_append, List.size_toArray, size_zeroCells, hzs, hlen, ← Nat.add_mul]
   congr 1
   omega
  ·simp only [Array.toList_append, List.append_assoc]
   rw [← List.append_assoc, ← hlen]
   exact List.take_left
theorem append_src (hg : o.guard = none) (s x : Operand) (t tx : TypeId) (hop : o.op = Op.call { callee := Callee.builtin Builtin.append, args := #[s, x], argTypes := #[t, tx] })
  (e : TypeId) (z : Value) (sz bytes : Nat) (ht : P.underlying t = some (.slice e)) (hi : (P.info? e).map (fun i => (i.zero, i.size, i.bytes)) = some (some z, sz, bytes)) (hz : z.cells.size = sz)
  (w0 : World) (B : Nat) (a : Option Addr) (n c : Nat) (xs : List Value) (hs : act.eval s = .slice a n c) (hown : Own w B e sz a n c xs)
  (v : Value) (m : Nat) (ys : List Value) (hx : act.eval x = v) (hy : Src P sz tx v m ys w)
  (hn : (n + m) * bytes ≤ 140737488355328) (hn2 : n + m ≤ maxLen) (hB : B ≤ w.heap.size) (hbel : Below B w0 w)
  (hK : ∀ a' c' w', Own w' B e sz a' (n + m) c' (xs ++ ys) → w.grownBy w' (a.map (·.block)) → Below B w0 w' → wpList P ops Q rest (act.put o.dst (.slice a' (n + m) c')) w') :
  wpList P ops Q (o :: rest) act w := by
 obtain ⟨i, hi0, hz0, hz1, hz2⟩ := info_parts hi
 subst hz1 hz2
 clear hi
 obtain ⟨a', c', w', hrun, ho, hgr⟩ := run_append_any B t tx o.type e i z ht hi0 hz0 hz a n c xs hown v m ys hy hn2 hn hB
 refine wpList_plain hg fun K hK' => ?_
 unfold Oper.wp
 simp [execOp, hop, resolve, invoke, builtin, hs, hx, hrun, Result.andThen]
 refine hK' _ _ (hK a' c' w' ho hgr (hbel.grown hgr hB ?_))
 intro k hk
 cases a with
 | none => cases hk
 | some p => injection hk with hk; subst hk; exact hown.base.1
theorem append_own (hg : o.guard = none) (s x : Operand) (t : TypeId) (hop : o.op = Op.call { callee := Callee.builtin Builtin.append, args := #[s, x], argTypes := #[t, t] })
  (e : TypeId) (z : Value) (sz bytes : Nat) (ht : P.underlying t = some (.slice e)) (hi : (P.info? e).map (fun i => (i.zero, i.size, i.bytes)) = some (some z, sz, bytes)) (hz : z.cells.size = sz)
  (w0 : World) (B : Nat) (a : Option Addr) (n c : Nat) (xs : List Value) (hs : act.eval s = .slice a n c) (hown : Own w B e sz a n c xs)
  (a2 : Option Addr) (m c2 : Nat) (ys : List Value) (hx : act.eval x = .slice a2 m c2) (hy : Sl w sz a2 m c2 ys) (h1 : ∀ u ∈ ys, u.oneCell' = true)
  (hn : (n + m) * bytes ≤ 140737488355328) (hn2 : n + m ≤ maxLen) (hB : B ≤ w.heap.size) (hbel : Below B w0 w)
  (hK : ∀ a' c' w', Own w' B e sz a' (n + m) c' (xs ++ ys) → w.grownBy w' (a.map (·.block)) → Below B w0 w' → wpList P ops Q rest (act.put o.dst (.slice a' (n + m) c')) w') :
  wpList P ops Q (o :: rest) act w :=
 append_src hg s x t t hop e z sz bytes ht hi hz w0 B a n c xs hs hown _ m ys hx (hy.src ht h1) hn hn2 hB hbel hK
theorem append_lit (hg : o.guard = none) (s x : Operand) (t : TypeId) (hop : o.op = Op.call { callee := Callee.builtin Builtin.append, args := #[s, x], argTypes := #[t, t] })
  (e : TypeId) (z : Value) (sz bytes : Nat) (ht : P.underlying t = some (.slice e)) (hi : (P.info? e).map (fun i => (i.zero, i.size, i.bytes)) = some (some z, sz, bytes)) (hz : z.cells.size = sz)
  (w0 : World) (B : Nat) (a : Option Addr) (n c : Nat) (xs : List Value) (hs : act.eval s = .slice a n c) (hown : Own w B e sz a n c xs)
  (m : Nat) (us : List Value) (hx : act.eval x = .slice (some ⟨w.heap.size, 0, none⟩) m m) (hu : us.length = m * sz) (h1 : ∀ u ∈ us, u.oneCell' = true)
  (hn : (n + m) * bytes ≤ 140737488355328) (hn2 : n + m ≤ maxLen) (hB : B ≤ w.heap.size) (hbel : Below B w0 w)
  (hK : ∀ a' c' w', Own w' B e sz a' (n + m) c' (xs ++ us) → w.grownBy w' (a.map (·.block)) → Below B w0 w' → wpList P ops Q rest (act.put o.dst (.slice a' (n + m) c')) w') :
  wpList P ops Q (o :: rest) act (w.alloc (.cells us.toArray e)) := by
 refine append_own hg s x t hop e z sz bytes ht hi hz w0 B a n c xs hs (hown.alloc _) _ m m us hx ?_ h1 hn hn2 (by simp; omega) (hbel.alloc hB _) ?_
 ·have := (Own.built w 0 e sz m us.toArray (Nat.zero_le _) (by simpa using hu) (by omega)).sl
  simpa using this
 ·intro a' c' w' ho hgr hb
  refine hK a' c' w' ho ⟨hgr.os, hgr.tape, hgr.output, ?_, ?_⟩ hb
  ·have := hgr.size; simp at this; omega
  ·intro k hk hne
   rw [hgr.block k (by simp; omega) hne]
   rw [Below.heap_alloc _ _ _ hk]
def Gives (e : TypeId) (sz n : Nat) (cs : List Value) (w : World) (r : Ending) (w' : World) : Prop :=
 ∃ a c, r = .returned (.slice a n c) ∧ Own w' w.heap.size e sz a n c cs ∧ Below w.heap.size w w'
def Still (v : Value) (w : World) (r : Ending) (w' : World) : Prop := r = .returned v ∧ ∃ n, w' = w.drewN n
theorem Still.below {w : World} (n : Nat) : Below w.heap.size w (w.drewN n) := ⟨rfl, rfl, rfl, Nat.le_refl _, fun _ _ => rfl⟩
end laws
end Go.Dx
end

section
/- Laws of the walk in terms of 'Sl': an index, a cut, a conversion. No program in sight. -/
namespace Go.Dx
open Go.RowKit

theorem sl_add {p : Addr} (i j : Nat) : (p.add i).add j = p.add (i + j) := by
 unfold Addr.add
 by_cases hi : i = 0
 ·subst hi; simp
 ·by_cases hj : j = 0
  ·subst hj; simp
  ·simp [hi, hj]; omega

theorem Sl.cut {w : World} {sz : Nat} {a : Option Addr} {n c : Nat} {cs : List Value} (h : Sl w sz a n c cs) (l u : Nat) (hl : l ≤ u) (hu : u ≤ n) :
    Sl w sz (if c = l then a else a.map (·.add (l * sz))) (u - l) (c - l) ((cs.drop (l * sz)).take ((u - l) * sz)) := by
  have h1 := h.len
  have h2 := h.le
  have h3 := h.cap
  have hm : u * sz ≤ n * sz := Nat.mul_le_mul_right _ hu
  have hm2 : l * sz ≤ u * sz := Nat.mul_le_mul_right _ hl
  have hsub : (u - l) * sz = u * sz - l * sz := Nat.sub_mul _ _ _
  refine ⟨?_, by omega, by omega, ?_, ?_⟩
  · rw [List.length_take, List.length_drop]; omega
  · intro ha
    by_cases hc : c = l
    · omega
    · rw [if_neg hc] at ha
      cases a with
      | none => have := h.nil rfl; omega
      | some p => cases ha
  · intro p hp j v hj
    rw [List.getElem?_take] at hj
    split at hj
    · rename_i hlt
      rw [List.getElem?_drop] at hj
      by_cases hc : c = l
      · have : (u - l) * sz = 0 := by have : u - l = 0 := by omega
                                      rw [this, Nat.zero_mul]
        omega
      · rw [if_neg hc] at hp
        cases a with
        | none => cases hp
        | some q =>
          simp only [Option.map_some, Option.some.injEq] at hp
          subst hp
          rw [sl_add]
          exact h.cell q rfl _ _ hj
    · cases hj

theorem Sl.fresh (w : World) (e : TypeId) (sz n : Nat) (us : List Value) (hn : us.length = n * sz) (hm : n ≤ maxLen) : Sl (w.alloc (.cells us.toArray e)) sz (some ⟨w.heap.size, 0, none⟩) n n us :=
 ⟨hn, Nat.le_refl _, hm, (fun h => by cases h), fun p hp j u hj => by
  cases hp
  rw [Addr.add_lit, Nat.zero_add, cell_of_row _ w.heap.size j us.toArray e _ (heap_alloc_new w _)]
  simpa using hj⟩

section ops
variable {P : Program} {w : World} {ops : Array Oper} {rest : List Oper} {act : Act} {Q : Exit → Act → World → Prop}
 {ty : TypeId} {pos : String} {after : Array Edge}
theorem index_sl (d : Nat) (t : TypeId) (x y : Operand) (e : TypeId) (ht : P.underlying t = some (.slice e)) (hsz : (P.info? e).map (·.size) = some 1)
  (a : Option Addr) (n c : Nat) (cs : List Value) (hx : act.eval x = .slice a n c) (hs : Sl w 1 a n c cs) (k : IntKind) (iv : Int) (i : Nat) (hy : act.eval y = .int k iv) (hiv : iv = (i : Int))
  (u : Value) (hu : cs[i]? = some u)
  (hK : ∀ b o, w.cell? ⟨b, o, none⟩ = some u → b < w.heap.size → wpList P ops Q rest (act.put (some d) (.pointer (some ⟨b, o, none⟩))) w) :
  wpList P ops Q ({ dst := some d, op := .indexAddr t x y, type := ty, pos := pos, after := after, guard := none } :: rest) act w := by
 refine wpList_plain rfl fun K hK' => ?_
 have hil : i < cs.length := (List.getElem?_eq_some_iff.1 hu).1
 have hn : i < n := by have := hs.len; omega
 obtain ⟨b, o, rfl, hb, hc⟩ := hs.ex (by omega)
 obtain ⟨i0, hi0, hs0⟩ := Option.map_eq_some_iff.1 hsz
 subst hiv
 have hrun : (Instr.indexAt t (.slice (some ⟨b, o, none⟩) n c) (.int k (i : Int))).run P w = .ok (.pointer (some ⟨b, o + i, none⟩)) w := by
  simp [Instr.indexAt, asIntOf, run_underlying ht, sizeOf, typeInfo, hi0, hs0, hn, Addr.add_lit]
 unfold Oper.wp
 simp [execOp, hx, hy, hrun, Result.andThen]
 exact hK' _ _ (hK b (o + i) (hc i u hu) hb)
theorem cut_sl (d : Nat) (t : TypeId) (x lo hi : Operand) (e : TypeId) (ht : P.underlying t = some (.slice e)) (sz : Nat) (hsz : (P.info? e).map (·.size) = some sz)
  (a : Option Addr) (n c : Nat) (cs : List Value) (hx : act.eval x = .slice a n c) (hs : Sl w sz a n c cs) (kl ku : IntKind) (lv uv : Int) (l u : Nat) (hl : act.eval lo = .int kl lv) (hu : act.eval hi = .int ku uv)
  (hlv : lv = (l : Int)) (huv : uv = (u : Int)) (hlu : l ≤ u) (hun : u ≤ n)
  (hK : ∀ a', Sl w sz a' (u - l) (c - l) ((cs.drop (l * sz)).take ((u - l) * sz)) → (∀ p, a' = some p → ∃ q, a = some q ∧ q.block = p.block) → wpList P ops Q rest (act.put (some d) (.slice a' (u - l) (c - l))) w) :
  wpList P ops Q ({ dst := some d, op := .slice t x (some lo) (some hi) none, type := ty, pos := pos, after := after, guard := none } :: rest) act w := by
 refine wpList_plain rfl fun K hK' => ?_
 subst hlv huv
 obtain ⟨i0, hi0, hs0⟩ := Option.map_eq_some_iff.1 hsz
 have hle := hs.le
 have hrun : (Instr.sliceAt t (.slice a n c) (some (.int kl (l : Int))) (some (.int ku (u : Int))) none).run P w = .ok (.slice (if c = l then a else a.map (·.add (l * sz))) (u - l) (c - l)) w := by
  have h2 : (0 : Int) ≤ l ∧ (l : Int) ≤ u := by omega
  have h3 : (0 : Int) ≤ u ∧ (u : Int) ≤ c := by omega
  simp [Instr.sliceAt, Instr.slice, Instr.sliceBounds, Instr.sliceBound, asIntOf, run_underlying ht, sizeOf, typeInfo, hi0, hs0, h2, h3, show u ≤ c by omega, hlu]
 unfold Oper.wp
 simp only [execOp, Option.map_some, Option.map_none, hx, hl, hu, Sem.run_bind, hrun, Result.andThen, Sem.run_pure]
 refine hK' _ _ (hK _ (hs.cut l u hlu hun) ?_)
 intro p hp
 by_cases hc : c = l
 ·rw [if_pos hc] at hp; exact ⟨p, hp, rfl⟩
 ·rw [if_neg hc] at hp
  cases a with
  | none => cases hp
  | some q =>
   simp only [Option.map_some, Option.some.injEq] at hp
   exact ⟨q, rfl, by rw [← hp]; unfold Addr.add; split <;> rfl⟩
theorem cut_lo (d : Nat) (t : TypeId) (x lo : Operand) (e : TypeId) (ht : P.underlying t = some (.slice e)) (sz : Nat) (hsz : (P.info? e).map (·.size) = some sz)
  (a : Option Addr) (n c : Nat) (cs : List Value) (hx : act.eval x = .slice a n c) (hs : Sl w sz a n c cs) (kl : IntKind) (lv : Int) (l : Nat) (hl : act.eval lo = .int kl lv)
  (hlv : lv = (l : Int)) (hln : l ≤ n)
  (hK : ∀ a', Sl w sz a' (n - l) (c - l) (cs.drop (l * sz)) → (∀ p, a' = some p → ∃ q, a = some q ∧ q.block = p.block) → wpList P ops Q rest (act.put (some d) (.slice a' (n - l) (c - l))) w) :
  wpList P ops Q ({ dst := some d, op := .slice t x (some lo) none none, type := ty, pos := pos, after := after, guard := none } :: rest) act w := by
 refine wpList_plain rfl fun K hK' => ?_
 subst hlv
 obtain ⟨i0, hi0, hs0⟩ := Option.map_eq_some_iff.1 hsz
 have hle := hs.le
 have hrun : (Instr.sliceAt t (.slice a n c) (some (.int kl (l : Int))) none none).run P w = .ok (.slice (if c = l then a else a.map (·.add (l * sz))) (n - l) (c - l)) w := by
  have h2 : (0 : Int) ≤ l ∧ (l : Int) ≤ n := by omega
  simp [Instr.sliceAt, Instr.slice, Instr.sliceBounds, Instr.sliceBound, asIntOf, run_underlying ht, sizeOf, typeInfo, hi0, hs0, h2, hln]
 have hcut := hs.cut l n hln (Nat.le_refl _)
 have e2 : (cs.drop (l * sz)).take ((n - l) * sz) = cs.drop (l * sz) := by
  apply List.take_of_length_le
  have := hs.len
  rw [List.length_drop, this, Nat.sub_mul]; omega
 rw [e2] at hcut
 unfold Oper.wp
 simp only [execOp, Option.map_some, Option.map_none, hx, hl, Sem.run_bind, hrun, Result.andThen, Sem.run_pure]
 refine hK' _ _ (hK _ hcut ?_)
 intro p hp
 by_cases hc : c = l
 ·rw [if_pos hc] at hp; exact ⟨p, hp, rfl⟩
 ·rw [if_neg hc] at hp
  cases a with
  | none => cases hp
  | some q =>
   simp only [Option.map_some, Option.some.injEq] at hp
   exact ⟨q, rfl, by rw [← hp]; unfold Addr.add; split <;> rfl⟩
theorem cut_hi (d : Nat) (t : TypeId) (x hi : Operand) (e : TypeId) (ht : P.underlying t = some (.slice e)) (sz : Nat) (hsz : (P.info? e).map (·.size) = some sz)
  (a : Option Addr) (n c : Nat) (cs : List Value) (hx : act.eval x = .slice a n c) (hs : Sl w sz a n c cs) (ku : IntKind) (uv : Int) (u : Nat) (hu : act.eval hi = .int ku uv)
  (huv : uv = (u : Int)) (hun : u ≤ n)
  (hK : Sl w sz a u c (cs.take (u * sz)) → wpList P ops Q rest (act.put (some d) (.slice a u c)) w) :
  wpList P ops Q ({ dst := some d, op := .slice t x none (some hi) none, type := ty, pos := pos, after := after, guard := none } :: rest) act w := by
 refine wpList_plain rfl fun K hK' => ?_
 subst huv
 obtain ⟨i0, hi0, hs0⟩ := Option.map_eq_some_iff.1 hsz
 have hle := hs.le
 have hrun : (Instr.sliceAt t (.slice a n c) none (some (.int ku (u : Int))) none).run P w = .ok (.slice a u c) w := by
  have h3 : (0 : Int) ≤ u ∧ (u : Int) ≤ c := by omega
  simp [Instr.sliceAt, Instr.slice, Instr.sliceBounds, Instr.sliceBound, asIntOf, run_underlying ht, sizeOf, typeInfo, hi0, h3, show u ≤ c by omega]
  intro _
  cases a with
  | none => rfl
  | some p => simp [Addr.add]
 have hcut := hs.cut 0 u (Nat.zero_le _) hun
 have e2 : (if c = 0 then a else a.map (·.add (0 * sz))) = a := by
  split
  ·rfl
  ·cases a with
   | none => rfl
   | some p => simp [Addr.add]
 rw [e2] at hcut
 simp only [Nat.sub_zero, Nat.zero_mul, List.drop_zero] at hcut
 unfold Oper.wp
 simp only [execOp, Option.map_some, Option.map_none, hx, hu, Sem.run_bind, hrun, Result.andThen, Sem.run_pure]
 exact hK' _ _ (hK hcut)
theorem conv_str (d : Nat) (src dst : TypeId) (x : Operand) (e : TypeId) (hsr : P.underlying src = some (.slice e)) (he : P.underlying e = some (.int .u8)) (hd : P.underlying dst = some .string)
  (a : Option Addr) (n c : Nat) (l : List UInt8) (hx : act.eval x = .slice a n c) (hs : Sl w 1 a n c (l.map B8))
  (hK : wpList P ops Q rest (act.put (some d) (.string ⟨l.toArray⟩)) w) :
  wpList P ops Q ({ dst := some d, op := .convert src dst x, type := ty, pos := pos, after := after, guard := none } :: rest) act w := by
 refine wpList_plain rfl fun K hK' => ?_
 obtain rfl := hs.n_eq
 have hrun : (convert src dst (.slice a l.length c)).run P w = .ok (.string ⟨l.toArray⟩) w := by
  cases a with
  | some p =>
   exact run_convert_bytes_back w src dst e p c l hsr he hd (fun j hj => hs.cell p rfl j _ (by simp [hj]))
  | none =>
   have := hs.nil rfl
   have := hs.le
   have hl : l = [] := List.eq_nil_of_length_eq_zero (by omega)
   subst hl
   simp [convert, run_underlying hsr, run_underlying hd, run_underlying he, Conv.bytesToString]
   rfl
 unfold Oper.wp
 simp [execOp, hx, hrun, Result.andThen]
 exact hK' _ _ hK
theorem store_fresh (t e : TypeId) (x y : Operand) (sz : Nat) (hsz : (P.info? t).map (·.size) = some sz) (zs : Array Value)
  (hx : act.eval x = .pointer (some ⟨w.heap.size, 0, none⟩)) (v : Value) (cs : List Value) (hy : act.eval y = v) (hv : v.cells = cs.toArray) (hl : cs.length = sz) (hz : zs.size = sz) (h1 : ∀ u ∈ cs, u.oneCell' = true)
  (hK : wpList P ops Q rest act (w.alloc (.cells cs.toArray e))) :
  wpList P ops Q ({ dst := none, op := .store t x y, type := ty, pos := pos, after := after, guard := none } :: rest) act (w.alloc (.cells zs e)) := by
 refine wpList_plain rfl fun K hK' => ?_
 obtain ⟨i, hi, hs0⟩ := Option.map_eq_some_iff.1 hsz
 subst hs0
 have hst := run_storeCells_at P w.heap.size 0 e cs 0 zs (w.alloc (.cells zs e)) (heap_alloc_new w _) (by omega) h1
 simp only [Nat.add_zero, Nat.zero_add, List.take_zero, List.nil_append] at hst
 have hd : zs.toList.drop cs.length = [] := by
  apply List.drop_eq_nil_of_le; rw [Array.length_toList]; omega
 rw [hd, List.append_nil] at hst
 have hset : (w.alloc (.cells zs e)).setRow w.heap.size cs.toArray = w.alloc (.cells cs.toArray e) := by
  unfold World.setRow World.alloc
  congr 1
  apply Array.ext
  ·simp
  ·intro k h1 h2
   simp only [Array.getElem_modify, Array.getElem_push]
   by_cases h : w.heap.size = k
   ·subst h; simp
   ·have hk : k < w.heap.size := by simp at h1; omega
    simp [h, hk]
 rw [hset] at hst
 have hrun : (Instr.storeAt t (.pointer (some ⟨w.heap.size, 0, none⟩)) v).run P (w.alloc (.cells zs e)) = .ok () (w.alloc (.cells cs.toArray e)) := by
  simp [Instr.storeAt, Instr.sureAddr, storeVar, sizeOf, typeInfo, hi, hv, hl, hst]
 unfold Oper.wp
 simp [execOp, hx, hy, hrun, Result.andThen]
 exact hK' _ _ hK
end ops
end Go.Dx
end

section
/- Chapter 06, in plain Lean: characters, cells, rules, tables, and the error of tables. No program in sight. -/
namespace Go.Dx

def isS (c : UInt8) : Bool := decide (97 ≤ c.toNat) && decide (c.toNat ≤ 122)
def isC (c : UInt8) : Bool := decide (65 ≤ c.toNat) && decide (c.toNat ≤ 90)
def isL (c : UInt8) : Bool := isS c || isC c
def low (c : UInt8) : UInt8 := if isC c then c + 32 else c
def isD (c : UInt8) : Bool := decide (48 ≤ c.toNat) && decide (c.toNat ≤ 57)
def isW (c : UInt8) : Bool := decide (32 ≤ c.toNat) && decide (c.toNat ≤ 126)
def cellOk (c : UInt8) : Bool := decide (1 ≤ c.toNat) && decide (c.toNat ≤ 63)
def okCells (l : List UInt8) : Bool := l.all cellOk
def indic (l : List UInt8) : Bool := decide (1 ≤ l.length) && decide (l.length ≤ 4) && okCells l
def chars (s : ByteArray) : List UInt8 := s.data.toList
def small (s : ByteArray) : Bool := (chars s).all isS

structure Ru where
 text : ByteArray
 whr : Int
 cells : List UInt8

def oneMark (s : ByteArray) : Bool := match chars s with
 | [c] => isW c && !isL c && !isD c
 | _ => false
def ruOk (r : Ru) : Bool :=
 decide (1 ≤ r.text.size) && decide (r.text.size ≤ 8) && decide (0 ≤ r.whr) && decide (r.whr ≤ 3) && indic r.cells && (small r.text || oneMark r.text && decide (r.whr = 0))

structure Ta where
 l0 : List Ru
 l1 : List Ru
 dig : List UInt8
 cap : List UInt8
 num : List UInt8
 fin : List UInt8
 sw : List UInt8

def nameOf (r : Ru) : List UInt8 × Int := (chars r.text, r.whr)
def dupB (l : List Ru) : Bool := !decide (l.map nameOf).Nodup
def ownB (l : List Ru) (c : UInt8) : Bool := decide (([c], (0 : Int)) ∈ l.map nameOf)
def missB (l : List Ru) : Bool := (List.range 26).any fun k => !ownB l (UInt8.ofNat (97 + k))
def goodT (t : Ta) : Bool :=
 decide (t.dig.length = 10) && okCells t.dig && indic t.cap && indic t.num && indic t.fin && indic t.sw && t.l0.all ruOk && t.l1.all ruOk
def validE (t : Ta) : Int :=
 if 96 < t.l0.length ∨ 96 < t.l1.length then 4
 else if goodT t = false then 1
 else if (dupB t.l0 || dupB t.l1) = true then 7
 else if (missB t.l0 || missB t.l1) = true then 6 else 0

structure Sy where
 lang : Int
 c : UInt8
 deriving DecidableEq
def symOk (x : Sy) : Bool := (decide (x.lang = 0) || decide (x.lang = 1)) && isW x.c
def goodS (l : List Sy) : Bool := l.all symOk
def inWord (l : List Sy) (i : Nat) : Bool := match i with
 | 0 => false
 | k + 1 => match l[k]?, l[k + 1]? with
  | some x, some y => isL x.c && isL y.c && decide (x.lang = y.lang)
  | _, _ => false
def sameAt (g : Int) : Bool → List UInt8 → List Sy → Bool
 | _, [], _ => true
 | _, _ :: _, [] => false
 | b, u :: s, x :: l => decide (low x.c = u) && decide (x.lang = g) && (b || !isC x.c) && sameAt g false s l
def placeOk (r : Ru) (l : List Sy) (i : Nat) : Bool :=
 !small r.text || (if r.whr = 1 then !inWord l i && !inWord l (i + r.text.size) else if r.whr = 2 then !inWord l i && inWord l (i + r.text.size) else if r.whr = 3 then inWord l i else true)
def fitsB (r : Ru) (l : List Sy) (i : Nat) : Bool :=
 match l[i]? with
 | none => decide (r.text.size = 0)
 | some x => sameAt x.lang true (chars r.text) (l.drop i) && placeOk r l i

structure St where
 lang : Int
 num : Bool
 wrd : Bool
 deriving DecidableEq
structure Stp where
 dst : St
 len : Int
 cells : List UInt8
 rule : Int
 deriving DecidableEq
def headC (t : Ta) (s : St) (x : Sy) : List UInt8 := (if s.num && isL x.c then t.fin else []) ++ (if isC x.c then t.cap else [])
def ruleSteps (t : Ta) (s : St) (x : Sy) (l : List Sy) (i : Nat) : Nat → List Ru → List Stp
 | _, [] => []
 | k, r :: rs => (if fitsB r l i then [⟨⟨x.lang, false, isL x.c⟩, (r.text.size : Int), headC t s x ++ r.cells, (k : Int)⟩] else []) ++ ruleSteps t s x l i (k + 1) rs
def langOf (t : Ta) (g : Int) : List Ru := if g = 0 then t.l0 else t.l1
def nextL (t : Ta) (s : St) (l : List Sy) (i : Nat) (x : Sy) : List Stp :=
 if x.lang ≠ s.lang then [⟨⟨x.lang, false, false⟩, 0, t.sw, -1⟩]
 else if isD x.c then [⟨⟨x.lang, true, false⟩, 1, (if s.num then [] else t.num) ++ [t.dig.getD (x.c.toNat - 48) 0], -1⟩]
 else ruleSteps t s x l i 0 (langOf t x.lang)
def stepsL (t : Ta) (s : St) (l : List Sy) (i : Int) : List Stp :=
 if validE t = 0 ∧ (s.lang = 0 ∨ s.lang = 1) ∧ 0 ≤ i ∧ goodS l = true then
  match l[i.toNat]? with
  | none => []
  | some x => nextL t s l i.toNat x
 else []
end Go.Dx
end

section
/- A map that the call makes, whose keys are structs of a string and a number, and whose elements are all true: a set. No program in sight. -/
namespace Go.Dx
open Go.RowKit

abbrev nameV (n : ByteArray × Int) : Value := .agg #[.string n.1, .int .i64 n.2]
structure NameKey (P : Program) (K : TypeId) : Prop where
 ex : ∃ f0 f1 : Field, P.underlying K = some (.struct #[f0, f1]) ∧ f0.name ≠ "_" ∧ f1.name ≠ "_" ∧ f0.offset = 0 ∧ f1.offset = 1 ∧ P.underlying f0.type = some .string ∧ P.underlying f1.type = some (.int .i64)
 held : P.stoodInHeld K = false

theorem run_part_one {P : Program} {w : World} {t : TypeId} {xs : Array Value} {off : Nat} {v : Value} {d : TypeDesc} (hd : P.underlying t = some d) (hp : d = .string ∨ d = .int .i64) (hx : xs[off]? = some v) : (part t xs off).run P w = .ok v w := by
 rcases hp with rfl | rfl <;> simp [part, isAgg, run_underlying hd, hx]

theorem name_eq {P : Program} {K : TypeId} (h : NameKey P K) (w : World) (n m : ByteArray × Int) : (Op.equal K (nameV n) (nameV m)).run P w = .ok (n.1.toList == m.1.toList && n.2 == m.2) w := by
 obtain ⟨f0, f1, hu, h0, h1, o0, o1, u0, u1⟩ := h.ex
 have hf : P.fieldsOf K = #[f0, f1] := by simp [Program.fieldsOf, hu]
 have hrun := run_equalIn_struct w (P := P) 9999 K #[.string n.1, .int .i64 n.2] #[.string m.1, .int .i64 m.2] (by rw [hf]; exact hu) h.held
 rw [hf] at hrun
 have a0 := fun (xs : Array Value) (v : Value) (hx : xs[0]? = some v) => run_part_one (w := w) u0 (.inl rfl) hx
 have a1 := fun (xs : Array Value) (v : Value) (hx : xs[1]? = some v) => run_part_one (w := w) u1 (.inr rfl) hx
 have e1 := a0 #[.string n.1, .int .i64 n.2] (.string n.1) rfl
 have e2 := a0 #[.string m.1, .int .i64 m.2] (.string m.1) rfl
 have e3 := a1 #[.string n.1, .int .i64 n.2] (.int .i64 n.2) rfl
 have e4 := a1 #[.string m.1, .int .i64 m.2] (.int .i64 m.2) rfl
 have q1 := run_equalIn_string w (P := P) 9998 f0.type n.1 m.1 u0
 have q2 := run_equalIn_int w (P := P) 9998 f1.type .i64 .i64 n.2 m.2 u1
 show (Op.equalIn 10000 K (nameV n) (nameV m)).run P w = _
 rw [hrun]
 simp only [Op.eqFields, h0, h1, o0, o1, e1, e2, e3, e4, q1, q2, Sem.run_bind, Result.andThen_ok, ne_eq, not_false_eq_true, if_true]
 simp only [show (9999 : Nat) = 9998 + 1 from rfl, q1, q2, Result.andThen_ok]
 cases hq : (n.1.toList == m.1.toList)
 ·simp
 ·cases hq2 : (n.2 == m.2) <;> simp [e3, e4, q2, hq2]

theorem name_key {P : Program} {K : TypeId} (h : NameKey P K) (w : World) (b : Bool) (n : ByteArray × Int) : (Instr.checkKey b 10000 K (nameV n)).run P w = .ok () w := by
 obtain ⟨f0, f1, hu, h0, h1, o0, o1, u0, u1⟩ := h.ex
 have e1 := run_part_one (P := P) (w := w) (xs := #[.string n.1, .int .i64 n.2]) u0 (.inl rfl) (off := 0) (v := .string n.1) rfl
 have e3 := run_part_one (P := P) (w := w) (xs := #[.string n.1, .int .i64 n.2]) u1 (.inr rfl) (off := 1) (v := .int .i64 n.2) rfl
 have c1 : ∀ k, (Instr.checkKey b (k + 1) f0.type (.string n.1)).run P w = .ok () w := fun k => by simp [Instr.checkKey, run_underlying u0]
 have c2 : ∀ k, (Instr.checkKey b (k + 1) f1.type (.int .i64 n.2)).run P w = .ok () w := fun k => by simp [Instr.checkKey, run_underlying u1]
 have key : ∀ k, (Instr.checkKey b (k + 2) K (nameV n)).run P w = .ok () w := fun k => by
  rw [Instr.checkKey]
  simp [run_underlying hu, h0, h1, o0, o1, e1, e3, c1, c2]
 exact key 9998
structure NSet (w : World) (b : Nat) (ns : List (ByteArray × Int)) : Prop where
 ex : ∃ es clock, w.heap[b]? = some (.map es clock) ∧ es.toList.map (fun e => (e.key, e.val)) = ns.map (fun n => (nameV n, Value.bool true))
def isIn (ns : List (ByteArray × Int)) (n : ByteArray × Int) : Bool := ns.any fun m => n.1.toList == m.1.toList && n.2 == m.2

theorem NSet.new (w : World) : NSet (w.alloc (.map #[] 0)) w.heap.size [] := ⟨#[], 0, heap_alloc_new w _, rfl⟩
theorem NSet.lt {w : World} {b : Nat} {ns : List (ByteArray × Int)} (h : NSet w b ns) : b < w.heap.size := by
 obtain ⟨es, clock, hb, _⟩ := h.ex
 exact (Array.getElem?_eq_some_iff.1 hb).1
theorem NSet.kept {w w' : World} {row : Option Nat} {b : Nat} {ns : List (ByteArray × Int)} (h : NSet w b ns) (hg : w.grownBy w' row) (hne : some b ≠ row) : NSet w' b ns := by
 have hlt := h.lt
 obtain ⟨es, clock, hb, he⟩ := h.ex
 exact ⟨es, clock, (hg.block b hlt hne).trans hb, he⟩
theorem NSet.below {w w' : World} {b : Nat} {ns : List (ByteArray × Int)} (h : NSet w b ns) (hg : Below w.heap.size w w') : NSet w' b ns := by
 have hlt := h.lt
 obtain ⟨es, clock, hb, he⟩ := h.ex
 exact ⟨es, clock, (hg.block b hlt).trans hb, he⟩
theorem NSet.alloc {w : World} {b : Nat} {ns : List (ByteArray × Int)} (h : NSet w b ns) (o : Obj) : NSet (w.alloc o) b ns := h.below ((Below.refl _ _).alloc (Nat.le_refl _) _)
theorem find_names {P : Program} {K : TypeId} (h : NameKey P K) (w : World) (n : ByteArray × Int) : ∀ (es : List MapEntry) (ns : List (ByteArray × Int)) (i : Nat), es.map (fun e => (e.key, e.val)) = ns.map (fun n => (nameV n, Value.bool true)) →
  ∃ r, (Instr.findAsking K (nameV n) es i).run P w = .ok r w ∧ r.map (·.2) = if isIn ns n then some (Value.bool true) else none := by
 intro es
 induction es with
 | nil =>
  intro ns i he
  cases ns with
  | nil => exact ⟨none, by simp [Instr.findAsking], rfl⟩
  | cons m ns => cases he
 | cons e es ih =>
  intro ns i he
  cases ns with
  | nil => cases he
  | cons m ns =>
   rw [List.map_cons, List.map_cons] at he
   injection he with h1 h2
   injection h1 with hk hv
   have hq := name_eq h w n m
   cases hc : (n.1.toList == m.1.toList && n.2 == m.2)
   ·obtain ⟨r, hr, hr2⟩ := ih ns (i + 1) h2
    refine ⟨r, ?_, ?_⟩
    ·rw [hc] at hq
     simp only [Instr.findAsking, hk, Sem.run_bind, hq, Result.andThen_ok, Bool.false_eq_true, if_false]
     exact hr
    ·rw [hr2]; simp only [isIn, List.any_cons, hc, Bool.false_or]; rfl
   ·refine ⟨some (i, e.val), ?_, ?_⟩
    ·rw [hc] at hq
     simp only [Instr.findAsking, hk, Sem.run_bind, hq, Result.andThen_ok, if_true, Sem.run_pure]
    ·simp only [isIn, List.any_cons, hc, Bool.true_or, if_true, Option.map_some, hv]

theorem find_key {P : Program} {K : TypeId} (h : NameKey P K) (w : World) (n : ByteArray × Int) (es : List MapEntry) (ns : List (ByteArray × Int)) (he : es.map (fun e => (e.key, e.val)) = ns.map (fun n => (nameV n, Value.bool true))) :
  ∃ r, (Instr.findKey K (nameV n) es).run P w = .ok r w ∧ r.map (·.2) = if isIn ns n then some (Value.bool true) else none := by
 obtain ⟨f0, f1, hu, _⟩ := h.ex
 cases es with
 | nil =>
  cases ns with
  | nil => exact ⟨none, by simp [Instr.findKey, run_underlying hu, Instr.findNow], rfl⟩
  | cons m ns => cases he
 | cons e es =>
  obtain ⟨r, hr, hr2⟩ := find_names h w n (e :: es) ns 0 he
  refine ⟨r, ?_, hr2⟩
  have hk : e.key = nameV (ns.headD n) := by
   cases ns with
   | nil => cases he
   | cons m ns => injection he with h1 _; injection h1
  have hf : Instr.findNow (.struct #[f0, f1]) (nameV n) (e :: es) 0 = none := by
   simp [Instr.findNow, hk, Instr.sameNow]
  simp only [Instr.findKey, Sem.run_bind, run_underlying hu, Result.andThen_ok, hf]
  exact hr

section
variable {P : Program} {w : World} {ops : Array Oper} {rest : List Oper} {o : Oper} {a : Act} {Q : Exit → Act → World → Prop}
theorem look_name {K : TypeId} (hK0 : NameKey P K) (hg : o.guard = none) (m x : Operand) (t e : TypeId) (hop : o.op = Op.lookup t m x false) (ht : P.underlying t = some (.map K e))
  (hz : ∀ w, (zeroValue e).run P w = .ok (.bool false) w) (b : Nat) (ns : List (ByteArray × Int)) (hm : a.eval m = .map (some b)) (hown : NSet w b ns) (n : ByteArray × Int) (hx : a.eval x = nameV n)
  (hK : wpList P ops Q rest (a.put o.dst (.bool (isIn ns n))) w) : wpList P ops Q (o :: rest) a w := by
 refine wpList_plain hg fun K' hK' => ?_
 obtain ⟨es, clock, hb, he⟩ := hown.ex
 obtain ⟨r, hr, hr2⟩ := find_key hK0 w n es.toList ns he
 have hrun : (Instr.lookup t (.map (some b)) (nameV n) false).run P w = .ok (.bool (isIn ns n)) w := by
  have hck := name_key hK0 w es.isEmpty n
  cases r with
  | none =>
   cases hi : isIn ns n
   ·simp [Instr.lookup, run_underlying ht, MapKept.run_getObj_map hb, hck, hr, hz]
   ·rw [hi] at hr2; cases hr2
  | some q =>
   cases hi : isIn ns n
   ·rw [hi] at hr2; cases hr2
   ·rw [hi] at hr2
    have : q.2 = .bool true := by simpa using hr2
    obtain ⟨q1, q2⟩ := q
    subst this
    simp [Instr.lookup, run_underlying ht, MapKept.run_getObj_map hb, hck, hr]
 unfold Oper.wp
 simp [execOp, hop, hm, hx, hrun, Result.andThen]
 exact hK' _ _ hK
theorem put_name {K : TypeId} (hK0 : NameKey P K) (hg : o.guard = none) (m x v : Operand) (t e : TypeId) (hop : o.op = Op.mapUpdate t m x v) (ht : P.underlying t = some (.map K e))
  (b : Nat) (ns : List (ByteArray × Int)) (hm : a.eval m = .map (some b)) (hown : NSet w b ns) (n : ByteArray × Int) (hx : a.eval x = nameV n) (hv : a.eval v = .bool true) (hnew : isIn ns n = false)
  (hK : ∀ w', NSet w' b (ns ++ [n]) → w.grownBy w' (some b) → w'.heap.size = w.heap.size → wpList P ops Q rest (a.put o.dst undef) w') : wpList P ops Q (o :: rest) a w := by
 refine wpList_plain hg fun K' hK' => ?_
 obtain ⟨es, clock, hb, he⟩ := hown.ex
 obtain ⟨r, hr, hr2⟩ := find_key hK0 w n es.toList ns he
 rw [hnew] at hr2
 have hrn : r = none := by cases r with
  | none => rfl
  | some q => cases hr2
 subst hrn
 have hck := name_key hK0 w false n
 have hlt := hown.lt
 obtain ⟨w', hw'⟩ : ∃ w', w' = { w with heap := w.heap.setIfInBounds b (.map (es.push { key := nameV n, val := .bool true, born := clock }) (clock + 1)) } := ⟨_, rfl⟩
 have hrun : (Instr.mapUpdate t (.map (some b)) (nameV n) (.bool true)).run P w = .ok () w' := by
  subst hw'
  simp [Instr.mapUpdate, run_underlying ht, MapKept.run_getObj_map hb, MapKept.run_setObj_map _ hb, hck, hr]
 unfold Oper.wp
 simp [execOp, hop, hm, hx, hv, hrun, Result.andThen]
 refine hK' _ _ (hK w' ?_ ?_ ?_)
 ·refine ⟨_, clock + 1, by rw [hw']; simp [Array.getElem?_setIfInBounds, hlt]; rfl, ?_⟩
  simp [he]
 ·rw [hw']
  refine ⟨rfl, rfl, rfl, by simp, fun k hk hne => ?_⟩
  simp only [Array.getElem?_setIfInBounds]
  rw [if_neg (fun e => hne (by rw [e]))]
 ·rw [hw']; simp
end
end Go.Dx
end

section
/- Chapter 06, in plain Lean: laws on names, on the error of tables, and on where a rule fits. No program in sight. -/
namespace Go.Dx

abbrev nmOf (r : Ru) : ByteArray × Int := (r.text, r.whr)
theorem isIn_eq (l : List Ru) (n : ByteArray × Int) : isIn (l.map nmOf) n = decide ((chars n.1, n.2) ∈ l.map nameOf) := by
 rw [Bool.eq_iff_iff]
 simp only [isIn, List.any_map, List.any_eq_true, decide_eq_true_eq, List.mem_map, nameOf, Function.comp, Bool.and_eq_true, beq_iff_eq, ByteArray.toList_eq, chars, Prod.mk.injEq]
 constructor
 ·rintro ⟨r, hr, h1, h2⟩; exact ⟨r, hr, h1.symm, h2.symm⟩
 ·rintro ⟨r, hr, h1, h2⟩; exact ⟨r, hr, h1.symm, h2.symm⟩
def apart (l : List Ru) (k : Nat) : Prop := ((l.take k).map nameOf).Nodup
theorem apart_zero (l : List Ru) : apart l 0 := by simp [apart]
theorem take_succ_get {α : Type} {l : List α} {k : Nat} {x : α} (h : l[k]? = some x) : l.take (k + 1) = l.take k ++ [x] := by
 rw [List.take_add_one, h]; rfl
theorem apart_step {l : List Ru} {k : Nat} {r : Ru} (h : l[k]? = some r) (ha : apart l k) (hn : isIn ((l.take k).map nmOf) (nmOf r) = false) : apart l (k + 1) := by
 rw [isIn_eq] at hn
 simp only [decide_eq_false_iff_not] at hn
 unfold apart at ha ⊢
 rw [take_succ_get h, List.map_append, List.nodup_append]
 refine ⟨ha, by simp, ?_⟩
 intro a h1 b h2 e
 simp only [List.map_cons, List.map_nil, List.mem_singleton] at h2
 subst h2; subst e
 exact hn h1
theorem dup_of {l : List Ru} {k : Nat} {r : Ru} (h : l[k]? = some r) (hn : isIn ((l.take k).map nmOf) (nmOf r) = true) : dupB l = true := by
 rw [isIn_eq] at hn
 simp only [decide_eq_true_eq] at hn
 unfold dupB
 simp only [Bool.not_eq_true', decide_eq_false_iff_not]
 intro hd
 have hk := (List.getElem?_eq_some_iff.1 h).1
 have hs : (l.take (k + 1)).Sublist l := List.take_sublist _ _
 have := (hs.map nameOf).nodup hd
 rw [take_succ_get h, List.map_append, List.nodup_append] at this
 exact this.2.2 _ hn _ (by simp [nameOf]) rfl
theorem apart_all {l : List Ru} (h : apart l l.length) : dupB l = false := by
 unfold apart at h
 rw [List.take_length] at h
 simp [dupB, h]
theorem own_in (l : List Ru) (c : UInt8) (s : ByteArray) (hs : chars s = [c]) : isIn (l.map nmOf) (s, 0) = ownB l c := by
 rw [isIn_eq]
 simp only [hs, ownB]
def ownTo (l : List Ru) (k : Nat) : Prop := ∀ j, j < k → ownB l (UInt8.ofNat (97 + j)) = true
theorem ownTo_step {l : List Ru} {k : Nat} (h : ownTo l k) (h2 : ownB l (UInt8.ofNat (97 + k)) = true) : ownTo l (k + 1) := by
 intro j hj
 by_cases e : j = k
 ·subst e; exact h2
 ·exact h j (by omega)
theorem miss_of {l : List Ru} {k : Nat} (hk : k < 26) (h : ownB l (UInt8.ofNat (97 + k)) = false) : missB l = true := by
 unfold missB
 rw [List.any_eq_true]
 exact ⟨k, by simpa using hk, by rw [h]; rfl⟩
theorem miss_no {l : List Ru} (h : ownTo l 26) : missB l = false := by
 unfold missB
 rw [List.any_eq_false]
 intro k hk
 rw [h k (by simpa using hk)]; simp
def inAt (l : List Sy) (g : Int) (i : Int) : Bool := decide (0 ≤ i) && match l[i.toNat]? with
 | some x => decide (x.lang = g) && isL x.c
 | none => false
structure IsLo (l : List Sy) (g : Int) (i a : Int) : Prop where
 le : a ≤ i
 all : ∀ j, a ≤ j → j < i → inAt l g j = true
 no : inAt l g (a - 1) = false
structure IsHi (l : List Sy) (g : Int) (i b : Int) : Prop where
 le : i ≤ b
 all : ∀ j, i ≤ j → j < b → inAt l g j = true
 no : inAt l g b = false
theorem lo_cmp {l : List Sy} {g : Int} {i a : Int} (h : IsLo l g i a) : decide (a < i) = inAt l g (i - 1) := by
 cases hi : inAt l g (i - 1)
 ·have : ¬ a < i := fun hl => by rw [h.all (i - 1) (by omega) (by omega)] at hi; cases hi
  simp [this]
 ·have : a < i := by
   have := h.le
   have hn := h.no
   by_cases e : a = i
   ·rw [e, hi] at hn; cases hn
   ·omega
  simp [this]
theorem hi_cmp {l : List Sy} {g : Int} {i b : Int} (h : IsHi l g i b) (n : Nat) (hn : ∀ j, i ≤ j → j < i + n → inAt l g j = true) : i + n ≤ b ∧ decide (i + n < b) = inAt l g (i + n) := by
 have hb : i + n ≤ b := by
  have h1 := h.no
  have h2 := h.le
  by_cases e : b < i + n
  ·rw [hn b h2 e] at h1; cases h1
  ·omega
 refine ⟨hb, ?_⟩
 cases hi : inAt l g (i + n)
 ·have : ¬ i + n < b := fun hl => by rw [h.all (i + n) (by omega) hl] at hi; cases hi
  simp [this]
 ·have : i + n < b := by
   have hn := h.no
   by_cases e : b = i + n
   ·rw [e, hi] at hn; cases hn
   ·omega
  simp [this]
theorem inAt_nat (l : List Sy) (g : Int) (k : Nat) : inAt l g (k : Int) = match l[k]? with
 | some x => decide (x.lang = g) && isL x.c
 | none => false := by
 unfold inAt
 simp
theorem isS_low {c : UInt8} (h : isS (low c) = true) : isL c = true := by
 unfold low at h
 by_cases hc : isC c = true
 ·simp [isL, hc]
 ·rw [if_neg hc] at h
  simp [isL, h]
theorem same_letters {g : Int} : ∀ (s : List UInt8) (b : Bool) (l : List Sy), sameAt g b s l = true → s.all isS = true → ∀ j, j < s.length → ∃ x, l[j]? = some x ∧ x.lang = g ∧ isL x.c = true := by
 intro s
 induction s with
 | nil => intro b l _ _ j hj; cases hj
 | cons u s ih =>
  intro b l h hs j hj
  cases l with
  | nil => cases h
  | cons x l =>
   simp only [sameAt, Bool.and_eq_true, decide_eq_true_eq] at h
   obtain ⟨⟨⟨h1, h2⟩, h3⟩, h4⟩ := h
   rw [List.all_cons, Bool.and_eq_true] at hs
   cases j with
   | zero => exact ⟨x, rfl, h2, isS_low (by rw [h1]; exact hs.1)⟩
   | succ j =>
    obtain ⟨y, hy, h5⟩ := ih false l h4 hs.2 j (by simpa using hj)
    exact ⟨y, by simpa using hy, h5⟩
theorem place_eq {r : Ru} {l : List Sy} {i : Nat} {x : Sy} (hx : l[i]? = some x) (hs : sameAt x.lang true (chars r.text) (l.drop i) = true) (hm : small r.text = true) (h1 : 1 ≤ r.text.size)
  {a b : Int} (ha : IsLo l x.lang i a) (hb : IsHi l x.lang i b) :
  inWord l i = decide (a < (i : Int)) ∧ (i : Int) + r.text.size ≤ b ∧ inWord l (i + r.text.size) = decide ((i : Int) + r.text.size < b) := by
 have hlen : (chars r.text).length = r.text.size := Array.length_toList
 have hin : ∀ j, j < r.text.size → ∃ y, l[i + j]? = some y ∧ y.lang = x.lang ∧ isL y.c = true := by
  intro j hj
  obtain ⟨y, hy, h2⟩ := same_letters _ _ _ hs hm j (by rw [hlen]; exact hj)
  exact ⟨y, by rw [← List.getElem?_drop]; exact hy, h2⟩
 have hall : ∀ j, (i : Int) ≤ j → j < (i : Int) + r.text.size → inAt l x.lang j = true := by
  intro j h2 h3
  obtain ⟨y, hy, h4, h5⟩ := hin (j - i).toNat (by omega)
  have e : j = ((i + (j - i).toNat : Nat) : Int) := by omega
  rw [e, inAt_nat, hy]
  simp [h4, h5]
 obtain ⟨hb1, hb2⟩ := hi_cmp hb r.text.size hall
 obtain ⟨y0, hy0, g0, k0⟩ := hin 0 (by omega)
 rw [Nat.add_zero, hx] at hy0
 obtain rfl := Option.some.inj hy0
 refine ⟨?_, hb1, ?_⟩
 ·rw [lo_cmp ha]
  cases i with
  | zero => simp [inWord, inAt]
  | succ k =>
   have e : ((k + 1 : Nat) : Int) - 1 = (k : Int) := by omega
   rw [e, inAt_nat]
   simp only [inWord, hx]
   cases l[k]? with
   | none => rfl
   | some z => simp only [k0, Bool.and_true]; rw [Bool.and_comm]
 ·rw [hb2]
  obtain ⟨z, hz, g1, k1⟩ := hin (r.text.size - 1) (by omega)
  have e1 : i + r.text.size = (i + (r.text.size - 1)) + 1 := by omega
  have e2 : (i : Int) + r.text.size = (((i + (r.text.size - 1)) + 1 : Nat) : Int) := by omega
  rw [e2, inAt_nat, e1]
  simp only [inWord, hz]
  cases hq : l[i + (r.text.size - 1) + 1]? with
  | none => rfl
  | some q =>
   simp only [g1]
   rw [k1, Bool.true_and, Bool.and_comm]
   congr 1
   rw [decide_eq_decide]
   exact ⟨fun h => h.symm, fun h => h.symm⟩
theorem same_len {g : Int} : ∀ (s : List UInt8) (b : Bool) (l : List Sy), sameAt g b s l = true → s.length ≤ l.length := by
 intro s
 induction s with
 | nil => intro b l _; exact Nat.zero_le _
 | cons u s ih =>
  intro b l h
  cases l with
  | nil => cases h
  | cons x l =>
   simp only [sameAt, Bool.and_eq_true] at h
   have := ih false l h.2
   simp; omega
end Go.Dx
end

section
/- Chapter 06, in plain Lean: what the steps of valid tables are like (Always). No program in sight. -/
namespace Go.Dx

theorem ruleSteps_mem (t : Ta) (s : St) (x : Sy) (l : List Sy) (i : Nat) : ∀ (rs : List Ru) (k : Nat) (st : Stp), st ∈ ruleSteps t s x l i k rs →
  ∃ r, r ∈ rs ∧ fitsB r l i = true ∧ st.dst = ⟨x.lang, false, isL x.c⟩ ∧ st.len = (r.text.size : Int) ∧ st.cells = headC t s x ++ r.cells := by
 intro rs
 induction rs with
 | nil => intro k st h; cases h
 | cons r rs ih =>
  intro k st h
  simp only [ruleSteps, List.mem_append] at h
  rcases h with h | h
  ·by_cases hf : fitsB r l i = true
   ·rw [if_pos hf, List.mem_singleton] at h
    subst h
    exact ⟨r, by simp, hf, rfl, rfl, rfl⟩
   ·rw [if_neg hf] at h; cases h
  ·obtain ⟨q, hq, h2⟩ := ih (k + 1) st h
   exact ⟨q, List.mem_cons_of_mem _ hq, h2⟩
theorem valid_parts {t : Ta} (h : validE t = 0) : t.l0.length ≤ 96 ∧ t.l1.length ≤ 96 ∧ goodT t = true ∧ dupB t.l0 = false ∧ dupB t.l1 = false ∧ missB t.l0 = false ∧ missB t.l1 = false := by
 unfold validE at h
 split at h
 ·cases h
 ·rename_i h1
  split at h
  ·cases h
  ·rename_i h2
   split at h
   ·cases h
   ·rename_i h3
    split at h
    ·cases h
    ·rename_i h4
     simp only [Bool.or_eq_true, not_or, Bool.not_eq_true] at h2 h3 h4
     refine ⟨by omega, by omega, by simpa using h2, h3.1, h3.2, h4.1, h4.2⟩
theorem good_parts {t : Ta} (h : goodT t = true) : t.dig.length = 10 ∧ indic t.cap = true ∧ indic t.num = true ∧ indic t.fin = true ∧ indic t.sw = true ∧ (∀ r ∈ t.l0, ruOk r = true) ∧ (∀ r ∈ t.l1, ruOk r = true) := by
 unfold goodT at h
 simp only [Bool.and_eq_true, decide_eq_true_eq, List.all_eq_true] at h
 obtain ⟨⟨⟨⟨⟨⟨⟨h1, _⟩, h2⟩, h3⟩, h4⟩, h5⟩, h6⟩, h7⟩ := h
 exact ⟨h1, h2, h3, h4, h5, h6, h7⟩
theorem lang_ok {t : Ta} (h : goodT t = true) (g : Int) : ∀ r ∈ langOf t g, ruOk r = true := by
 intro r hr
 obtain ⟨_, _, _, _, _, h0, h1⟩ := good_parts h
 unfold langOf at hr
 split at hr
 ·exact h0 r hr
 ·exact h1 r hr
theorem ru_parts {r : Ru} (h : ruOk r = true) : 1 ≤ r.text.size ∧ r.text.size ≤ 8 ∧ 0 ≤ r.whr ∧ r.whr ≤ 3 ∧ indic r.cells = true ∧ (small r.text = true ∨ oneMark r.text = true ∧ r.whr = 0) := by
 unfold ruOk at h
 simp only [Bool.and_eq_true, Bool.or_eq_true, decide_eq_true_eq] at h
 obtain ⟨⟨⟨⟨⟨h1, h2⟩, h3⟩, h4⟩, h5⟩, h6⟩ := h
 exact ⟨h1, h2, h3, h4, h5, h6⟩
theorem indic_pos {l : List UInt8} (h : indic l = true) : l ≠ [] := by
 unfold indic at h
 simp only [Bool.and_eq_true, decide_eq_true_eq] at h
 intro e
 rw [e] at h
 simp at h
theorem indic_le {l : List UInt8} (h : indic l = true) : l.length ≤ 4 := by
 unfold indic at h
 simp only [Bool.and_eq_true, decide_eq_true_eq] at h
 exact h.1.2
theorem own_fits {l : List Ru} {x : Sy} (h : ownB l (low x.c) = true) {L : List Sy} {i : Nat} (hx : L[i]? = some x) : ∃ r, r ∈ l ∧ fitsB r L i = true := by
 unfold ownB at h
 simp only [decide_eq_true_eq, List.mem_map, nameOf, Prod.mk.injEq] at h
 obtain ⟨r, hr, h1, h2⟩ := h
 refine ⟨r, hr, ?_⟩
 have hi := (List.getElem?_eq_some_iff.1 hx).1
 have hd : L.drop i = x :: L.drop (i + 1) := by
  rw [List.drop_eq_getElem_cons hi]
  congr 1
  have := (List.getElem?_eq_some_iff.1 hx).2
  exact this
 unfold fitsB placeOk
 rw [hx]
 simp [h1, hd, sameAt, h2]
def isM (c : UInt8) : Bool := decide (c ∈ ([32, 46, 44, 63, 39, 45] : List UInt8))
structure GoodTa (t : Ta) : Prop where
 ok : validE t = 0
 mark : ∀ g c, isM c = true → ownB (langOf t g) c = true
def plainSy (x : Sy) : Bool := symOk x && (isL x.c || isD x.c || isM x.c)
theorem low_small {c : UInt8} (h : isL c = true) : isS (low c) = true := by
 revert h
 have : ∀ c : UInt8, isL c = true → isS (low c) = true := by
  intro c
  rw [← UInt8.ofNat_toNat (x := c)]
  have hc := c.toNat_lt
  generalize c.toNat = n at hc ⊢
  revert n
  decide +kernel
 exact this c
theorem own_small {l : List Ru} (h : missB l = false) {c : UInt8} (hc : isS c = true) : ownB l c = true := by
 unfold missB at h
 rw [List.any_eq_false] at h
 unfold isS at hc
 simp only [Bool.and_eq_true, decide_eq_true_eq] at hc
 have := h (c.toNat - 97) (by simp; omega)
 have e : 97 + (c.toNat - 97) = c.toNat := by omega
 rw [e, UInt8.ofNat_toNat] at this
 simpa using this
theorem miss_lang {t : Ta} (h : validE t = 0) (g : Int) : missB (langOf t g) = false := by
 obtain ⟨_, _, _, _, _, h0, h1⟩ := valid_parts h
 unfold langOf
 split
 ·exact h0
 ·exact h1
theorem steps_at {t : Ta} (ht : validE t = 0) {s : St} (hs : s.lang = 0 ∨ s.lang = 1) {l : List Sy} (hl : goodS l = true) {i : Nat} {x : Sy} (hx : l[i]? = some x) : stepsL t s l i = nextL t s l i x := by
 unfold stepsL
 rw [if_pos ⟨ht, hs, by omega, hl⟩]
 simp [hx]
theorem fits_len {r : Ru} {l : List Sy} {i : Nat} (hi : i < l.length) (h : fitsB r l i = true) : i + r.text.size ≤ l.length := by
 unfold fitsB at h
 rw [List.getElem?_eq_getElem hi] at h
 simp only [Bool.and_eq_true] at h
 have := same_len _ _ _ h.1
 rw [List.length_drop] at this
 have e : (chars r.text).length = r.text.size := Array.length_toList
 omega
theorem rule_len {t : Ta} (ht : validE t = 0) {s : St} {l : List Sy} {i : Nat} {x : Sy} {g : Int} : ∀ q ∈ ruleSteps t s x l i 0 (langOf t g), 1 ≤ q.len ∧ q.cells ≠ [] := by
 intro q hq
 obtain ⟨r, hr, _, _, h2, h3⟩ := ruleSteps_mem _ _ _ _ _ _ _ _ hq
 have hg := (valid_parts ht).2.2.1
 have := ru_parts (lang_ok hg g r hr)
 refine ⟨by rw [h2]; omega, ?_⟩
 rw [h3]
 intro e
 rw [List.append_eq_nil_iff] at e
 exact indic_pos this.2.2.2.2.1 e.2
end Go.Dx
end

section
/- Chapter 06, in plain Lean: the steps hang on the word alone (Local). No program in sight. -/
namespace Go.Dx

theorem inWord_of {L : List Sy} {k : Nat} {x y : Sy} (h1 : L[k]? = some x) (h2 : L[k + 1]? = some y) : inWord L (k + 1) = (isL x.c && isL y.c && decide (x.lang = y.lang)) := by
 simp only [inWord, h1, h2]
end Go.Dx
end

section
/- Chapter 08, in plain Lean: the least numbers, as they are computed, and what they are. No program in sight. -/
namespace Go.Dx
def numS (s : St) : Nat := 4 * s.lang.toNat + (if s.num then 2 else 0) + (if s.wrd then 1 else 0)
def stN (n : Nat) : St := ⟨((n / 4 : Nat) : Int), decide (n / 2 % 2 = 1), decide (n % 2 = 1)⟩
theorem numS_lt {s : St} (h : s.lang = 0 ∨ s.lang = 1) : numS s < 8 := by
 unfold numS
 have : s.lang.toNat ≤ 1 := by omega
 split <;> split <;> omega
theorem stN_numS {s : St} (h : s.lang = 0 ∨ s.lang = 1) : stN (numS s) = s := by
 obtain ⟨g, a, b⟩ := s
 rcases h with h | h <;> (simp only at h; subst h; revert a b; decide)
def lstep8 (f : Stp → Int) (i : Nat) (x : Stp) (p : Int × Int) : Int × Int := if 0 ≤ f x ∧ (p.1 < 0 ∨ f x + x.cells.length < p.2) then ((i : Int), f x + x.cells.length) else p
def pickF (f : Stp → Int) : Nat → Int × Int → List Stp → Int × Int
 | _, p, [] => p
 | i, p, x :: L => pickF f (i + 1) (lstep8 f i x p) L
def leastF (f : Stp → Int) (L : List Stp) : Int × Int := pickF f 0 (-1, -1) L
theorem pickF_snoc (f : Stp → Int) (x : Stp) : ∀ (L : List Stp) (i : Nat) (p : Int × Int), pickF f i p (L ++ [x]) = lstep8 f (i + L.length) x (pickF f i p L)
 | [], i, p => by simp [pickF]
 | y :: L, i, p => by
  simp only [List.cons_append, pickF, List.length_cons]
  rw [pickF_snoc f x L (i + 1), show i + 1 + L.length = i + (L.length + 1) by omega]
theorem leastF_take {f : Stp → Int} {L : List Stp} {k : Nat} {x : Stp} (h : L[k]? = some x) : leastF f (L.take (k + 1)) = lstep8 f k x (leastF f (L.take k)) := by
 have hk := (List.getElem?_eq_some_iff.1 h).1
 have e : L.take (k + 1) = L.take k ++ [x] := by rw [List.take_add_one, h]; rfl
 unfold leastF
 rw [e, pickF_snoc, List.length_take, Nat.min_eq_left (by omega), Nat.zero_add]
theorem pickF_congr {f g : Stp → Int} : ∀ (L : List Stp) (i : Nat) (p : Int × Int), (∀ x ∈ L, f x = g x) → pickF f i p L = pickF g i p L
 | [], i, p, _ => rfl
 | y :: L, i, p, h => by
  have e : lstep8 f i y p = lstep8 g i y p := by unfold lstep8; rw [h y (by simp)]
  simp only [pickF]
  rw [e]
  exact pickF_congr L _ _ fun x hx => h x (List.mem_cons_of_mem _ hx)
theorem leastF_congr {f g : Stp → Int} {L : List Stp} (h : ∀ x ∈ L, f x = g x) : leastF f L = leastF g L := pickF_congr L _ _ h
structure Found (f : Stp → Int) (L : List Stp) (p : Int × Int) : Prop where
 ge : -1 ≤ p.1
 none : p.1 < 0 → p.1 = -1 ∧ p.2 = -1 ∧ ∀ x ∈ L, f x < 0
 some : 0 ≤ p.1 → ∃ x, L[p.1.toNat]? = some x ∧ 0 ≤ f x ∧ p.2 = f x + x.cells.length ∧ ∀ y ∈ L, 0 ≤ f y → p.2 ≤ f y + y.cells.length
theorem found_step {f : Stp → Int} {L : List Stp} {p : Int × Int} (h : Found f L p) (x : Stp) : Found f (L ++ [x]) (lstep8 f L.length x p) := by
 unfold lstep8
 by_cases hc : 0 ≤ f x ∧ (p.1 < 0 ∨ f x + x.cells.length < p.2)
 ·rw [if_pos hc]
  refine ⟨by simp only; omega, fun h1 => by simp only at h1; omega, fun _ => ⟨x, by simp, hc.1, rfl, fun y hy h0 => ?_⟩⟩
  rcases List.mem_append.1 hy with h1 | h1
  ·rcases hc.2 with h2 | h2
   ·have := (h.none h2).2.2 y h1; omega
   ·by_cases h3 : 0 ≤ p.1
    ·obtain ⟨z, _, _, _, h4⟩ := h.some h3
     have := h4 y h1 h0
     simp only
     omega
    ·have := (h.none (by omega)).2.2 y h1; omega
  ·simp at h1; subst h1; exact Int.le_refl _
 ·rw [if_neg hc]
  refine ⟨h.ge, fun h1 => ?_, fun h1 => ?_⟩
  ·obtain ⟨a, b, c⟩ := h.none h1
   refine ⟨a, b, fun y hy => ?_⟩
   rcases List.mem_append.1 hy with h2 | h2
   ·exact c y h2
   ·simp at h2; subst h2
    by_cases h3 : 0 ≤ f y
    ·exact absurd ⟨h3, .inl h1⟩ hc
    ·omega
  ·obtain ⟨z, a, b, c, d⟩ := h.some h1
   have hz := (List.getElem?_eq_some_iff.1 a).1
   refine ⟨z, by rw [List.getElem?_append_left hz]; exact a, b, c, fun y hy h0 => ?_⟩
   rcases List.mem_append.1 hy with h2 | h2
   ·exact d y h2 h0
   ·simp at h2; subst h2
    by_cases h3 : f y + y.cells.length < p.2
    ·exact absurd ⟨h0, .inr h3⟩ hc
    ·omega
theorem found_take (f : Stp → Int) (L : List Stp) : ∀ k, k ≤ L.length → Found f (L.take k) (leastF f (L.take k))
 | 0, _ => ⟨by show (-1 : Int) ≤ -1; omega, fun _ => ⟨rfl, rfl, fun x hx => by simp at hx⟩, fun h => by simp [leastF, pickF] at h⟩
 | k + 1, h => by
  have hx : L[k]? = some L[k] := by simp [show k < L.length by omega]
  have h1 := found_step (found_take f L k (by omega)) L[k]
  rw [leastF_take hx]
  rw [List.length_take, Nat.min_eq_left (by omega)] at h1
  have e : L.take (k + 1) = L.take k ++ [L[k]] := by rw [List.take_add_one, hx]; rfl
  rw [e]
  exact h1
theorem found (f : Stp → Int) (L : List Stp) : Found f L (leastF f L) := by
 have := found_take f L L.length (Nat.le_refl _)
 rwa [List.take_length] at this
abbrev Nums := List (List Int)
def lookA (A : Nums) (at_ : Nat) (x : Stp) : Int := (A.getD (at_ + x.len.toNat) []).getD (numS x.dst) 0
def cellU (t : Ta) (l : List Sy) (at_ n : Nat) (A : Nums) : Nums := A.set at_ ((A.getD at_ []).set n (leastF (lookA A at_) (stepsL t (stN n) l at_)).2)
def turnU (t : Ta) (l : List Sy) (at_ : Nat) (g : Int) (turn : Nat) : Nat → Nums → Nums
 | 0, A => A
 | k + 1, A => if (decide ((stN k).lang = g) == decide (turn = 0)) = true then cellU t l at_ k (turnU t l at_ g turn k A) else turnU t l at_ g turn k A
def minus : List Int := List.replicate 8 (-1)
def zeros : List Int := List.replicate 8 0
def restR (R : Nums) (x : Stp) : Int := (R.getD (x.len.toNat - 1) []).getD (numS x.dst) 0
def valR (t : Ta) (l : List Sy) (at_ : Nat) (R : Nums) (n : Nat) : Int := (leastF (restR R) (stepsL t (stN n) l at_)).2
def rowT (t : Ta) (l : List Sy) (at_ : Nat) (g : Int) (R : Nums) : List Int :=
 (List.range 8).map fun n => if (stN n).lang = g then valR t l at_ R n else if valR t l at_ R (4 * g.toNat) < 0 then -1 else valR t l at_ R (4 * g.toNat) + t.sw.length
def langAt (l : List Sy) (i : Nat) : Int := match l[i]? with
 | some x => x.lang
 | none => 0
def sufT (t : Ta) (l : List Sy) : Nat → Nums
 | 0 => [zeros]
 | d + 1 => rowT t l (l.length - (d + 1)) (langAt l (l.length - (d + 1))) (sufT t l d) :: sufT t l d
def numT (t : Ta) (l : List Sy) : Nums := sufT t l l.length
theorem sufT_len (t : Ta) (l : List Sy) : ∀ d, (sufT t l d).length = d + 1
 | 0 => rfl
 | d + 1 => by simp only [sufT, List.length_cons, sufT_len t l d]
theorem rowT_len (t : Ta) (l : List Sy) (i : Nat) (g : Int) (R : Nums) : (rowT t l i g R).length = 8 := by unfold rowT; simp
def updR (p : Nat → Bool) (v : Nat → Int) : Nat → List Int → List Int
 | 0, r => r
 | k + 1, r => if p k then (updR p v k r).set k (v k) else updR p v k r
theorem updR_len (p : Nat → Bool) (v : Nat → Int) (r : List Int) : ∀ k, (updR p v k r).length = r.length
 | 0 => rfl
 | k + 1 => by
  simp only [updR]
  split
  ·rw [List.length_set]; exact updR_len p v r k
  ·exact updR_len p v r k
theorem updR_get (p : Nat → Bool) (v : Nat → Int) (r : List Int) (i : Nat) (hi : i < r.length) : ∀ k, (updR p v k r)[i]? = some (if i < k ∧ p i = true then v i else r[i])
 | 0 => by simp [updR, hi]
 | k + 1 => by
  simp only [updR]
  by_cases hp : p k = true
  ·rw [if_pos hp, List.getElem?_set]
   by_cases hk : k = i
   ·subst hk
    rw [if_pos rfl, if_pos (by rw [updR_len]; exact hi), if_pos ⟨by omega, hp⟩]
   ·rw [if_neg hk, updR_get p v r i hi k]
    congr 1
    by_cases h1 : i < k ∧ p i = true
    ·rw [if_pos h1, if_pos ⟨by omega, h1.2⟩]
    ·rw [if_neg h1, if_neg (fun h => h1 ⟨by omega, h.2⟩)]
  ·rw [if_neg hp, updR_get p v r i hi k]
   congr 1
   by_cases h1 : i < k ∧ p i = true
   ·rw [if_pos h1, if_pos ⟨by omega, h1.2⟩]
   ·rw [if_neg h1, if_neg (fun h => ?_)]
    by_cases hk : i = k
    ·subst hk; exact hp h.2
    ·exact h1 ⟨by omega, h.2⟩
theorem getD_mid {α : Type} (P : List α) (r : α) (R : List α) (d : α) : (P ++ r :: R).getD P.length d = r := by
 rw [List.getD_eq_getElem?_getD, List.getElem?_append_right (Nat.le_refl _), Nat.sub_self]; rfl
theorem set_mid {α : Type} (P : List α) (r r' : α) (R : List α) : (P ++ r :: R).set P.length r' = P ++ r' :: R := by
 rw [List.set_append_right _ _ (Nat.le_refl _), Nat.sub_self]; rfl
theorem look_late {P : Nums} {r : List Int} {R : Nums} {x : Stp} (h : 1 ≤ x.len) : lookA (P ++ r :: R) P.length x = restR R x := by
 unfold lookA restR
 congr 1
 rw [List.getD_eq_getElem?_getD, List.getD_eq_getElem?_getD, List.getElem?_append_right (by omega), Nat.add_sub_cancel_left]
 obtain ⟨k, hk⟩ : ∃ k, x.len.toNat = k + 1 := ⟨x.len.toNat - 1, by omega⟩
 rw [hk, List.getElem?_cons_succ, Nat.add_sub_cancel]
theorem look_now {P : Nums} {r : List Int} {R : Nums} {x : Stp} (h : x.len = 0) : lookA (P ++ r :: R) P.length x = r.getD (numS x.dst) 0 := by
 unfold lookA
 rw [h]
 show ((P ++ r :: R).getD (P.length + 0) []).getD _ 0 = _
 rw [Nat.add_zero, getD_mid]
structure Here (t : Ta) (l : List Sy) (at_ : Nat) (g : Int) : Prop where
 lang : g = 0 ∨ g = 1
 same : ∀ s : St, s.lang = g → ∀ x ∈ stepsL t s l at_, 1 ≤ x.len ∧ at_ + x.len.toNat ≤ l.length ∧ x.dst.lang = g
 other : ∀ s : St, s.lang ≠ g → (s.lang = 0 ∨ s.lang = 1) → stepsL t s l at_ = [⟨⟨g, false, false⟩, 0, t.sw, -1⟩]
theorem here_of {t : Ta} (ht : validE t = 0) {l : List Sy} (hg : goodS l = true) {i : Nat} {x : Sy} (hx : l[i]? = some x) : Here t l i x.lang := by
 have hi := (List.getElem?_eq_some_iff.1 hx).1
 have hxl : x.lang = 0 ∨ x.lang = 1 := by
  have h1 := List.all_eq_true.1 hg x (List.mem_of_getElem? hx)
  unfold symOk at h1
  simp only [Bool.and_eq_true, Bool.or_eq_true, decide_eq_true_eq] at h1
  exact h1.1
 refine ⟨hxl, fun s hs st hst => ?_, fun s hs hs2 => ?_⟩
 ·rw [steps_at ht (by rw [hs]; exact hxl) hg hx] at hst
  unfold nextL at hst
  rw [if_neg (by rw [hs]; simp)] at hst
  split at hst
  ·rw [List.mem_singleton] at hst
   subst hst
   exact ⟨by simp, by simp; omega, rfl⟩
  ·have h1 := (rule_len ht st hst).1
   obtain ⟨r, hr, hf, h0, h2, _⟩ := ruleSteps_mem _ _ _ _ _ _ _ _ hst
   have := fits_len hi hf
   exact ⟨h1, by rw [h2]; simp; omega, by rw [h0]⟩
 ·rw [steps_at ht hs2 hg hx]
  unfold nextL
  rw [if_pos (fun e => hs e.symm)]
theorem turn0_eq {t : Ta} {l : List Sy} {P : Nums} {g : Int} (h : Here t l P.length g) (r : List Int) (R : Nums) : ∀ k, k ≤ 8 → turnU t l P.length g 0 k (P ++ r :: R) = P ++ updR (fun n => decide ((stN n).lang = g)) (valR t l P.length R) k r :: R
 | 0, _ => rfl
 | k + 1, hk => by
  simp only [turnU, updR]
  rw [turn0_eq h r R k (by omega)]
  by_cases hp : (stN k).lang = g
  ·rw [if_pos (by simp [hp]), if_pos (by simp [hp])]
   unfold cellU
   rw [getD_mid, set_mid]
   congr 3
   unfold valR
   rw [leastF_congr fun x hx => look_late ((h.same _ hp x hx).1)]
  ·rw [if_neg (by simp [hp]), if_neg (by simp [hp])]
theorem least_one (f : Stp → Int) (x : Stp) : (leastF f [x]).2 = if f x < 0 then -1 else f x + x.cells.length := by
 simp only [leastF, pickF, lstep8]
 by_cases h : 0 ≤ f x
 ·rw [if_pos ⟨h, .inl (by show (-1 : Int) < 0; omega)⟩, if_neg (by omega)]
 ·rw [if_neg (fun q => h q.1), if_pos (by omega)]
theorem stN_lang : ∀ n, n < 8 → (stN n).lang = 0 ∨ (stN n).lang = 1 := by decide
theorem turn1_eq {t : Ta} {l : List Sy} {P : Nums} {g : Int} (h : Here t l P.length g) (r : List Int) (R : Nums) (hr : r.length = 8) {z u : Int} (hz : r[4 * g.toNat]? = some z) (hu : u = if z < 0 then -1 else z + t.sw.length) : ∀ k, k ≤ 8 → turnU t l P.length g 1 k (P ++ r :: R) = P ++ updR (fun n => !decide ((stN n).lang = g)) (fun _ => u) k r :: R
 | 0, _ => rfl
 | k + 1, hk => by
  simp only [turnU]
  rw [turn1_eq h r R hr hz hu k (by omega)]
  by_cases hp : (stN k).lang = g
  ·have e : updR (fun n => !decide ((stN n).lang = g)) (fun _ => u) (k + 1) r = updR (fun n => !decide ((stN n).lang = g)) (fun _ => u) k r := by simp [updR, hp]
   rw [if_neg (by simp [hp]), e]
  ·have e : updR (fun n => !decide ((stN n).lang = g)) (fun _ => u) (k + 1) r = (updR (fun n => !decide ((stN n).lang = g)) (fun _ => u) k r).set k u := by simp [updR, hp]
   rw [if_pos (by simp [hp]), e]
   unfold cellU
   rw [getD_mid, set_mid]
   have hq : numS ⟨g, false, false⟩ = 4 * g.toNat := by simp [numS]
   have hg8 : 4 * g.toNat < 8 := by have := h.lang; omega
   have hl : (stN (4 * g.toNat)).lang = g := by rcases h.lang with e | e <;> subst e <;> rfl
   have hget : (updR (fun n => !decide ((stN n).lang = g)) (fun _ => u) k r).getD (4 * g.toNat) 0 = z := by
    rw [List.getD_eq_getElem?_getD, updR_get _ _ _ _ (by omega), if_neg (fun q => by simp [hl] at q)]
    rw [List.getElem?_eq_getElem (by omega)] at hz
    simpa using hz
   have hv : (leastF (lookA (P ++ updR (fun n => !decide ((stN n).lang = g)) (fun _ => u) k r :: R) P.length) (stepsL t (stN k) l P.length)).2 = u := by
    rw [h.other _ hp (stN_lang k (by omega)), least_one, look_now rfl]
    show (if List.getD _ (numS ⟨g, false, false⟩) 0 < 0 then (-1 : Int) else List.getD _ (numS ⟨g, false, false⟩) 0 + (t.sw.length : Int)) = u
    rw [hq, hget, hu]
   rw [hv]
theorem place_row {t : Ta} {l : List Sy} {P : Nums} {g : Int} (h : Here t l P.length g) (R : Nums) : turnU t l P.length g 1 8 (turnU t l P.length g 0 8 (P ++ minus :: R)) = P ++ rowT t l P.length g R :: R := by
 have hm : minus.length = 8 := rfl
 have hg8 : 4 * g.toNat < 8 := by have := h.lang; omega
 have hl : (stN (4 * g.toNat)).lang = g := by rcases h.lang with e | e <;> subst e <;> rfl
 have e1 : ∀ j, j < 8 → (updR (fun n => decide ((stN n).lang = g)) (valR t l P.length R) 8 minus)[j]? = some (if (stN j).lang = g then valR t l P.length R j else -1) := fun j hj => by
  rw [updR_get _ _ _ _ (by rw [hm]; exact hj)]
  have e2 : minus[j]'(by rw [hm]; exact hj) = -1 := by unfold minus; rw [List.getElem_replicate]
  by_cases hp : (stN j).lang = g
  ·rw [if_pos ⟨hj, by simp [hp]⟩, if_pos hp]
  ·rw [if_neg (fun q => by simp [hp] at q), if_neg hp, e2]
 have e4 := e1 _ hg8
 rw [if_pos hl] at e4
 rw [turn0_eq h minus R 8 (by omega), turn1_eq h _ R (by rw [updR_len]; rfl) e4 rfl 8 (by omega)]
 congr 2
 refine List.ext_getElem? fun i => ?_
 by_cases hi : i < 8
 ·have e3 := e1 i hi
  rw [updR_get _ _ _ _ (by rw [updR_len, hm]; exact hi)]
  unfold rowT
  rw [List.getElem?_map, List.getElem?_range hi]
  simp only [Option.map_some]
  by_cases hp : (stN i).lang = g
  ·rw [if_neg (fun q => by simp [hp] at q), if_pos hp]
   rw [if_pos hp, List.getElem?_eq_getElem (by rw [updR_len, hm]; exact hi)] at e3
   exact e3
  ·rw [if_pos ⟨hi, by simp [hp]⟩, if_neg hp]
 ·rw [List.getElem?_eq_none (by rw [updR_len, updR_len, hm]; omega), List.getElem?_eq_none (by rw [rowT_len]; omega)]
end Go.Dx
end

section
/- Chapter 08, in plain Lean: the equations have one solution; paths and their cells. No program in sight. -/
namespace Go.Dx
def valA (A : Nums) (i : Nat) (s : St) : Int := (A.getD i []).getD (numS s) 0
theorem look_val (A : Nums) (i : Nat) (x : Stp) : lookA A i x = valA A (i + x.len.toNat) x.dst := rfl
structure EqT (t : Ta) (l : List Sy) (A : Nums) : Prop where
 len : A.length = l.length + 1
 row : ∀ r ∈ A, r.length = 8
 last : A.getD l.length [] = zeros
 eq : ∀ i, i < l.length → ∀ n, n < 8 → (A.getD i []).getD n 0 = (leastF (lookA A i) (stepsL t (stN n) l i)).2
theorem langAt_eq {l : List Sy} {i : Nat} {x : Sy} (h : l[i]? = some x) : langAt l i = x.lang := by unfold langAt; rw [h]
theorem here_at {t : Ta} (ht : validE t = 0) {l : List Sy} (hg : goodS l = true) {i : Nat} (hi : i < l.length) : Here t l i (langAt l i) := by
 have hx : l[i]? = some l[i] := by simp [hi]
 rw [langAt_eq hx]
 exact here_of ht hg hx
theorem rowT_get {t : Ta} {l : List Sy} {i : Nat} {g : Int} {R : Nums} {n : Nat} (hn : n < 8) : (rowT t l i g R)[n]? = some (if (stN n).lang = g then valR t l i R n else if valR t l i R (4 * g.toNat) < 0 then -1 else valR t l i R (4 * g.toNat) + t.sw.length) := by
 unfold rowT
 rw [List.getElem?_map, List.getElem?_range hn]
 rfl
theorem row_iff {t : Ta} {l : List Sy} {P : Nums} {g : Int} (h : Here t l P.length g) (r : List Int) (R : Nums) (hr : r.length = 8) :
  r = rowT t l P.length g R ↔ ∀ n, n < 8 → r.getD n 0 = (leastF (lookA (P ++ r :: R) P.length) (stepsL t (stN n) l P.length)).2 := by
 have hg8 : 4 * g.toNat < 8 := by have := h.lang; omega
 have hl : (stN (4 * g.toNat)).lang = g := by rcases h.lang with e | e <;> subst e <;> rfl
 have hq : numS ⟨g, false, false⟩ = 4 * g.toNat := by simp [numS]
 have same : ∀ n, (stN n).lang = g → (leastF (lookA (P ++ r :: R) P.length) (stepsL t (stN n) l P.length)).2 = valR t l P.length R n := fun n hp => by
  unfold valR
  rw [leastF_congr fun x hx => look_late ((h.same _ hp x hx).1)]
 have other : ∀ n, n < 8 → (stN n).lang ≠ g → (leastF (lookA (P ++ r :: R) P.length) (stepsL t (stN n) l P.length)).2 = if r.getD (4 * g.toNat) 0 < 0 then -1 else r.getD (4 * g.toNat) 0 + t.sw.length := fun n hn hp => by
  rw [h.other _ hp (stN_lang n hn), least_one, look_now rfl]
  show (if List.getD _ (numS ⟨g, false, false⟩) 0 < 0 then (-1 : Int) else List.getD _ (numS ⟨g, false, false⟩) 0 + (t.sw.length : Int)) = _
  rw [hq]
 constructor
 ·intro e n hn
  have hget : ∀ m, m < 8 → r.getD m 0 = (if (stN m).lang = g then valR t l P.length R m else if valR t l P.length R (4 * g.toNat) < 0 then -1 else valR t l P.length R (4 * g.toNat) + t.sw.length) := fun m hm => by rw [e, List.getD_eq_getElem?_getD, rowT_get hm]; rfl
  rw [hget n hn]
  by_cases hp : (stN n).lang = g
  ·rw [if_pos hp, same n hp]
  ·rw [if_neg hp, other n hn hp, hget _ hg8, if_pos hl]
 ·intro he
  refine List.ext_getElem? fun n => ?_
  by_cases hn : n < 8
  ·have h1 := he n hn
   rw [List.getD_eq_getElem?_getD, List.getElem?_eq_getElem (by omega)] at h1
   rw [rowT_get hn, List.getElem?_eq_getElem (by omega)]
   have h4 := he _ hg8
   rw [same _ hl] at h4
   by_cases hp : (stN n).lang = g
   ·rw [if_pos hp, ← same n hp, ← h1]; rfl
   ·rw [if_neg hp, ← h4, ← other n hn hp, ← h1]; rfl
  ·rw [List.getElem?_eq_none (by omega), List.getElem?_eq_none (by rw [rowT_len]; omega)]
theorem take_drop_mid {A : Nums} {i : Nat} {R : Nums} (hi : i < A.length) (hR : A.drop (i + 1) = R) : A = A.take i ++ A.getD i [] :: R := by
 have e : A.getD i [] = A[i] := by rw [List.getD_eq_getElem?_getD, List.getElem?_eq_getElem hi]; rfl
 rw [e, ← hR]
 conv => lhs; rw [← List.take_append_drop i A]
 rw [List.drop_eq_getElem_cons hi]
theorem numT_drop (t : Ta) (l : List Sy) : ∀ d e, d + e = l.length → (numT t l).drop e = sufT t l d := by
 intro d e
 induction e generalizing d with
 | zero => intro h; rw [List.drop_zero]; unfold numT; rw [show l.length = d by omega]
 | succ e ih =>
  intro h
  have h1 := ih (d + 1) (by omega)
  rw [← List.drop_drop, h1]
  rfl
theorem sufT_rows (t : Ta) (l : List Sy) : ∀ d, ∀ r ∈ sufT t l d, r.length = 8
 | 0, r, h => by simp [sufT] at h; subst h; rfl
 | d + 1, r, h => by
  simp only [sufT, List.mem_cons] at h
  rcases h with h | h
  ·rw [h, rowT_len]
  ·exact sufT_rows t l d r h
theorem numT_len (t : Ta) (l : List Sy) : (numT t l).length = l.length + 1 := sufT_len t l _
theorem numT_at (t : Ta) (l : List Sy) {i : Nat} (hi : i < l.length) : (numT t l).getD i [] = rowT t l i (langAt l i) (sufT t l (l.length - (i + 1))) := by
 have h1 := numT_drop t l (l.length - i) i (by omega)
 obtain ⟨d, hd⟩ : ∃ d, l.length - i = d + 1 := ⟨l.length - i - 1, by omega⟩
 rw [hd] at h1
 have h2 : (numT t l).getD i [] = ((numT t l).drop i).getD 0 [] := by rw [List.getD_eq_getElem?_getD, List.getD_eq_getElem?_getD, List.getElem?_drop, Nat.add_zero]
 rw [h2, h1]
 simp only [sufT]
 show rowT t l (l.length - (d + 1)) (langAt l (l.length - (d + 1))) (sufT t l d) = _
 rw [show l.length - (d + 1) = i by omega, show d = l.length - (i + 1) by omega]
theorem numT_last (t : Ta) (l : List Sy) : (numT t l).getD l.length [] = zeros := by
 have h1 := numT_drop t l 0 l.length (by omega)
 have h2 : (numT t l).getD l.length [] = ((numT t l).drop l.length).getD 0 [] := by rw [List.getD_eq_getElem?_getD, List.getD_eq_getElem?_getD, List.getElem?_drop, Nat.add_zero]
 rw [h2, h1]
 rfl
theorem numT_eq {t : Ta} (ht : validE t = 0) {l : List Sy} (hg : goodS l = true) : EqT t l (numT t l) := by
 refine ⟨numT_len t l, sufT_rows t l _, numT_last t l, fun i hi n hn => ?_⟩
 have hil : i < (numT t l).length := by rw [numT_len]; omega
 have hm := take_drop_mid hil (numT_drop t l (l.length - (i + 1)) (i + 1) (by omega))
 have hP : ((numT t l).take i).length = i := by rw [List.length_take]; omega
 have hh := here_at ht hg hi
 rw [← hP] at hh
 have h8 : ((numT t l).getD i []).length = 8 := by rw [numT_at t l hi, rowT_len]
 have h1 := (row_iff (P := (numT t l).take i) (by rw [hP]; have := here_at ht hg hi; exact this) ((numT t l).getD i []) (sufT t l (l.length - (i + 1))) h8).1 (by rw [numT_at t l hi, hP]) n hn
 rw [← hm, hP] at h1
 exact h1
theorem eq_unique {t : Ta} (ht : validE t = 0) {l : List Sy} (hg : goodS l = true) {A : Nums} (h : EqT t l A) : A = numT t l := by
 have key : ∀ d, d ≤ l.length → A.drop (l.length - d) = sufT t l d := by
  intro d
  induction d with
  | zero =>
   intro _
   rw [Nat.sub_zero]
   have hl : l.length < A.length := by rw [h.len]; omega
   rw [List.drop_eq_getElem_cons hl, List.drop_of_length_le (by rw [h.len]; omega)]
   have := h.last
   rw [List.getD_eq_getElem?_getD, List.getElem?_eq_getElem hl] at this
   simp only [Option.getD_some] at this
   rw [this]
   rfl
  | succ d ih =>
   intro hd
   have h1 := ih (by omega)
   obtain ⟨i, hi⟩ : ∃ i, l.length - (d + 1) = i := ⟨_, rfl⟩
   have hil : i < l.length := by omega
   have hiA : i < A.length := by rw [h.len]; omega
   rw [show l.length - d = i + 1 by omega] at h1
   have hm := take_drop_mid hiA h1
   have hP : (A.take i).length = i := by rw [List.length_take]; omega
   have h8 : (A.getD i []).length = 8 := by
    rw [List.getD_eq_getElem?_getD, List.getElem?_eq_getElem hiA]
    exact h.row _ (List.getElem_mem _)
   have hr := (row_iff (P := A.take i) (by rw [hP]; exact here_at ht hg hil) (A.getD i []) (sufT t l d) h8).2 (fun n hn => by rw [← hm, hP]; exact h.eq i hil n hn)
   rw [hi, List.drop_eq_getElem_cons hiA, h1]
   simp only [sufT]
   rw [hi]
   congr 1
   rw [hP] at hr
   rw [← hr, List.getD_eq_getElem?_getD, List.getElem?_eq_getElem hiA]
   rfl
 have := key l.length (Nat.le_refl _)
 rw [Nat.sub_self, List.drop_zero] at this
 exact this
def measP (l : List Sy) (i : Nat) (s : St) : Nat := 2 * (l.length - i) + (if i < l.length ∧ langAt l i ≠ s.lang then 1 else 0)
theorem step_meas {t : Ta} (ht : validE t = 0) {l : List Sy} (hg : goodS l = true) {i : Nat} (hi : i < l.length) {s : St} (hs : s.lang = 0 ∨ s.lang = 1) {x : Stp} (hx : x ∈ stepsL t s l i) :
  measP l (i + x.len.toNat) x.dst < measP l i s ∧ i + x.len.toNat ≤ l.length ∧ (x.dst.lang = 0 ∨ x.dst.lang = 1) ∧ 0 ≤ x.len := by
 have h := here_at ht hg hi
 by_cases hp : s.lang = langAt l i
 ·obtain ⟨h1, h2, h3⟩ := h.same s hp x hx
  refine ⟨?_, h2, by rw [h3]; exact h.lang, by omega⟩
  unfold measP
  rw [if_neg (c := i < l.length ∧ langAt l i ≠ s.lang) (fun q => q.2 hp.symm)]
  split <;> omega
 ·rw [h.other s hp hs, List.mem_singleton] at hx
  subst hx
  refine ⟨?_, by simp; omega, h.lang, by simp⟩
  unfold measP
  rw [if_pos (c := i < l.length ∧ langAt l i ≠ s.lang) ⟨hi, fun e => hp e.symm⟩]
  simp
theorem val_eq {t : Ta} (ht : validE t = 0) {l : List Sy} (hg : goodS l = true) {i : Nat} (hi : i < l.length) {s : St} (hs : s.lang = 0 ∨ s.lang = 1) : valA (numT t l) i s = (leastF (lookA (numT t l) i) (stepsL t s l i)).2 := by
 have := (numT_eq ht hg).eq i hi (numS s) (numS_lt hs)
 rw [stN_numS hs] at this
 exact this
theorem val_end (t : Ta) (l : List Sy) (s : St) (hs : s.lang = 0 ∨ s.lang = 1) : valA (numT t l) l.length s = 0 := by
 unfold valA
 rw [numT_last]
 have := numS_lt hs
 unfold zeros
 rw [List.getD_eq_getElem?_getD, List.getElem?_replicate, if_pos this]
 rfl
theorem val_ge {t : Ta} (ht : validE t = 0) {l : List Sy} (hg : goodS l = true) {i : Nat} (hi : i ≤ l.length) {s : St} (hs : s.lang = 0 ∨ s.lang = 1) : -1 ≤ valA (numT t l) i s := by
 by_cases h1 : i < l.length
 ·rw [val_eq ht hg h1 hs]
  have hf := found (lookA (numT t l) i) (stepsL t s l i)
  by_cases h2 : (leastF (lookA (numT t l) i) (stepsL t s l i)).1 < 0
  ·rw [(hf.none h2).2.1]; omega
  ·obtain ⟨x, _, h3, h4, _⟩ := hf.some (by omega)
   rw [h4]; omega
 ·rw [show i = l.length by omega, val_end t l s hs]; omega
theorem best_step {t : Ta} (ht : validE t = 0) {l : List Sy} (hg : goodS l = true) {i : Nat} (hi : i < l.length) {s : St} (hs : s.lang = 0 ∨ s.lang = 1) (hv : 0 ≤ valA (numT t l) i s) :
  ∃ x, 0 ≤ (leastF (lookA (numT t l) i) (stepsL t s l i)).1 ∧ (stepsL t s l i)[(leastF (lookA (numT t l) i) (stepsL t s l i)).1.toNat]? = some x ∧ valA (numT t l) i s = valA (numT t l) (i + x.len.toNat) x.dst + x.cells.length ∧ 0 ≤ valA (numT t l) (i + x.len.toNat) x.dst := by
 rw [val_eq ht hg hi hs] at hv ⊢
 have hf := found (lookA (numT t l) i) (stepsL t s l i)
 have h0 : 0 ≤ (leastF (lookA (numT t l) i) (stepsL t s l i)).1 := by
  by_cases h2 : (leastF (lookA (numT t l) i) (stepsL t s l i)).1 < 0
  ·have := (hf.none h2).2.1; omega
  ·omega
 obtain ⟨x, h1, h2, h3, _⟩ := hf.some h0
 exact ⟨x, h0, h1, h3, h2⟩
theorem step_le {t : Ta} (ht : validE t = 0) {l : List Sy} (hg : goodS l = true) {i : Nat} (hi : i < l.length) {s : St} (hs : s.lang = 0 ∨ s.lang = 1) {x : Stp} (hx : x ∈ stepsL t s l i) (hv : 0 ≤ valA (numT t l) (i + x.len.toNat) x.dst) :
  0 ≤ valA (numT t l) i s ∧ valA (numT t l) i s ≤ valA (numT t l) (i + x.len.toNat) x.dst + x.cells.length := by
 rw [val_eq ht hg hi hs]
 have hf := found (lookA (numT t l) i) (stepsL t s l i)
 by_cases h2 : (leastF (lookA (numT t l) i) (stepsL t s l i)).1 < 0
 ·have := (hf.none h2).2.2 x hx
  rw [look_val] at this
  omega
 ·obtain ⟨y, _, h3, h4, h5⟩ := hf.some (by omega)
  have h6 := h5 x hx hv
  rw [look_val] at h6
  exact ⟨by rw [h4]; omega, h6⟩
def goP (t : Ta) (l : List Sy) (A : Nums) : Nat → Nat → St → List (Stp × Int)
 | 0, _, _ => []
 | f + 1, i, s => if i < l.length then match (stepsL t s l i)[(leastF (lookA A i) (stepsL t s l i)).1.toNat]? with
   | some x => (x, (leastF (lookA A i) (stepsL t s l i)).1) :: goP t l A f (i + x.len.toNat) x.dst
   | none => []
  else []
def s00 : St := ⟨0, false, false⟩
def pathT (t : Ta) (l : List Sy) : List (Stp × Int) := goP t l (numT t l) (2 * l.length + 1) 0 s00
def cellsP (p : List (Stp × Int)) : List UInt8 := p.flatMap fun q => q.1.cells
def takenP (p : List (Stp × Int)) : List Int := p.map (·.2)
theorem goP_end {t : Ta} {l : List Sy} {A : Nums} {f i : Nat} {s : St} (hi : l.length ≤ i) : goP t l A f i s = [] := by
 cases f with
 | zero => rfl
 | succ f => simp only [goP]; rw [if_neg (by omega)]
theorem goP_step {t : Ta} {l : List Sy} {A : Nums} {f i : Nat} {s : St} {x : Stp} (hi : i < l.length) (hx : (stepsL t s l i)[(leastF (lookA A i) (stepsL t s l i)).1.toNat]? = some x) : goP t l A (f + 1) i s = (x, (leastF (lookA A i) (stepsL t s l i)).1) :: goP t l A f (i + x.len.toNat) x.dst := by
 simp only [goP]
 rw [if_pos hi, hx]
theorem meas_le {l : List Sy} {i : Nat} {s : St} : measP l i s ≤ 2 * (l.length - i) + 1 := by unfold measP; split <;> omega
theorem meas_pos {l : List Sy} {i : Nat} {s : St} (h : i < l.length) : 1 ≤ measP l i s := by unfold measP; omega
theorem goP_cost {t : Ta} (ht : validE t = 0) {l : List Sy} (hg : goodS l = true) : ∀ (f i : Nat) (s : St), i ≤ l.length → (s.lang = 0 ∨ s.lang = 1) → measP l i s ≤ f → 0 ≤ valA (numT t l) i s → ((cellsP (goP t l (numT t l) f i s)).length : Int) = valA (numT t l) i s := by
 intro f
 induction f with
 | zero =>
  intro i s hi hs hm hv
  have hil : i = l.length := by
   by_cases h1 : i < l.length
   ·have := meas_pos (s := s) h1; omega
   ·omega
  subst hil
  rw [val_end t l s hs]; rfl
 | succ f ih =>
  intro i s hi hs hm hv
  by_cases h1 : i < l.length
  ·obtain ⟨x, h0, hx, he, hv2⟩ := best_step ht hg h1 hs hv
   obtain ⟨k1, k2, k3, k4⟩ := step_meas ht hg h1 hs (List.mem_of_getElem? hx)
   rw [goP_step h1 hx]
   have := ih (i + x.len.toNat) x.dst k2 k3 (by omega) hv2
   unfold cellsP at this ⊢
   rw [List.flatMap_cons, List.length_append]
   rw [he, ← this]
   push_cast
   omega
  ·have hil : i = l.length := by omega
   subst hil
   rw [goP_end (Nat.le_refl _), val_end t l s hs]; rfl
theorem path_cost {t : Ta} (ht : validE t = 0) {l : List Sy} (hg : goodS l = true) (hv : 0 ≤ valA (numT t l) 0 s00) : ((cellsP (pathT t l)).length : Int) = valA (numT t l) 0 s00 :=
 goP_cost ht hg _ 0 s00 (Nat.zero_le _) (.inl rfl) (by have := meas_le (l := l) (i := 0) (s := s00); omega) hv
end Go.Dx
end

section
/- Chapter 08, in plain Lean: a path that is followed; the path of single characters. No program in sight. -/
namespace Go.Dx
def followF (t : Ta) (l : List Sy) : List Int → Nat → St → List UInt8 → Option (List Int)
 | [], i, _, r => if i = l.length ∧ r = [] then some [] else none
 | k :: ks, i, s, r => if l.length ≤ i then none else if k < 0 then none else match (stepsL t s l i)[k.toNat]? with
  | none => none
  | some x => if x.cells = r.take x.cells.length then (followF t l ks (i + x.len.toNat) x.dst (r.drop x.cells.length)).map (List.replicate x.cells.length (i : Int) ++ ·) else none
def placesP : List (Stp × Int) → Nat → List Int
 | [], _ => []
 | q :: p, i => List.replicate q.1.cells.length (i : Int) ++ placesP p (i + q.1.len.toNat)
theorem follow_goP {t : Ta} (ht : validE t = 0) {l : List Sy} (hg : goodS l = true) : ∀ (f i : Nat) (s : St), i ≤ l.length → (s.lang = 0 ∨ s.lang = 1) → measP l i s ≤ f → 0 ≤ valA (numT t l) i s →
  followF t l (takenP (goP t l (numT t l) f i s)) i s (cellsP (goP t l (numT t l) f i s)) = some (placesP (goP t l (numT t l) f i s) i) := by
 intro f
 induction f with
 | zero =>
  intro i s hi hs hm hv
  have hil : i = l.length := by
   by_cases h1 : i < l.length
   ·have := meas_pos (s := s) h1; omega
   ·omega
  subst hil
  simp [goP, takenP, cellsP, followF, placesP]
 | succ f ih =>
  intro i s hi hs hm hv
  by_cases h1 : i < l.length
  ·obtain ⟨x, h0, hx, he, hv2⟩ := best_step ht hg h1 hs hv
   obtain ⟨k1, k2, k3, k4⟩ := step_meas ht hg h1 hs (List.mem_of_getElem? hx)
   rw [goP_step h1 hx]
   have := ih (i + x.len.toNat) x.dst k2 k3 (by omega) hv2
   unfold takenP cellsP at this ⊢
   rw [List.map_cons, List.flatMap_cons]
   simp only [followF, placesP]
   rw [if_neg (by omega), if_neg (by omega), hx]
   simp only
   rw [if_pos (by rw [List.take_left' rfl]), List.drop_left' rfl, this]
   rfl
  ·have hil : i = l.length := by omega
   subst hil
   rw [goP_end (Nat.le_refl _)]
   simp [takenP, cellsP, followF, placesP]
theorem follow_path {t : Ta} (ht : validE t = 0) {l : List Sy} (hg : goodS l = true) (hv : 0 ≤ valA (numT t l) 0 s00) : followF t l (takenP (pathT t l)) 0 s00 (cellsP (pathT t l)) = some (placesP (pathT t l) 0) :=
 follow_goP ht hg _ 0 s00 (Nat.zero_le _) (.inl rfl) (by have := meas_le (l := l) (i := 0) (s := s00); omega) hv
def plainOk (t : Ta) (s : St) (x : Stp) : Bool := decide (x.rule < 0) || (decide (x.len = 1) && decide (((langOf t s.lang)[x.rule.toNat]?).map (·.whr) = some 0))
def goQ (t : Ta) (l : List Sy) : Nat → Nat → St → Option (List UInt8)
 | 0, _, _ => some []
 | f + 1, i, s => if i < l.length then match (stepsL t s l i).find? (plainOk t s) with
   | none => none
   | some x => (goQ t l f (i + x.len.toNat) x.dst).map (x.cells ++ ·)
  else some []
def plainT (t : Ta) (l : List Sy) : Option (List UInt8) := goQ t l (2 * l.length + 1) 0 s00
theorem goQ_cost {t : Ta} (ht : validE t = 0) {l : List Sy} (hg : goodS l = true) : ∀ (f i : Nat) (s : St) (c : List UInt8), i ≤ l.length → (s.lang = 0 ∨ s.lang = 1) → measP l i s ≤ f → goQ t l f i s = some c → 0 ≤ valA (numT t l) i s ∧ valA (numT t l) i s ≤ c.length := by
 intro f
 induction f with
 | zero =>
  intro i s c hi hs hm hc
  have hil : i = l.length := by
   by_cases h1 : i < l.length
   ·have := meas_pos (s := s) h1; omega
   ·omega
  subst hil
  rw [val_end t l s hs]
  exact ⟨Int.le_refl _, by omega⟩
 | succ f ih =>
  intro i s c hi hs hm hc
  simp only [goQ] at hc
  by_cases h1 : i < l.length
  ·rw [if_pos h1] at hc
   cases hx : (stepsL t s l i).find? (plainOk t s) with
   | none => rw [hx] at hc; cases hc
   | some x =>
    rw [hx] at hc
    simp only at hc
    have hm' := List.mem_of_find?_eq_some hx
    obtain ⟨k1, k2, k3, k4⟩ := step_meas ht hg h1 hs hm'
    cases hq : goQ t l f (i + x.len.toNat) x.dst with
    | none => rw [hq] at hc; cases hc
    | some c2 =>
     rw [hq] at hc
     simp only [Option.map_some, Option.some.injEq] at hc
     have h2 := ih _ _ c2 k2 k3 (by omega) hq
     have h3 := step_le ht hg h1 hs hm' h2.1
     subst hc
     rw [List.length_append]
     exact ⟨h3.1, by push_cast; omega⟩
  ·have hil : i = l.length := by omega
   subst hil
   rw [val_end t l s hs]
   exact ⟨Int.le_refl _, by omega⟩
theorem same_get : ∀ (s : List UInt8) (b : Bool) (g : Int) (L : List Sy) (j : Nat) (u : UInt8), sameAt g b s L = true → s[j]? = some u → ∃ y, L[j]? = some y ∧ low y.c = u
 | [], _, _, _, j, u, _, h => by simp at h
 | v :: s, b, g, [], j, u, h, _ => by simp [sameAt] at h
 | v :: s, b, g, y :: L, j, u, h, hj => by
  simp only [sameAt, Bool.and_eq_true, decide_eq_true_eq] at h
  cases j with
  | zero => simp at hj; subst hj; exact ⟨y, rfl, h.1.1.1⟩
  | succ j => exact same_get s false g L j u h.2 (by simpa using hj)
structure Dead (t : Ta) (l : List Sy) (p : Nat) (x : Sy) : Prop where
 at_ : l[p]? = some x
 let_ : isL x.c = false
 dig : isD x.c = false
 fit : ∀ r ∈ langOf t x.lang, fitsB r l p = false
theorem rule_empty {t : Ta} {s : St} {x : Sy} {l : List Sy} {i : Nat} : ∀ (rs : List Ru) (k : Nat), (∀ r ∈ rs, fitsB r l i = false) → ruleSteps t s x l i k rs = []
 | [], _, _ => rfl
 | r :: rs, k, h => by
  simp only [ruleSteps]
  rw [if_neg (by rw [h r (by simp)]; simp), rule_empty rs (k + 1) fun q hq => h q (List.mem_cons_of_mem _ hq)]
  rfl
theorem rule_mem_of {t : Ta} {s : St} {x : Sy} {l : List Sy} {i : Nat} : ∀ (rs : List Ru) (k j : Nat) (r : Ru), rs[j]? = some r → fitsB r l i = true → (⟨⟨x.lang, false, isL x.c⟩, (r.text.size : Int), headC t s x ++ r.cells, ((k + j : Nat) : Int)⟩ : Stp) ∈ ruleSteps t s x l i k rs
 | [], _, j, r, h, _ => by simp at h
 | q :: rs, k, j, r, h, hf => by
  simp only [ruleSteps]
  cases j with
  | zero =>
   simp at h; subst h
   rw [if_pos hf]
   simp
  | succ j =>
   have := rule_mem_of rs (k + 1) j r (by simpa using h) hf (t := t) (s := s) (x := x)
   rw [show k + 1 + j = k + (j + 1) by omega] at this
   exact List.mem_append_right _ this
theorem fits_parts {r : Ru} {l : List Sy} {i : Nat} {x : Sy} (hx : l[i]? = some x) (h : fitsB r l i = true) : sameAt x.lang true (chars r.text) (l.drop i) = true := by
 unfold fitsB at h
 rw [hx] at h
 simp only [Bool.and_eq_true] at h
 exact h.1
theorem chars_len (s : ByteArray) : (chars s).length = s.size := Array.length_toList
theorem one_chars {s : ByteArray} (h : oneMark s = true) : s.size = 1 := by
 unfold oneMark at h
 rw [← chars_len]
 split at h
 ·rename_i c e; rw [e]; rfl
 ·cases h
theorem stuck_dead {t : Ta} (ht : validE t = 0) {l : List Sy} (hg : goodS l = true) {p : Nat} (hp : p < l.length) {s : St} (hs : s.lang = 0 ∨ s.lang = 1) (h : (stepsL t s l p).find? (plainOk t s) = none) : ∃ x, Dead t l p x := by
 obtain ⟨x, hx⟩ : ∃ x, l[p]? = some x := ⟨l[p], by simp [hp]⟩
 have hno := List.find?_eq_none.1 h
 rw [steps_at ht hs hg hx] at hno
 unfold nextL at hno
 by_cases h1 : x.lang ≠ s.lang
 ·rw [if_pos h1] at hno
  have := hno _ (List.mem_singleton.2 rfl)
  simp [plainOk] at this
 ·rw [if_neg h1] at hno
  have h1 : x.lang = s.lang := Classical.byContradiction h1
  cases hd : isD x.c
  ·rw [if_neg (by rw [hd]; simp)] at hno
   have hgood := (valid_parts ht).2.2.1
   have none : ∀ (j : Nat) (r : Ru), (langOf t x.lang)[j]? = some r → fitsB r l p = true → r.text.size = 1 → r.whr = 0 → False := fun j r hj hf h2 h3 => by
    have hm := hno _ (rule_mem_of (t := t) (s := s) (x := x) (langOf t x.lang) 0 j r hj hf)
    apply hm
    unfold plainOk
    rw [← h1]
    simp [h2, hj, h3]
   have hl : isL x.c = false := by
    cases hl : isL x.c
    ·rfl
    ·exfalso
     obtain ⟨r, hr, hf⟩ := own_fits (own_small (miss_lang ht x.lang) (low_small hl)) hx
     have ho := own_small (miss_lang ht x.lang) (low_small hl)
     unfold ownB at ho
     simp only [decide_eq_true_eq, List.mem_map, nameOf, Prod.mk.injEq] at ho
     obtain ⟨r, hr, e1, e2⟩ := ho
     obtain ⟨j, hj, hjr⟩ := List.getElem_of_mem hr
     have hj2 : (langOf t x.lang)[j]? = some r := by rw [← hjr]; simp [hj]
     have hsz : r.text.size = 1 := by rw [← chars_len, e1]; rfl
     refine none j r hj2 ?_ hsz e2
     have hi := (List.getElem?_eq_some_iff.1 hx).1
     have hd2 : l.drop p = x :: l.drop (p + 1) := by
      rw [List.drop_eq_getElem_cons hi]
      congr 1
      exact (List.getElem?_eq_some_iff.1 hx).2
     unfold fitsB placeOk
     rw [hx]
     simp [e1, hd2, sameAt, e2]
   refine ⟨x, hx, hl, hd, fun r hr => ?_⟩
   cases hf : fitsB r l p
   ·rfl
   ·exfalso
    obtain ⟨j, hj, hjr⟩ := List.getElem_of_mem hr
    have hj2 : (langOf t x.lang)[j]? = some r := by rw [← hjr]; simp [hj]
    have hru := ru_parts (lang_ok hgood x.lang r hr)
    rcases hru.2.2.2.2.2 with h2 | ⟨h2, h3⟩
    ·have hsz : 0 < (chars r.text).length := by rw [chars_len]; omega
     obtain ⟨y, hy, hy2⟩ := same_get _ _ _ _ 0 _ (fits_parts hx hf) (List.getElem?_eq_getElem hsz)
     rw [List.getElem?_drop, Nat.add_zero, hx] at hy
     injection hy with hy
     subst hy
     have : isS (low x.c) = true := by rw [hy2]; exact List.all_eq_true.1 h2 _ (List.getElem_mem _)
     rw [isS_low this] at hl
     cases hl
    ·exact none j r hj2 hf (one_chars h2) h3
  ·rw [if_pos hd] at hno
   have := hno _ (List.mem_singleton.2 rfl)
   simp [plainOk] at this
theorem least_none {f : Stp → Int} {L : List Stp} (h : ∀ x ∈ L, f x < 0) : (leastF f L).2 = -1 := by
 have hf := found f L
 by_cases h2 : (leastF f L).1 < 0
 ·exact (hf.none h2).2.1
 ·obtain ⟨x, h3, h4, _⟩ := hf.some (by omega)
  have := h x (List.mem_of_getElem? h3)
  omega
theorem dead_back {t : Ta} (ht : validE t = 0) {l : List Sy} (hg : goodS l = true) {p : Nat} {x : Sy} (hD : Dead t l p x) : ∀ d q, q + d = p → ∀ s : St, (s.lang = 0 ∨ s.lang = 1) → valA (numT t l) q s = -1 := by
 have hp : p < l.length := (List.getElem?_eq_some_iff.1 hD.at_).1
 intro d
 induction d using Nat.strongRecOn with
 | _ d ih =>
  intro q hq
  have hql : q < l.length := by omega
  obtain ⟨y, hy⟩ : ∃ y, l[q]? = some y := ⟨l[q], by simp [hql]⟩
  have hH := here_of ht hg hy
  have same : ∀ s : St, s.lang = y.lang → valA (numT t l) q s = -1 := fun s hs => by
   rw [val_eq ht hg hql (by rw [hs]; exact hH.lang)]
   refine least_none fun st hst => ?_
   rw [look_val]
   obtain ⟨k1, k2, k3⟩ := hH.same s hs st hst
   have hle : q + st.len.toNat ≤ p ∧ q < p := by
    rw [steps_at ht (by rw [hs]; exact hH.lang) hg hy] at hst
    unfold nextL at hst
    rw [if_neg (by rw [hs]; simp)] at hst
    by_cases hqp : q = p
    ·exfalso
     subst hqp
     have e := hD.at_
     rw [hy] at e
     injection e with e
     subst e
     rw [if_neg (by rw [hD.dig]; simp), rule_empty _ _ hD.fit] at hst
     cases hst
    ·split at hst
     ·rw [List.mem_singleton] at hst
      subst hst
      simp
      omega
     ·obtain ⟨r, hr, hf, _, h2, _⟩ := ruleSteps_mem _ _ _ _ _ _ _ _ hst
      refine ⟨?_, by omega⟩
      by_cases hle : q + st.len.toNat ≤ p
      ·exact hle
      ·exfalso
       rw [h2] at hle
       simp only [Int.toNat_natCast] at hle
       have hru := ru_parts (lang_ok (valid_parts ht).2.2.1 y.lang r hr)
       rcases hru.2.2.2.2.2 with h3 | ⟨h3, _⟩
       ·have hj : p - q < (chars r.text).length := by rw [chars_len]; omega
        obtain ⟨z, hz, hz2⟩ := same_get _ _ _ _ (p - q) _ (fits_parts hy hf) (List.getElem?_eq_getElem hj)
        rw [List.getElem?_drop, show q + (p - q) = p by omega, hD.at_] at hz
        injection hz with hz
        subst hz
        have : isS (low x.c) = true := by rw [hz2]; exact List.all_eq_true.1 h3 _ (List.getElem_mem _)
        have := isS_low this
        rw [hD.let_] at this
        cases this
       ·have := one_chars h3
        omega
   have := ih (p - (q + st.len.toNat)) (by omega) (q + st.len.toNat) (by omega) st.dst (by rw [k3]; exact hH.lang)
   omega
  intro s hs
  by_cases hsl : s.lang = y.lang
  ·exact same s hsl
  ·rw [val_eq ht hg hql hs, hH.other s hsl hs, least_one, look_val]
   have := same ⟨y.lang, false, false⟩ rfl
   rw [if_pos (by show valA (numT t l) (q + 0) ⟨y.lang, false, false⟩ < 0; rw [Nat.add_zero, this]; omega)]
theorem goQ_none {t : Ta} (ht : validE t = 0) {l : List Sy} (hg : goodS l = true) : ∀ (f i : Nat) (s : St), (s.lang = 0 ∨ s.lang = 1) → goQ t l f i s = none → ∃ p x, Dead t l p x := by
 intro f
 induction f with
 | zero => intro i s hs h; cases h
 | succ f ih =>
  intro i s hs h
  simp only [goQ] at h
  by_cases h1 : i < l.length
  ·rw [if_pos h1] at h
   cases hx : (stepsL t s l i).find? (plainOk t s) with
   | none =>
    obtain ⟨x, hD⟩ := stuck_dead ht hg h1 hs hx
    exact ⟨i, x, hD⟩
   | some x =>
    rw [hx] at h
    simp only [Option.map_eq_none_iff] at h
    exact ih _ _ (step_meas ht hg h1 hs (List.mem_of_find?_eq_some hx)).2.2.1 h
  ·rw [if_neg h1] at h; cases h
theorem plain_law {t : Ta} (ht : validE t = 0) {l : List Sy} (hg : goodS l = true) : (plainT t l = none ↔ valA (numT t l) 0 s00 < 0) ∧ ∀ c, plainT t l = some c → valA (numT t l) 0 s00 ≤ c.length := by
 have hm : measP l 0 s00 ≤ 2 * l.length + 1 := by have := meas_le (l := l) (i := 0) (s := s00); omega
 refine ⟨⟨fun h => ?_, fun h => ?_⟩, fun c h => (goQ_cost ht hg _ 0 s00 c (Nat.zero_le _) (.inl rfl) hm h).2⟩
 ·obtain ⟨p, x, hD⟩ := goQ_none ht hg _ 0 s00 (.inl rfl) h
  rw [dead_back ht hg hD p 0 (by omega) s00 (.inl rfl)]
  omega
 ·cases hq : plainT t l with
  | none => rfl
  | some c => have := (goQ_cost ht hg _ 0 s00 c (Nat.zero_le _) (.inl rfl) hm hq).1; omega
end Go.Dx
end

section
/- Chapter 08, in plain Lean: two texts with a blank between them (Together). No program in sight. -/
namespace Go.Dx
end Go.Dx
end

section
/- Chapter 08, in plain Lean: the section's example. No program in sight. -/
namespace Go.Dx
def lettersD (n : Nat) : List Ru := (List.range n).map fun i => ⟨⟨#[UInt8.ofNat (97 + i)]⟩, 0, [UInt8.ofNat (1 + i)]⟩
def twoD : List Ru := [⟨⟨#[97, 110]⟩, 0, [27]⟩, ⟨⟨#[97, 110, 100]⟩, 0, [28]⟩]
def exD : Ta := { l0 := lettersD 26 ++ twoD, l1 := lettersD 26 ++ twoD, dig := [1, 2, 3, 4, 5, 6, 7, 8, 9, 10], cap := [40], num := [41], fin := [42], sw := [43] }
def handL : List Sy := [⟨0, 104⟩, ⟨0, 97⟩, ⟨0, 110⟩, ⟨0, 100⟩]
def abL : List Sy := [⟨0, 97⟩, ⟨0, 32⟩, ⟨0, 98⟩]
theorem exD_valid : validE exD = 0 := by decide +kernel
theorem exD_path : cellsP (pathT exD handL) = [8, 28] := by decide +kernel
theorem exD_plain : plainT exD handL = some [8, 1, 14, 4] := by decide +kernel
end Go.Dx
end

section
/- Chapter 08, in plain Lean: what the functions answer. No program in sight. -/
namespace Go.Dx
def fitsE (t : Ta) (l : List Sy) : Int := if validE t ≠ 0 then validE t else if goodS l = false then 1 else if 2048 < l.length then 4 else 0
theorem fitsE_ok {t : Ta} {l : List Sy} (h : fitsE t l = 0) : validE t = 0 ∧ goodS l = true ∧ l.length ≤ 2048 := by
 unfold fitsE at h
 by_cases h1 : validE t ≠ 0
 ·rw [if_pos h1] at h; exact absurd h h1
 ·rw [if_neg h1] at h
  cases hg : goodS l
  ·rw [if_pos hg] at h; cases h
  ·rw [if_neg (by rw [hg]; simp)] at h
   split at h
   ·cases h
   ·exact ⟨by simpa using h1, rfl, by omega⟩
theorem fitsE_of {t : Ta} {l : List Sy} (h1 : validE t = 0) (h2 : goodS l = true) (h3 : l.length ≤ 2048) : fitsE t l = 0 := by
 unfold fitsE
 rw [if_neg (by simp [h1]), if_neg (by simp [h2]), if_neg (by omega)]
def numV (t : Ta) (l : List Sy) : Int := valA (numT t l) 0 s00
def trE (t : Ta) (l : List Sy) : Int := if fitsE t l ≠ 0 then fitsE t l else if numV t l < 0 then 6 else 0
theorem trE_ok {t : Ta} {l : List Sy} (h : trE t l = 0) : fitsE t l = 0 ∧ 0 ≤ numV t l := by
 unfold trE at h
 by_cases h1 : fitsE t l ≠ 0
 ·rw [if_pos h1] at h; exact absurd h h1
 ·rw [if_neg h1] at h
  split at h
  ·cases h
  ·exact ⟨by simpa using h1, by omega⟩
def chE (t : Ta) (l : List Sy) (cells : List UInt8) (taken : List Int) (least : Nums) : Int :=
 if fitsE t l ≠ 0 then fitsE t l else if least = numT t l ∧ (followF t l taken 0 s00 cells).isSome = true ∧ (cells.length : Int) = numV t l then 0 else 19
theorem chE_path {t : Ta} {l : List Sy} (h : trE t l = 0) : chE t l (cellsP (pathT t l)) (takenP (pathT t l)) (numT t l) = 0 := by
 obtain ⟨h1, h2⟩ := trE_ok h
 obtain ⟨hv, hg, _⟩ := fitsE_ok h1
 unfold chE
 rw [if_neg (by simp [h1]), if_pos ⟨rfl, by rw [follow_path hv hg h2]; rfl, path_cost hv hg h2⟩]
def rowW (t : Ta) (l : List Sy) (a : Nat) : List Nat → Option (List Int)
 | [] => some []
 | b :: r => if trE t ((l.drop a).take (b - a)) ≠ 0 then none else (rowW t l a r).map (numV t ((l.drop a).take (b - a)) :: ·)
def widW (t : Ta) (l : List Sy) : List Nat → Option (List (List Int))
 | [] => some []
 | a :: r => if r = [] then some [] else match rowW t l a r with
  | none => none
  | some x => (widW t l r).map (x :: ·)
end Go.Dx
end

section
/- More laws of the walk: a slice literal of one element that is an array or a struct; a slice to an array. No program in sight. -/
namespace Go.Dx
open Go.RowKit

section ops
variable {P : Program} {w : World} {ops : Array Oper} {rest : List Oper} {act : Act} {Q : Exit → Act → World → Prop}
 {ty : TypeId} {pos : String} {after : Array Edge}
theorem to_array (d : Nat) (t : TypeId) (x : Operand) (n e : Nat) (ht : P.underlying t = some (.array n e)) (a : Option Addr) (len c : Nat) (hx : act.eval x = .slice a len c) (hn : n ≤ len)
  (hK : wpList P ops Q rest (act.put (some d) (.pointer a)) w) :
  wpList P ops Q ({ dst := some d, op := .sliceToArrayPointer t x, type := ty, pos := pos, after := after, guard := none } :: rest) act w := by
 refine wpList_plain rfl fun K hK' => ?_
 have hrun : (Instr.arrayAt t (.slice a len c)).run P w = .ok (.pointer a) w := by
  simp [Instr.arrayAt, run_underlying ht, Nat.not_lt.2 hn]
 unfold Oper.wp
 simp [execOp, hx, hrun, Result.andThen]
 exact hK' _ _ hK
end ops

theorem run_forIn_eq {P : Program} (w : World) (n : Nat) (xs ys : List Int) (hx : xs.length = n) (hy : ys.length = n) (F : Nat → Option Bool × Unit → Sem (ForInStep (Option Bool × Unit)))
  (hF : ∀ i s, i < n → (F i s).run P w = .ok (if xs[i]? = ys[i]? then ForInStep.yield (none, ()) else ForInStep.done (some false, ())) w) :
  ∀ (m s : Nat), s + m = n → (forIn (List.range' s m) ((none, ()) : Option Bool × Unit) F).run P w = .ok (if xs.drop s = ys.drop s then (none, ()) else (some false, ())) w := by
 intro m
 induction m with
 | zero =>
  intro s hs
  rw [List.drop_eq_nil_of_le (by omega), List.drop_eq_nil_of_le (by omega)]
  simp [Sem.run_pure]
 | succ m ih =>
  intro s hs
  rw [List.range'_succ, List.forIn_cons, Sem.run_bind, hF s _ (by omega)]
  have ex : xs.drop s = xs[s]'(by omega) :: xs.drop (s + 1) := List.drop_eq_getElem_cons (by omega)
  have ey : ys.drop s = ys[s]'(by omega) :: ys.drop (s + 1) := List.drop_eq_getElem_cons (by omega)
  rw [ex, ey]
  by_cases h : xs[s]? = ys[s]?
  ·rw [if_pos h, Result.andThen_ok]
   have h2 : xs[s]'(by omega) = ys[s]'(by omega) := by
    rw [List.getElem?_eq_getElem (by omega), List.getElem?_eq_getElem (by omega)] at h
    exact Option.some.inj h
   simp only [ih (s + 1) (by omega), h2, List.cons.injEq, true_and]
  ·rw [if_neg h, Result.andThen_ok]
   have h2 : ¬ xs[s]'(by omega) = ys[s]'(by omega) := fun e => h (by rw [List.getElem?_eq_getElem (by omega), List.getElem?_eq_getElem (by omega), e])
   rw [if_neg (fun e => h2 (List.cons.inj e).1)]
   simp only [Sem.run_pure]

theorem run_equalIn_arr {P : Program} (w : World) (d : Nat) (t e n : Nat) (k : IntKind) (ht : P.underlying t = some (.array n e)) (he : P.underlying e = some (.int k)) (hsz : (P.info? e).map (·.size) = some 1)
  (xs ys : List Int) (hx : xs.length = n) (hy : ys.length = n) :
  (Op.equalIn (d + 2) t (.agg (xs.map (Value.int k)).toArray) (.agg (ys.map (Value.int k)).toArray)).run P w = .ok (decide (xs = ys)) w := by
 obtain ⟨i, hi, hs⟩ := Option.map_eq_some_iff.1 hsz
 unfold Op.equalIn
 simp only [Sem.run_bind, run_underlying ht, Result.andThen_ok, sizeOf, typeInfo]
 simp [hi, hs, Std.Legacy.Range.forIn_eq_forIn_range']
 rw [run_forIn_eq w n xs ys hx hy _ ?_ n 0 (by omega)]
 ·simp only [List.drop_zero, Result.andThen_ok]
  by_cases h : xs = ys
  ·simp [h, Sem.run_pure]
  ·simp [h, Sem.run_pure]
 ·intro j s hj
  have h1 : xs[j]? = some xs[j] := List.getElem?_eq_getElem (by omega)
  have h2 : ys[j]? = some ys[j] := List.getElem?_eq_getElem (by omega)
  have p1 : ∀ l : List Int, (hl : l.length = n) → (part e (l.map (Value.int k)).toArray j).run P w = .ok (.int k (l[j]'(by omega))) w := by
   intro l hl
   have h3 : ((l.map (Value.int k)).toArray)[j]? = some (.int k (l[j]'(by omega))) := by simp [hl, hj]
   unfold part
   simp only [Sem.run_bind, isAgg, run_underlying he, Result.andThen_ok, Sem.run_pure]
   simp only [Bool.false_eq_true, if_false, h3, Sem.run_pure]
  simp only [Sem.run_bind, p1 xs hx, p1 ys hy, Result.andThen_ok, run_equalIn_int w d e k k _ _ he]
  by_cases h : xs[j] = ys[j]
  ·simp [h1, h2, h, Sem.run_pure]
  ·simp [h1, h2, h, Sem.run_pure]

theorem run_neq_arr {P : Program} (w : World) (t e n : Nat) (k : IntKind) (ht : P.underlying t = some (.array n e)) (he : P.underlying e = some (.int k)) (hsz : (P.info? e).map (·.size) = some 1)
  (xs ys : List Int) (hx : xs.length = n) (hy : ys.length = n) :
  (binOp .neq t (.agg (xs.map (Value.int k)).toArray) (.agg (ys.map (Value.int k)).toArray)).run P w = .ok (.bool (!decide (xs = ys))) w := by
 rw [run_neq_struct, run_equalIn_arr w 9998 t e n k ht he hsz xs ys hx hy]; rfl

section quiet
variable {P : Program} {w : World} {ops : Array Oper} {rest : List Oper} {act : Act} {Q : Act → Prop} {ty : TypeId} {pos : String} {after : Array Edge}

end quiet
end Go.Dx
end

section
/- Laws on full slices: 'b[:len:len]' and an append behind it, which copies. No program in sight. -/
namespace Go.Dx
open Go.RowKit

section ops
variable {P : Program} {w : World} {ops : Array Oper} {rest : List Oper} {o : Oper} {act : Act} {Q : Exit → Act → World → Prop}
 {ty : TypeId} {pos : String} {after : Array Edge}
end ops
end Go.Dx
end

section
/- Regions that draw their order and whose callees make memory of their own: walked once, at the class 'whatever came on top'. No program in sight. -/
namespace Go.Dx
open Go.RowKit

section
variable {P : Program} {C : World → Prop} {ops : Array Oper} {rest : List Oper} {act : Act} {Q : Act → Prop}
end
end Go.Dx
end

section
/- Blocks that are known whole: local arrays and structs. Laws of the walk on whole loads and stores, cuts of arrays, results that lie in memory. No program in sight. -/
namespace Go.Dx
open Go.RowKit
def Box (w : World) (g : Nat) (t : TypeId) (cs : List Value) : Prop := w.heap[g]? = some (.cells cs.toArray t (0, 0))
section
variable {w w' : World} {g : Nat} {t : TypeId} {cs : List Value}
theorem Box.lt (h : Box w g t cs) : g < w.heap.size := (Array.getElem?_eq_some_iff.1 h).1
theorem Box.cell (h : Box w g t cs) (j : Nat) : w.cell? ⟨g, j, none⟩ = cs[j]? := by rw [cell_of_row w g j cs.toArray t (0, 0) h]; simp
theorem Box.at_ (h : Box w g t cs) {j : Nat} {u : Value} (hu : cs[j]? = some u) : w.cell? ⟨g, j, none⟩ = some u := by rw [h.cell, hu]
theorem Box.new (w : World) (t : TypeId) (us : Array Value) : Box (w.alloc (.cells us t)) w.heap.size t us.toList := heap_alloc_new w _
theorem Box.drew (h : Box w g t cs) : Box w.drew g t cs := h
theorem Box.drewN (h : Box w g t cs) (n : Nat) : Box (w.drewN n) g t cs := h
theorem Box.alloc (h : Box w g t cs) (o : Obj) : Box (w.alloc o) g t cs := (Below.heap_alloc w o g h.lt).trans h
theorem Box.below {B : Nat} (h : Box w g t cs) (hb : Below B w w') (hg : g < B) : Box w' g t cs := (hb.block g hg).trans h
theorem Box.under (h : Box w g t cs) (hb : Below w.heap.size w w') : Box w' g t cs := h.below hb h.lt
theorem Box.grown {row : Option Nat} (h : Box w g t cs) (hb : w.grownBy w' row) (hg : some g ≠ row) : Box w' g t cs := (hb.block g h.lt hg).trans h
theorem Box.sl (h : Box w g t cs) (off n c sz : Nat) (l : List Value) (hl : l.length = n * sz) (hc : n ≤ c) (hm : c ≤ maxLen) (he : ∀ j u, l[j]? = some u → cs[off + j]? = some u) : Sl w sz (some ⟨g, off, none⟩) n c l :=
 ⟨hl, hc, hm, (fun h => by cases h), fun p hp j u hj => by cases hp; rw [Addr.add_lit]; exact h.at_ (he j u hj)⟩
end

theorem belowN {B : Nat} {a w : World} (h : Below B a w) (n : Nat) : Below B a (w.drewN n) := ⟨h.os, h.tape, h.output, h.size, h.block⟩
section run
variable {P : Program} {w : World}
def IsAgg (P : Program) (t : TypeId) : Prop := (∃ n e, P.underlying t = some (.array n e)) ∨ ∃ fs, P.underlying t = some (.struct fs)
theorem run_isAgg {t : TypeId} (h : IsAgg P t) : (isAgg t).run P w = .ok true w := by
 rcases h with ⟨n, e, h⟩ | ⟨fs, h⟩ <;> simp [isAgg, run_underlying h]
theorem run_loadVar_box {t e : TypeId} {g off : Nat} {old cs : List Value} (hag : IsAgg P t) (hsz : (P.info? t).map (·.size) = some cs.length) (hb : Box w g e old) (hc : ∀ j u, cs[j]? = some u → old[off + j]? = some u) :
  (loadVar t ⟨g, off, none⟩).run P w = .ok (.agg cs.toArray) w := by
 obtain ⟨i, hi, hs0⟩ := Option.map_eq_some_iff.1 hsz
 have hl := run_loadCells_list (P := P) w ⟨g, off, none⟩ cs (fun j u hj => by rw [Addr.add_lit]; exact hb.at_ (hc j u hj))
 simp [loadVar, run_isAgg hag, sizeOf, typeInfo, hi, hs0, hl]
theorem run_results_cell {fn : Func} {tmps : Array Value} {t : Tmp} {ty e : TypeId} {g : Nat} {cs : List Value} (hr : fn.results = #[.cell t ty]) (ht : tmps.getD t undef = .pointer (some ⟨g, 0, none⟩)) (hag : IsAgg P ty) (hsz : (P.info? ty).map (·.size) = some cs.length)
  (hb : Box w g e cs) : (results fn tmps).run P w = .ok (.agg cs.toArray) w := by
 have hl := run_loadVar_box (P := P) (off := 0) hag hsz hb (fun j u hj => by rw [Nat.zero_add]; exact hj)
 have ht2 : tmps[t]?.getD undef = .pointer (some ⟨g, 0, none⟩) := by rw [← ht]; simp
 simp only [results, hr]
 simp [ht2, asAddr, hl]
end run

section ops
variable {P : Program} {w : World} {ops : Array Oper} {rest : List Oper} {act : Act} {Q : Exit → Act → World → Prop}
 {ty : TypeId} {pos : String} {after : Array Edge}
theorem store_box (t : TypeId) (x y : Operand) (e : TypeId) (g off : Nat) (old cs : List Value) (v : Value) (hsz : (P.info? t).map (·.size) = some cs.length) (hb : Box w g e old) (hx : act.eval x = .pointer (some ⟨g, off, none⟩))
  (hy : act.eval y = v) (hv : v.cells = cs.toArray) (hl : off + cs.length ≤ old.length) (h1 : ∀ u ∈ cs, u.oneCell' = true)
  (hK : ∀ w', Box w' g e (old.take off ++ cs ++ old.drop (off + cs.length)) → w.grownBy w' (some g) → w'.heap.size = w.heap.size → wpList P ops Q rest act w') :
  wpList P ops Q ({ dst := none, op := .store t x y, type := ty, pos := pos, after := after, guard := none } :: rest) act w := by
 refine wpList_plain rfl fun K hK' => ?_
 obtain ⟨i, hi, hs0⟩ := Option.map_eq_some_iff.1 hsz
 have hst := run_storeCells_at P g off e cs 0 old.toArray w hb (by simpa using hl) h1
 simp only [Nat.add_zero, List.toList_toArray] at hst
 have hrun : (Instr.storeAt t (.pointer (some ⟨g, off, none⟩)) v).run P w = .ok () (w.setRow g (old.take off ++ cs ++ old.drop (off + cs.length)).toArray) := by
  simp [Instr.storeAt, Instr.sureAddr, storeVar, sizeOf, typeInfo, hi, hs0, hv, hst]
 unfold Oper.wp
 simp [execOp, hx, hy, hrun, Result.andThen]
 refine hK' _ _ (hK _ ?_ ⟨rfl, rfl, rfl, by simp [World.setRow], fun k _ hk => setRow_other w g k _ (fun e => hk (by rw [e]))⟩ (by simp [World.setRow]))
 have := setRow_heap w g old.toArray (old.take off ++ cs ++ old.drop (off + cs.length)).toArray e (0, 0) hb
 simpa [Box] using this
theorem store_all (t : TypeId) (x y : Operand) (e : TypeId) (g : Nat) (old cs : List Value) (v : Value) (hsz : (P.info? t).map (·.size) = some cs.length) (hb : Box w g e old) (hx : act.eval x = .pointer (some ⟨g, 0, none⟩))
  (hy : act.eval y = v) (hv : v.cells = cs.toArray) (hl : cs.length = old.length) (h1 : ∀ u ∈ cs, u.oneCell' = true)
  (hK : ∀ w', Box w' g e cs → w.grownBy w' (some g) → w'.heap.size = w.heap.size → wpList P ops Q rest act w') :
  wpList P ops Q ({ dst := none, op := .store t x y, type := ty, pos := pos, after := after, guard := none } :: rest) act w :=
 store_box t x y e g 0 old cs v hsz hb hx hy hv (by omega) h1 (fun w' hb' hg hs => hK w' (by
  have e1 : old.drop (0 + cs.length) = [] := List.drop_eq_nil_of_le (by omega)
  rw [e1, List.take_zero, List.nil_append, List.append_nil] at hb'
  exact hb') hg hs)
theorem val_at {o : Oper} (hg : o.guard = none) (v : Value) (h : (execOp act.eval o).run P w = .ok (.value v) w) (hK : wpList P ops Q rest (act.put o.dst v) w) : wpList P ops Q (o :: rest) act w := by
 refine wpList_plain hg fun K hK' => ?_
 unfold Oper.wp
 rw [h]
 exact hK' _ _ hK
theorem store_cell (t : TypeId) (x y : Operand) (e : TypeId) (g j : Nat) (old : List Value) (v : Value) (hsz : (P.info? t).map (·.size) = some 1) (hb : Box w g e old) (hx : act.eval x = .pointer (some ⟨g, j, none⟩))
  (hy : act.eval y = v) (h1 : v.oneCell' = true) (hv : v.cells = #[v]) (hj : j < old.length)
  (hK : ∀ w', Box w' g e (old.set j v) → w.grownBy w' (some g) → w'.heap.size = w.heap.size → wpList P ops Q rest act w') :
  wpList P ops Q ({ dst := none, op := .store t x y, type := ty, pos := pos, after := after, guard := none } :: rest) act w :=
 store_box t x y e g j old [v] v hsz hb hx hy hv (by simp; omega) (by simpa using h1) (fun w' hb' hg hs => hK w' (by
  have e : old.take j ++ [v] ++ old.drop (j + [v].length) = old.set j v := by
   rw [List.set_eq_take_append_cons_drop, if_pos hj]
   simp
  rw [e] at hb'
  exact hb') hg hs)
end ops
section still
variable {P : Program} {w : World} {ops : Array Oper} {rest : List Oper} {act : Act} {Q : Act → Prop}
theorem still_at {o : Oper} (v : Value) (hw : Region.wanted o (yielded ops act.tmps) = true) (h : (execOp act.eval o).run P w = .ok (.value v) w)
  (hK : wpStill P ops w Q rest (act.put o.dst v)) : wpStill P ops w Q (o :: rest) act := by
 refine wpStill_step fun K hK' => ?_
 rw [if_pos hw]
 unfold Oper.still
 rw [h]
 exact ⟨rfl, hK' _ hK⟩
end still
end Go.Dx
end

section
/- A region that draws its order: a head of quiet operations (reads, and calls that keep a class of worlds), and a tail that waits for the whole head: walked once. No program in sight. -/
namespace Go.Dx
section
variable {P : Program} {ops : Array Oper} {md : Region.Mode} {C : World → Prop}

end
end Go.Dx
end

section
/- More laws on blocks that are known whole: a copy from a string, whole loads in drawn regions. No program in sight. -/
namespace Go.Dx
open Go.RowKit
section
variable {P : Program} {w : World} {ops : Array Oper} {rest : List Oper} {o : Oper} {act : Act} {Q : Exit → Act → World → Prop}
end
section quiet
variable {P : Program} {w : World} {ops : Array Oper} {rest : List Oper} {act : Act} {Q : Act → Prop} {C : World → Prop} {ty : TypeId} {pos : String} {after : Array Edge}
theorem quiet_in {o : Oper} (v : Value) (hw : Region.wanted o (yielded ops act.tmps) = true) (h : ∀ w', C w' → (execOp act.eval o).run P w' = .ok (.value v) w') (hK : wpQuiet P ops C Q rest (act.put o.dst v)) : wpQuiet P ops C Q (o :: rest) act := by
 refine wpQuiet_step fun K hK' => ?_
 rw [if_pos hw]
 refine ⟨v, ?_, hK' _ hK⟩
 intro w' hC
 unfold Oper.quietAt
 rw [h w' hC]
 exact ⟨rfl, rfl⟩
end quiet
section quiet2
variable {P : Program} {w : World} {ops : Array Oper} {rest : List Oper} {act : Act} {Q : Act → Prop} {C : World → Prop} {ty : TypeId} {pos : String} {after : Array Edge}
end quiet2
section guarded
variable {P : Program} {w : World} {ops : Array Oper} {rest : List Oper} {act : Act} {Q : Exit → Act → World → Prop} {ty : TypeId} {pos : String} {after : Array Edge} {g : Option (Nat × Bool)}
theorem unguard_any {dst : Option Nat} {op : Op} (hw : Region.wanted { dst := dst, op := op, type := ty, pos := pos, after := after, guard := g } (yielded ops act.tmps) = true)
  (h : wpList P ops Q ({ dst := dst, op := op, type := ty, pos := pos, after := after, guard := none } :: rest) act w) :
  wpList P ops Q ({ dst := dst, op := op, type := ty, pos := pos, after := after, guard := g } :: rest) act w := by
 have h2 : Region.wanted { dst := dst, op := op, type := ty, pos := pos, after := after, guard := none } (yielded ops act.tmps) = true := rfl
 unfold wpList at h ⊢
 rw [if_pos h2] at h
 rw [if_pos hw]
 exact h
end guarded
end Go.Dx
end

section
/- An index and a store, where the block is known: laws of the walk that do not search the context. No program in sight. -/
namespace Go.Dx
open Go.RowKit
section
variable {P : Program} {w : World} {ops : Array Oper} {rest : List Oper} {act : Act} {Q : Exit → Act → World → Prop} {ty : TypeId} {pos : String} {after : Array Edge}
theorem index_known (d : Nat) (t : TypeId) (x y : Operand) (e : TypeId) (ht : P.underlying t = some (.slice e)) (hsz : (P.info? e).map (·.size) = some 1)
  (b n c : Nat) (hx : act.eval x = .slice (some ⟨b, 0, none⟩) n c) (k : IntKind) (iv : Int) (i : Nat) (hy : act.eval y = .int k iv) (hiv : iv = (i : Int)) (hi : i < n)
  (hK : wpList P ops Q rest (act.put (some d) (.pointer (some ⟨b, i, none⟩))) w) :
  wpList P ops Q ({ dst := some d, op := .indexAddr t x y, type := ty, pos := pos, after := after, guard := none } :: rest) act w := by
 refine wpList_plain rfl fun K hK' => ?_
 obtain ⟨i0, hi0, hs0⟩ := Option.map_eq_some_iff.1 hsz
 subst hiv
 have hrun : (Instr.indexAt t (.slice (some ⟨b, 0, none⟩) n c) (.int k (i : Int))).run P w = .ok (.pointer (some ⟨b, i, none⟩)) w := by
  simp [Instr.indexAt, asIntOf, run_underlying ht, sizeOf, typeInfo, hi0, hs0, hi, Addr.add_lit]
 unfold Oper.wp
 simp [execOp, hx, hy, hrun, Result.andThen]
 exact hK' _ _ hK
end
end Go.Dx
end

section
/- Chapter 08: tables of numbers in memory; make of wide elements. No program in sight. -/
namespace Go.Dx
open Go.RowKit
def rowc (r : List Int) : List Value := r.map I64
def R8 (A : Nums) : Prop := ∀ r ∈ A, r.length = 8
theorem R8.tail {r : List Int} {A : Nums} (h : R8 (r :: A)) : R8 A := fun q hq => h q (List.mem_cons_of_mem _ hq)
theorem R8.get {A : Nums} (h : R8 A) {i : Nat} {r : List Int} (hi : A[i]? = some r) : r.length = 8 := h r (List.mem_of_getElem? hi)
theorem nf_len : ∀ (A : Nums), R8 A → (A.flatMap rowc).length = A.length * 8
 | [], _ => rfl
 | r :: A, h => by
  have h1 := h r (by simp)
  rw [List.flatMap_cons, List.length_append, nf_len A h.tail, List.length_cons]
  unfold rowc
  rw [List.length_map]
  omega
theorem nf_get : ∀ (A : Nums), R8 A → ∀ {i : Nat} {r : List Int}, A[i]? = some r → ∀ {n : Nat} {v : Int}, r[n]? = some v → (A.flatMap rowc)[i * 8 + n]? = some (I64 v)
 | [], _, i, r, hi, _, _, _ => by simp at hi
 | q :: A, h, 0, r, hi, n, v, hn => by
  simp at hi; subst hi
  have h1 := (List.getElem?_eq_some_iff.1 hn).1
  rw [List.flatMap_cons, List.getElem?_append_left (by unfold rowc; rw [List.length_map]; omega)]
  unfold rowc
  rw [Nat.zero_mul, Nat.zero_add, List.getElem?_map, hn]
  rfl
 | q :: A, h, i + 1, r, hi, n, v, hn => by
  have h1 := h q (by simp)
  have h2 : (rowc q).length = 8 := by unfold rowc; rw [List.length_map]; exact h1
  rw [List.flatMap_cons, List.getElem?_append_right (by rw [h2]; omega), h2, show (i + 1) * 8 + n - 8 = i * 8 + n by omega]
  exact nf_get A h.tail (by simpa using hi) hn
theorem nf_set : ∀ (A : Nums), R8 A → ∀ {i : Nat} {r : List Int}, A[i]? = some r → ∀ {n : Nat}, n < 8 → ∀ (v : Int), (A.flatMap rowc).set (i * 8 + n) (I64 v) = (A.set i (r.set n v)).flatMap rowc
 | [], _, i, r, hi, _, _, _ => by simp at hi
 | q :: A, h, 0, r, hi, n, hn, v => by
  simp at hi; subst hi
  have h1 := h q (by simp)
  rw [List.flatMap_cons, List.set_append_left _ _ (by unfold rowc; rw [List.length_map]; omega)]
  simp only [List.set_cons_zero, List.flatMap_cons]
  congr 1
  unfold rowc
  rw [Nat.zero_mul, Nat.zero_add, List.map_set]
 | q :: A, h, i + 1, r, hi, n, hn, v => by
  have h1 := h q (by simp)
  have h2 : (rowc q).length = 8 := by unfold rowc; rw [List.length_map]; exact h1
  rw [List.flatMap_cons, List.set_append_right _ _ (by rw [h2]; omega), h2, show (i + 1) * 8 + n - 8 = i * 8 + n by omega, nf_set A h.tail (by simpa using hi) hn v]
  simp only [List.set_cons_succ, List.flatMap_cons]
theorem nf_zero : ∀ k, (List.replicate k zeros).flatMap rowc = List.replicate (k * 8) (I64 0)
 | 0 => rfl
 | k + 1 => by
  rw [List.replicate_succ, List.flatMap_cons, nf_zero k]
  have : rowc zeros = List.replicate 8 (I64 0) := rfl
  rw [this, List.replicate_append_replicate]
  congr 1
  omega
theorem made_same (z : Array Value) (u : Value) (m : Nat) (hz : 0 < z.size) (h : ∀ i, i < z.size → z[i]? = some u) : (madeCells z m).toList = List.replicate m u := by
 apply List.ext_getElem?
 intro j
 by_cases hj : j < m
 ·have h1 : j % z.size < z.size := Nat.mod_lt _ hz
  have h2 := h _ h1
  rw [List.getElem?_replicate, if_pos hj]
  simp [madeCells, hj]
  rw [Array.getElem?_eq_getElem h1] at h2
  simpa [h1] using h2
 ·rw [List.getElem?_replicate, if_neg hj]
  simp [madeCells, hj]
section
variable {P : Program} {w : World} {ops : Array Oper} {rest : List Oper} {act : Act} {Q : Exit → Act → World → Prop} {ty : TypeId} {pos : String} {after : Array Edge}
theorem make_wide (d : Nat) (t : TypeId) (l c : Operand) (e : TypeId) (z u : Value) (sz bytes : Nat) (ht : P.underlying t = some (.slice e)) (hi : (P.info? e).map (fun i => (i.zero, i.size, i.bytes)) = some (some z, sz, bytes)) (hsz : z.cells.size = sz) (h0 : 0 < sz)
  (hz : ∀ i, i < z.cells.size → z.cells[i]? = some u) (kl kc : IntKind) (v1 v2 : Int) (n : Nat) (hl : act.eval l = .int kl v1) (hc : act.eval c = .int kc v2) (h1 : v1 = (n : Int)) (h2 : v2 = (n : Int)) (hbytes : bytes * n ≤ 281474976710656) (h63 : n ≤ 9223372036854775807)
  (hK : ∀ w', Box w' w.heap.size e (List.replicate (n * sz) u) → Below w.heap.size w w' → wpList P ops Q rest (act.put (some d) (.slice (some ⟨w.heap.size, 0, none⟩) n n)) w') :
  wpList P ops Q ({ dst := some d, op := .makeSlice t l c, type := ty, pos := pos, after := after, guard := none } :: rest) act w := by
 subst h1 h2
 obtain ⟨i0, hi0, hh⟩ := Option.map_eq_some_iff.1 hi
 simp only [Prod.mk.injEq] at hh
 obtain ⟨hz0, hs0, hb0⟩ := hh
 have hb' : (i0.bytes : Int) * (n : Int) ≤ 281474976710656 := by
  have h : ((i0.bytes * n : Nat) : Int) ≤ 281474976710656 := by rw [hb0]; exact Int.ofNat_le.2 hbytes
  rwa [Int.natCast_mul] at h
 have hr := run_make (P := P) w t e i0 z ht hi0 hz0 kl kc n n (by omega) (Int.le_refl _) hb' (by omega)
 simp only [Int.toNat_natCast] at hr
 refine wpList_plain rfl fun K hK' => ?_
 unfold Oper.wp
 simp [execOp, hl, hc, hr, Result.andThen]
 refine hK' _ _ (hK _ ?_ ((Below.refl _ _).alloc (Nat.le_refl _) _))
 have hx := Box.new w e (madeCells z.cells (n * i0.size))
 rw [made_same z.cells u _ (by omega) hz] at hx
 rw [hs0] at hx ⊢
 exact hx
theorem index_knownN (d : Nat) (t : TypeId) (x y : Operand) (e : TypeId) (ht : P.underlying t = some (.slice e)) (sz : Nat) (hsz : (P.info? e).map (·.size) = some sz)
  (b n c : Nat) (hx : act.eval x = .slice (some ⟨b, 0, none⟩) n c) (k : IntKind) (iv : Int) (i : Nat) (hy : act.eval y = .int k iv) (hiv : iv = (i : Int)) (hi : i < n)
  (hK : wpList P ops Q rest (act.put (some d) (.pointer (some ⟨b, i * sz, none⟩))) w) :
  wpList P ops Q ({ dst := some d, op := .indexAddr t x y, type := ty, pos := pos, after := after, guard := none } :: rest) act w := by
 refine wpList_plain rfl fun K hK' => ?_
 obtain ⟨i0, hi0, hs0⟩ := Option.map_eq_some_iff.1 hsz
 subst hiv
 have hrun : (Instr.indexAt t (.slice (some ⟨b, 0, none⟩) n c) (.int k (i : Int))).run P w = .ok (.pointer (some ⟨b, i * sz, none⟩)) w := by
  simp [Instr.indexAt, asIntOf, run_underlying ht, sizeOf, typeInfo, hi0, hs0, hi, Addr.add_lit]
 unfold Oper.wp
 simp [execOp, hx, hy, hrun, Result.andThen]
 exact hK' _ _ hK
theorem index_arrp (d : Nat) (t : TypeId) (x y : Operand) (e : TypeId) (m : Nat) (ht : P.underlying t = some (.array m e)) (hsz : (P.info? e).map (·.size) = some 1)
  (b o : Nat) (hx : act.eval x = .pointer (some ⟨b, o, none⟩)) (k : IntKind) (iv : Int) (i : Nat) (hy : act.eval y = .int k iv) (hiv : iv = (i : Int)) (hi : i < m)
  (hK : wpList P ops Q rest (act.put (some d) (.pointer (some ⟨b, o + i, none⟩))) w) :
  wpList P ops Q ({ dst := some d, op := .indexAddr t x y, type := ty, pos := pos, after := after, guard := none } :: rest) act w := by
 refine wpList_plain rfl fun K hK' => ?_
 obtain ⟨i0, hi0, hs0⟩ := Option.map_eq_some_iff.1 hsz
 subst hiv
 have hrun : (Instr.indexAt t (.pointer (some ⟨b, o, none⟩)) (.int k (i : Int))).run P w = .ok (.pointer (some ⟨b, o + i, none⟩)) w := by
  simp [Instr.indexAt, Instr.sureAddr, asIntOf, run_underlying ht, sizeOf, typeInfo, hi0, hs0, hi, Addr.add_lit]
 unfold Oper.wp
 simp [execOp, hx, hy, hrun, Result.andThen]
 exact hK' _ _ hK
end
end Go.Dx
end

section
/- Chapter 08, in plain Lean: how large the numbers are. No program in sight. -/
namespace Go.Dx
theorem step_cells {t : Ta} (ht : validE t = 0) {s : St} {l : List Sy} {i : Int} {x : Stp} (hx : x ∈ stepsL t s l i) : x.cells.length ≤ 12 := by
 obtain ⟨h10, hcap, hnum, hfin, hsw, _⟩ := good_parts (valid_parts ht).2.2.1
 unfold stepsL at hx
 split at hx
 ·split at hx
  ·cases hx
  ·rename_i y _
   unfold nextL at hx
   split at hx
   ·rw [List.mem_singleton] at hx
    subst hx
    have := indic_le hsw
    simp only
    omega
   ·split at hx
    ·rw [List.mem_singleton] at hx
     subst hx
     have := indic_le hnum
     simp only [List.length_append, List.length_cons, List.length_nil]
     split
     ·simp
     ·omega
    ·obtain ⟨r, hr, _, _, _, hc⟩ := ruleSteps_mem _ _ _ _ _ _ _ _ hx
     have h1 := indic_le (ru_parts (lang_ok (valid_parts ht).2.2.1 _ r hr)).2.2.2.2.1
     have h2 := indic_le hcap
     have h3 := indic_le hfin
     rw [hc, List.length_append]
     have h4 : (headC t s y).length ≤ 8 := by
      unfold headC
      rw [List.length_append]
      split <;> split <;> (try simp only [List.length_nil]) <;> omega
     omega
 ·cases hx
def BdN (A : Nums) (B : Int) : Prop := ∀ r ∈ A, ∀ v ∈ r, -1 ≤ v ∧ v ≤ B
theorem least_bd {f : Stp → Int} {L : List Stp} {B : Int} (hf : ∀ x ∈ L, f x ≤ B) (hc : ∀ x ∈ L, x.cells.length ≤ 12) (hB : 0 ≤ B) : -1 ≤ (leastF f L).2 ∧ (leastF f L).2 ≤ B + 12 := by
 have hF := found f L
 by_cases h2 : (leastF f L).1 < 0
 ·rw [(hF.none h2).2.1]; omega
 ·obtain ⟨x, h3, h4, h5, _⟩ := hF.some (by omega)
  have h6 := List.mem_of_getElem? h3
  have h7 := hf x h6
  have h8 := hc x h6
  rw [h5]
  omega
theorem getD_bd {A : Nums} {B : Int} (h : BdN A B) (hB : 0 ≤ B) (i n : Nat) : -1 ≤ (A.getD i []).getD n 0 ∧ (A.getD i []).getD n 0 ≤ B := by
 rw [List.getD_eq_getElem?_getD (l := A)]
 cases hi : A[i]? with
 | none => simp; omega
 | some r =>
  simp only [Option.getD_some]
  rw [List.getD_eq_getElem?_getD]
  cases hn : r[n]? with
  | none => simp; omega
  | some v => exact h r (List.mem_of_getElem? hi) v (List.mem_of_getElem? hn)
theorem valR_bd {t : Ta} (ht : validE t = 0) {l : List Sy} {i : Nat} {R : Nums} {B : Int} (h : BdN R B) (hB : 0 ≤ B) (n : Nat) : -1 ≤ valR t l i R n ∧ valR t l i R n ≤ B + 12 :=
 least_bd (fun x hx => (getD_bd h hB _ _).2) (fun x hx => step_cells ht hx) hB
theorem sufT_bd {t : Ta} (ht : validE t = 0) (l : List Sy) : ∀ d : Nat, BdN (sufT t l d) (24 * d)
 | 0 => fun r hr v hv => by
  simp [sufT] at hr
  subst hr
  simp [zeros] at hv
  omega
 | d + 1 => fun r hr v hv => by
  have ih := sufT_bd ht l d
  simp only [sufT, List.mem_cons] at hr
  rcases hr with hr | hr
  ·subst hr
   unfold rowT at hv
   obtain ⟨n, _, rfl⟩ := List.mem_map.1 hv
   have h1 := valR_bd ht ih (by omega) (l := l) (i := l.length - (d + 1)) n
   have h2 := valR_bd ht ih (by omega) (l := l) (i := l.length - (d + 1)) (4 * (langAt l (l.length - (d + 1))).toNat)
   have h3 := indic_le (good_parts (valid_parts ht).2.2.1).2.2.2.2.1
   have e : ((d + 1 : Nat) : Int) = (d : Int) + 1 := by omega
   rw [e]
   by_cases c1 : (stN n).lang = langAt l (l.length - (d + 1))
   ·rw [if_pos c1]; omega
   ·rw [if_neg c1]
    by_cases c2 : valR t l (l.length - (d + 1)) (sufT t l d) (4 * (langAt l (l.length - (d + 1))).toNat) < 0
    ·rw [if_pos c2]; omega
    ·rw [if_neg c2]; omega
  ·have := ih r hr v hv
   push_cast
   omega
structure LkT (A : Nums) (at_ : Nat) (x : Stp) : Prop where
 len : 0 ≤ x.len
 lt : at_ + x.len.toNat < A.length
 lang : x.dst.lang = 0 ∨ x.dst.lang = 1
 lo : -1 ≤ lookA A at_ x
 hi : lookA A at_ x ≤ 1000000
 few : x.cells.length ≤ 1000
theorem lkt_all {t : Ta} (ht : validE t = 0) {l : List Sy} (hg : goodS l = true) {i : Nat} (hi : i < l.length) {s : St} (hs : s.lang = 0 ∨ s.lang = 1) {A : Nums} (hA : A.length = l.length + 1) (hB : BdN A 1000000) : ∀ x ∈ stepsL t s l i, LkT A i x := fun x hx => by
 obtain ⟨k1, k2, k3, k4⟩ := step_meas ht hg hi hs hx
 have h1 := getD_bd hB (by omega) (i + x.len.toNat) (numS x.dst)
 have h2 := step_cells ht hx
 exact ⟨k4, by omega, k3, h1.1, h1.2, by omega⟩
theorem updR_bd {p : Nat → Bool} {v : Nat → Int} {B : Int} (hv : ∀ n, -1 ≤ v n ∧ v n ≤ B) : ∀ (k : Nat) (r : List Int), (∀ x ∈ r, -1 ≤ x ∧ x ≤ B) → ∀ x ∈ updR p v k r, -1 ≤ x ∧ x ≤ B
 | 0, r, h, x, hx => h x hx
 | k + 1, r, h, x, hx => by
  simp only [updR] at hx
  split at hx
  ·rcases List.mem_or_eq_of_mem_set hx with h1 | h1
   ·exact updR_bd hv k r h x h1
   ·rw [h1]; exact hv k
  ·exact updR_bd hv k r h x hx
theorem bd_mid {P R : Nums} {r : List Int} {B : Int} (hP : BdN P B) (hr : ∀ v ∈ r, -1 ≤ v ∧ v ≤ B) (hR : BdN R B) : BdN (P ++ r :: R) B := fun q hq => by
 rcases List.mem_append.1 hq with h | h
 ·exact hP q h
 ·rcases List.mem_cons.1 h with h | h
  ·rw [h]; exact hr
  ·exact hR q h
theorem r8_mid {P R : Nums} {r : List Int} (hP : R8 P) (hr : r.length = 8) (hR : R8 R) : R8 (P ++ r :: R) := fun q hq => by
 rcases List.mem_append.1 hq with h | h
 ·exact hP q h
 ·rcases List.mem_cons.1 h with h | h
  ·rw [h]; exact hr
  ·exact hR q h
structure RdT (l : List Sy) (A : Nums) : Prop where
 len : A.length = l.length + 1
 r8 : R8 A
 bd : BdN A 1000000
theorem turn0_ok {t : Ta} (ht : validE t = 0) {l : List Sy} (hg : goodS l = true) (h2048 : l.length ≤ 2048) {P R : Nums} (hP : P.length < l.length) (hP8 : R8 P) (hPb : BdN P 1000000) (hR : R = sufT t l (l.length - (P.length + 1))) (k : Nat) (hk : k ≤ 8) :
  RdT l (turnU t l P.length (langAt l P.length) 0 k (P ++ minus :: R)) := by
 have hH := here_at ht hg hP
 rw [turn0_eq hH minus R k hk]
 have hb := sufT_bd ht l (l.length - (P.length + 1))
 rw [← hR] at hb
 have h8 : R8 R := by rw [hR]; exact sufT_rows t l _
 refine ⟨?_, r8_mid hP8 (by rw [updR_len]; rfl) h8, bd_mid hPb (updR_bd (B := 1000000) (fun n => ?_) k minus (fun v hv => by simp [minus] at hv; omega)) (fun r hr v hv => ?_)⟩
 ·rw [List.length_append, List.length_cons, hR, sufT_len]; omega
 ·have := valR_bd ht hb (by omega) (l := l) (i := P.length) n
  omega
 ·have := hb r hr v hv
  omega
theorem turn1_ok {t : Ta} (ht : validE t = 0) {l : List Sy} (hg : goodS l = true) (h2048 : l.length ≤ 2048) {P R : Nums} (hP : P.length < l.length) (hP8 : R8 P) (hPb : BdN P 1000000) (hR : R = sufT t l (l.length - (P.length + 1))) (k : Nat) (hk : k ≤ 8) :
  RdT l (turnU t l P.length (langAt l P.length) 1 k (turnU t l P.length (langAt l P.length) 0 8 (P ++ minus :: R))) := by
 have hH := here_at ht hg hP
 have hb := sufT_bd ht l (l.length - (P.length + 1))
 rw [← hR] at hb
 have h8 : R8 R := by rw [hR]; exact sufT_rows t l _
 have hg8 : 4 * (langAt l P.length).toNat < 8 := by have := hH.lang; omega
 have hl : (stN (4 * (langAt l P.length).toNat)).lang = langAt l P.length := by rcases hH.lang with e | e <;> rw [e] <;> rfl
 have hz : (updR (fun n => decide ((stN n).lang = langAt l P.length)) (valR t l P.length R) 8 minus)[4 * (langAt l P.length).toNat]? = some (valR t l P.length R (4 * (langAt l P.length).toNat)) := by
  rw [updR_get _ _ _ _ (by show _ < 8; exact hg8), if_pos ⟨hg8, by simp [hl]⟩]
 rw [turn0_eq hH minus R 8 (by omega), turn1_eq hH _ R (by rw [updR_len]; rfl) hz rfl k hk]
 have hv := valR_bd ht hb (by omega) (l := l) (i := P.length) (4 * (langAt l P.length).toNat)
 have hsw := indic_le (good_parts (valid_parts ht).2.2.1).2.2.2.2.1
 refine ⟨?_, r8_mid hP8 (by rw [updR_len, updR_len]; rfl) h8, bd_mid hPb (updR_bd (B := 1000000) (fun n => ?_) k _ (updR_bd (B := 1000000) (fun n => ?_) 8 minus (fun v hv => by simp [minus] at hv; omega))) (fun r hr v hv => ?_)⟩
 ·rw [List.length_append, List.length_cons, hR, sufT_len]; omega
 ·split
  ·omega
  ·omega
 ·have := valR_bd ht hb (by omega) (l := l) (i := P.length) n
  omega
 ·have := hb r hr v hv
  omega
end Go.Dx
end

section
/- Slices whose elements are structs: what they read as, an element's address, an element loaded whole. No program in sight. -/
namespace Go.Dx
open Go.RowKit

section
variable {α : Type} {f : α → List Value} {sz : Nat}
theorem flat_len (hf : ∀ x, (f x).length = sz) : ∀ l : List α, (l.flatMap f).length = l.length * sz
 | [] => by simp
 | x :: l => by rw [List.flatMap_cons, List.length_append, hf, flat_len hf l, List.length_cons, Nat.add_mul]; omega
theorem flat_drop (hf : ∀ x, (f x).length = sz) : ∀ (l : List α) (i : Nat), (l.flatMap f).drop (i * sz) = (l.drop i).flatMap f
 | [], i => by simp
 | x :: l, 0 => by simp
 | x :: l, i + 1 => by
  rw [List.flatMap_cons, List.drop_succ_cons, ← flat_drop hf l i, Nat.add_mul, Nat.one_mul, Nat.add_comm, List.drop_append, hf, Nat.add_sub_cancel_left]
  rw [List.drop_of_length_le (by rw [hf]; omega)]
  rfl
theorem flat_take (hf : ∀ x, (f x).length = sz) : ∀ (l : List α) (i : Nat), (l.flatMap f).take (i * sz) = (l.take i).flatMap f
 | [], i => by simp
 | x :: l, 0 => by simp
 | x :: l, i + 1 => by
  rw [List.flatMap_cons, List.take_succ_cons, List.flatMap_cons, ← flat_take hf l i, Nat.add_mul, Nat.one_mul, Nat.add_comm, List.take_append, hf, Nat.add_sub_cancel_left]
  rw [List.take_of_length_le (by rw [hf]; omega)]
theorem flat_get (hf : ∀ x, (f x).length = sz) {l : List α} {i : Nat} {x : α} (hx : l[i]? = some x) {j : Nat} (hj : j < sz) : (l.flatMap f)[i * sz + j]? = (f x)[j]? := by
 have hi := (List.getElem?_eq_some_iff.1 hx).1
 rw [← List.getElem?_drop, flat_drop hf, List.drop_eq_getElem_cons hi, List.flatMap_cons, List.getElem?_append_left (by rw [hf]; exact hj), (List.getElem?_eq_some_iff.1 hx).2]
theorem Sl.nf (hf : ∀ x, (f x).length = sz) (h0 : 0 < sz) {w : World} {a : Option Addr} {n c : Nat} {l : List α} (h : Sl w sz a n c (l.flatMap f)) : n = l.length := by
 have := h.len
 rw [flat_len hf] at this
 exact (Nat.eq_of_mul_eq_mul_right h0 this).symm
theorem one_flat (hf : ∀ x, ∀ u ∈ f x, u.oneCell' = true) (l : List α) : ∀ u ∈ l.flatMap f, u.oneCell' = true := by
 intro u hu
 obtain ⟨x, _, hx⟩ := List.mem_flatMap.1 hu
 exact hf x u hx
end

section ops
variable {P : Program} {w : World} {ops : Array Oper} {rest : List Oper} {act : Act} {Q : Exit → Act → World → Prop}
 {ty : TypeId} {pos : String} {after : Array Edge}
theorem index_row (d : Nat) (t : TypeId) (x y : Operand) (e : TypeId) (ht : P.underlying t = some (.slice e)) (sz : Nat) (hsz : (P.info? e).map (·.size) = some sz)
  (a : Option Addr) (n c : Nat) (cs : List Value) (hx : act.eval x = .slice a n c) (hs : Sl w sz a n c cs) (k : IntKind) (iv : Int) (i : Nat) (hy : act.eval y = .int k iv) (hiv : iv = (i : Int)) (hi : i < n) (h0 : 0 < sz)
  (hK : ∀ b o, (∀ j u, j < sz → cs[i * sz + j]? = some u → w.cell? ⟨b, o + j, none⟩ = some u) → b < w.heap.size → (∀ p, a = some p → p.block = b) → wpList P ops Q rest (act.put (some d) (.pointer (some ⟨b, o, none⟩))) w) :
  wpList P ops Q ({ dst := some d, op := .indexAddr t x y, type := ty, pos := pos, after := after, guard := none } :: rest) act w := by
 refine wpList_plain rfl fun K hK' => ?_
 have hlen := hs.len
 have hm : (i + 1) * sz ≤ n * sz := Nat.mul_le_mul_right _ hi
 obtain ⟨b, o, rfl, hb, hc⟩ := hs.ex (by rw [hlen]; exact Nat.mul_pos (by omega) h0)
 obtain ⟨i0, hi0, hs0⟩ := Option.map_eq_some_iff.1 hsz
 subst hiv
 have hrun : (Instr.indexAt t (.slice (some ⟨b, o, none⟩) n c) (.int k (i : Int))).run P w = .ok (.pointer (some ⟨b, o + i * sz, none⟩)) w := by
  simp [Instr.indexAt, asIntOf, run_underlying ht, sizeOf, typeInfo, hi0, hs0, hi, Addr.add_lit]
 unfold Oper.wp
 simp [execOp, hx, hy, hrun, Result.andThen]
 exact hK' _ _ (hK b (o + i * sz) (fun j u hj hu => by rw [Nat.add_assoc]; exact hc _ u hu) hb (fun p hp => by cases hp; rfl))
theorem load_struct (d : Nat) (t : TypeId) (x : Operand) (sz : Nat) (hsz : (P.info? t).map (·.size) = some sz) (fs : Array Field) (hag : P.underlying t = some (.struct fs))
  (p : Addr) (hx : act.eval x = .pointer (some p)) (cs : List Value) (hl : cs.length = sz) (hc : ∀ j u, cs[j]? = some u → w.cell? (p.add j) = some u)
  (hK : wpList P ops Q rest (act.put (some d) (.agg cs.toArray)) w) :
  wpList P ops Q ({ dst := some d, op := .load t x, type := ty, pos := pos, after := after, guard := none } :: rest) act w := by
 refine wpList_plain rfl fun K hK' => ?_
 obtain ⟨i, hi, hs0⟩ := Option.map_eq_some_iff.1 hsz
 subst hs0
 have hrun : (Instr.loadAt t (.pointer (some p))).run P w = .ok (.agg cs.toArray) w := by
  have hl2 := run_loadCells_list (P := P) w p cs hc
  rw [hl] at hl2
  simp [Instr.loadAt, Instr.sureAddr, loadVar, isAgg, run_underlying hag, sizeOf, typeInfo, hi, hl2]
 unfold Oper.wp
 simp [execOp, hx, hrun, Result.andThen]
 exact hK' _ _ hK
end ops
abbrev RH := Ru × (Option Addr × Nat × Nat)
def hdv (h : Option Addr × Nat × Nat) : Value := .slice h.1 h.2.1 h.2.2
def rc (p : RH) : List Value := [.string p.1.text, .int .i64 p.1.whr, hdv p.2]
theorem rc_len (p : RH) : (rc p).length = 3 := rfl
theorem rc_one (p : RH) : ∀ u ∈ rc p, u.oneCell' = true := by simp [rc, hdv, Value.oneCell']
def sc (x : Sy) : List Value := [.int .i64 x.lang, .int .u8 (x.c.toNat : Int)]
theorem sc_len (x : Sy) : (sc x).length = 2 := rfl
theorem sc_one (x : Sy) : ∀ u ∈ sc x, u.oneCell' = true := by simp [sc, Value.oneCell']
abbrev SH := Stp × (Option Addr × Nat × Nat)
def stc (p : SH) : List Value := [.int .i64 p.1.dst.lang, .bool p.1.dst.num, .bool p.1.dst.wrd, .int .i64 p.1.len, hdv p.2, .int .i64 p.1.rule]
theorem stc_len (p : SH) : (stc p).length = 6 := rfl
theorem stc_one (p : SH) : ∀ u ∈ stc p, u.oneCell' = true := by simp [stc, hdv, Value.oneCell']
structure Rul (w : World) (a : Option Addr) (n c : Nat) (ps : List RH) : Prop where
 top : Sl w 3 a n c (ps.flatMap rc)
 row : ∀ p ∈ ps, Sl w 1 p.2.1 p.2.2.1 p.2.2.2 (p.1.cells.map B8) ∧ p.1.text.size ≤ 1000
def rus (ps : List RH) : List Ru := ps.map (·.1)
theorem Rul.n_eq {w : World} {a : Option Addr} {n c : Nat} {ps : List RH} (h : Rul w a n c ps) : n = ps.length := h.top.nf rc_len (by decide)
theorem Rul.below {w w' : World} {a : Option Addr} {n c : Nat} {ps : List RH} (h : Rul w a n c ps) (hb : Below w.heap.size w w') : Rul w' a n c ps :=
 ⟨h.top.below hb, fun p hp => ⟨(h.row p hp).1.below hb, (h.row p hp).2⟩⟩
structure TH where
 r0 : Option Addr × Nat × Nat
 r1 : Option Addr × Nat × Nat
 p0 : List RH
 p1 : List RH
 d : Option Addr × Nat × Nat
 c : Option Addr × Nat × Nat
 n : Option Addr × Nat × Nat
 f : Option Addr × Nat × Nat
 s : Option Addr × Nat × Nat
def TH.v (H : TH) : Value := .agg #[hdv H.r0, hdv H.r1, hdv H.d, hdv H.c, hdv H.n, hdv H.f, hdv H.s]
structure TaIs (w : World) (H : TH) (t : Ta) : Prop where
 l0 : Rul w H.r0.1 H.r0.2.1 H.r0.2.2 H.p0
 l1 : Rul w H.r1.1 H.r1.2.1 H.r1.2.2 H.p1
 e0 : rus H.p0 = t.l0
 e1 : rus H.p1 = t.l1
 d : Sl w 1 H.d.1 H.d.2.1 H.d.2.2 (t.dig.map B8)
 c : Sl w 1 H.c.1 H.c.2.1 H.c.2.2 (t.cap.map B8)
 n : Sl w 1 H.n.1 H.n.2.1 H.n.2.2 (t.num.map B8)
 f : Sl w 1 H.f.1 H.f.2.1 H.f.2.2 (t.fin.map B8)
 s : Sl w 1 H.s.1 H.s.2.1 H.s.2.2 (t.sw.map B8)
theorem TaIs.below {w w' : World} {H : TH} {t : Ta} (h : TaIs w H t) (hb : Below w.heap.size w w') : TaIs w' H t :=
 ⟨h.l0.below hb, h.l1.below hb, h.e0, h.e1, h.d.below hb, h.c.below hb, h.n.below hb, h.f.below hb, h.s.below hb⟩
structure Stl (w : World) (a : Option Addr) (n c : Nat) (ps : List SH) (l : List Stp) : Prop where
 top : Sl w 6 a n c (ps.flatMap stc)
 row : ∀ p ∈ ps, Sl w 1 p.2.1 p.2.2.1 p.2.2.2 (p.1.cells.map B8)
 eq : ps.map (·.1) = l
theorem Stl.below {w w' : World} {a : Option Addr} {n c : Nat} {ps : List SH} {l : List Stp} (h : Stl w a n c ps l) (hb : Below w.heap.size w w') : Stl w' a n c ps l :=
 ⟨h.top.below hb, fun p hp => (h.row p hp).below hb, h.eq⟩
end Go.Dx
end

section
/- Chapter 06, in plain Lean: the tables that the generator makes are valid. No program in sight. -/
namespace Go.Dx
structure Raw (l : List Ru) : Prop where
 ok : ∀ r ∈ l, ruOk r = true
 own : ∀ c, (isS c = true ∨ isM c = true) → ([c], (0 : Int)) ∈ l.map nameOf
 len : l.length ≤ 90
structure OnceOf (l out : List Ru) : Prop where
 sub : ∀ r ∈ out, r ∈ l
 names : ∀ n, n ∈ l.map nameOf → n ∈ out.map nameOf
 nodup : (out.map nameOf).Nodup
 len : out.length ≤ l.length
theorem once_step {l out : List Ru} (h : OnceOf l out) (r : Ru) : OnceOf (l ++ [r]) (if isIn (out.map nmOf) (nmOf r) then out else out ++ [r]) := by
 rw [isIn_eq]
 by_cases hn : (chars (nmOf r).1, (nmOf r).2) ∈ out.map nameOf
 ·rw [decide_eq_true hn, if_pos rfl]
  refine ⟨fun q hq => List.mem_append_left _ (h.sub q hq), ?_, h.nodup, by rw [List.length_append]; exact Nat.le_trans h.len (by omega)⟩
  intro n h2
  rw [List.map_append, List.mem_append] at h2
  rcases h2 with h2 | h2
  ·exact h.names n h2
  ·simp only [List.map_cons, List.map_nil, List.mem_singleton] at h2
   subst h2; exact hn
 ·rw [decide_eq_false hn, if_neg (by simp)]
  refine ⟨?_, ?_, ?_, by rw [List.length_append, List.length_append]; have := h.len; simp; omega⟩
  ·intro q hq
   rcases List.mem_append.1 hq with hq | hq
   ·exact List.mem_append_left _ (h.sub q hq)
   ·exact List.mem_append_right _ hq
  ·intro n h2
   rw [List.map_append, List.mem_append] at h2 ⊢
   rcases h2 with h2 | h2
   ·exact .inl (h.names n h2)
   ·exact .inr h2
  ·rw [List.map_append, List.nodup_append]
   refine ⟨h.nodup, by simp, ?_⟩
   intro a h1 b h2 e
   simp only [List.map_cons, List.map_nil, List.mem_singleton] at h2
   subst h2; subst e
   exact hn h1
theorem onceOf_nil : OnceOf [] [] := ⟨fun _ h => h, fun _ h => h, by simp, Nat.le_refl _⟩
theorem own_once {l out : List Ru} (hr : Raw l) (h : OnceOf l out) (c : UInt8) (hc : isS c = true ∨ isM c = true) : ownB out c = true := by
 unfold ownB
 exact decide_eq_true (h.names _ (hr.own c hc))
theorem isS_nat (k : Nat) (hk : k < 26) : isS (UInt8.ofNat (97 + k)) = true := by
 have e : (UInt8.ofNat (97 + k)).toNat = 97 + k := by rw [UInt8.toNat_ofNat']; omega
 unfold isS
 rw [e]; simp; omega
theorem once_miss {l out : List Ru} (hr : Raw l) (h : OnceOf l out) : missB out = false := by
 refine miss_no fun j hj => own_once hr h _ (.inl (isS_nat j hj))
theorem good_tables {t : Ta} {L0 L1 : List Ru} (h0 : Raw L0) (h1 : Raw L1) (o0 : OnceOf L0 t.l0) (o1 : OnceOf L1 t.l1) (hd : t.dig.length = 10) (hdc : okCells t.dig = true) (hc : indic t.cap = true) (hn : indic t.num = true) (hf : indic t.fin = true) (hs : indic t.sw = true) : GoodTa t := by
 constructor
 ·unfold validE
  have l0 := o0.len
  have l1 := o1.len
  have q0 := h0.len
  have q1 := h1.len
  rw [if_neg (by omega)]
  have hg : goodT t = true := by
   unfold goodT
   simp only [Bool.and_eq_true, decide_eq_true_eq, List.all_eq_true]
   exact ⟨⟨⟨⟨⟨⟨⟨hd, hdc⟩, hc⟩, hn⟩, hf⟩, hs⟩, fun r hr => h0.ok r (o0.sub r hr)⟩, fun r hr => h1.ok r (o1.sub r hr)⟩
  rw [hg, if_neg (by simp)]
  have d0 : dupB t.l0 = false := by unfold dupB; simp [o0.nodup]
  have d1 : dupB t.l1 = false := by unfold dupB; simp [o1.nodup]
  rw [d0, d1, once_miss h0 o0, once_miss h1 o1]
  rfl
 ·intro g c hc
  unfold langOf
  split
  ·exact own_once h0 o0 c (.inr hc)
  ·exact own_once h1 o1 c (.inr hc)
structure Raw1 (l : List Ru) (k : Nat) : Prop where
 ok : ∀ r ∈ l, ruOk r = true
 own : ∀ j, j < k → ([UInt8.ofNat (97 + j)], (0 : Int)) ∈ l.map nameOf
 len : l.length = k
theorem Raw1.zero : Raw1 [] 0 := ⟨fun _ h => by simp at h, fun j h => by omega, rfl⟩
theorem one_ok {v : UInt8} (h : cellOk v = true) : indic [v] = true := by simp [indic, okCells, h]
theorem two_ok {v u : UInt8} (h : cellOk v = true) (h2 : cellOk u = true) : indic [v, u] = true := by simp [indic, okCells, h, h2]
theorem size_chars (s : ByteArray) : s.size = (chars s).length := (Array.length_toList).symm
theorem letter_ok {s : ByteArray} {j : Nat} (hj : j < 26) (hs : chars s = [UInt8.ofNat (97 + j)]) {cs : List UInt8} (hc : indic cs = true) : ruOk ⟨s, 0, cs⟩ = true := by
 have hi := isS_nat j hj
 generalize UInt8.ofNat (97 + j) = u at hs hi
 unfold ruOk small
 rw [size_chars]
 simp [hs, hc, hi]
theorem Raw1.step {l : List Ru} {k : Nat} (h : Raw1 l k) (hk : k < 26) {s : ByteArray} (hs : chars s = [UInt8.ofNat (97 + k)]) {v : UInt8} (hv : cellOk v = true) : Raw1 (l ++ [⟨s, 0, [v]⟩]) (k + 1) := by
 refine ⟨?_, ?_, by rw [List.length_append, h.len]; rfl⟩
 ·intro r hr
  rcases List.mem_append.1 hr with hr | hr
  ·exact h.ok r hr
  ·rw [List.mem_singleton] at hr; subst hr; exact letter_ok hk hs (one_ok hv)
 ·intro j hj
  rw [List.map_append, List.mem_append]
  by_cases e : j = k
  ·subst e; right; simp [nameOf, hs]
  ·left; exact h.own j (by omega)
def marks6 : List UInt8 := [32, 46, 44, 63, 39, 45]
structure Raw2 (l : List Ru) (k : Nat) : Prop where
 ok : ∀ r ∈ l, ruOk r = true
 own : ∀ j, j < 26 → ([UInt8.ofNat (97 + j)], (0 : Int)) ∈ l.map nameOf
 mark : ∀ c, c ∈ marks6.take k → ([c], (0 : Int)) ∈ l.map nameOf
 len : l.length = 26 + k
theorem Raw2.zero {l : List Ru} (h : Raw1 l 26) : Raw2 l 0 := ⟨h.ok, h.own, fun c hc => by simp at hc, h.len⟩
theorem mark_ok : ∀ c ∈ marks6, (isW c && !isL c && !isD c) = true ∧ isS c = false := by decide
theorem Raw2.step {l : List Ru} {k : Nat} (h : Raw2 l k) {c : UInt8} (hk : marks6[k]? = some c) {s : ByteArray} (hs : chars s = [c]) {v : UInt8} (hv : cellOk v = true) : Raw2 (l ++ [⟨s, 0, [v]⟩]) (k + 1) := by
 refine ⟨?_, ?_, ?_, by rw [List.length_append, h.len]; rfl⟩
 ·intro r hr
  rcases List.mem_append.1 hr with hr | hr
  ·exact h.ok r hr
  ·rw [List.mem_singleton] at hr
   subst hr
   obtain ⟨h1, h2⟩ := mark_ok c (List.mem_of_getElem? hk)
   unfold ruOk small oneMark
   rw [size_chars]
   simp [hs, h1, h2, one_ok hv]
 ·intro j hj
  rw [List.map_append, List.mem_append]
  exact .inl (h.own j hj)
 ·intro d hd
  rw [List.map_append, List.mem_append]
  rw [List.take_add_one, hk, List.mem_append] at hd
  rcases hd with hd | hd
  ·exact .inl (h.mark d hd)
  ·simp only [Option.toList_some, List.mem_singleton] at hd
   subst hd
   right; simp [nameOf, hs]
structure Raw3 (l : List Ru) (k : Nat) : Prop where
 ok : ∀ r ∈ l, ruOk r = true
 own : ∀ c, (isS c = true ∨ isM c = true) → ([c], (0 : Int)) ∈ l.map nameOf
 len : l.length = 32 + k
theorem Raw3.zero {l : List Ru} (h : Raw2 l 6) : Raw3 l 0 := by
 refine ⟨h.ok, ?_, h.len⟩
 intro c hc
 rcases hc with hc | hc
 ·have hc2 := hc
  unfold isS at hc2
  simp only [Bool.and_eq_true, decide_eq_true_eq] at hc2
  have := h.own (c.toNat - 97) (by omega)
  have e : 97 + (c.toNat - 97) = c.toNat := by omega
  rw [e, UInt8.ofNat_toNat] at this
  exact this
 ·refine h.mark c ?_
  unfold isM at hc
  simpa [marks6] using hc
theorem Raw3.step {l : List Ru} {k : Nat} (h : Raw3 l k) {r : Ru} (hr : ruOk r = true) : Raw3 (l ++ [r]) (k + 1) := by
 refine ⟨?_, ?_, by rw [List.length_append, h.len]; rfl⟩
 ·intro q hq
  rcases List.mem_append.1 hq with hq | hq
  ·exact h.ok q hq
  ·rw [List.mem_singleton] at hq; subst hq; exact hr
 ·intro c hc
  rw [List.map_append, List.mem_append]
  exact .inl (h.own c hc)
theorem Raw3.raw {l : List Ru} {k : Nat} (h : Raw3 l k) (hk : k ≤ 50) : Raw l := ⟨h.ok, h.own, by rw [h.len]; omega⟩
end Go.Dx
end

section
/- The seat's numbers of types, and the laws on append at each slice type. -/
namespace Go.Proofs.Ytlpkicjijlcbfaa
open Go.RowKit Go.Dx

theorem info_int : (Try.prog.info? 3).map (fun i => (i.zero, i.size, i.bytes)) = some (some (.int .i64 0), 1, 8) := by kernel_rfl
theorem info_u8 : (Try.prog.info? 5).map (fun i => (i.zero, i.size, i.bytes)) = some (some (.int .u8 0), 1, 1) := by kernel_rfl


theorem size_int : (Try.prog.info? 3).map (·.size) = some 1 := by kernel_rfl
theorem size_u8 : (Try.prog.info? 5).map (·.size) = some 1 := by kernel_rfl
section
variable {w : World} {ops : Array Oper} {rest : List Oper} {o : Oper} {act : Act} {Q : Exit → Act → World → Prop}
theorem app_b (hg : o.guard = none) (s x : Operand) (hop : o.op = Op.call { callee := Callee.builtin Builtin.append, args := #[s, x], argTypes := #[27, 27] })
  (w0 : World) (B : Nat) (a : Option Addr) (n c : Nat) (xs : List Value) (hs : act.eval s = .slice a n c) (hown : Own w B 5 1 a n c xs)
  (u : Int) (hx : act.eval x = .slice (some ⟨w.heap.size, 0, none⟩) 1 1)
  (hn : n + 1 ≤ 140737488355328) (hB : B ≤ w.heap.size) (hbel : Below B w0 w)
  (hK : ∀ a' c' w', Own w' B 5 1 a' (n + 1) c' (xs ++ [.int .u8 u]) → w.grownBy w' (a.map (·.block)) → Below B w0 w' → wpList Try.prog ops Q rest (act.put o.dst (.slice a' (n + 1) c')) w') :
  wpList Try.prog ops Q (o :: rest) act (w.alloc (.cells #[.int .u8 u] 5)) :=
 append_lit hg s x 27 hop 5 (.int .u8 0) 1 1 Try.underlying27 info_u8 rfl w0 B a n c xs hs hown 1 [.int .u8 u] hx rfl (by simp [Value.oneCell']) (by omega) (by unfold maxLen; omega) hB hbel hK
theorem app_i (hg : o.guard = none) (s x : Operand) (hop : o.op = Op.call { callee := Callee.builtin Builtin.append, args := #[s, x], argTypes := #[22, 22] })
  (w0 : World) (B : Nat) (a : Option Addr) (n c : Nat) (xs : List Value) (hs : act.eval s = .slice a n c) (hown : Own w B 3 1 a n c xs)
  (u : Int) (hx : act.eval x = .slice (some ⟨w.heap.size, 0, none⟩) 1 1)
  (hn : (n + 1) * 8 ≤ 140737488355328) (hB : B ≤ w.heap.size) (hbel : Below B w0 w)
  (hK : ∀ a' c' w', Own w' B 3 1 a' (n + 1) c' (xs ++ [.int .i64 u]) → w.grownBy w' (a.map (·.block)) → Below B w0 w' → wpList Try.prog ops Q rest (act.put o.dst (.slice a' (n + 1) c')) w') :
  wpList Try.prog ops Q (o :: rest) act (w.alloc (.cells #[.int .i64 u] 3)) :=
 append_lit hg s x 22 hop 3 (.int .i64 0) 1 8 Try.underlying22 info_int rfl w0 B a n c xs hs hown 1 [.int .i64 u] hx rfl (by simp [Value.oneCell']) hn (by unfold maxLen; omega) hB hbel hK
theorem app_bs (hg : o.guard = none) (s x : Operand) (hop : o.op = Op.call { callee := Callee.builtin Builtin.append, args := #[s, x], argTypes := #[27, 27] })
  (w0 : World) (B : Nat) (a : Option Addr) (n c : Nat) (xs : List Value) (hs : act.eval s = .slice a n c) (hown : Own w B 5 1 a n c xs)
  (a2 : Option Addr) (m c2 : Nat) (ys : List UInt8) (hx : act.eval x = .slice a2 m c2) (hy : Sl w 1 a2 m c2 (ys.map B8))
  (hn : n + m ≤ 140737488355328) (hB : B ≤ w.heap.size) (hbel : Below B w0 w)
  (hK : ∀ a' c' w', Own w' B 5 1 a' (n + m) c' (xs ++ ys.map B8) → w.grownBy w' (a.map (·.block)) → Below B w0 w' → wpList Try.prog ops Q rest (act.put o.dst (.slice a' (n + m) c')) w') :
  wpList Try.prog ops Q (o :: rest) act w :=
 append_own hg s x 27 hop 5 (.int .u8 0) 1 1 Try.underlying27 info_u8 rfl w0 B a n c xs hs hown a2 m c2 (ys.map B8) hx hy (one_map _ (fun _ => rfl) _) (by omega) (by unfold maxLen; omega) hB hbel hK
end
section
variable {w : World} {ops : Array Oper} {rest : List Oper} {act : Act} {Q : Exit → Act → World → Prop} {ty : TypeId} {pos : String} {after : Array Edge}

theorem idx_b (d : Nat) (x y : Operand) (a : Option Addr) (n c : Nat) (cs : List UInt8) (hx : act.eval x = .slice a n c) (hs : Sl w 1 a n c (cs.map B8)) (k : IntKind) (iv : Int) (i : Nat) (hy : act.eval y = .int k iv) (hiv : iv = (i : Int))
  (u : UInt8) (hu : cs[i]? = some u)
  (hK : ∀ b o, w.cell? ⟨b, o, none⟩ = some (B8 u) → b < w.heap.size → wpList Try.prog ops Q rest (act.put (some d) (.pointer (some ⟨b, o, none⟩))) w) :
  wpList Try.prog ops Q ({ dst := some d, op := .indexAddr 27 x y, type := ty, pos := pos, after := after, guard := none } :: rest) act w :=
 index_sl d 27 x y 5 Try.underlying27 size_u8 a n c _ hx hs k iv i hy hiv _ (by rw [List.getElem?_map, hu]; rfl) hK
theorem idx_i (d : Nat) (x y : Operand) (a : Option Addr) (n c : Nat) (cs : List Int) (hx : act.eval x = .slice a n c) (hs : Sl w 1 a n c (cs.map I64)) (k : IntKind) (iv : Int) (i : Nat) (hy : act.eval y = .int k iv) (hiv : iv = (i : Int))
  (u : Int) (hu : cs[i]? = some u)
  (hK : ∀ b o, w.cell? ⟨b, o, none⟩ = some (I64 u) → b < w.heap.size → wpList Try.prog ops Q rest (act.put (some d) (.pointer (some ⟨b, o, none⟩))) w) :
  wpList Try.prog ops Q ({ dst := some d, op := .indexAddr 22 x y, type := ty, pos := pos, after := after, guard := none } :: rest) act w :=
 index_sl d 22 x y 3 Try.underlying22 size_int a n c _ hx hs k iv i hy hiv _ (by rw [List.getElem?_map, hu]; rfl) hK
theorem cutlo_b (d : Nat) (x lo : Operand) (a : Option Addr) (n c : Nat) (cs : List UInt8) (hx : act.eval x = .slice a n c) (hs : Sl w 1 a n c (cs.map B8)) (kl : IntKind) (lv : Int) (l : Nat) (hl : act.eval lo = .int kl lv)
  (hlv : lv = (l : Int)) (hun : l ≤ n)
  (hK : ∀ a', Sl w 1 a' (n - l) (c - l) ((cs.drop l).map B8) → (∀ p, a' = some p → ∃ q, a = some q ∧ q.block = p.block) → wpList Try.prog ops Q rest (act.put (some d) (.slice a' (n - l) (c - l))) w) :
  wpList Try.prog ops Q ({ dst := some d, op := .slice 27 x (some lo) none none, type := ty, pos := pos, after := after, guard := none } :: rest) act w :=
 cut_lo d 27 x lo 5 Try.underlying27 1 size_u8 a n c _ hx hs kl lv l hl hlv hun (fun a' h => hK a' (by rw [Nat.mul_one, ← List.map_drop] at h; exact h))
theorem cuthi_b (d : Nat) (x hi : Operand) (a : Option Addr) (n c : Nat) (cs : List UInt8) (hx : act.eval x = .slice a n c) (hs : Sl w 1 a n c (cs.map B8)) (ku : IntKind) (uv : Int) (u : Nat) (hu : act.eval hi = .int ku uv)
  (huv : uv = (u : Int)) (hun : u ≤ n)
  (hK : Sl w 1 a u c ((cs.take u).map B8) → wpList Try.prog ops Q rest (act.put (some d) (.slice a u c)) w) :
  wpList Try.prog ops Q ({ dst := some d, op := .slice 27 x none (some hi) none, type := ty, pos := pos, after := after, guard := none } :: rest) act w :=
 cut_hi d 27 x hi 5 Try.underlying27 1 size_u8 a n c _ hx hs ku uv u hu huv hun (fun h => hK (by rw [Nat.mul_one, ← List.map_take] at h; exact h))
theorem to_str (d : Nat) (x : Operand) (a : Option Addr) (n c : Nat) (l : List UInt8) (hx : act.eval x = .slice a n c) (hs : Sl w 1 a n c (l.map B8))
  (hK : wpList Try.prog ops Q rest (act.put (some d) (.string ⟨l.toArray⟩)) w) :
  wpList Try.prog ops Q ({ dst := some d, op := .convert 27 9 x, type := ty, pos := pos, after := after, guard := none } :: rest) act w :=
 conv_str d 27 9 x 5 Try.underlying27 Try.underlying5 Try.underlying9 a n c l hx hs hK
end
end Go.Proofs.Ytlpkicjijlcbfaa
end

section
/- Chapter 06: characters: Letter, letter, digit, written, of the program and of the reference. -/
namespace Go.Proofs.Ytlpkicjijlcbfaa
open Go.RowKit Go.Dx

theorem let_S {c : UInt8} (h1 : 97 ≤ c.toNat) (h2 : c.toNat ≤ 122) : low c = c ∧ isL c = true ∧ isC c = false := by
 have hC : isC c = false := by unfold isC; simp; omega
 exact ⟨by unfold low; rw [hC]; rfl, by unfold isL isS; simp [h1, h2], hC⟩
theorem let_C {c : UInt8} (h1 : 65 ≤ c.toNat) (h2 : c.toNat ≤ 90) : ((low c).toNat : Int) = (c.toNat : Int) + 32 ∧ isL c = true ∧ isC c = true := by
 have hC : isC c = true := by unfold isC; simp [h1, h2]
 refine ⟨?_, by unfold isL; rw [hC, Bool.or_true], hC⟩
 unfold low
 rw [if_pos hC, UInt8.toNat_add]
 have : (32 : UInt8).toNat = 32 := rfl
 rw [this]
 omega
theorem let_N {c : UInt8} (h : c.toNat < 65 ∨ (90 < c.toNat ∧ c.toNat < 97) ∨ 122 < c.toNat) : low c = c ∧ isL c = false ∧ isC c = false := by
 have hC : isC c = false := by unfold isC; simp; omega
 have hS : isS c = false := by unfold isS; simp; omega
 exact ⟨by unfold low; rw [hC]; rfl, by unfold isL; rw [hC, hS]; rfl, hC⟩

def LetterR (c : UInt8) : Ending := .returned (.tuple #[.int .u8 ((low c).toNat : Int), .bool (isL c), .bool (isC c)])

set_option maxHeartbeats 400000 in
theorem tab_Letter (c : UInt8) (w : World) : Calls Try.prog 62 #[.int .u8 (c.toNat : Int)] w fun e w' => e = LetterR c ∧ w = w' := by
 have hlt := c.toNat_lt
 unfold LetterR
 by_cases h1 : 97 ≤ c.toNat ∧ c.toNat ≤ 122
 ·obtain ⟨e1, e2, e3⟩ := let_S h1.1 h1.2
  rw [e1, e2, e3]
  have d1 : decide (97 ≤ (c.toNat : Int)) = true := decide_eq_true (by omega)
  have d2 : decide ((c.toNat : Int) ≤ 122) = true := decide_eq_true (by omega)
  clear e1 e2 e3 h1
  go_enter Try.func62, Try.ntmps62
  go_wp2_with fail
  go_ret3
  exact ⟨rfl, rfl⟩
 ·by_cases h2 : 65 ≤ c.toNat ∧ c.toNat ≤ 90
  ·obtain ⟨e1, e2, e3⟩ := let_C h2.1 h2.2
   rw [e1, e2, e3]
   have d1 : decide (97 ≤ (c.toNat : Int)) = false := decide_eq_false (by omega)
   have d3 : decide (65 ≤ (c.toNat : Int)) = true := decide_eq_true (by omega)
   have d4 : decide ((c.toNat : Int) ≤ 90) = true := decide_eq_true (by omega)
   have l1 : 65 ≤ (c.toNat : Int) := by omega
   have l2 : (c.toNat : Int) ≤ 90 := by omega
   clear e1 e2 e3 h1 h2 hlt
   generalize (c.toNat : Int) = x at *
   go_enter Try.func62, Try.ntmps62
   go_wp2_with fail
   go_ret3
   exact ⟨by rw [show (x - 65) + 97 = x + 32 by omega]; rfl, rfl⟩
  ·have h3 : c.toNat < 65 ∨ (90 < c.toNat ∧ c.toNat < 97) ∨ 122 < c.toNat := by omega
   obtain ⟨e1, e2, e3⟩ := let_N h3
   rw [e1, e2, e3]
   clear e1 e2 e3
   rcases h3 with h3 | ⟨h3, h4⟩ | h3
   ·have d1 : decide (97 ≤ (c.toNat : Int)) = false := decide_eq_false (by omega)
    have d3 : decide (65 ≤ (c.toNat : Int)) = false := decide_eq_false (by omega)
    clear h1 h2 h3
    go_enter Try.func62, Try.ntmps62
    go_wp2_with fail
    go_ret3
    exact ⟨rfl, rfl⟩
   ·have d1 : decide (97 ≤ (c.toNat : Int)) = false := decide_eq_false (by omega)
    have d3 : decide (65 ≤ (c.toNat : Int)) = true := decide_eq_true (by omega)
    have d4 : decide ((c.toNat : Int) ≤ 90) = false := decide_eq_false (by omega)
    clear h1 h2 h3
    go_enter Try.func62, Try.ntmps62
    go_wp2_with fail
    go_ret3
    exact ⟨rfl, rfl⟩
   ·have d1 : decide (97 ≤ (c.toNat : Int)) = true := decide_eq_true (by omega)
    have d2 : decide ((c.toNat : Int) ≤ 122) = false := decide_eq_false (by omega)
    have d3 : decide (65 ≤ (c.toNat : Int)) = true := decide_eq_true (by omega)
    have d4 : decide ((c.toNat : Int) ≤ 90) = false := decide_eq_false (by omega)
    clear h1 h2 h3
    go_enter Try.func62, Try.ntmps62
    go_wp2_with fail
    go_ret3
    exact ⟨rfl, rfl⟩
end Go.Proofs.Ytlpkicjijlcbfaa
end

section
/- Chapter 06: characters: letter, digit, written; the reference's Letter, Is, Digit, Written. -/
namespace Go.Proofs.Ytlpkicjijlcbfaa
open Go.RowKit Go.Dx

set_option maxHeartbeats 400000 in
theorem ref_Letter (c : UInt8) (w : World) : Calls Try.prog 93 #[.int .u8 (c.toNat : Int)] w fun e w' => e = LetterR c ∧ w = w' := by
 have hlt := c.toNat_lt
 unfold LetterR
 by_cases h1 : 97 ≤ c.toNat ∧ c.toNat ≤ 122
 ·obtain ⟨e1, e2, e3⟩ := let_S h1.1 h1.2
  rw [e1, e2, e3]
  have d1 : decide (97 ≤ (c.toNat : Int)) = true := decide_eq_true (by omega)
  have d2 : decide ((c.toNat : Int) ≤ 122) = true := decide_eq_true (by omega)
  clear e1 e2 e3 h1
  go_enter Try.func93, Try.ntmps93
  go_wp2_with fail
  go_ret3
  exact ⟨rfl, rfl⟩
 ·by_cases h2 : 65 ≤ c.toNat ∧ c.toNat ≤ 90
  ·obtain ⟨e1, e2, e3⟩ := let_C h2.1 h2.2
   rw [e1, e2, e3]
   have d1 : decide (97 ≤ (c.toNat : Int)) = false := decide_eq_false (by omega)
   have d3 : decide (65 ≤ (c.toNat : Int)) = true := decide_eq_true (by omega)
   have d4 : decide ((c.toNat : Int) ≤ 90) = true := decide_eq_true (by omega)
   have l1 : 65 ≤ (c.toNat : Int) := by omega
   have l2 : (c.toNat : Int) ≤ 90 := by omega
   clear e1 e2 e3 h1 h2 hlt
   generalize (c.toNat : Int) = x at *
   go_enter Try.func93, Try.ntmps93
   go_wp2_with fail
   go_ret3
   exact ⟨rfl, rfl⟩
  ·have h3 : c.toNat < 65 ∨ (90 < c.toNat ∧ c.toNat < 97) ∨ 122 < c.toNat := by omega
   obtain ⟨e1, e2, e3⟩ := let_N h3
   rw [e1, e2, e3]
   clear e1 e2 e3
   rcases h3 with h3 | ⟨h3, h4⟩ | h3
   ·have d1 : decide (97 ≤ (c.toNat : Int)) = false := decide_eq_false (by omega)
    have d3 : decide (65 ≤ (c.toNat : Int)) = false := decide_eq_false (by omega)
    clear h1 h2 h3
    go_enter Try.func93, Try.ntmps93
    go_wp2_with fail
    go_ret3
    exact ⟨rfl, rfl⟩
   ·have d1 : decide (97 ≤ (c.toNat : Int)) = false := decide_eq_false (by omega)
    have d3 : decide (65 ≤ (c.toNat : Int)) = true := decide_eq_true (by omega)
    have d4 : decide ((c.toNat : Int) ≤ 90) = false := decide_eq_false (by omega)
    clear h1 h2 h3
    go_enter Try.func93, Try.ntmps93
    go_wp2_with fail
    go_ret3
    exact ⟨rfl, rfl⟩
   ·have d1 : decide (97 ≤ (c.toNat : Int)) = true := decide_eq_true (by omega)
    have d2 : decide ((c.toNat : Int) ≤ 122) = false := decide_eq_false (by omega)
    have d3 : decide (65 ≤ (c.toNat : Int)) = true := decide_eq_true (by omega)
    have d4 : decide ((c.toNat : Int) ≤ 90) = false := decide_eq_false (by omega)
    clear h1 h2 h3
    go_enter Try.func93, Try.ntmps93
    go_wp2_with fail
    go_ret3
    exact ⟨rfl, rfl⟩

set_option maxHeartbeats 400000 in
theorem tab_letter (c : UInt8) (w : World) : Calls Try.prog 98 #[.int .u8 (c.toNat : Int)] w fun e w' => e = .returned (.bool (isL c)) ∧ w = w' := by
 have hc := tab_Letter c w
 unfold LetterR at hc
 go_enter Try.func98, Try.ntmps98
 go_wp2_with (go_at_call 62; refine hc.mono ?_; rintro e w2 ⟨rfl, rfl⟩)
 go_ret
 exact ⟨rfl, rfl⟩
set_option maxHeartbeats 400000 in
theorem ref_Is (c : UInt8) (w : World) : Calls Try.prog 101 #[.int .u8 (c.toNat : Int)] w fun e w' => e = .returned (.bool (isL c)) ∧ w = w' := by
 have hc := ref_Letter c w
 unfold LetterR at hc
 go_enter Try.func101, Try.ntmps101
 go_wp2_with (go_at_call 93; refine hc.mono ?_; rintro e w2 ⟨rfl, rfl⟩)
 go_ret
 exact ⟨rfl, rfl⟩
set_option maxHeartbeats 400000 in
theorem tab_digit (c : UInt8) (w : World) : Calls Try.prog 61 #[.int .u8 (c.toNat : Int)] w fun e w' => e = .returned (.bool (isD c)) ∧ w = w' := by
 by_cases h1 : 48 ≤ c.toNat
 ·have d1 : decide (48 ≤ (c.toNat : Int)) = true := decide_eq_true (by omega)
  by_cases h2 : c.toNat ≤ 57
  ·have d2 : decide ((c.toNat : Int) ≤ 57) = true := decide_eq_true (by omega)
   have HE : Hid (isD c = true) := hide (by unfold isD; simp [h1, h2])
   clear h1 h2
   go_enter Try.func61, Try.ntmps61
   go_wp2_with fail
   go_ret
   exact ⟨by rw [HE.out]; rfl, rfl⟩
  ·have d2 : decide ((c.toNat : Int) ≤ 57) = false := decide_eq_false (by omega)
   have HE : Hid (isD c = false) := hide (by unfold isD; simp; omega)
   clear h1 h2
   go_enter Try.func61, Try.ntmps61
   go_wp2_with fail
   go_ret
   exact ⟨by rw [HE.out]; rfl, rfl⟩
 ·have d1 : decide (48 ≤ (c.toNat : Int)) = false := decide_eq_false (by omega)
  have HE : Hid (isD c = false) := hide (by unfold isD; simp; omega)
  clear h1
  go_enter Try.func61, Try.ntmps61
  go_wp2_with fail
  go_ret
  exact ⟨by rw [HE.out]; rfl, rfl⟩
set_option maxHeartbeats 400000 in
theorem ref_Digit (c : UInt8) (w : World) : Calls Try.prog 92 #[.int .u8 (c.toNat : Int)] w fun e w' => e = .returned (.bool (isD c)) ∧ w = w' := by
 by_cases h1 : 48 ≤ c.toNat
 ·have d1 : decide (48 ≤ (c.toNat : Int)) = true := decide_eq_true (by omega)
  by_cases h2 : c.toNat ≤ 57
  ·have d2 : decide ((c.toNat : Int) ≤ 57) = true := decide_eq_true (by omega)
   have HE : Hid (isD c = true) := hide (by unfold isD; simp [h1, h2])
   clear h1 h2
   go_enter Try.func92, Try.ntmps92
   go_wp2_with fail
   go_ret
   exact ⟨by rw [HE.out]; rfl, rfl⟩
  ·have d2 : decide ((c.toNat : Int) ≤ 57) = false := decide_eq_false (by omega)
   have HE : Hid (isD c = false) := hide (by unfold isD; simp; omega)
   clear h1 h2
   go_enter Try.func92, Try.ntmps92
   go_wp2_with fail
   go_ret
   exact ⟨by rw [HE.out]; rfl, rfl⟩
 ·have d1 : decide (48 ≤ (c.toNat : Int)) = false := decide_eq_false (by omega)
  have HE : Hid (isD c = false) := hide (by unfold isD; simp; omega)
  clear h1
  go_enter Try.func92, Try.ntmps92
  go_wp2_with fail
  go_ret
  exact ⟨by rw [HE.out]; rfl, rfl⟩
set_option maxHeartbeats 400000 in
theorem tab_written (c : UInt8) (w : World) : Calls Try.prog 84 #[.int .u8 (c.toNat : Int)] w fun e w' => e = .returned (.bool (isW c)) ∧ w = w' := by
 by_cases h1 : 32 ≤ c.toNat
 ·have d1 : decide (32 ≤ (c.toNat : Int)) = true := decide_eq_true (by omega)
  by_cases h2 : c.toNat ≤ 126
  ·have d2 : decide ((c.toNat : Int) ≤ 126) = true := decide_eq_true (by omega)
   have HE : Hid (isW c = true) := hide (by unfold isW; simp [h1, h2])
   clear h1 h2
   go_enter Try.func84, Try.ntmps84
   go_wp2_with fail
   go_ret
   exact ⟨by rw [HE.out]; rfl, rfl⟩
  ·have d2 : decide ((c.toNat : Int) ≤ 126) = false := decide_eq_false (by omega)
   have HE : Hid (isW c = false) := hide (by unfold isW; simp; omega)
   clear h1 h2
   go_enter Try.func84, Try.ntmps84
   go_wp2_with fail
   go_ret
   exact ⟨by rw [HE.out]; rfl, rfl⟩
 ·have d1 : decide (32 ≤ (c.toNat : Int)) = false := decide_eq_false (by omega)
  have HE : Hid (isW c = false) := hide (by unfold isW; simp; omega)
  clear h1
  go_enter Try.func84, Try.ntmps84
  go_wp2_with fail
  go_ret
  exact ⟨by rw [HE.out]; rfl, rfl⟩
set_option maxHeartbeats 400000 in
theorem ref_Written (c : UInt8) (w : World) : Calls Try.prog 91 #[.int .u8 (c.toNat : Int)] w fun e w' => e = .returned (.bool (isW c)) ∧ w = w' := by
 by_cases h1 : 32 ≤ c.toNat
 ·have d1 : decide (32 ≤ (c.toNat : Int)) = true := decide_eq_true (by omega)
  by_cases h2 : c.toNat ≤ 126
  ·have d2 : decide ((c.toNat : Int) ≤ 126) = true := decide_eq_true (by omega)
   have HE : Hid (isW c = true) := hide (by unfold isW; simp [h1, h2])
   clear h1 h2
   go_enter Try.func91, Try.ntmps91
   go_wp2_with fail
   go_ret
   exact ⟨by rw [HE.out]; rfl, rfl⟩
  ·have d2 : decide ((c.toNat : Int) ≤ 126) = false := decide_eq_false (by omega)
   have HE : Hid (isW c = false) := hide (by unfold isW; simp; omega)
   clear h1 h2
   go_enter Try.func91, Try.ntmps91
   go_wp2_with fail
   go_ret
   exact ⟨by rw [HE.out]; rfl, rfl⟩
 ·have d1 : decide (32 ≤ (c.toNat : Int)) = false := decide_eq_false (by omega)
  have HE : Hid (isW c = false) := hide (by unfold isW; simp; omega)
  clear h1
  go_enter Try.func91, Try.ntmps91
  go_wp2_with fail
  go_ret
  exact ⟨by rw [HE.out]; rfl, rfl⟩
end Go.Proofs.Ytlpkicjijlcbfaa
end

section
/- The plain mathematics of layer 1 (wire): what an integer's encoding is, what a decoding returns. No Go. -/
namespace Go.Dx
def dig (m i : Nat) : UInt8 := UInt8.ofNat (m / 256 ^ i % 256)
section
variable {neg : Bool} {k : Nat} {t : List UInt8}
end

end Go.Dx
end

section
/- The plain mathematics of layer 1, lists. No Go. -/
namespace Go.Dx

end Go.Dx
end

section
namespace Go.Proofs.Ytlpkicjijlcbfaa
open Go.RowKit Go.Dx

end Go.Proofs.Ytlpkicjijlcbfaa
end

section
namespace Go.Proofs.Ytlpkicjijlcbfaa
open Go.RowKit Go.Dx

end Go.Proofs.Ytlpkicjijlcbfaa
end

section
/- wire.Bytes and the reference's. -/
namespace Go.Proofs.Ytlpkicjijlcbfaa
open Go.RowKit Go.Dx

end Go.Proofs.Ytlpkicjijlcbfaa
end
