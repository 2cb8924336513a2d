/- The contracts of the functions that the law reaches, joined into one text. -/
import Derived.WalkKit
import Derived.Lib.Hide
import Derived.Deep.LoopGhost
import Derived.Deep.DeepCutAuto
import Derived.Deep.AppendSrc
import Derived.Deep.QuietTactic
import Derived.BigQuiet
import Derived.Deep.RegionWith
import Derived.Laws.IdiomStrings
import Derived.OpenShut
import Derived.Deep.Slices
import Derived.Deep.Strs
import Derived.SizedLaws
import Derived.Laws.BitsAllLaws
import Derived.IntWalk
import Derived.Test.YtfagjaabladgpaaDoorChecked
import Derived.StillTailTactics
import Derived.Laws.CopyRow
set_option linter.unusedVariables false
set_option linter.unusedSimpArgs false
namespace Go
open Go.RowKit
theorem oj {α : Type} {a b : α} (h : some a = some b) : a = b := Option.some.inj h
theorem br {B : Nat} {w : World} : Below B w w := Below.refl B w
end Go

section
/- Memory words shared by all walks of this seat: what a slice reads as, what a call owns, and the laws on append in the walk's form. No program in sight. -/
namespace Go.Dx
open Go.RowKit
abbrev B8 (d : UInt8) : Value := .int .u8 (d.toNat : Int)
abbrev I64 (n : Int) : Value := .int .i64 n
theorem one_map {α : Type} (f : α → Value) (hf : ∀ x, (f x).oneCell' = true) (l : List α) : ∀ u ∈ l.map f, u.oneCell' = true := by
 intro u hu
 obtain ⟨x, _, rfl⟩ := List.mem_map.1 hu
 exact hf x
theorem hide {p : Prop} (h : p) : Hid p := h
structure Sl (w : World) (sz : Nat) (a : Option Addr) (n c : Nat) (cs : List Value) : Prop where
 len : cs.length = n * sz
 le : n ≤ c
 cap : c ≤ maxLen
 nil : a = none → c = 0
 cell : ∀ p, a = some p → ∀ j u, cs[j]? = some u → w.cell? (p.add j) = some u

theorem Sl.n_eq {α : Type} {f : α → Value} {w : World} {a : Option Addr} {n c : Nat} {l : List α} (h : Sl w 1 a n c (l.map f)) : n = l.length := by
 have := h.len; simp at this; omega
theorem Sl.take {w : World} {a : Option Addr} {n c : Nat} {cs : List Value} (h : Sl w 1 a n c cs) (k : Nat) (hk : k ≤ n) : Sl w 1 a k c (cs.take k) := by
 have h1 := h.len
 have h2 := h.le
 refine ⟨by rw [List.length_take]; omega, by omega, h.cap, h.nil, fun p hp j u hj => h.cell p hp j u ?_⟩
 rw [List.getElem?_take] at hj
 split at hj
 ·exact hj
 ·cases hj
theorem Sl.ex {w : World} {sz : Nat} {a : Option Addr} {n c : Nat} {cs : List Value} (h : Sl w sz a n c cs) (h0 : 0 < cs.length) :
  ∃ b off, a = some ⟨b, off, none⟩ ∧ b < w.heap.size ∧ ∀ j u, cs[j]? = some u → w.cell? ⟨b, off + j, none⟩ = some u := by
 cases a with
 | none =>
  have := h.nil rfl
  have h1 := h.len
  have h2 := h.le
  have : n = 0 := by omega
  subst this
  simp at h1
  simp [h1] at h0
 | some p =>
  obtain ⟨b, off, spot⟩ := p
  have h1 := h.cell _ rfl 0 (cs[0]'h0) (by simp)
  have hs : spot = none := by simpa [Addr.add] using World.cell?_spot h1
  subst hs
  refine ⟨b, off, rfl, ?_, fun j u hj => ?_⟩
  ·have := World.block_lt_of_cell? w _ h1
   simpa [Addr.add] using this
  ·have := h.cell _ rfl j u hj
   rwa [Addr.add_lit] at this

theorem Sl.below {w w' : World} {sz : Nat} {a : Option Addr} {n c : Nat} {cs : List Value} (h : Sl w sz a n c cs) (hb : Below w.heap.size w w') : Sl w' sz a n c cs :=
 ⟨h.len, h.le, h.cap, h.nil, fun p hp j u hj => by
  have h1 := h.cell p hp j u hj
  rw [hb.cell (World.block_lt_of_cell? w _ h1)]
  exact h1⟩

theorem Sl.grown {w w' : World} {row : Option Nat} {sz : Nat} {a : Option Addr} {n c : Nat} {cs : List Value} (h : Sl w sz a n c cs) (hb : w.grownBy w' row) (hr : ∀ p, a = some p → some p.block ≠ row) : Sl w' sz a n c cs :=
 ⟨h.len, h.le, h.cap, h.nil, fun p hp j u hj => by
  have h1 := h.cell p hp j u hj
  refine hb.cell h1 ?_
  have : (p.add j).block = p.block := by unfold Addr.add; split <;> rfl
  rw [this]
  exact hr p hp⟩

theorem Sl.alloc {w : World} {sz : Nat} {a : Option Addr} {n c : Nat} {cs : List Value} (h : Sl w sz a n c cs) (o : Obj) : Sl (w.alloc o) sz a n c cs :=
 h.below ((Below.refl _ _).alloc (Nat.le_refl _) _)

theorem Sl.empty (w : World) (sz : Nat) : Sl w sz none 0 0 [] := ⟨by simp, Nat.le_refl _, Nat.zero_le _, fun _ => rfl, fun _ h => by cases h⟩
def Own (w : World) (B : Nat) (e : TypeId) (sz : Nat) (a : Option Addr) (n c : Nat) (cs : List Value) : Prop := w.ownsRow B e sz (.slice a n c) n cs

theorem Own.nil (w : World) (B : Nat) (e : TypeId) (sz : Nat) : Own w B e sz none 0 0 [] := World.ownsRow_nil w B e sz

theorem Own.len {w : World} {B : Nat} {e : TypeId} {sz : Nat} {a : Option Addr} {n c : Nat} {cs : List Value} (h : Own w B e sz a n c cs) : cs.length = n * sz := h.1

theorem Own.sl {w : World} {B : Nat} {e : TypeId} {sz : Nat} {a : Option Addr} {n c : Nat} {cs : List Value} (h : Own w B e sz a n c cs) : Sl w sz a n c cs := by
 refine ⟨h.1, ?_, ?_, ?_, ?_⟩
 ·rcases h.2 with ⟨h1, h2⟩ | ⟨g, cap, cur, h1, _, _, h2, _⟩
  ·omega
  ·injection h1 with _ _ h1; omega
 ·rcases h.2 with ⟨h1, h2⟩ | ⟨g, cap, cur, h1, _, _, _, h2, _⟩
  ·injection h1 with _ _ h1; unfold maxLen; omega
  ·injection h1 with _ _ h1; omega
 ·intro ha
  rcases h.2 with ⟨h1, h2⟩ | ⟨g, cap, cur, h1, _, _, h2, _⟩
  ·injection h1
  ·injection h1 with h1; rw [ha] at h1; cases h1
 ·intro p hp j u hj
  subst hp
  have h2 := h.2
  have hg : (Value.slice (some p) n c).ownBlock = some p.block := rfl
  have := World.ownsRow.cells h hg j u hj
  rcases h.2 with ⟨h1, _⟩ | ⟨g, cap, cur, h1, _⟩
  ·cases h1
  ·injection h1 with h1
   injection h1 with h1
   subst h1
   exact this

theorem Own.base {w : World} {B : Nat} {e : TypeId} {sz : Nat} {p : Addr} {n c : Nat} {cs : List Value} (h : Own w B e sz (some p) n c cs) : B ≤ p.block ∧ p.block < w.heap.size :=
 World.ownsRow.lt h p.block rfl

theorem Own.below {w w' : World} {B : Nat} {e : TypeId} {sz : Nat} {a : Option Addr} {n c : Nat} {cs : List Value} (h : Own w B e sz a n c cs) (hb : Below w.heap.size w w') : Own w' B e sz a n c cs := by
 refine ⟨h.1, ?_⟩
 rcases h.2 with h2 | ⟨g, cap, cur, h1, h2, h3, r⟩
 ·exact .inl h2
 ·refine .inr ⟨g, cap, cur, h1, h2, ?_, r⟩
  rw [hb.block g (Array.getElem?_eq_some_iff.1 h3).1]
  exact h3

theorem Own.mono {w : World} {B B' : Nat} {e : TypeId} {sz : Nat} {a : Option Addr} {n c : Nat} {cs : List Value} (h : Own w B e sz a n c cs) (hb : B' ≤ B) : Own w B' e sz a n c cs := by
 refine ⟨h.1, ?_⟩
 rcases h.2 with h2 | ⟨g, cap, cur, h1, h2, r⟩
 ·exact .inl h2
 ·exact .inr ⟨g, cap, cur, h1, by omega, r⟩

theorem Own.alloc {w : World} {B : Nat} {e : TypeId} {sz : Nat} {a : Option Addr} {n c : Nat} {cs : List Value} (h : Own w B e sz a n c cs) (o : Obj) : Own (w.alloc o) B e sz a n c cs :=
 World.ownsRow.alloc h o

theorem Own.kept {w w' : World} {row : Option Nat} {B : Nat} {e : TypeId} {sz : Nat} {a : Option Addr} {n c : Nat} {cs : List Value} (h : Own w B e sz a n c cs) (hg : w.grownBy w' row) (hne : ∀ p, a = some p → some p.block ≠ row) : Own w' B e sz a n c cs := by
 refine World.ownsRow.kept h hg ?_
 cases a with
 | none => exact .inl rfl
 | some p => exact .inr (hne p rfl)
theorem Own.built (w : World) (B : Nat) (e : TypeId) (sz n : Nat) (us : Array Value) (hB : B ≤ w.heap.size) (hn : us.size = n * sz) (hm : n ≤ maxLen) :
  Own (w.alloc (.cells us e)) B e sz (some ⟨w.heap.size, 0, none⟩) n n us.toList :=
 ⟨by simpa using hn, .inr ⟨w.heap.size, n, us, rfl, hB, heap_alloc_new w _, Nat.le_refl _, hm, hn, by rw [← hn, ← Array.length_toList]; exact List.take_length⟩⟩

theorem undrew {B : Nat} {w w' : World} (h : Below B w.drew w') : Below B w w' := ⟨h.os, h.tape, h.output, h.size, h.block⟩
section laws
variable {P : Program} {w : World} {ops : Array Oper} {rest : List Oper} {o : Oper} {act : Act} {Q : Exit → Act → World → Prop}

theorem Sl.src {sz : Nat} {a : Option Addr} {m c : Nat} {ys : List Value} (h : Sl w sz a m c ys) {tx e' : TypeId} (hk : P.underlying tx = some (.slice e')) (h1 : ∀ u ∈ ys, u.oneCell' = true) : Src P sz tx (.slice a m c) m ys w := by
 cases a with
 | some ad => exact Src.ofSlice w hk ad m c ys h.len (h.cell ad rfl) h1
 | none =>
  have hc := h.nil rfl
  have hle := h.le
  obtain rfl : m = 0 := by omega
  have hnews : ys = [] := List.eq_nil_of_length_eq_zero (by simpa using h.len)
  subst hnews
  exact Src.ofNil w hk c

theorem run_append_any (base : Nat) (t tx ty e : TypeId) (i : TypeInfo) (z : Value) (ht : P.underlying t = some (.slice e)) (hi : P.info? e = some i) (hz : i.zero = some z)
  (hzs : z.cells.size = i.size) (a : Option Addr) (n c : Nat) (xs : List Value) (hown : Own w base e i.size a n c xs)
  (x : Value) (m : Nat) (news : List Value) (hs : Src P i.size tx x m news w)
  (h63 : n + m ≤ maxLen) (hbytes : (n + m) * i.bytes ≤ 140737488355328) (hbase : base ≤ w.heap.size) :
  ∃ a' c' w', (Builtin.append_ #[t, tx] ty #[.slice a n c, x]).run P w = .ok (.slice a' (n + m) c') w' ∧ Own w' base e i.size a' (n + m) c' (xs ++ news) ∧ w.grownBy w' (a.map (·.block)) := by
 have hsmall : n + m ≤ 9223372036854775807 := by simp only [maxLen] at h63; omega
 have hlen : (xs ++ news).length = (n + m) * i.size := by rw [List.length_append, hown.1, hs.newsLen, Nat.add_mul]
 have hold : (Builtin.firstCells i.size n (.slice a n c)).run P w.drew = .ok xs.toArray w.drew := by
  have hsl := hown.sl
  cases a with
  | none =>
   have := hsl.nil rfl
   have := hsl.le
   obtain rfl : n = 0 := by omega
   have hnews : xs = [] := List.eq_nil_of_length_eq_zero (by simpa using hsl.len)
   subst hnews
   exact run_firstCells_none w.drew i.size 0 0 c
  | some p => exact run_firstCells_some w.drew i.size n p n c xs hsl.len (by simpa using hsl.cell p rfl)
 by_cases hroom : n + m ≤ c
 ·rcases hown.2 with ⟨h1, h2⟩ | ⟨g, cap, cur, h1, hbg, hg, hnc, hcm, hcs, htake⟩
  ·injection h1 with h1 h3 h4
   subst h1 h3 h4
   obtain rfl : m = 0 := by omega
   have hx : xs = [] := List.eq_nil_of_length_eq_zero (by simpa using hown.1)
   have hnews : news = [] := List.eq_nil_of_length_eq_zero (by simpa using hs.newsLen)
   subst hx hnews
   refine ⟨none, 0, w, ?_, Own.nil w base e i.size, World.grownBy.refl _ _⟩
   rcases hs.kind with ⟨e', hk⟩ | hk <;> simp [Builtin.append_, run_underlying ht, run_underlying hk, sizeOf, typeInfo, hi, hs.len, hs.cells]
  ·injection h1 with h1 h3 h4
   subst h1 h4
   have hfit : n * i.size + news.length ≤ cur.size := by rw [hs.newsLen, hcs, ← Nat.add_mul]; exact Nat.mul_le_mul_right _ hroom
   have hst := run_storeCells_at P g (n * i.size) e news 0 cur w hg (by simpa using hfit) hs.one
   simp only [Nat.add_zero] at hst
   refine ⟨some ⟨g, 0, none⟩, c, w.setRow g (cur.toList.take (n * i.size) ++ news ++ cur.toList.drop (n * i.size + news.length)).toArray, ?_, ⟨hlen, .inr ⟨g, c, _, rfl, hbg, setRow_heap w g cur _ e _ hg, hroom, hcm, ?_, ?_⟩⟩, ⟨rfl, rfl, rfl, by simp, fun k _ hk => setRow_other w g k _ (fun e => hk (by simp [e]))⟩⟩
   ·rcases hs.kind with ⟨e', hk⟩ | hk <;> simp [Builtin.append_, run_underlying ht, run_underlying hk, sizeOf, typeInfo, hi, hs.len, hroom, hs.cells, Addr.add_lit, hst]
   ·simp only [List.size_toArray, List.length_append, List.length_take, List.length_drop, Array.length_toList]
    omega
   ·rw [htake, ← hlen]
    exact List.take_left
 ·have hr := run_append_grow_src (P := P) w t tx ty e i z ht hi hz a n c xs hold x m news hs (by omega) (by omega) (growslice_fits (by omega) hbytes)
  have hge := grownCap_ge w (n + m) c e
  have hcm : grownCap w (n + m) c e ≤ maxLen := grownCap_le_maxLen w (n + m) c e h63
  refine ⟨_, _, _, hr, ⟨hlen, .inr ⟨w.heap.size, _, _, rfl, hbase, heap_alloc_new w.drew _, hge, hcm, ?_, ?_⟩⟩, ⟨rfl, rfl, rfl, by simp, fun k hk _ => Below.heap_alloc w.drew _ k hk⟩⟩
  ·simp only [Array.size_append, List.size_toArray, size_zeroCells, hzs, hlen, ← Nat.add_mul]
   congr 1
   omega
  ·simp only [Array.toList_append, List.append_assoc]
   rw [← List.append_assoc, ← hlen]
   exact List.take_left
theorem append_src (hg : o.guard = none) (s x : Operand) (t tx : TypeId) (hop : o.op = Op.call { callee := Callee.builtin Builtin.append, args := #[s, x], argTypes := #[t, tx] })
  (e : TypeId) (z : Value) (sz bytes : Nat) (ht : P.underlying t = some (.slice e)) (hi : (P.info? e).map (fun i => (i.zero, i.size, i.bytes)) = some (some z, sz, bytes)) (hz : z.cells.size = sz)
  (w0 : World) (B : Nat) (a : Option Addr) (n c : Nat) (xs : List Value) (hs : act.eval s = .slice a n c) (hown : Own w B e sz a n c xs)
  (v : Value) (m : Nat) (ys : List Value) (hx : act.eval x = v) (hy : Src P sz tx v m ys w)
  (hn : (n + m) * bytes ≤ 140737488355328) (hn2 : n + m ≤ maxLen) (hB : B ≤ w.heap.size) (hbel : Below B w0 w)
  (hK : ∀ a' c' w', Own w' B e sz a' (n + m) c' (xs ++ ys) → w.grownBy w' (a.map (·.block)) → Below B w0 w' → wpList P ops Q rest (act.put o.dst (.slice a' (n + m) c')) w') :
  wpList P ops Q (o :: rest) act w := by
 obtain ⟨i, hi0, hz0, hz1, hz2⟩ := info_parts hi
 subst hz1 hz2
 clear hi
 obtain ⟨a', c', w', hrun, ho, hgr⟩ := run_append_any B t tx o.type e i z ht hi0 hz0 hz a n c xs hown v m ys hy hn2 hn hB
 refine wpList_plain hg fun K hK' => ?_
 unfold Oper.wp
 simp [execOp, hop, resolve, invoke, builtin, hs, hx, hrun, Result.andThen]
 refine hK' _ _ (hK a' c' w' ho hgr (hbel.grown hgr hB ?_))
 intro k hk
 cases a with
 | none => cases hk
 | some p => injection hk with hk; subst hk; exact hown.base.1
theorem append_own (hg : o.guard = none) (s x : Operand) (t : TypeId) (hop : o.op = Op.call { callee := Callee.builtin Builtin.append, args := #[s, x], argTypes := #[t, t] })
  (e : TypeId) (z : Value) (sz bytes : Nat) (ht : P.underlying t = some (.slice e)) (hi : (P.info? e).map (fun i => (i.zero, i.size, i.bytes)) = some (some z, sz, bytes)) (hz : z.cells.size = sz)
  (w0 : World) (B : Nat) (a : Option Addr) (n c : Nat) (xs : List Value) (hs : act.eval s = .slice a n c) (hown : Own w B e sz a n c xs)
  (a2 : Option Addr) (m c2 : Nat) (ys : List Value) (hx : act.eval x = .slice a2 m c2) (hy : Sl w sz a2 m c2 ys) (h1 : ∀ u ∈ ys, u.oneCell' = true)
  (hn : (n + m) * bytes ≤ 140737488355328) (hn2 : n + m ≤ maxLen) (hB : B ≤ w.heap.size) (hbel : Below B w0 w)
  (hK : ∀ a' c' w', Own w' B e sz a' (n + m) c' (xs ++ ys) → w.grownBy w' (a.map (·.block)) → Below B w0 w' → wpList P ops Q rest (act.put o.dst (.slice a' (n + m) c')) w') :
  wpList P ops Q (o :: rest) act w :=
 append_src hg s x t t hop e z sz bytes ht hi hz w0 B a n c xs hs hown _ m ys hx (hy.src ht h1) hn hn2 hB hbel hK
theorem append_lit (hg : o.guard = none) (s x : Operand) (t : TypeId) (hop : o.op = Op.call { callee := Callee.builtin Builtin.append, args := #[s, x], argTypes := #[t, t] })
  (e : TypeId) (z : Value) (sz bytes : Nat) (ht : P.underlying t = some (.slice e)) (hi : (P.info? e).map (fun i => (i.zero, i.size, i.bytes)) = some (some z, sz, bytes)) (hz : z.cells.size = sz)
  (w0 : World) (B : Nat) (a : Option Addr) (n c : Nat) (xs : List Value) (hs : act.eval s = .slice a n c) (hown : Own w B e sz a n c xs)
  (m : Nat) (us : List Value) (hx : act.eval x = .slice (some ⟨w.heap.size, 0, none⟩) m m) (hu : us.length = m * sz) (h1 : ∀ u ∈ us, u.oneCell' = true)
  (hn : (n + m) * bytes ≤ 140737488355328) (hn2 : n + m ≤ maxLen) (hB : B ≤ w.heap.size) (hbel : Below B w0 w)
  (hK : ∀ a' c' w', Own w' B e sz a' (n + m) c' (xs ++ us) → w.grownBy w' (a.map (·.block)) → Below B w0 w' → wpList P ops Q rest (act.put o.dst (.slice a' (n + m) c')) w') :
  wpList P ops Q (o :: rest) act (w.alloc (.cells us.toArray e)) := by
 refine append_own hg s x t hop e z sz bytes ht hi hz w0 B a n c xs hs (hown.alloc _) _ m m us hx ?_ h1 hn hn2 (by simp; omega) (hbel.alloc hB _) ?_
 ·have := (Own.built w 0 e sz m us.toArray (Nat.zero_le _) (by simpa using hu) (by omega)).sl
  simpa using this
 ·intro a' c' w' ho hgr hb
  refine hK a' c' w' ho ⟨hgr.os, hgr.tape, hgr.output, ?_, ?_⟩ hb
  ·have := hgr.size; simp at this; omega
  ·intro k hk hne
   rw [hgr.block k (by simp; omega) hne]
   rw [Below.heap_alloc _ _ _ hk]
def Gives (e : TypeId) (sz n : Nat) (cs : List Value) (w : World) (r : Ending) (w' : World) : Prop :=
 ∃ a c, r = .returned (.slice a n c) ∧ Own w' w.heap.size e sz a n c cs ∧ Below w.heap.size w w'
def Still (v : Value) (w : World) (r : Ending) (w' : World) : Prop := r = .returned v ∧ ∃ n, w' = w.drewN n
theorem Still.below {w : World} (n : Nat) : Below w.heap.size w (w.drewN n) := ⟨rfl, rfl, rfl, Nat.le_refl _, fun _ _ => rfl⟩
end laws
end Go.Dx
end

section
/- Laws of the walk in terms of 'Sl': an index, a cut, a conversion. No program in sight. -/
namespace Go.Dx
open Go.RowKit

theorem sl_add {p : Addr} (i j : Nat) : (p.add i).add j = p.add (i + j) := by
 unfold Addr.add
 by_cases hi : i = 0
 ·subst hi; simp
 ·by_cases hj : j = 0
  ·subst hj; simp
  ·simp [hi, hj]; omega

theorem Sl.cut {w : World} {sz : Nat} {a : Option Addr} {n c : Nat} {cs : List Value} (h : Sl w sz a n c cs) (l u : Nat) (hl : l ≤ u) (hu : u ≤ n) :
    Sl w sz (if c = l then a else a.map (·.add (l * sz))) (u - l) (c - l) ((cs.drop (l * sz)).take ((u - l) * sz)) := by
  have h1 := h.len
  have h2 := h.le
  have h3 := h.cap
  have hm : u * sz ≤ n * sz := Nat.mul_le_mul_right _ hu
  have hm2 : l * sz ≤ u * sz := Nat.mul_le_mul_right _ hl
  have hsub : (u - l) * sz = u * sz - l * sz := Nat.sub_mul _ _ _
  refine ⟨?_, by omega, by omega, ?_, ?_⟩
  · rw [List.length_take, List.length_drop]; omega
  · intro ha
    by_cases hc : c = l
    · omega
    · rw [if_neg hc] at ha
      cases a with
      | none => have := h.nil rfl; omega
      | some p => cases ha
  · intro p hp j v hj
    rw [List.getElem?_take] at hj
    split at hj
    · rename_i hlt
      rw [List.getElem?_drop] at hj
      by_cases hc : c = l
      · have : (u - l) * sz = 0 := by have : u - l = 0 := by omega
                                      rw [this, Nat.zero_mul]
        omega
      · rw [if_neg hc] at hp
        cases a with
        | none => cases hp
        | some q =>
          simp only [Option.map_some, Option.some.injEq] at hp
          subst hp
          rw [sl_add]
          exact h.cell q rfl _ _ hj
    · cases hj

theorem Sl.fresh (w : World) (e : TypeId) (sz n : Nat) (us : List Value) (hn : us.length = n * sz) (hm : n ≤ maxLen) : Sl (w.alloc (.cells us.toArray e)) sz (some ⟨w.heap.size, 0, none⟩) n n us :=
 ⟨hn, Nat.le_refl _, hm, (fun h => by cases h), fun p hp j u hj => by
  cases hp
  rw [Addr.add_lit, Nat.zero_add, cell_of_row _ w.heap.size j us.toArray e _ (heap_alloc_new w _)]
  simpa using hj⟩

section ops
variable {P : Program} {w : World} {ops : Array Oper} {rest : List Oper} {act : Act} {Q : Exit → Act → World → Prop}
 {ty : TypeId} {pos : String} {after : Array Edge}
theorem index_sl (d : Nat) (t : TypeId) (x y : Operand) (e : TypeId) (ht : P.underlying t = some (.slice e)) (hsz : (P.info? e).map (·.size) = some 1)
  (a : Option Addr) (n c : Nat) (cs : List Value) (hx : act.eval x = .slice a n c) (hs : Sl w 1 a n c cs) (k : IntKind) (iv : Int) (i : Nat) (hy : act.eval y = .int k iv) (hiv : iv = (i : Int))
  (u : Value) (hu : cs[i]? = some u)
  (hK : ∀ b o, w.cell? ⟨b, o, none⟩ = some u → b < w.heap.size → wpList P ops Q rest (act.put (some d) (.pointer (some ⟨b, o, none⟩))) w) :
  wpList P ops Q ({ dst := some d, op := .indexAddr t x y, type := ty, pos := pos, after := after, guard := none } :: rest) act w := by
 refine wpList_plain rfl fun K hK' => ?_
 have hil : i < cs.length := (List.getElem?_eq_some_iff.1 hu).1
 have hn : i < n := by have := hs.len; omega
 obtain ⟨b, o, rfl, hb, hc⟩ := hs.ex (by omega)
 obtain ⟨i0, hi0, hs0⟩ := Option.map_eq_some_iff.1 hsz
 subst hiv
 have hrun : (Instr.indexAt t (.slice (some ⟨b, o, none⟩) n c) (.int k (i : Int))).run P w = .ok (.pointer (some ⟨b, o + i, none⟩)) w := by
  simp [Instr.indexAt, asIntOf, run_underlying ht, sizeOf, typeInfo, hi0, hs0, hn, Addr.add_lit]
 unfold Oper.wp
 simp [execOp, hx, hy, hrun, Result.andThen]
 exact hK' _ _ (hK b (o + i) (hc i u hu) hb)
theorem cut_sl (d : Nat) (t : TypeId) (x lo hi : Operand) (e : TypeId) (ht : P.underlying t = some (.slice e)) (sz : Nat) (hsz : (P.info? e).map (·.size) = some sz)
  (a : Option Addr) (n c : Nat) (cs : List Value) (hx : act.eval x = .slice a n c) (hs : Sl w sz a n c cs) (kl ku : IntKind) (lv uv : Int) (l u : Nat) (hl : act.eval lo = .int kl lv) (hu : act.eval hi = .int ku uv)
  (hlv : lv = (l : Int)) (huv : uv = (u : Int)) (hlu : l ≤ u) (hun : u ≤ n)
  (hK : ∀ a', Sl w sz a' (u - l) (c - l) ((cs.drop (l * sz)).take ((u - l) * sz)) → (∀ p, a' = some p → ∃ q, a = some q ∧ q.block = p.block) → wpList P ops Q rest (act.put (some d) (.slice a' (u - l) (c - l))) w) :
  wpList P ops Q ({ dst := some d, op := .slice t x (some lo) (some hi) none, type := ty, pos := pos, after := after, guard := none } :: rest) act w := by
 refine wpList_plain rfl fun K hK' => ?_
 subst hlv huv
 obtain ⟨i0, hi0, hs0⟩ := Option.map_eq_some_iff.1 hsz
 have hle := hs.le
 have hrun : (Instr.sliceAt t (.slice a n c) (some (.int kl (l : Int))) (some (.int ku (u : Int))) none).run P w = .ok (.slice (if c = l then a else a.map (·.add (l * sz))) (u - l) (c - l)) w := by
  have h2 : (0 : Int) ≤ l ∧ (l : Int) ≤ u := by omega
  have h3 : (0 : Int) ≤ u ∧ (u : Int) ≤ c := by omega
  simp [Instr.sliceAt, Instr.slice, Instr.sliceBounds, Instr.sliceBound, asIntOf, run_underlying ht, sizeOf, typeInfo, hi0, hs0, h2, h3, show u ≤ c by omega, hlu]
 unfold Oper.wp
 simp only [execOp, Option.map_some, Option.map_none, hx, hl, hu, Sem.run_bind, hrun, Result.andThen, Sem.run_pure]
 refine hK' _ _ (hK _ (hs.cut l u hlu hun) ?_)
 intro p hp
 by_cases hc : c = l
 ·rw [if_pos hc] at hp; exact ⟨p, hp, rfl⟩
 ·rw [if_neg hc] at hp
  cases a with
  | none => cases hp
  | some q =>
   simp only [Option.map_some, Option.some.injEq] at hp
   exact ⟨q, rfl, by rw [← hp]; unfold Addr.add; split <;> rfl⟩
theorem cut_lo (d : Nat) (t : TypeId) (x lo : Operand) (e : TypeId) (ht : P.underlying t = some (.slice e)) (sz : Nat) (hsz : (P.info? e).map (·.size) = some sz)
  (a : Option Addr) (n c : Nat) (cs : List Value) (hx : act.eval x = .slice a n c) (hs : Sl w sz a n c cs) (kl : IntKind) (lv : Int) (l : Nat) (hl : act.eval lo = .int kl lv)
  (hlv : lv = (l : Int)) (hln : l ≤ n)
  (hK : ∀ a', Sl w sz a' (n - l) (c - l) (cs.drop (l * sz)) → (∀ p, a' = some p → ∃ q, a = some q ∧ q.block = p.block) → wpList P ops Q rest (act.put (some d) (.slice a' (n - l) (c - l))) w) :
  wpList P ops Q ({ dst := some d, op := .slice t x (some lo) none none, type := ty, pos := pos, after := after, guard := none } :: rest) act w := by
 refine wpList_plain rfl fun K hK' => ?_
 subst hlv
 obtain ⟨i0, hi0, hs0⟩ := Option.map_eq_some_iff.1 hsz
 have hle := hs.le
 have hrun : (Instr.sliceAt t (.slice a n c) (some (.int kl (l : Int))) none none).run P w = .ok (.slice (if c = l then a else a.map (·.add (l * sz))) (n - l) (c - l)) w := by
  have h2 : (0 : Int) ≤ l ∧ (l : Int) ≤ n := by omega
  simp [Instr.sliceAt, Instr.slice, Instr.sliceBounds, Instr.sliceBound, asIntOf, run_underlying ht, sizeOf, typeInfo, hi0, hs0, h2, hln]
 have hcut := hs.cut l n hln (Nat.le_refl _)
 have e2 : (cs.drop (l * sz)).take ((n - l) * sz) = cs.drop (l * sz) := by
  apply List.take_of_length_le
  have := hs.len
  rw [List.length_drop, this, Nat.sub_mul]; omega
 rw [e2] at hcut
 unfold Oper.wp
 simp only [execOp, Option.map_some, Option.map_none, hx, hl, Sem.run_bind, hrun, Result.andThen, Sem.run_pure]
 refine hK' _ _ (hK _ hcut ?_)
 intro p hp
 by_cases hc : c = l
 ·rw [if_pos hc] at hp; exact ⟨p, hp, rfl⟩
 ·rw [if_neg hc] at hp
  cases a with
  | none => cases hp
  | some q =>
   simp only [Option.map_some, Option.some.injEq] at hp
   exact ⟨q, rfl, by rw [← hp]; unfold Addr.add; split <;> rfl⟩
theorem cut_hi (d : Nat) (t : TypeId) (x hi : Operand) (e : TypeId) (ht : P.underlying t = some (.slice e)) (sz : Nat) (hsz : (P.info? e).map (·.size) = some sz)
  (a : Option Addr) (n c : Nat) (cs : List Value) (hx : act.eval x = .slice a n c) (hs : Sl w sz a n c cs) (ku : IntKind) (uv : Int) (u : Nat) (hu : act.eval hi = .int ku uv)
  (huv : uv = (u : Int)) (hun : u ≤ n)
  (hK : Sl w sz a u c (cs.take (u * sz)) → wpList P ops Q rest (act.put (some d) (.slice a u c)) w) :
  wpList P ops Q ({ dst := some d, op := .slice t x none (some hi) none, type := ty, pos := pos, after := after, guard := none } :: rest) act w := by
 refine wpList_plain rfl fun K hK' => ?_
 subst huv
 obtain ⟨i0, hi0, hs0⟩ := Option.map_eq_some_iff.1 hsz
 have hle := hs.le
 have hrun : (Instr.sliceAt t (.slice a n c) none (some (.int ku (u : Int))) none).run P w = .ok (.slice a u c) w := by
  have h3 : (0 : Int) ≤ u ∧ (u : Int) ≤ c := by omega
  simp [Instr.sliceAt, Instr.slice, Instr.sliceBounds, Instr.sliceBound, asIntOf, run_underlying ht, sizeOf, typeInfo, hi0, h3, show u ≤ c by omega]
  intro _
  cases a with
  | none => rfl
  | some p => simp [Addr.add]
 have hcut := hs.cut 0 u (Nat.zero_le _) hun
 have e2 : (if c = 0 then a else a.map (·.add (0 * sz))) = a := by
  split
  ·rfl
  ·cases a with
   | none => rfl
   | some p => simp [Addr.add]
 rw [e2] at hcut
 simp only [Nat.sub_zero, Nat.zero_mul, List.drop_zero] at hcut
 unfold Oper.wp
 simp only [execOp, Option.map_some, Option.map_none, hx, hu, Sem.run_bind, hrun, Result.andThen, Sem.run_pure]
 exact hK' _ _ (hK hcut)
theorem conv_str (d : Nat) (src dst : TypeId) (x : Operand) (e : TypeId) (hsr : P.underlying src = some (.slice e)) (he : P.underlying e = some (.int .u8)) (hd : P.underlying dst = some .string)
  (a : Option Addr) (n c : Nat) (l : List UInt8) (hx : act.eval x = .slice a n c) (hs : Sl w 1 a n c (l.map B8))
  (hK : wpList P ops Q rest (act.put (some d) (.string ⟨l.toArray⟩)) w) :
  wpList P ops Q ({ dst := some d, op := .convert src dst x, type := ty, pos := pos, after := after, guard := none } :: rest) act w := by
 refine wpList_plain rfl fun K hK' => ?_
 obtain rfl := hs.n_eq
 have hrun : (convert src dst (.slice a l.length c)).run P w = .ok (.string ⟨l.toArray⟩) w := by
  cases a with
  | some p =>
   exact run_convert_bytes_back w src dst e p c l hsr he hd (fun j hj => hs.cell p rfl j _ (by simp [hj]))
  | none =>
   have := hs.nil rfl
   have := hs.le
   have hl : l = [] := List.eq_nil_of_length_eq_zero (by omega)
   subst hl
   simp [convert, run_underlying hsr, run_underlying hd, run_underlying he, Conv.bytesToString]
   rfl
 unfold Oper.wp
 simp [execOp, hx, hrun, Result.andThen]
 exact hK' _ _ hK
theorem conv_bytes (d : Nat) (src dst : TypeId) (x : Operand) (e : TypeId) (hsr : P.underlying src = some .string) (hd : P.underlying dst = some (.slice e)) (he : P.underlying e = some (.int .u8))
  (s : ByteArray) (hx : act.eval x = .string s) (hm : s.size ≤ maxLen)
  (hK : ∀ a c w', Sl w' 1 a s.size c (s.data.toList.map B8) → Below w.heap.size w w' → (∀ p, a = some p → w.heap.size ≤ p.block) → wpList P ops Q rest (act.put (some d) (.slice a s.size c)) w') :
  wpList P ops Q ({ dst := some d, op := .convert src dst x, type := ty, pos := pos, after := after, guard := none } :: rest) act w := by
 refine wpList_plain rfl fun K hK' => ?_
 have hrun := run_bytes_of_string (P := P) w src dst e s hsr hd he
 have hge := grownCap_ge w s.size 0 e
 have hcm := grownCap_le_maxLen w s.size 0 e hm
 unfold Oper.wp
 simp only [execOp, hx, Sem.run_bind, hrun, Result.andThen, Sem.run_pure]
 refine hK' _ _ (hK _ _ _ ⟨?_, hge, hcm, (fun h => by cases h), ?_⟩ ((Below.refl _ _).drew.alloc (Nat.le_refl _) _) (fun p hp => by cases hp; exact Nat.le_refl _))
 ·rw [List.length_map, Array.length_toList, Nat.mul_one]; rfl
 ·intro p hp j u hj
  cases hp
  rw [Addr.add_lit, Nat.zero_add, cell_of_row _ w.heap.size j (bytesRow s (grownCap w s.size 0 e)) e _ (heap_alloc_new w.drew _)]
  have hj2 : j < s.size := by
   have := (List.getElem?_eq_some_iff.1 hj).1
   rw [List.length_map, Array.length_toList] at this
   exact this
  unfold bytesRow
  rw [Array.getElem?_append_left (by rw [Array.size_map]; exact hj2)]
  rw [← hj]
  simp
theorem load_agg (d : Nat) (t : TypeId) (x : Operand) (sz : Nat) (hsz : (P.info? t).map (·.size) = some sz) (n e : Nat) (hag : P.underlying t = some (.array n e))
  (p : Addr) (hx : act.eval x = .pointer (some p)) (cs : List Value) (hl : cs.length = sz) (hc : ∀ j u, cs[j]? = some u → w.cell? (p.add j) = some u)
  (hK : wpList P ops Q rest (act.put (some d) (.agg cs.toArray)) w) :
  wpList P ops Q ({ dst := some d, op := .load t x, type := ty, pos := pos, after := after, guard := none } :: rest) act w := by
 refine wpList_plain rfl fun K hK' => ?_
 obtain ⟨i, hi, hs0⟩ := Option.map_eq_some_iff.1 hsz
 subst hs0
 have hrun : (Instr.loadAt t (.pointer (some p))).run P w = .ok (.agg cs.toArray) w := by
  have hl2 := run_loadCells_list (P := P) w p cs hc
  rw [hl] at hl2
  simp [Instr.loadAt, Instr.sureAddr, loadVar, isAgg, run_underlying hag, sizeOf, typeInfo, hi, hl2]
 unfold Oper.wp
 simp [execOp, hx, hrun, Result.andThen]
 exact hK' _ _ hK

end ops
end Go.Dx
end

section
/- How the arguments of a law read: slices of integers, of strings, of arrays of integers, with the form's own reach. No program. -/
namespace Go.Dx
open Go.RowKit Go.WideShapes Go.ChangeShapes Go.Deep
def Sized {H : Type} (P : Program) (t : TypeId) (d : DataW H) : Prop := ∀ n ∈ d.weights P t, n ≤ reachBytes
section
variable {H : Type} {enc : TypeId × Value → H} {P : Program} {w : World}
theorem sized_at {ts : List TypeId} {ds : List (DataW H)} (hwt : (DataW.weightsEach P ts ds).all (· ≤ reachBytes) = true) (j : Nat) {t : TypeId} {d : DataW H} (ht : ts[j]? = some t) (hd : ds[j]? = some d) : Sized P t d :=
 fun n hn => by simpa using List.all_eq_true.1 hwt _ (DataW.weights_mem_each ht hd n hn)
theorem sized_all {e : TypeId} : ∀ {l : List (DataW H)} {d : DataW H}, d ∈ l → ∀ n ∈ d.weights P e, n ∈ DataW.weightsAll P e l
 | x :: l, d, hd, n, hn => by
  simp only [DataW.weightsAll, List.mem_append]
  rcases List.mem_cons.1 hd with rfl | h
  ·exact .inl hn
  ·exact .inr (sized_all h n hn)
theorem Sized.slice {t e : TypeId} {elems spare : List (DataW H)} (h : Sized P t (.slice elems spare)) (hu : P.underlying t = some (.slice e)) :
  (elems.length + spare.length) * P.bytesOf e ≤ reachBytes ∧ (∀ d ∈ elems, Sized P e d) :=
 ⟨h _ (by simp [DataW.weights, hu]), fun d hd n hn => h n (by simp only [DataW.weights, hu, List.mem_cons, List.mem_append]; exact .inr (.inl (sized_all hd n hn)))⟩
theorem trod_ints {t e : TypeId} {k : IntKind} (ht : P.underlying t = some (.slice e)) (he : P.underlying e = some (.int k)) (hc : P.cellsOf e = 1) (hb : 0 < P.bytesOf e) {a : Option Addr} {len cap : Nat} {d : DataW H} {p : List MemPlace}
  (hs : Sized P t d) (h : DataW.Trod enc P w 0 (fun _ => true) true t (.slice a len cap) d p) :
  ∃ zs : List Int, Sl w 1 a len cap (zs.map (Value.int k)) ∧ (∀ n ∈ zs, (Lit.int k n).wf = true) ∧ len ≤ reachBytes := by
 obtain ⟨fuel, hf⟩ := h
 rcases open_ints ht he hc hf with ⟨hcs, _⟩ | ⟨x, l, c, zs, hcs, _, hl, hm, hz, hx, hcell, hwz⟩
 ·simp [Value.cells] at hcs
  obtain ⟨rfl, rfl, rfl⟩ := hcs
  exact ⟨[], Sl.empty w 1, by simp, Nat.zero_le _⟩
 ·simp [Value.cells] at hcs
  obtain ⟨rfl, rfl, rfl⟩ := hcs
  have hz2 : zs.length = cap := by simpa using hz
  have hd := congrArg Prod.fst hx
  simp only at hd
  subst hd
  refine ⟨zs.take len, ⟨by simp; omega, hl, hm, (fun h => by cases h), ?_⟩, fun n hn => hwz n (List.mem_of_mem_take hn), ?_⟩
  ·intro q hq j u hj
   cases hq
   rw [List.getElem?_map, List.getElem?_take] at hj
   by_cases hlt : j < len
   ·rw [if_pos hlt] at hj
    have hjz : j < zs.length := by omega
    rw [List.getElem?_eq_getElem hjz] at hj
    simp at hj
    rw [hcell j hjz, ← hj, List.getD_eq_getElem?_getD, List.getElem?_eq_getElem hjz]
    rfl
   ·rw [if_neg hlt] at hj; cases hj
  ·have hsz := (hs.slice ht).1
   rw [show ∀ (k : IntKind) (l : List Int), (lits (H := H) k l).length = l.length from fun k l => by simp [lits], List.length_take, show min len zs.length = len by omega] at hsz
   exact Nat.le_trans (Nat.le_trans (Nat.le_add_right _ _) (Nat.le_mul_of_pos_right _ hb)) hsz

theorem trod_bytes {t e : TypeId} (ht : P.underlying t = some (.slice e)) (he : P.underlying e = some (.int .u8)) (hc : P.cellsOf e = 1) (hb : 0 < P.bytesOf e) {a : Option Addr} {len cap : Nat} {d : DataW H} {p : List MemPlace}
  (hs : Sized P t d) (h : DataW.Trod enc P w 0 (fun _ => true) true t (.slice a len cap) d p) :
  ∃ l : List UInt8, Sl w 1 a len cap (l.map B8) ∧ len ≤ reachBytes := by
 obtain ⟨zs, h1, h2, h3⟩ := trod_ints ht he hc hb hs h
 refine ⟨zs.map fun n => UInt8.ofNat n.toNat, ?_, h3⟩
 have e : (zs.map fun n => UInt8.ofNat n.toNat).map B8 = zs.map (Value.int .u8) := by
  rw [List.map_map]
  apply List.map_congr_left
  intro n hn
  have hb : 0 ≤ n ∧ n ≤ 255 := bounds_u8 (h2 n hn)
  show Value.int .u8 ((UInt8.ofNat n.toNat).toNat : Int) = _
  rw [UInt8.toNat_ofNat']
  congr 1
  omega
 rw [e]
 exact h1
theorem trod_i64s {t e : TypeId} (ht : P.underlying t = some (.slice e)) (he : P.underlying e = some (.int .i64)) (hc : P.cellsOf e = 1) (hb : 0 < P.bytesOf e) {a : Option Addr} {len cap : Nat} {d : DataW H} {p : List MemPlace}
  (hs : Sized P t d) (h : DataW.Trod enc P w 0 (fun _ => true) true t (.slice a len cap) d p) :
  ∃ l : List Int, Sl w 1 a len cap (l.map I64) ∧ (∀ n ∈ l, -9223372036854775808 ≤ n ∧ n ≤ 9223372036854775807) ∧ len ≤ reachBytes := by
 obtain ⟨zs, h1, h2, h3⟩ := trod_ints ht he hc hb hs h
 exact ⟨zs, h1, fun n hn => bounds_i64 (h2 n hn), h3⟩

end
end Go.Dx
end

section
/- Words of 32 bits: what the model computes, as UInt32. No program. -/
namespace Go.Dx
open Go.RowKit
abbrev W32 (x : UInt32) : Value := .int .u32 (x.toNat : Int)
theorem w_lt (x : UInt32) : x.toNat < 4294967296 := UInt32.toNat_lt x
theorem w_add (x y : UInt32) : IntKind.u32.wrap ((x.toNat : Int) + (y.toNat : Int)) = ((x + y).toNat : Int) := by
 rw [IntKind.wrap_u32', UInt32.toNat_add]; omega
theorem w_xor (x y : UInt32) : bits .xor .u32 (x.toNat : Int) (y.toNat : Int) = ((x ^^^ y).toNat : Int) := by
 rw [u32_xor_nat _ _ (w_lt x) (w_lt y), UInt32.toNat_xor]
theorem w_and (x y : UInt32) : bits .and .u32 (x.toNat : Int) (y.toNat : Int) = ((x &&& y).toNat : Int) := by
 rw [u32_and_nat _ _ (w_lt x) (w_lt y), UInt32.toNat_and]
theorem w_or (x y : UInt32) : bits .or .u32 (x.toNat : Int) (y.toNat : Int) = ((x ||| y).toNat : Int) := by
 rw [u32_or_nat _ _ (w_lt x) (w_lt y), UInt32.toNat_or]
theorem w_all : (4294967295 : Int) = (((-1 : UInt32)).toNat : Int) := by decide
theorem w_not (x : UInt32) : bits .xor .u32 4294967295 (x.toNat : Int) = ((x ^^^ (-1)).toNat : Int) := by
 rw [w_all, w_xor, UInt32.xor_comm]
theorem w_not' (x : UInt32) : bits .xor .u32 (x.toNat : Int) 4294967295 = ((x ^^^ (-1)).toNat : Int) := by
 rw [w_all, w_xor]
def shr (x : UInt32) (n : Nat) : UInt32 := UInt32.ofNat (x.toNat / 2 ^ n)
def shl (x : UInt32) (n : Nat) : UInt32 := UInt32.ofNat (x.toNat * 2 ^ n)
theorem shr_toNat (x : UInt32) (n : Nat) : (shr x n).toNat = x.toNat / 2 ^ n := by
 unfold shr
 rw [UInt32.toNat_ofNat']
 exact Nat.mod_eq_of_lt (Nat.lt_of_le_of_lt (Nat.div_le_self _ _) (w_lt x))
theorem w_shr (x : UInt32) (n : Nat) : (x.toNat : Int) / 2 ^ n = ((shr x n).toNat : Int) := by rw [shr_toNat]; simp
theorem w_shl (x : UInt32) (n : Nat) : IntKind.u32.wrap ((x.toNat : Int) * 2 ^ n) = ((shl x n).toNat : Int) := by
 unfold shl
 rw [IntKind.wrap_u32', UInt32.toNat_ofNat']
 have e : ((x.toNat : Int) * 2 ^ n) = ((x.toNat * 2 ^ n : Nat) : Int) := by simp
 rw [e]
 omega
theorem w_shl' (x : UInt32) (n : Nat) : (x.toNat : Int) * 2 ^ n % 4294967296 = ((shl x n).toNat : Int) := by rw [← w_shl, IntKind.wrap_u32']
def ror (x : UInt32) (n : Nat) : UInt32 := shl x (32 - n) ||| shr x n
def mix3 (x : UInt32) (i j k : Nat) : UInt32 := ror x i ^^^ ror x j ^^^ ror x k
theorem val_w {a : Int} {x : UInt32} (h : a = (x.toNat : Int)) : Value.int .u32 a = W32 x := by rw [h]
theorem ret_w {a : Int} {x : UInt32} (h : a = (x.toNat : Int)) : Ending.returned (.int .u32 a) = .returned (W32 x) := by rw [h]
end Go.Dx
end

section
/- The seat's numbers of types, and the laws on append at each slice type. -/
namespace Go.Proofs.YtfagjaabladgpaaDoor
open Go.RowKit Go.Dx

theorem info_u8 : (Tryd.prog.info? 5).map (fun i => (i.zero, i.size, i.bytes)) = some (some (.int .u8 0), 1, 1) := by kernel_rfl


theorem info_str : (Tryd.prog.info? 9).map (fun i => (i.zero, i.size, i.bytes)) = some (some (.string ⟨#[]⟩), 1, 16) := by kernel_rfl
theorem size_int : (Tryd.prog.info? 3).map (·.size) = some 1 := by kernel_rfl
theorem size_u8 : (Tryd.prog.info? 5).map (·.size) = some 1 := by kernel_rfl
theorem size_str : (Tryd.prog.info? 9).map (·.size) = some 1 := by kernel_rfl

section
variable {w : World} {ops : Array Oper} {rest : List Oper} {o : Oper} {act : Act} {Q : Exit → Act → World → Prop}
theorem app_b (hg : o.guard = none) (s x : Operand) (hop : o.op = Op.call { callee := Callee.builtin Builtin.append, args := #[s, x], argTypes := #[23, 23] })
  (w0 : World) (B : Nat) (a : Option Addr) (n c : Nat) (xs : List Value) (hs : act.eval s = .slice a n c) (hown : Own w B 5 1 a n c xs)
  (u : Int) (hx : act.eval x = .slice (some ⟨w.heap.size, 0, none⟩) 1 1)
  (hn : n + 1 ≤ 140737488355328) (hB : B ≤ w.heap.size) (hbel : Below B w0 w)
  (hK : ∀ a' c' w', Own w' B 5 1 a' (n + 1) c' (xs ++ [.int .u8 u]) → w.grownBy w' (a.map (·.block)) → Below B w0 w' → wpList Tryd.prog ops Q rest (act.put o.dst (.slice a' (n + 1) c')) w') :
  wpList Tryd.prog ops Q (o :: rest) act (w.alloc (.cells #[.int .u8 u] 5)) :=
 append_lit hg s x 23 hop 5 (.int .u8 0) 1 1 Tryd.underlying23 info_u8 rfl w0 B a n c xs hs hown 1 [.int .u8 u] hx rfl (by simp [Value.oneCell']) (by omega) (by unfold maxLen; omega) hB hbel hK
theorem app_s (hg : o.guard = none) (s x : Operand) (hop : o.op = Op.call { callee := Callee.builtin Builtin.append, args := #[s, x], argTypes := #[57, 57] })
  (w0 : World) (B : Nat) (a : Option Addr) (n c : Nat) (xs : List Value) (hs : act.eval s = .slice a n c) (hown : Own w B 9 1 a n c xs)
  (u : ByteArray) (hx : act.eval x = .slice (some ⟨w.heap.size, 0, none⟩) 1 1)
  (hn : (n + 1) * 16 ≤ 140737488355328) (hB : B ≤ w.heap.size) (hbel : Below B w0 w)
  (hK : ∀ a' c' w', Own w' B 9 1 a' (n + 1) c' (xs ++ [.string u]) → w.grownBy w' (a.map (·.block)) → Below B w0 w' → wpList Tryd.prog ops Q rest (act.put o.dst (.slice a' (n + 1) c')) w') :
  wpList Tryd.prog ops Q (o :: rest) act (w.alloc (.cells #[.string u] 9)) :=
 append_lit hg s x 57 hop 9 (.string ⟨#[]⟩) 1 16 Tryd.underlying57 info_str rfl w0 B a n c xs hs hown 1 [.string u] hx rfl (by simp [Value.oneCell']) hn (by unfold maxLen; omega) hB hbel hK
theorem app_bs (hg : o.guard = none) (s x : Operand) (hop : o.op = Op.call { callee := Callee.builtin Builtin.append, args := #[s, x], argTypes := #[23, 23] })
  (w0 : World) (B : Nat) (a : Option Addr) (n c : Nat) (xs : List Value) (hs : act.eval s = .slice a n c) (hown : Own w B 5 1 a n c xs)
  (a2 : Option Addr) (m c2 : Nat) (ys : List UInt8) (hx : act.eval x = .slice a2 m c2) (hy : Sl w 1 a2 m c2 (ys.map B8))
  (hn : n + m ≤ 140737488355328) (hB : B ≤ w.heap.size) (hbel : Below B w0 w)
  (hK : ∀ a' c' w', Own w' B 5 1 a' (n + m) c' (xs ++ ys.map B8) → w.grownBy w' (a.map (·.block)) → Below B w0 w' → wpList Tryd.prog ops Q rest (act.put o.dst (.slice a' (n + m) c')) w') :
  wpList Tryd.prog ops Q (o :: rest) act w :=
 append_own hg s x 23 hop 5 (.int .u8 0) 1 1 Tryd.underlying23 info_u8 rfl w0 B a n c xs hs hown a2 m c2 (ys.map B8) hx hy (one_map _ (fun _ => rfl) _) (by omega) (by unfold maxLen; omega) hB hbel hK
theorem app_str (hg : o.guard = none) (s x : Operand) (hop : o.op = Op.call { callee := Callee.builtin Builtin.append, args := #[s, x], argTypes := #[23, 9] })
  (w0 : World) (B : Nat) (a : Option Addr) (n c : Nat) (xs : List Value) (hs : act.eval s = .slice a n c) (hown : Own w B 5 1 a n c xs)
  (y : ByteArray) (hx : act.eval x = .string y)
  (hn : n + y.size ≤ 140737488355328) (hB : B ≤ w.heap.size) (hbel : Below B w0 w)
  (hK : ∀ a' c' w', Own w' B 5 1 a' (n + y.size) c' (xs ++ y.data.toList.map B8) → w.grownBy w' (a.map (·.block)) → Below B w0 w' → wpList Tryd.prog ops Q rest (act.put o.dst (.slice a' (n + y.size) c')) w') :
  wpList Tryd.prog ops Q (o :: rest) act w :=
 append_src hg s x 23 9 hop 5 (.int .u8 0) 1 1 Tryd.underlying23 info_u8 rfl w0 B a n c xs hs hown (.string y) y.size (byteCells y) hx (Src.ofString w Tryd.underlying9 y) (by omega) (by unfold maxLen; omega) hB hbel hK
end
section
variable {w : World} {ops : Array Oper} {rest : List Oper} {act : Act} {Q : Exit → Act → World → Prop} {ty : TypeId} {pos : String} {after : Array Edge}

theorem idx_b (d : Nat) (x y : Operand) (a : Option Addr) (n c : Nat) (cs : List UInt8) (hx : act.eval x = .slice a n c) (hs : Sl w 1 a n c (cs.map B8)) (k : IntKind) (iv : Int) (i : Nat) (hy : act.eval y = .int k iv) (hiv : iv = (i : Int))
  (u : UInt8) (hu : cs[i]? = some u)
  (hK : ∀ b o, w.cell? ⟨b, o, none⟩ = some (B8 u) → b < w.heap.size → wpList Tryd.prog ops Q rest (act.put (some d) (.pointer (some ⟨b, o, none⟩))) w) :
  wpList Tryd.prog ops Q ({ dst := some d, op := .indexAddr 23 x y, type := ty, pos := pos, after := after, guard := none } :: rest) act w :=
 index_sl d 23 x y 5 Tryd.underlying23 size_u8 a n c _ hx hs k iv i hy hiv _ (by rw [List.getElem?_map, hu]; rfl) hK
theorem idx_i (d : Nat) (x y : Operand) (a : Option Addr) (n c : Nat) (cs : List Int) (hx : act.eval x = .slice a n c) (hs : Sl w 1 a n c (cs.map I64)) (k : IntKind) (iv : Int) (i : Nat) (hy : act.eval y = .int k iv) (hiv : iv = (i : Int))
  (u : Int) (hu : cs[i]? = some u)
  (hK : ∀ b o, w.cell? ⟨b, o, none⟩ = some (I64 u) → b < w.heap.size → wpList Tryd.prog ops Q rest (act.put (some d) (.pointer (some ⟨b, o, none⟩))) w) :
  wpList Tryd.prog ops Q ({ dst := some d, op := .indexAddr 22 x y, type := ty, pos := pos, after := after, guard := none } :: rest) act w :=
 index_sl d 22 x y 3 Tryd.underlying22 size_int a n c _ hx hs k iv i hy hiv _ (by rw [List.getElem?_map, hu]; rfl) hK
theorem idx_s (d : Nat) (x y : Operand) (a : Option Addr) (n c : Nat) (cs : List ByteArray) (hx : act.eval x = .slice a n c) (hs : Sl w 1 a n c (cs.map Value.string)) (k : IntKind) (iv : Int) (i : Nat) (hy : act.eval y = .int k iv) (hiv : iv = (i : Int))
  (u : ByteArray) (hu : cs[i]? = some u)
  (hK : ∀ b o, w.cell? ⟨b, o, none⟩ = some (Value.string u) → b < w.heap.size → wpList Tryd.prog ops Q rest (act.put (some d) (.pointer (some ⟨b, o, none⟩))) w) :
  wpList Tryd.prog ops Q ({ dst := some d, op := .indexAddr 57 x y, type := ty, pos := pos, after := after, guard := none } :: rest) act w :=
 index_sl d 57 x y 9 Tryd.underlying57 size_str a n c _ hx hs k iv i hy hiv _ (by rw [List.getElem?_map, hu]; rfl) hK
theorem cut_b (d : Nat) (x lo hi : Operand) (a : Option Addr) (n c : Nat) (cs : List UInt8) (hx : act.eval x = .slice a n c) (hs : Sl w 1 a n c (cs.map B8)) (kl ku : IntKind) (lv uv : Int) (l u : Nat) (hl : act.eval lo = .int kl lv) (hu : act.eval hi = .int ku uv)
  (hlv : lv = (l : Int)) (huv : uv = (u : Int)) (hlu : l ≤ u) (hun : u ≤ n)
  (hK : ∀ a', Sl w 1 a' (u - l) (c - l) (((cs.drop l).take (u - l)).map B8) → (∀ p, a' = some p → ∃ q, a = some q ∧ q.block = p.block) → wpList Tryd.prog ops Q rest (act.put (some d) (.slice a' (u - l) (c - l))) w) :
  wpList Tryd.prog ops Q ({ dst := some d, op := .slice 23 x (some lo) (some hi) none, type := ty, pos := pos, after := after, guard := none } :: rest) act w :=
 cut_sl d 23 x lo hi 5 Tryd.underlying23 1 size_u8 a n c _ hx hs kl ku lv uv l u hl hu hlv huv hlu hun (fun a' h => hK a' (by rw [Nat.mul_one, Nat.mul_one, ← List.map_drop, ← List.map_take] at h; exact h))
theorem cutlo_b (d : Nat) (x lo : Operand) (a : Option Addr) (n c : Nat) (cs : List UInt8) (hx : act.eval x = .slice a n c) (hs : Sl w 1 a n c (cs.map B8)) (kl : IntKind) (lv : Int) (l : Nat) (hl : act.eval lo = .int kl lv)
  (hlv : lv = (l : Int)) (hun : l ≤ n)
  (hK : ∀ a', Sl w 1 a' (n - l) (c - l) ((cs.drop l).map B8) → (∀ p, a' = some p → ∃ q, a = some q ∧ q.block = p.block) → wpList Tryd.prog ops Q rest (act.put (some d) (.slice a' (n - l) (c - l))) w) :
  wpList Tryd.prog ops Q ({ dst := some d, op := .slice 23 x (some lo) none none, type := ty, pos := pos, after := after, guard := none } :: rest) act w :=
 cut_lo d 23 x lo 5 Tryd.underlying23 1 size_u8 a n c _ hx hs kl lv l hl hlv hun (fun a' h => hK a' (by rw [Nat.mul_one, ← List.map_drop] at h; exact h))
theorem cuthi_b (d : Nat) (x hi : Operand) (a : Option Addr) (n c : Nat) (cs : List UInt8) (hx : act.eval x = .slice a n c) (hs : Sl w 1 a n c (cs.map B8)) (ku : IntKind) (uv : Int) (u : Nat) (hu : act.eval hi = .int ku uv)
  (huv : uv = (u : Int)) (hun : u ≤ n)
  (hK : Sl w 1 a u c ((cs.take u).map B8) → wpList Tryd.prog ops Q rest (act.put (some d) (.slice a u c)) w) :
  wpList Tryd.prog ops Q ({ dst := some d, op := .slice 23 x none (some hi) none, type := ty, pos := pos, after := after, guard := none } :: rest) act w :=
 cut_hi d 23 x hi 5 Tryd.underlying23 1 size_u8 a n c _ hx hs ku uv u hu huv hun (fun h => hK (by rw [Nat.mul_one, ← List.map_take] at h; exact h))
theorem to_str (d : Nat) (x : Operand) (a : Option Addr) (n c : Nat) (l : List UInt8) (hx : act.eval x = .slice a n c) (hs : Sl w 1 a n c (l.map B8))
  (hK : wpList Tryd.prog ops Q rest (act.put (some d) (.string ⟨l.toArray⟩)) w) :
  wpList Tryd.prog ops Q ({ dst := some d, op := .convert 23 9 x, type := ty, pos := pos, after := after, guard := none } :: rest) act w :=
 conv_str d 23 9 x 5 Tryd.underlying23 Tryd.underlying5 Tryd.underlying9 a n c l hx hs hK
theorem to_bytes (d : Nat) (x : Operand) (s : ByteArray) (hx : act.eval x = .string s) (hm : s.size ≤ maxLen)
  (hK : ∀ a c w', Sl w' 1 a s.size c (s.data.toList.map B8) → Below w.heap.size w w' → (∀ p, a = some p → w.heap.size ≤ p.block) → wpList Tryd.prog ops Q rest (act.put (some d) (.slice a s.size c)) w') :
  wpList Tryd.prog ops Q ({ dst := some d, op := .convert 9 23 x, type := ty, pos := pos, after := after, guard := none } :: rest) act w :=
 conv_bytes d 9 23 x 5 Tryd.underlying9 Tryd.underlying23 Tryd.underlying5 s hx hm hK
end
end Go.Proofs.YtfagjaabladgpaaDoor
end

section
/- The plain mathematics of layer 1 (wire): what an integer's encoding is, what a decoding returns. No Go. -/
namespace Go.Dx
def dig (m i : Nat) : UInt8 := UInt8.ofNat (m / 256 ^ i % 256)
def digs (m k j : Nat) : List UInt8 := (List.range j).map fun t => dig m (k - 1 - t)
theorem digs_zero (m k : Nat) : digs m k 0 = [] := rfl
theorem digs_succ (m k j : Nat) : digs m k (j + 1) = digs m k j ++ [dig m (k - 1 - j)] := by simp [digs, List.range_succ]
theorem digs_length (m k j : Nat) : (digs m k j).length = j := by simp [digs]
theorem dig_toNat (m i : Nat) : (dig m i).toNat = m / 256 ^ i % 256 := by
 unfold dig
 rw [UInt8.toNat_ofNat']
 omega
def Len (m k : Nat) : Prop := k ≤ 8 ∧ m < 256 ^ k ∧ (k = 0 ∨ 256 ^ (k - 1) ≤ m)
def klen (m : Nat) : Nat := if m < 1 then 0 else if m < 256 then 1 else if m < 65536 then 2 else if m < 16777216 then 3 else if m < 4294967296 then 4 else if m < 1099511627776 then 5 else if m < 281474976710656 then 6 else if m < 72057594037927936 then 7 else 8
theorem klen_le (m : Nat) : klen m ≤ 8 := by unfold klen; repeat' split
                                             all_goals omega
theorem klen_of {m k : Nat} (h : Len m k) : klen m = k := by
  obtain ⟨h8, h1, h2⟩ := h
  match k, h8 with
  | 0, _ => simp at h1; subst h1; rfl
  | 1, _ => simp at h1 h2; unfold klen; repeat' split
            all_goals omega
  | 2, _ => simp at h1 h2; unfold klen; repeat' split
            all_goals omega
  | 3, _ => simp at h1 h2; unfold klen; repeat' split
            all_goals omega
  | 4, _ => simp at h1 h2; unfold klen; repeat' split
            all_goals omega
  | 5, _ => simp at h1 h2; unfold klen; repeat' split
            all_goals omega
  | 6, _ => simp at h1 h2; unfold klen; repeat' split
            all_goals omega
  | 7, _ => simp at h1 h2; unfold klen; repeat' split
            all_goals omega
  | 8, _ => simp at h1 h2; unfold klen; repeat' split
            all_goals omega
theorem len_klen {m : Nat} (h : m < 18446744073709551616) : Len m (klen m) := by
 unfold klen Len
 repeat' split
 all_goals (refine ⟨by omega, ?_, ?_⟩ <;> simp <;> omega)

def mag (n : Int) : Nat := if n < 0 then (-1 - n).toNat else n.toNat
def fl (neg : Bool) : UInt8 := if neg then 255 else 0
def flp (neg : Bool) (d : UInt8) : UInt8 := d ^^^ fl neg
def hd (neg : Bool) (k : Nat) : UInt8 := flp neg (UInt8.ofNat (128 + k))
def encInt (n : Int) : List UInt8 := hd (decide (n < 0)) (klen (mag n)) :: (digs (mag n) (klen (mag n)) (klen (mag n))).map (flp (decide (n < 0)))
theorem encInt_length (n : Int) : (encInt n).length = klen (mag n) + 1 := by simp [encInt, digs_length]
theorem encInt_pos (n : Int) : 1 ≤ (encInt n).length := by rw [encInt_length]; omega
theorem encInt_le (n : Int) : (encInt n).length ≤ 9 := by rw [encInt_length]; have := klen_le (mag n); omega
def val (l : List UInt8) : Nat := l.foldl (fun m d => 256 * m + d.toNat) 0
theorem val_snoc (l : List UInt8) (d : UInt8) : val (l ++ [d]) = 256 * val l + d.toNat := by simp [val, List.foldl_append]
def decK (neg : Bool) (k : Nat) (t : List UInt8) : Int × Int × Int :=
 if 8 < k then (0, 0, 2)
 else if t.length < k then (0, 0, 3)
 else if 0 < k ∧ flp neg (t.getD 0 0) = 0 then (0, 0, 2)
 else if 9223372036854775808 ≤ val ((t.take k).map (flp neg)) then (0, 0, 2)
 else (if neg then -1 - (val ((t.take k).map (flp neg)) : Int) else val ((t.take k).map (flp neg)), (k : Int) + 1, 0)
def decInt (b : List UInt8) : Int × Int × Int :=
 match b with
 | [] => (0, 0, 3)
 | h :: t => decK (decide (h.toNat < 128)) ((flp (decide (h.toNat < 128)) h).toNat - 128) t
section
variable {neg : Bool} {k : Nat} {t : List UInt8}
theorem decK_8 (h8 : 8 < k) : decK neg k t = (0, 0, 2) := by unfold decK; rw [if_pos h8]
theorem decK_more (h8 : ¬ 8 < k) (hl : t.length < k) : decK neg k t = (0, 0, 3) := by unfold decK; rw [if_neg h8, if_pos hl]
theorem decK_zero (h8 : ¬ 8 < k) (hl : ¬ t.length < k) (h0 : 0 < k) (hz : flp neg (t.getD 0 0) = 0) : decK neg k t = (0, 0, 2) := by unfold decK; rw [if_neg h8, if_neg hl, if_pos ⟨h0, hz⟩]
theorem decK_big (h8 : ¬ 8 < k) (hl : ¬ t.length < k) (hz : k = 0 ∨ flp neg (t.getD 0 0) ≠ 0) (hb : 9223372036854775808 ≤ val ((t.take k).map (flp neg))) : decK neg k t = (0, 0, 2) := by
 unfold decK; rw [if_neg h8, if_neg hl, if_neg (by rintro ⟨h1, h2⟩; rcases hz with h | h; omega; exact h h2), if_pos hb]
theorem decK_form (h8 : ¬ 8 < k) (hl : ¬ t.length < k) (hb : 9223372036854775808 ≤ val ((t.take k).map (flp neg))) : decK neg k t = (0, 0, 2) := by
 unfold decK; rw [if_neg h8, if_neg hl]
 by_cases hz : 0 < k ∧ flp neg (t.getD 0 0) = 0
 ·rw [if_pos hz]
 ·rw [if_neg hz, if_pos hb]
theorem decK_ok (h8 : ¬ 8 < k) (hl : ¬ t.length < k) (hz : k = 0 ∨ flp neg (t.getD 0 0) ≠ 0) (hb : ¬ 9223372036854775808 ≤ val ((t.take k).map (flp neg))) :
  decK neg k t = (if neg then -1 - (val ((t.take k).map (flp neg)) : Int) else val ((t.take k).map (flp neg)), (k : Int) + 1, 0) := by
 unfold decK; rw [if_neg h8, if_neg hl, if_neg (by rintro ⟨h1, h2⟩; rcases hz with h | h; omega; exact h h2), if_neg hb]
end

theorem xor_u8 (a b : UInt8) : bits .xor .u8 (a.toNat : Int) (b.toNat : Int) = ((a ^^^ b).toNat : Int) := by
 rw [u8_xor_nat _ _ (UInt8.toNat_lt a) (UInt8.toNat_lt b), UInt8.toNat_xor]
theorem wrap_u8 (n : Nat) : IntKind.u8.wrap (n : Int) = ((UInt8.ofNat n).toNat : Int) := by
 rw [UInt8.toNat_ofNat', IntKind.wrap_u8']; omega
theorem u64_not (a : Nat) (ha : a < 18446744073709551616) : bits .xor .u64 IntKind.u64.max (a : Int) = ((18446744073709551615 - a : Nat) : Int) := by
 have h : IntKind.u64.max = ((18446744073709551615 : Nat) : Int) := rfl
 rw [h, u64_xor_nat _ _ (by omega) ha]
 congr 1
 have h2 : (18446744073709551615 : Nat) = 2 ^ 64 - 1 := by decide
 have := BitVec.toNat_not (x := BitVec.ofNat 64 a)
 have h3 := BitVec.allOnes_xor (x := BitVec.ofNat 64 a)
 rw [← h3, BitVec.toNat_xor, BitVec.toNat_allOnes, BitVec.toNat_ofNat, Nat.mod_eq_of_lt (by omega)] at this
 rw [h2, this]
theorem mag_lt {n : Int} (h0 : -9223372036854775808 ≤ n) (h1 : n ≤ 9223372036854775807) : mag n < 9223372036854775808 := by unfold mag; split <;> omega
theorem mag_pos {n : Int} (h : ¬ n < 0) : n = (mag n : Int) := by unfold mag; rw [if_neg h]; omega
theorem mag_neg {n : Int} (h : n < 0) (h0 : -9223372036854775808 ≤ n) : bits .xor .u64 IntKind.u64.max (IntKind.u64.wrap n) = (mag n : Int) := by
 have e : IntKind.u64.wrap n = ((n + 18446744073709551616).toNat : Int) := by rw [IntKind.wrap_u64]; omega
 rw [e, u64_not _ (by omega)]
 unfold mag
 rw [if_pos h]
 omega
theorem pow_shift (j : Nat) : (2 : Nat) ^ (8 * j) = 256 ^ j := by rw [Nat.pow_mul]
theorem shift_int (m j : Nat) : (m : Int) / 2 ^ (8 * j) = ((m / 256 ^ j : Nat) : Int) := by
 rw [← pow_shift]; simp
theorem len_brk {m k : Nat} (hk : k ≤ 8) (hm : m < 256 ^ k) (_h0 : 0 < k) (h : 0 < (m : Int) / 2 ^ (8 * (k - 1))) : Len m k := by
 refine ⟨hk, hm, .inr ?_⟩
 rw [shift_int] at h
 have h1 : 0 < m / 256 ^ (k - 1) := by omega
 exact Nat.le_of_not_lt fun h2 => by rw [Nat.div_eq_of_lt h2] at h1; omega
theorem len_zero {m k : Nat} (hk : k ≤ 8) (hm : m < 256 ^ k) (h0 : ¬ 0 < k) : Len m k := ⟨hk, hm, .inl (by omega)⟩
theorem len_next {m k : Nat} (hk : 0 < k) (h : (m : Int) / 2 ^ (8 * (k - 1)) ≤ 0) : m < 256 ^ (k - 1) := by
 rw [shift_int] at h
 have h1 : m / 256 ^ (k - 1) = 0 := Nat.le_zero.1 (by exact_mod_cast h)
 rcases Nat.div_eq_zero_iff.1 h1 with h2 | h2
 ·have : 0 < 256 ^ (k - 1) := Nat.pow_pos (by omega)
  omega
 ·exact h2
theorem hd_eq (neg : Bool) (k : Nat) (hk : k ≤ 8) : bits .xor .u8 (128 + (k : Int)) ((fl neg).toNat : Int) = ((hd neg k).toNat : Int) := by
 have e : (128 + (k : Int)) = ((UInt8.ofNat (128 + k)).toNat : Int) := by rw [UInt8.toNat_ofNat']; omega
 rw [e, xor_u8]; rfl
theorem dig_eq (neg : Bool) (m i : Nat) : bits .xor .u8 ((m : Int) / 2 ^ (8 * i) % 256) ((fl neg).toNat : Int) = ((flp neg (dig m i)).toNat : Int) := by
 rw [← IntKind.wrap_u8', shift_int, wrap_u8, xor_u8]
 congr 2
 unfold flp dig
 congr 1
 apply UInt8.toNat_inj.1
 rw [UInt8.toNat_ofNat', UInt8.toNat_ofNat']; omega
def encTo (neg : Bool) (m k j : Nat) : List UInt8 := hd neg k :: (digs m k j).map (flp neg)
theorem encTo_zero (neg : Bool) (m k : Nat) : encTo neg m k 0 = [hd neg k] := rfl
theorem encTo_succ (neg : Bool) (m k j : Nat) : encTo neg m k (j + 1) = encTo neg m k j ++ [flp neg (dig m (k - 1 - j))] := by simp [encTo, digs_succ]
theorem encTo_length (neg : Bool) (m k j : Nat) : (encTo neg m k j).length = j + 1 := by simp [encTo, digs_length]
theorem encTo_all {n : Int} {k : Nat} (h : Len (mag n) k) : encTo (decide (n < 0)) (mag n) k k = encInt n := by
 unfold encTo encInt; rw [klen_of h]
theorem xor_fl (d : UInt8) (neg : Bool) : bits .xor .u8 (d.toNat : Int) ((fl neg).toNat : Int) = ((flp neg d).toNat : Int) := xor_u8 _ _
theorem or_u64 (m : Nat) (d : UInt8) (h : m < 72057594037927936) : bits .or .u64 ((m : Int) * 256) (d.toNat : Int) = ((256 * m + d.toNat : Nat) : Int) := by
 have hd := UInt8.toNat_lt d
 have e : (m : Int) * (256 : Int) = ((m <<< 8 : Nat) : Int) := by rw [Nat.shiftLeft_eq]; omega
 rw [e, u64_or_nat _ _ (by rw [Nat.shiftLeft_eq]; omega) (by omega), ← Nat.shiftLeft_add_eq_or_of_lt (show d.toNat < 2 ^ 8 by omega), Nat.shiftLeft_eq]
 omega
theorem val_from (l : List UInt8) : ∀ m0, l.foldl (fun m d => 256 * m + d.toNat) m0 < (m0 + 1) * 256 ^ l.length := by
 induction l with
 | nil => intro m0; simp
 | cons d l ih =>
  intro m0
  have hd := UInt8.toNat_lt d
  have := ih (256 * m0 + d.toNat)
  rw [List.foldl_cons, List.length_cons, Nat.pow_succ, Nat.mul_comm (256 ^ l.length), ← Nat.mul_assoc]
  exact Nat.lt_of_lt_of_le this (Nat.mul_le_mul_right _ (by omega))
theorem val_lt (l : List UInt8) : val l < 256 ^ l.length := by simpa [val] using val_from l 0
theorem val_lt7 (l : List UInt8) (h : l.length ≤ 7) : val l < 72057594037927936 := Nat.lt_of_lt_of_le (val_lt l) (Nat.le_trans (Nat.pow_le_pow_right (by omega) h) (by decide))
theorem val_lt8 (l : List UInt8) (h : l.length ≤ 8) : val l < 18446744073709551616 := Nat.lt_of_lt_of_le (val_lt l) (Nat.le_trans (Nat.pow_le_pow_right (by omega) h) (by decide))
def lows (m t : Nat) : List UInt8 := (List.range t).map (dig m)
theorem lows_succ (m t : Nat) : lows m (t + 1) = lows m t ++ [dig m t] := by simp [lows, List.range_succ]
theorem lows_length (m t : Nat) : (lows m t).length = t := by simp [lows]
theorem lows_get (m t i : Nat) (h : i < t) : (lows m t)[i]? = some (dig m i) := by simp [lows, h]
theorem dig_int (m t : Nat) : ((m / 256 ^ t : Nat) : Int) % 256 = ((dig m t).toNat : Int) := by rw [dig_toNat]; omega
theorem div_int (m t : Nat) : ((m / 256 ^ t : Nat) : Int) / 256 = ((m / 256 ^ (t + 1) : Nat) : Int) := by
 rw [Nat.pow_succ, ← Nat.div_div_eq_div_mul]; omega
theorem flp_neg (d : UInt8) : ((flp true d).toNat : Int) = 255 - (d.toNat : Int) := by
 have h : ∀ x : Fin 256, (x.1 ^^^ 255) = 255 - x.1 := by decide +kernel
 have := h ⟨d.toNat, UInt8.toNat_lt d⟩
 unfold flp fl
 rw [UInt8.toNat_xor]
 have h2 := UInt8.toNat_lt d
 simp only [if_true, UInt8.toNat_ofNat] at *
 simp at this ⊢
 omega
theorem flp_ge (h : UInt8) (neg : Bool) (hn : neg = decide (h.toNat < 128)) : 128 ≤ (flp neg h).toNat := by
 have hb := UInt8.toNat_lt h
 by_cases hx : h.toNat < 128
 ·rw [hn, decide_eq_true hx]
  have := flp_neg h
  omega
 ·rw [hn, decide_eq_false hx]
  unfold flp fl
  simp
  omega
theorem flp_pos (d : UInt8) : flp false d = d := by unfold flp fl; simp
theorem flp_pos_int (d : UInt8) : ((flp false d).toNat : Int) = (d.toNat : Int) := by rw [flp_pos]
theorem hd_pos (k : Nat) (h : k ≤ 8) : ((hd false k).toNat : Int) = 128 + k := by unfold hd; rw [flp_pos, UInt8.toNat_ofNat']; omega
theorem hd_neg (k : Nat) (h : k ≤ 8) : ((hd true k).toNat : Int) = 127 - k := by unfold hd; rw [flp_neg, UInt8.toNat_ofNat']; omega
theorem mag_of_nat (m : Nat) : mag (m : Int) = m := by unfold mag; rw [if_neg (by omega)]; omega
theorem mag_of_neg (m : Nat) : mag (-1 - (m : Int)) = m := by unfold mag; rw [if_pos (by omega)]; omega
theorem Len.lt {m t : Nat} (h : m < 9223372036854775808) (h1 : m / 256 ^ t ≠ 0) (ht : t ≤ 8) : t < 8 := by
 refine Nat.lt_of_le_of_ne ht ?_
 rintro rfl
 exact h1 (Nat.div_eq_of_lt (by simp; omega))
theorem Len.next {m t : Nat} (h1 : m / 256 ^ t ≠ 0) : 256 ^ t ≤ m := Nat.le_of_not_lt fun h => h1 (Nat.div_eq_of_lt h)
theorem Len.fin {m t : Nat} (h : m / 256 ^ t = 0) (ht : t ≤ 8) (h2 : t = 0 ∨ 256 ^ (t - 1) ≤ m) : Len m t := by
 refine ⟨ht, ?_, h2⟩
 rcases Nat.div_eq_zero_iff.1 h with h3 | h3
 ·have : 0 < 256 ^ t := Nat.pow_pos (by omega)
  omega
 ·exact h3
theorem dig_zero (m : Nat) (d : UInt8) : dig (256 * m + d.toNat) 0 = d := by
 apply UInt8.toNat_inj.1; rw [dig_toNat, Nat.pow_zero, Nat.div_one]; have := UInt8.toNat_lt d; omega
theorem dig_up (m i : Nat) (d : UInt8) : dig (256 * m + d.toNat) (i + 1) = dig m i := by
 apply UInt8.toNat_inj.1; rw [dig_toNat, dig_toNat, Nat.pow_succ, Nat.mul_comm (256 ^ i), ← Nat.div_div_eq_div_mul]
 have := UInt8.toNat_lt d
 congr 2; omega
theorem digs_val_rev (r : List UInt8) : digs (val r.reverse) r.length r.length = r.reverse := by
 induction r with
 | nil => rfl
 | cons d r ih =>
  rw [List.reverse_cons, val_snoc, List.length_cons, digs_succ]
  congr 1
  ·rw [← ih]
   simp only [ih]
   unfold digs
   rw [← ih]
   unfold digs
   apply List.map_congr_left
   intro t ht
   have ht2 : t < r.length := by simpa using ht
   have e : r.length + 1 - 1 - t = (r.length - 1 - t) + 1 := by omega
   have ih2 : val (List.map (fun t => dig (val r.reverse) (r.length - 1 - t)) (List.range r.length)) = val r.reverse := by
    have := ih; unfold digs at this; rw [this]
   rw [e, ih2, dig_up]
  ·have e : r.length + 1 - 1 - r.length = 0 := by omega
   rw [e, dig_zero]
theorem digs_val (l : List UInt8) : digs (val l) l.length l.length = l := by
 have := digs_val_rev l.reverse
 simpa using this
theorem flp_flp (neg : Bool) (d : UInt8) : flp neg (flp neg d) = d := by unfold flp; rw [UInt8.xor_assoc, UInt8.xor_self, UInt8.xor_zero]
theorem val_first (d : UInt8) (l : List UInt8) : val (d :: l) = d.toNat * 256 ^ l.length + val l := by
 have key : ∀ (l : List UInt8) (m0 : Nat), l.foldl (fun m d => 256 * m + d.toNat) m0 = m0 * 256 ^ l.length + l.foldl (fun m d => 256 * m + d.toNat) 0 := by
  intro l
  induction l with
  | nil => intro m0; simp
  | cons x l ih =>
   intro m0
   rw [List.foldl_cons, List.foldl_cons, ih (256 * m0 + x.toNat), ih (256 * 0 + x.toNat), List.length_cons, Nat.pow_succ, Nat.add_mul, Nat.add_mul]
   simp only [Nat.mul_zero, Nat.zero_mul, Nat.zero_add]
   rw [Nat.mul_comm 256 m0, Nat.mul_assoc, Nat.mul_comm (256 ^ l.length) 256]
   omega
 have := key l (256 * 0 + d.toNat)
 simp only [Nat.mul_zero, Nat.zero_add] at this
 simpa [val] using this
theorem enc_iff {neg : Bool} {h : UInt8} {K : Nat} {t : List UInt8} (hh : (flp neg h).toNat = 128 + K) (h8 : K ≤ 8) (hl : K ≤ t.length)
  (hb : val ((t.take K).map (flp neg)) < 9223372036854775808) :
  encInt (if neg then -1 - (val ((t.take K).map (flp neg)) : Int) else val ((t.take K).map (flp neg))) = h :: t.take K ↔ (K = 0 ∨ flp neg (t.getD 0 0) ≠ 0) := by
 obtain ⟨v, hv⟩ : ∃ v, v = val ((t.take K).map (flp neg)) := ⟨_, rfl⟩
 have hlen : ((t.take K).map (flp neg)).length = K := by simp; omega
 have hvK : v < 256 ^ K := by rw [hv]; have := val_lt ((t.take K).map (flp neg)); rwa [hlen] at this
 rw [← hv] at hb ⊢
 have hmag : mag (if neg then -1 - (v : Int) else v) = v := by cases neg; exact mag_of_nat v; exact mag_of_neg v
 have hneg : decide ((if neg then -1 - (v : Int) else v) < 0) = neg := by cases neg <;> simp <;> omega
 constructor
 ·intro he
  have h2 := congrArg List.length he
  rw [encInt_length, hmag, List.length_cons, List.length_take, Nat.min_eq_left hl] at h2
  have hk : klen v = K := by omega
  have hL := len_klen (m := v) (by omega)
  rw [hk] at hL
  rcases hL.2.2 with h0 | h0
  ·exact .inl h0
  ·cases K with
   | zero => exact .inl rfl
   | succ K =>
    refine .inr fun hz => ?_
    cases t with
    | nil => simp at hl
    | cons d t =>
     simp only [List.getD_cons_zero] at hz
     rw [List.take_succ_cons, List.map_cons, val_first, hz] at hv
     have := val_lt ((t.take K).map (flp neg))
     simp only [List.length_map, List.length_take] at this hv
     simp only [List.length_cons] at hl
     rw [Nat.min_eq_left (by omega)] at this hv
     have h0' : 256 ^ K ≤ v := by simpa using h0
     have hv' : v = val ((t.take K).map (flp neg)) := by rw [hv]; simp
     rw [← hv'] at this
     omega
 ·intro hz
  have hL : Len v K := by
   refine ⟨h8, hvK, ?_⟩
   rcases hz with h0 | hz
   ·exact .inl h0
   ·cases K with
    | zero => exact .inl rfl
    | succ K =>
     refine .inr ?_
     cases t with
     | nil => simp at hl
     | cons d t =>
      simp only [List.getD_cons_zero] at hz
      rw [List.take_succ_cons, List.map_cons, val_first] at hv
      simp only [List.length_cons] at hl
      simp only [List.length_map, List.length_take] at hv
      rw [Nat.min_eq_left (by omega)] at hv
      have h1 : 0 < (flp neg d).toNat := Nat.pos_of_ne_zero fun e => hz (UInt8.toNat_inj.1 e)
      have h3 : 1 * 256 ^ K ≤ (flp neg d).toNat * 256 ^ K := Nat.mul_le_mul_right _ h1
      simp
      omega
  have hk := klen_of hL
  unfold encInt
  rw [hmag, hneg, hk]
  congr 1
  ·unfold hd
   have : UInt8.ofNat (128 + K) = flp neg h := by apply UInt8.toNat_inj.1; rw [hh, UInt8.toNat_ofNat']; omega
   rw [this, flp_flp]
  ·have := digs_val ((t.take K).map (flp neg))
   rw [hlen, ← hv] at this
   rw [this, List.map_map]
   have e : flp neg ∘ flp neg = id := funext fun d => flp_flp neg d
   rw [e, List.map_id]
theorem decK_used {neg : Bool} {k : Nat} {t : List UInt8} (h : (decK neg k t).2.2 = 0) : (decK neg k t).2.1 = k + 1 ∧ k ≤ t.length ∧ -9223372036854775808 ≤ (decK neg k t).1 ∧ (decK neg k t).1 ≤ 9223372036854775807 := by
 by_cases h8 : 8 < k
 ·rw [decK_8 h8] at h; simp at h
 ·by_cases hl : t.length < k
  ·rw [decK_more h8 hl] at h; simp at h
  ·by_cases hz : 0 < k ∧ flp neg (t.getD 0 0) = 0
   ·rw [decK_zero h8 hl hz.1 hz.2] at h; simp at h
   ·have hz' : k = 0 ∨ flp neg (t.getD 0 0) ≠ 0 := by
     by_cases h0 : k = 0
     ·exact .inl h0
     ·exact .inr fun e => hz ⟨by omega, e⟩
    by_cases hb : 9223372036854775808 ≤ val ((t.take k).map (flp neg))
    ·rw [decK_big h8 hl hz' hb] at h; simp at h
    ·rw [decK_ok h8 hl hz' hb]
     refine ⟨rfl, by omega, ?_, ?_⟩ <;> (simp only; split <;> omega)
theorem decInt_cons (h : UInt8) (t : List UInt8) : decInt (h :: t) = decK (decide (h.toNat < 128)) ((flp (decide (h.toNat < 128)) h).toNat - 128) t := rfl
theorem decInt_used {l : List UInt8} (h : (decInt l).2.2 = 0) : 1 ≤ (decInt l).2.1 ∧ (decInt l).2.1 ≤ l.length ∧ -9223372036854775808 ≤ (decInt l).1 ∧ (decInt l).1 ≤ 9223372036854775807 := by
 cases l with
 | nil => simp [decInt] at h
 | cons x t =>
  rw [decInt_cons] at h ⊢
  obtain ⟨h1, h2, h3, h4⟩ := decK_used h
  rw [List.length_cons]
  generalize (flp (decide (x.toNat < 128)) x).toNat - 128 = k at *
  exact ⟨by omega, by omega, h3, h4⟩
def cntErr (l : List UInt8) (size : Int) : Int :=
 if (decInt l).2.2 ≠ 0 then (decInt l).2.2 else if (decInt l).1 < 0 then 2 else if ((l.length : Int) - (decInt l).2.1) / size < (decInt l).1 then 3 else 0
end Go.Dx
end

section
/- The plain mathematics of layer 1, lists. No Go. -/
namespace Go.Dx

def encBytes (l : List UInt8) : List UInt8 := encInt l.length ++ l
def encInts (l : List Int) : List UInt8 := encInt l.length ++ l.flatMap encInt
def encStrs (x : List ByteArray) : List UInt8 := encInt x.length ++ x.flatMap fun s => encBytes s.data.toList
def decBytes (l : List UInt8) : ByteArray × Int × Int :=
 if cntErr l 1 = 0 then (⟨((l.drop (decInt l).2.1.toNat).take (decInt l).1.toNat).toArray⟩, (decInt l).2.1 + (decInt l).1, 0) else (⟨#[]⟩, 0, cntErr l 1)

theorem cnt_facts {l : List UInt8} {size : Int} (h1 : 1 ≤ size) (h : cntErr l size = 0) :
  ∃ A N : Nat, (decInt l).2.1 = (A : Int) ∧ (decInt l).1 = (N : Int) ∧ (decInt l).2.2 = 0 ∧ 1 ≤ A ∧ A + N * size.toNat ≤ l.length ∧ N ≤ l.length := by
 unfold cntErr at h
 by_cases hE : (decInt l).2.2 = 0
 ·obtain ⟨u1, u2, u3, u4⟩ := decInt_used hE
  rw [if_neg (by simp [hE])] at h
  by_cases hN : (decInt l).1 < 0
  ·rw [if_pos hN] at h; omega
  ·rw [if_neg hN] at h
   by_cases hq : ((l.length : Int) - (decInt l).2.1) / size < (decInt l).1
   ·rw [if_pos hq] at h; omega
   ·obtain ⟨A, hA⟩ := Int.eq_ofNat_of_zero_le (a := (decInt l).2.1) (by omega)
    obtain ⟨N, hN'⟩ := Int.eq_ofNat_of_zero_le (a := (decInt l).1) (by omega)
    obtain ⟨S, hS⟩ := Int.eq_ofNat_of_zero_le (a := size) (by omega)
    rw [hA, hN'] at hq
    have hq2 : (N : Int) * size ≤ (l.length : Int) - A := (Int.le_ediv_iff_mul_le (by omega)).1 (by omega)
    subst hS
    have hq3 : N * S ≤ l.length - A := by
     have : ((N * S : Nat) : Int) ≤ (l.length : Int) - A := by simpa using hq2
     omega
    have hS1 : 1 ≤ S := by omega
    have hNS : N * 1 ≤ N * S := Nat.mul_le_mul_left _ hS1
    refine ⟨A, N, hA, hN', hE, by omega, ?_, by omega⟩
    simp only [Int.toNat_natCast]
    omega
 ·rw [if_pos hE] at h; exact absurd h hE
end Go.Dx
end

section
namespace Go.Proofs.YtfagjaabladgpaaDoor
open Go.RowKit Go.Dx

set_option maxHeartbeats 400000 in
theorem wire_Int (n : Int) (hn0 : -9223372036854775808 ≤ n) (hn1 : n ≤ 9223372036854775807) (w : World) :
    Calls Tryd.prog 23 #[.int .i64 n] w (Gives 5 1 (encInt n).length ((encInt n).map B8) w) := by
  obtain ⟨m, HM⟩ : ∃ m, Hid (m = mag n) := ⟨_, rfl⟩
  have hm2 : m < 9223372036854775808 := by rw [HM.out]; exact mag_lt hn0 hn1
  have hneg : n < 0 → bits .xor .u64 IntKind.u64.max (IntKind.u64.wrap n) = (m : Int) := fun h => by rw [HM.out]; exact mag_neg h hn0
  have HP : Hid (¬ n < 0 → n = (m : Int)) := fun h => by rw [HM.out]; exact mag_pos h
  go_enter Tryd.func23, Tryd.ntmps23
  go_wp2
  go_step3
  go_upto_if 11 with (fail)
  go_cut [3, 4] (fun x f w' => x = .int .u64 (m : Int) ∧ f = .int .u8 ((fl (decide (n < 0))).toNat : Int) ∧ w = w')
  case first =>
    go_wp2
    · have h : n < 0 := by assumption
      go_meet
      exact ⟨rfl, by simp [fl, h], rfl⟩
    · have h : 0 ≤ n := by assumption
      go_meet
      exact ⟨by rw [← HP.out (by omega)]; congr 1; rw [IntKind.wrap_u64]; omega, by rw [show decide (n < 0) = false from by simp; omega]; rfl, rfl⟩
  case rest =>
    obtain ⟨neg, HN⟩ : ∃ neg, Hid (neg = decide (n < 0)) := ⟨_, rfl⟩
    rw [← HN.out] at hcut
    obtain ⟨rfl, rfl, rfl⟩ := hcut
    clear HP hneg
    go_wp2
    go_step3
    go_wp2
    have hm8 : m < 256 ^ 8 := by simp; omega
    go_loopg [5] 8 (fun g x w' => ∃ k : Nat, k = g ∧ k ≤ 8 ∧ m < 256 ^ k ∧ x = .int .i64 k ∧ w = w')
    case atStart => exact ⟨8, rfl, by omega, hm8, rfl, rfl⟩
    case round =>
      obtain ⟨k, rfl, hk, hmk, rfl, rfl⟩ := hrel
      have h01 : (0 < k ∧ (m : Int) / 2 ^ (8 * (k - 1)) ≤ 0) ∨ (0 < k ∧ 0 < (m : Int) / 2 ^ (8 * (k - 1))) ∨ ¬ 0 < k := by omega
      rcases h01 with ⟨h0, h1⟩ | ⟨h0, h1⟩ | h0
      · go_wp2
        go_roundg (k - 1)
        case measure => omega
        case rel => exact ⟨k - 1, rfl, by omega, len_next h0 h1, by go_num, rfl⟩
      all_goals
        have hL : Len m k := by first | exact len_brk hk hmk h0 h1 | exact len_zero hk hmk h0
        go_wp2
        rw [hd_eq neg k hk]
        go_loopg [6, 7] k (fun g x i w' => ∃ (j : Nat) (a : Option Addr) (c : Nat), j ≤ k ∧ g = k - j ∧ i = .int .i64 ((k : Int) - 1 - j) ∧ x = .slice a (j + 1) c ∧ Own w' w.heap.size 5 1 a (j + 1) c ((encTo neg m k j).map B8) ∧ Below w.heap.size w w')
        case atStart => exact ⟨0, _, _, by omega, by omega, by simp, rfl, Own.built w _ _ 1 1 _ (Nat.le_refl _) rfl (by decide), (Below.refl _ _).alloc (Nat.le_refl _) _⟩
        case round =>
          obtain ⟨j, a, c, hj, hg, rfl, rfl, hown, hb⟩ := hrel
          go_wp2_with (at_builtin; refine app_b rfl _ _ rfl w w.heap.size _ _ _ _ rfl hown _ rfl (by omega) hb.size hb ?_; intro a' c' w' hown' hgr' hb')
          all_goals first
            | (have hx : (k : Int) - 1 < (j : Int) := by assumption
               obtain rfl : j = k := by omega
               rw [Exit.noGoto_ret]
               go_ret
               have e : encTo neg m j j = encInt n := by have hL' := hL; rw [HM.out] at hL' ⊢; rw [HN.out]; exact encTo_all hL'
               have el : (encInt n).length = j + 1 := by rw [← e, encTo_length]
               rw [el]
               exact ⟨a, c, rfl, by rw [← e]; exact hown, hb⟩)
            | (go_roundg (k - (j + 1))
               case measure => omega
               case rel =>
                 have e := dig_eq neg m (k - 1 - j)
                 refine ⟨j + 1, a', c', by omega, rfl, by congr 1; omega, rfl, ?_, hb'⟩
                 rw [encTo_succ]
                 rw [e] at hown'
                 simpa using hown')
end Go.Proofs.YtfagjaabladgpaaDoor
end

section
namespace Go.Proofs.YtfagjaabladgpaaDoor
open Go.RowKit Go.Dx

set_option maxHeartbeats 400000 in
theorem ref_Int_neg (m : Nat) (hm : m < 9223372036854775808) (w : World) :
  Calls Tryd.prog 26 #[.int .i64 (-1 - (m : Int))] w (Gives 5 1 (encInt (-1 - (m : Int))).length ((encInt (-1 - (m : Int))).map B8) w) := by
 have hd0 : decide (-1 - (m : Int) < 0) = true := by simp; omega
 have hd1 : decide (0 ≤ -1 - (m : Int)) = false := by simp; omega
 have hd2 : decide ((m : Int) ≤ -1) = false := by simp; omega
 have HA : Hid (∀ k, Len m k → encTo true m k k = encInt (-1 - (m : Int))) := fun k h => by
  have := @encTo_all (-1 - (m : Int)) k (by rw [mag_of_neg]; exact h)
  rw [mag_of_neg, show decide ((-1 - (m : Int)) < 0) = true by simp; omega] at this
  exact this
 go_enter Tryd.func26, Tryd.ntmps26
 go_wp2
 go_loopg [3, 4] 8 (fun g x v w' => ∃ (t : Nat) (a : Option Addr) (c : Nat), t ≤ 8 ∧ g = 8 - t ∧ (t = 0 ∨ 256 ^ (t - 1) ≤ m) ∧ x = .int .i64 ((m / 256 ^ t : Nat) : Int) ∧ v = .slice a t c ∧ Own w' w.heap.size 5 1 a t c ((lows m t).map B8) ∧ Below w.heap.size w w')
 case atStart => exact ⟨0, none, 0, by omega, by omega, .inl rfl, by simp; omega, rfl, Own.nil _ _ _ _, Below.refl _ _⟩
 case round =>
  obtain ⟨t, a, c, ht, hg, hlo, rfl, rfl, hown, hb⟩ := hrel
  have HG := hide hg
  have hq : m / 256 ^ t < 9223372036854775808 := Nat.lt_of_le_of_lt (Nat.div_le_self _ _) hm
  have HQ := hide (@Len.lt m t hm)
  have HF := hide (@Len.fin m t)
  have HN := hide (@Len.next m t)
  have HD := hide (dig_int m t)
  have HV := hide (div_int m t)
  clear hg
  generalize m / 256 ^ t = q at *
  by_cases h0 : 0 < q
  ·go_wp2_with (at_builtin; refine app_b rfl _ _ rfl w w.heap.size _ _ _ _ rfl hown _ rfl (by omega) hb.size hb ?_; intro a' c' w' hown' hgr' hb')
   have h8 := HQ.out (by omega) ht
   go_roundg (8 - (t + 1))
   case measure => have := HG.out; omega
   case rel =>
    refine ⟨t + 1, a', c', by omega, rfl, .inr (HN.out (by omega)), by rw [HV.out], rfl, ?_, hb'⟩
    rw [lows_succ]
    rw [HD.out] at hown'
    simpa using hown'
  ·have hL := HF.out (by omega) ht hlo
   have hk8 := hL.1
   have HS := hide hown.sl
   go_wp2_with (at_builtin; refine app_b rfl _ _ rfl wr wr.heap.size none 0 0 [] rfl (Own.nil _ _ _ _) _ rfl (by omega) (Nat.le_refl _) (Below.refl _ _) ?_; intro a6 c6 w6 hown6 hgr6 hb6)
   obtain ⟨wo, rfl⟩ : ∃ wo : World, wo = wr := ⟨_, rfl⟩
   go_loopg [6, 7] t (fun g x i w' => ∃ (j : Nat) (a : Option Addr) (c : Nat), j ≤ t ∧ g = t - j ∧ i = .int .i64 ((t : Int) - 1 - j) ∧ x = .slice a (j + 1) c ∧ Own w' wo.heap.size 5 1 a (j + 1) c ((encTo true m t j).map B8) ∧ Below wo.heap.size wo w')
   case atStart =>
    refine ⟨0, a6, c6, by omega, by omega, by simp, rfl, ?_, hb6⟩
    rw [encTo_zero]
    have e := hd_neg t hk8
    simp only [List.map_cons, List.map_nil, B8, e]
    simpa using hown6
   case round =>
    obtain ⟨j, a7, c7, hj, hg7, rfl, rfl, hown7, hb7⟩ := hrel
    have HG7 := hide hg7
    clear hg7
    by_cases hjt : j < t
    ·obtain ⟨b, off, rfl, hbs, hcell⟩ := Sl.ex (HS.out.below hb7) (by simp [lows_length]; omega)
     have hc : wr.cell? ⟨b, off + (t - 1 - j), none⟩ = some (B8 (dig m (t - 1 - j))) := hcell _ _ (by rw [List.getElem?_map, lows_get m t _ (by omega)]; rfl)
     clear hcell
     have hdb := UInt8.toNat_lt (dig m (t - 1 - j))
     go_wp2_with (at_builtin; refine app_b rfl _ _ rfl wo wo.heap.size _ _ _ _ rfl hown7 _ rfl (by omega) hb7.size hb7 ?_; intro a' c' w' hown' hgr' hb')
     go_roundg (t - (j + 1))
     case measure => have := HG7.out; omega
     case rel =>
      refine ⟨j + 1, a', c', by omega, rfl, by congr 1; omega, rfl, ?_, hb'⟩
      rw [encTo_succ]
      have e := flp_neg (dig m (t - 1 - j))
      simp only [List.map_append, List.map_cons, List.map_nil, B8, e]
      simpa using hown'
    ·obtain rfl : j = t := by omega
     go_wp2
     go_ret
     have e := HA.out j hL
     have el : (encInt (-1 - (m : Int))).length = j + 1 := by rw [← e, encTo_length]
     rw [el, ← e]
     exact ⟨a7, c7, rfl, hown7.mono hb.size, hb.trans (hb7.mono hb.size)⟩

set_option maxHeartbeats 400000 in
theorem ref_Int_pos (m : Nat) (hm : m < 9223372036854775808) (w : World) :
  Calls Tryd.prog 26 #[.int .i64 (m : Int)] w (Gives 5 1 (encInt (m : Int)).length ((encInt (m : Int)).map B8) w) := by
 have hd0 : decide ((m : Int) < 0) = false := by simp
 have HA : Hid (∀ k, Len m k → encTo false m k k = encInt (m : Int)) := fun k h => by
  have := @encTo_all (m : Int) k (by rw [mag_of_nat]; exact h)
  rw [mag_of_nat, show decide ((m : Int) < 0) = false by simp] at this
  exact this
 go_enter Tryd.func26, Tryd.ntmps26
 go_wp2
 go_loopg [3, 4] 8 (fun g x v w' => ∃ (t : Nat) (a : Option Addr) (c : Nat), t ≤ 8 ∧ g = 8 - t ∧ (t = 0 ∨ 256 ^ (t - 1) ≤ m) ∧ x = .int .i64 ((m / 256 ^ t : Nat) : Int) ∧ v = .slice a t c ∧ Own w' w.heap.size 5 1 a t c ((lows m t).map B8) ∧ Below w.heap.size w w')
 case atStart => exact ⟨0, none, 0, by omega, by omega, .inl rfl, by simp, rfl, Own.nil _ _ _ _, Below.refl _ _⟩
 case round =>
  obtain ⟨t, a, c, ht, hg, hlo, rfl, rfl, hown, hb⟩ := hrel
  have HG := hide hg
  have hq : m / 256 ^ t < 9223372036854775808 := Nat.lt_of_le_of_lt (Nat.div_le_self _ _) hm
  have HQ := hide (@Len.lt m t hm)
  have HF := hide (@Len.fin m t)
  have HN := hide (@Len.next m t)
  have HD := hide (dig_int m t)
  have HV := hide (div_int m t)
  clear hg
  generalize m / 256 ^ t = q at *
  by_cases h0 : 0 < q
  ·go_wp2_with (at_builtin; refine app_b rfl _ _ rfl w w.heap.size _ _ _ _ rfl hown _ rfl (by omega) hb.size hb ?_; intro a' c' w' hown' hgr' hb')
   have h8 := HQ.out (by omega) ht
   go_roundg (8 - (t + 1))
   case measure => have := HG.out; omega
   case rel =>
    refine ⟨t + 1, a', c', by omega, rfl, .inr (HN.out (by omega)), by rw [HV.out], rfl, ?_, hb'⟩
    rw [lows_succ]
    rw [HD.out] at hown'
    simpa using hown'
  ·have hL := HF.out (by omega) ht hlo
   have hk8 := hL.1
   have HS := hide hown.sl
   go_wp2_with (at_builtin; refine app_b rfl _ _ rfl wr wr.heap.size none 0 0 [] rfl (Own.nil _ _ _ _) _ rfl (by omega) (Nat.le_refl _) (Below.refl _ _) ?_; intro a6 c6 w6 hown6 hgr6 hb6)
   obtain ⟨wo, rfl⟩ : ∃ wo : World, wo = wr := ⟨_, rfl⟩
   go_loopg [6, 7] t (fun g x i w' => ∃ (j : Nat) (a : Option Addr) (c : Nat), j ≤ t ∧ g = t - j ∧ i = .int .i64 ((t : Int) - 1 - j) ∧ x = .slice a (j + 1) c ∧ Own w' wo.heap.size 5 1 a (j + 1) c ((encTo false m t j).map B8) ∧ Below wo.heap.size wo w')
   case atStart =>
    refine ⟨0, a6, c6, by omega, by omega, by simp, rfl, ?_, hb6⟩
    rw [encTo_zero]
    have e := hd_pos t hk8
    simp only [List.map_cons, List.map_nil, B8, e]
    simpa using hown6
   case round =>
    obtain ⟨j, a7, c7, hj, hg7, rfl, rfl, hown7, hb7⟩ := hrel
    have HG7 := hide hg7
    clear hg7
    by_cases hjt : j < t
    ·obtain ⟨b, off, rfl, hbs, hcell⟩ := Sl.ex (HS.out.below hb7) (by simp [lows_length]; omega)
     have hc : wr.cell? ⟨b, off + (t - 1 - j), none⟩ = some (B8 (dig m (t - 1 - j))) := hcell _ _ (by rw [List.getElem?_map, lows_get m t _ (by omega)]; rfl)
     clear hcell
     have hdb := UInt8.toNat_lt (dig m (t - 1 - j))
     go_wp2_with (at_builtin; refine app_b rfl _ _ rfl wo wo.heap.size _ _ _ _ rfl hown7 _ rfl (by omega) hb7.size hb7 ?_; intro a' c' w' hown' hgr' hb')
     go_roundg (t - (j + 1))
     case measure => have := HG7.out; omega
     case rel =>
      refine ⟨j + 1, a', c', by omega, rfl, by congr 1; omega, rfl, ?_, hb'⟩
      rw [encTo_succ]
      have e := flp_pos_int (dig m (t - 1 - j))
      simp only [List.map_append, List.map_cons, List.map_nil, B8, e]
      simpa using hown'
    ·obtain rfl : j = t := by omega
     go_wp2
     go_ret
     have e := HA.out j hL
     have el : (encInt (m : Int)).length = j + 1 := by rw [← e, encTo_length]
     rw [el, ← e]
     exact ⟨a7, c7, rfl, hown7.mono hb.size, hb.trans (hb7.mono hb.size)⟩

theorem ref_Int (n : Int) (hn0 : -9223372036854775808 ≤ n) (hn1 : n ≤ 9223372036854775807) (w : World) :
  Calls Tryd.prog 26 #[.int .i64 n] w (Gives 5 1 (encInt n).length ((encInt n).map B8) w) := by
 by_cases h : n < 0
 ·obtain ⟨m, rfl⟩ : ∃ m : Nat, n = -1 - (m : Int) := ⟨(-1 - n).toNat, by omega⟩
  exact ref_Int_neg m (by omega) w
 ·obtain ⟨m, rfl⟩ : ∃ m : Nat, n = (m : Int) := ⟨n.toNat, by omega⟩
  exact ref_Int_pos m (by omega) w
end Go.Proofs.YtfagjaabladgpaaDoor
end

section
namespace Go.Proofs.YtfagjaabladgpaaDoor
open Go.RowKit Go.Dx

theorem rot_count (n m : Nat) (h0 : 1 ≤ n) (h1 : n + m = 32) : bits .and .u64 (IntKind.u64.wrap (-(n : Int))) 31 = (m : Int) := by
 have e : IntKind.u64.wrap (-(n : Int)) = ((18446744073709551616 - n : Nat) : Int) := by
  simp [IntKind.wrap, IntKind.bits, IntKind.signed]; omega
 rw [e, show (31 : Int) = ((31 : Nat) : Int) from rfl, u64_and_nat _ _ (by omega) (by omega), nat_mask5]
 omega
theorem rotl_any (x : UInt32) (n : Nat) (h0 : 1 ≤ n) (h2 : n ≤ 31) (w : World) :
  Calls Tryd.prog 78 #[W32 x, .int .i64 (-(n : Int))] w fun e w' => e = .returned (W32 (ror x n)) ∧ w = w' := by
 obtain ⟨m, h1⟩ : ∃ m, n + m = 32 := ⟨32 - n, by omega⟩
 have hx := w_lt x
 have hs := rot_count n m h0 h1
 have h3 : m ≤ 31 := by omega
 have hn : n = 32 - m := by omega
 have hm : m = 32 - n := by omega
 have HN := hide hn
 have HM := hide hm
 clear h1 hn hm
 go_enter Tryd.func78, Tryd.ntmps78
 go_wp2
 go_ret
 exact ⟨ret_w (by rw [w_shl', w_shr, w_or, ← HN.out, HM.out]; rfl), rfl⟩
theorem rotl_c (x : UInt32) (n : Nat) (k : Int) (hk : k = -(n : Int)) (h0 : 1 ≤ n) (h2 : n ≤ 31) (w : World) :
  Calls Tryd.prog 78 #[W32 x, .int .i64 k] w fun e w' => e = .returned (W32 (ror x n)) ∧ w = w' := by
 subst hk; exact rotl_any x n h0 h2 w
theorem mix_any (x : UInt32) (i j k : Nat) (i0 : 1 ≤ i) (i1 : i ≤ 31) (j0 : 1 ≤ j) (j1 : j ≤ 31) (k0 : 1 ≤ k) (k1 : k ≤ 31) (w : World) :
  Calls Tryd.prog 69 #[W32 x, .int .i64 (i : Int), .int .i64 (j : Int), .int .i64 (k : Int)] w fun e w' => e = .returned (W32 (mix3 x i j k)) ∧ w = w' := by
 have hx := w_lt x
 go_enter Tryd.func69, Tryd.ntmps69
 go_wp2_with (go_at_call 78; refine (rotl_any x _ (by assumption) (by assumption) _).mono ?_; rintro e w' ⟨rfl, rfl⟩)
 go_ret
 exact ⟨ret_w (by rw [w_xor, w_xor]; rfl), rfl⟩
theorem rotr_any (x : UInt32) (n : Nat) (h0 : 1 ≤ n) (h2 : n ≤ 31) (w : World) :
  Calls Tryd.prog 77 #[W32 x, .int .i64 (n : Int)] w (Still (W32 (ror x n)) w) := by
 obtain ⟨m, hm⟩ : ∃ m, m = 32 - n := ⟨32 - n, by omega⟩
 have hx := w_lt x
 have e1 : (32 : Int) - (n : Int) = (m : Int) := by omega
 have h3 : m ≤ 31 := by omega
 have h4 : (0 : Int) ≤ (n : Int) := by omega
 have HM := hide hm
 clear hm
 go_enter Tryd.func77, Tryd.ntmps77
 go_wp2
 go_quiet (fail)
 go_wp2
 go_ret
 exact ⟨ret_w (by rw [w_shl', w_shr, w_or, HM.out, UInt32.or_comm]; rfl), _, rfl⟩
theorem rotr_c (x : UInt32) (n : Nat) (k : Int) (hk : k = (n : Int)) (h0 : 1 ≤ n) (h2 : n ≤ 31) (w : World) :
  Calls Tryd.prog 77 #[W32 x, .int .i64 k] w (Still (W32 (ror x n)) w) := by subst hk; exact rotr_any x n h0 h2 w
theorem quiet_moreH {P : Program} {f : FuncId} {args : Array Value} {w : World} {a n : Nat} {v : Value} (h : Calls P f args (w.drewN (a + n)) (Still v (w.drewN (a + n)))) :
  Calls P f args (w.drewN (a + n)) fun e w'' => e = .returned v ∧ ∃ m, w'' = w.drewN (a + m) :=
 h.mono fun _ _ ⟨he, m, hm⟩ => ⟨he, n + m, by rw [hm, World.drewN_drewN, Nat.add_assoc]⟩
theorem mix_6 (x : UInt32) (w : World) : Calls Tryd.prog 69 #[W32 x, .int .i64 6, .int .i64 11, .int .i64 25] w fun e w' => e = .returned (W32 (mix3 x 6 11 25)) ∧ w = w' := mix_any x 6 11 25 (by decide) (by decide) (by decide) (by decide) (by decide) (by decide) w
theorem mix_2 (x : UInt32) (w : World) : Calls Tryd.prog 69 #[W32 x, .int .i64 2, .int .i64 13, .int .i64 22] w fun e w' => e = .returned (W32 (mix3 x 2 13 22)) ∧ w = w' := mix_any x 2 13 22 (by decide) (by decide) (by decide) (by decide) (by decide) (by decide) w
theorem quiet_leftH {P : Program} {f : FuncId} {args : Array Value} {w : World} {n : Nat} {v : Value} (h : Calls P f args (w.drewN n) fun e w' => e = .returned v ∧ w.drewN n = w') :
  Calls P f args (w.drewN n) fun e w'' => e = .returned v ∧ ∃ m, w'' = w.drewN m := h.mono fun _ _ ⟨he, hm⟩ => ⟨he, n, hm.symm⟩
theorem quiet_left2 {P : Program} {f : FuncId} {args : Array Value} {w : World} {a n : Nat} {v : Value} (h : Calls P f args (w.drewN (a + n)) fun e w' => e = .returned v ∧ w.drewN (a + n) = w') :
  Calls P f args (w.drewN (a + n)) fun e w'' => e = .returned v ∧ ∃ m, w'' = w.drewN (a + m) := h.mono fun _ _ ⟨he, hm⟩ => ⟨he, n, hm.symm⟩
end Go.Proofs.YtfagjaabladgpaaDoor
end

section
/- SHA-256 in plain words: the schedule, the rounds, the blocks. No Go. -/
namespace Go.Dx
def be4 (a b c d : UInt8) : UInt32 := UInt32.ofNat (((a.toNat * 256 + b.toNat) * 256 + c.toNat) * 256 + d.toNat)
def sig0 (x : UInt32) : UInt32 := ror x 7 ^^^ ror x 18 ^^^ shr x 3
def sig1 (x : UInt32) : UInt32 := ror x 17 ^^^ ror x 19 ^^^ shr x 10
def wnext (b : List UInt8) (ws : List UInt32) (t : Nat) : UInt32 :=
 if t < 16 then be4 (b.getD (4 * t) 0) (b.getD (4 * t + 1) 0) (b.getD (4 * t + 2) 0) (b.getD (4 * t + 3) 0)
 else ws.getD (t - 16) 0 + sig0 (ws.getD (t - 15) 0) + ws.getD (t - 7) 0 + sig1 (ws.getD (t - 2) 0)
def wl (b : List UInt8) : Nat → List UInt32
 | 0 => []
 | t + 1 => wl b t ++ [wnext b (wl b t) t]
theorem wl_length (b : List UInt8) : ∀ t, (wl b t).length = t
 | 0 => rfl
 | t + 1 => by rw [wl, List.length_append, wl_length b t]; rfl
def warr (b : List UInt8) (t : Nat) : List UInt32 := wl b t ++ List.replicate (64 - t) 0
theorem warr_length (b : List UInt8) {t : Nat} (h : t ≤ 64) : (warr b t).length = 64 := by unfold warr; rw [List.length_append, wl_length, List.length_replicate]; omega
theorem warr_get (b : List UInt8) {t i : Nat} (h : i < t) : (warr b t)[i]? = some ((wl b t).getD i 0) := by
 have hl := wl_length b t
 unfold warr
 rw [List.getElem?_append_left (by omega), List.getD_eq_getElem?_getD, List.getElem?_eq_getElem (by omega)]
 rfl
theorem warr_at (b : List UInt8) {t : Nat} (h : t < 64) : (warr b t)[t]? = some 0 := by
 have hl := wl_length b t
 unfold warr
 rw [List.getElem?_append_right (by omega), hl, Nat.sub_self, List.getElem?_replicate, if_pos (by omega)]
theorem warr_set (b : List UInt8) {t : Nat} (h : t < 64) (v : UInt32) : (warr b t).set t v = wl b t ++ [v] ++ List.replicate (64 - (t + 1)) 0 := by
 have hl := wl_length b t
 unfold warr
 rw [List.set_append_right _ _ (by omega), hl, Nat.sub_self]
 obtain ⟨n, hn⟩ : ∃ n, 64 - t = n + 1 := ⟨63 - t, by omega⟩
 rw [hn, List.replicate_succ, List.set_cons_zero, show 64 - (t + 1) = n by omega]
 simp
theorem warr_next (b : List UInt8) {t : Nat} (h : t < 64) : (warr b t).set t (wnext b (wl b t) t) = warr b (t + 1) := by
 rw [warr_set b h]; rfl
theorem warr_all (b : List UInt8) : warr b 64 = wl b 64 := by unfold warr; simp

structure HSt where
 (a b c d e f g h : UInt32)
def rnd (s : HSt) (k w : UInt32) : HSt :=
 let x := s.h + mix3 s.e 6 11 25 + ((s.e &&& s.f) ^^^ ((s.e ^^^ (-1)) &&& s.g)) + k + w
 let y := mix3 s.a 2 13 22 + ((s.a &&& s.b) ^^^ (s.a &&& s.c) ^^^ (s.b &&& s.c))
 ⟨x + y, s.a, s.b, s.c, s.d + x, s.e, s.f, s.g⟩
def rnds (ks ws : List UInt32) (s : HSt) : Nat → HSt
 | 0 => s
 | t + 1 => rnd (rnds ks ws s t) (ks.getD t 0) (ws.getD t 0)
def HSt.add (s r : HSt) : HSt := ⟨s.a + r.a, s.b + r.b, s.c + r.c, s.d + r.d, s.e + r.e, s.f + r.f, s.g + r.g, s.h + r.h⟩
def HSt.list (s : HSt) : List UInt32 := [s.a, s.b, s.c, s.d, s.e, s.f, s.g, s.h]
def K256 : List UInt32 := [0x428a2f98, 0x71374491, 0xb5c0fbcf, 0xe9b5dba5, 0x3956c25b, 0x59f111f1, 0x923f82a4, 0xab1c5ed5,
 0xd807aa98, 0x12835b01, 0x243185be, 0x550c7dc3, 0x72be5d74, 0x80deb1fe, 0x9bdc06a7, 0xc19bf174,
 0xe49b69c1, 0xefbe4786, 0x0fc19dc6, 0x240ca1cc, 0x2de92c6f, 0x4a7484aa, 0x5cb0a9dc, 0x76f988da,
 0x983e5152, 0xa831c66d, 0xb00327c8, 0xbf597fc7, 0xc6e00bf3, 0xd5a79147, 0x06ca6351, 0x14292967,
 0x27b70a85, 0x2e1b2138, 0x4d2c6dfc, 0x53380d13, 0x650a7354, 0x766a0abb, 0x81c2c92e, 0x92722c85,
 0xa2bfe8a1, 0xa81a664b, 0xc24b8b70, 0xc76c51a3, 0xd192e819, 0xd6990624, 0xf40e3585, 0x106aa070,
 0x19a4c116, 0x1e376c08, 0x2748774c, 0x34b0bcb5, 0x391c0cb3, 0x4ed8aa4a, 0x5b9cca4f, 0x682e6ff3,
 0x748f82ee, 0x78a5636f, 0x84c87814, 0x8cc70208, 0x90befffa, 0xa4506ceb, 0xbef9a3f7, 0xc67178f2]
def comp (s : HSt) (b : List UInt8) : HSt := s.add (rnds K256 (wl b 64) s 64)
def H0 : HSt := ⟨0x6a09e667, 0xbb67ae85, 0x3c6ef372, 0xa54ff53a, 0x510e527f, 0x9b05688c, 0x1f83d9ab, 0x5be0cd19⟩
theorem mix3_lists (s : HSt) : s.list.length = 8 := rfl

theorem sh8 (x : UInt32) (c : UInt8) (h : x.toNat < 16777216) : bits .or .u32 ((x.toNat : Int) * 256 % 4294967296) (c.toNat : Int) = ((UInt32.ofNat (x.toNat * 256 + c.toNat)).toNat : Int) := by
 have hc := UInt8.toNat_lt c
 have e : ((x.toNat : Int) * 256 % 4294967296) = ((x.toNat * 256 : Nat) : Int) := by omega
 rw [e, u32_or_nat _ _ (by omega) (by omega), nat_join 8 _ _ (by omega) (by omega), UInt32.toNat_ofNat']
 congr 1
 omega
theorem u32_id (n : Nat) (h : n < 4294967296) : IntKind.u32.wrap (n : Int) = (n : Int) := by rw [IntKind.wrap_u32']; omega
theorem be4_or (a b c d : UInt8) : bits .or .u32 (bits .or .u32 (bits .or .u32 (IntKind.u32.wrap (IntKind.u32.wrap (a.toNat : Int) * 16777216)) (IntKind.u32.wrap (IntKind.u32.wrap (b.toNat : Int) * 65536))) (IntKind.u32.wrap (IntKind.u32.wrap (c.toNat : Int) * 256))) (IntKind.u32.wrap (d.toNat : Int)) = ((be4 a b c d).toNat : Int) := by
 have ha := UInt8.toNat_lt a
 have hb := UInt8.toNat_lt b
 have hc := UInt8.toNat_lt c
 have hd := UInt8.toNat_lt d
 rw [u32_id _ (by omega), u32_id _ (by omega), u32_id _ (by omega), u32_id _ (by omega)]
 have e1 : (a.toNat : Int) * 16777216 = ((a.toNat * 16777216 : Nat) : Int) := by omega
 have e2 : (b.toNat : Int) * 65536 = ((b.toNat * 65536 : Nat) : Int) := by omega
 have e3 : (c.toNat : Int) * 256 = ((c.toNat * 256 : Nat) : Int) := by omega
 rw [e1, e2, e3, u32_id _ (by omega), u32_id _ (by omega), u32_id _ (by omega)]
 rw [u32_or_nat _ _ (by omega) (by omega), nat_join 24 _ _ (by omega) (by omega), u32_or_nat _ _ (by omega) (by omega), nat_join 16 _ _ (by omega) (by omega), u32_or_nat _ _ (by omega) (by omega), nat_join 8 _ _ (by omega) (by omega)]
 unfold be4
 rw [UInt32.toNat_ofNat']
 congr 1
 omega
theorem be4_or' (a b c d : UInt8) : bits .or .u32 (bits .or .u32 (bits .or .u32 ((a.toNat : Int) % 4294967296 * 16777216 % 4294967296) ((b.toNat : Int) % 4294967296 * 65536 % 4294967296)) ((c.toNat : Int) % 4294967296 * 256 % 4294967296)) ((d.toNat : Int) % 4294967296) = ((be4 a b c d).toNat : Int) := by
 have h := be4_or a b c d
 simpa only [IntKind.wrap_u32'] using h
theorem sig0_raw (x : UInt32) : bits .xor .u32 (bits .xor .u32 ((ror x 7).toNat : Int) ((ror x 18).toNat : Int)) ((x.toNat : Int) / 8) = ((sig0 x).toNat : Int) := by
 rw [show (8 : Int) = 2 ^ 3 from rfl, w_shr, w_xor, w_xor]; rfl
theorem sig1_raw (x : UInt32) : bits .xor .u32 (bits .xor .u32 ((ror x 17).toNat : Int) ((ror x 19).toNat : Int)) ((x.toNat : Int) / 1024) = ((sig1 x).toNat : Int) := by
 rw [show (1024 : Int) = 2 ^ 10 from rfl, w_shr, w_xor, w_xor]; rfl
theorem w_add' (x y : UInt32) : ((x.toNat : Int) + (y.toNat : Int)) % 4294967296 = ((x + y).toNat : Int) := by rw [← w_add, IntKind.wrap_u32']
theorem w_add3 (a b c : UInt32) : ((a.toNat : Int) + (b.toNat : Int) + (c.toNat : Int)) % 4294967296 = ((a + b + c).toNat : Int) := by rw [← w_add', ← w_add']; omega
theorem w_add4 (a b c d : UInt32) : ((a.toNat : Int) + (b.toNat : Int) + (c.toNat : Int) + (d.toNat : Int)) % 4294967296 = ((a + b + c + d).toNat : Int) := by rw [← w_add', ← w_add3]; omega
theorem sh8n (x : UInt32) (c : UInt8) (h : x.toNat < 16777216) : bits .or .u32 ((x.toNat : Int) * 256) (c.toNat : Int) = ((UInt32.ofNat (x.toNat * 256 + c.toNat)).toNat : Int) := by
 rw [← sh8 x c h]; congr 1; omega
theorem not_raw : (if IntKind.u32.signed = true then (-1 : Int) else IntKind.u32.max) = 4294967295 := by decide
theorem ch_raw (e f g : UInt32) : bits .xor .u32 (bits .and .u32 (e.toNat : Int) (f.toNat : Int)) (bits .and .u32 (bits .xor .u32 4294967295 (e.toNat : Int)) (g.toNat : Int)) = (((e &&& f) ^^^ ((e ^^^ (-1)) &&& g)).toNat : Int) := by
 rw [w_and, w_not, w_and, w_xor]
theorem ch_raw' (e f g : UInt32) : bits .xor .u32 (bits .and .u32 (e.toNat : Int) (f.toNat : Int)) (bits .and .u32 (bits .xor .u32 (e.toNat : Int) 4294967295) (g.toNat : Int)) = (((e &&& f) ^^^ ((e ^^^ (-1)) &&& g)).toNat : Int) := by
 rw [w_and, w_not', w_and, w_xor]
theorem maj_raw (a b c : UInt32) : bits .xor .u32 (bits .xor .u32 (bits .and .u32 (a.toNat : Int) (b.toNat : Int)) (bits .and .u32 (a.toNat : Int) (c.toNat : Int))) (bits .and .u32 (b.toNat : Int) (c.toNat : Int)) = (((a &&& b) ^^^ (a &&& c) ^^^ (b &&& c)).toNat : Int) := by
 rw [w_and, w_and, w_and, w_xor, w_xor]
theorem sum_x (h m c k w : UInt32) : (((h.toNat : Int) + (m.toNat : Int) + (c.toNat : Int) + (k.toNat : Int)) % 4294967296 + (w.toNat : Int)) % 4294967296 = ((h + m + c + k + w).toNat : Int) := by
 simp only [UInt32.toNat_add]
 omega
theorem box_at {α : Type} {f : α → Value} {l : List α} {i : Nat} {x : α} (h : l[i]? = some x) : (l.map f)[i]? = some (f x) := by rw [List.getElem?_map, h]; rfl
theorem box_set {α : Type} (f : α → Value) (l : List α) (i : Nat) (x : α) : (l.map f).set i (f x) = (l.set i x).map f := by rw [List.map_set]
end Go.Dx
end

section
/- More laws of the walk: a slice literal of one element that is an array or a struct; a slice to an array. No program in sight. -/
namespace Go.Dx
open Go.RowKit

section ops
variable {P : Program} {w : World} {ops : Array Oper} {rest : List Oper} {act : Act} {Q : Exit → Act → World → Prop}
 {ty : TypeId} {pos : String} {after : Array Edge}

end ops

theorem run_forIn_eq {P : Program} (w : World) (n : Nat) (xs ys : List Int) (hx : xs.length = n) (hy : ys.length = n) (F : Nat → Option Bool × Unit → Sem (ForInStep (Option Bool × Unit)))
  (hF : ∀ i s, i < n → (F i s).run P w = .ok (if xs[i]? = ys[i]? then ForInStep.yield (none, ()) else ForInStep.done (some false, ())) w) :
  ∀ (m s : Nat), s + m = n → (forIn (List.range' s m) ((none, ()) : Option Bool × Unit) F).run P w = .ok (if xs.drop s = ys.drop s then (none, ()) else (some false, ())) w := by
 intro m
 induction m with
 | zero =>
  intro s hs
  rw [List.drop_eq_nil_of_le (by omega), List.drop_eq_nil_of_le (by omega)]
  simp [Sem.run_pure]
 | succ m ih =>
  intro s hs
  rw [List.range'_succ, List.forIn_cons, Sem.run_bind, hF s _ (by omega)]
  have ex : xs.drop s = xs[s]'(by omega) :: xs.drop (s + 1) := List.drop_eq_getElem_cons (by omega)
  have ey : ys.drop s = ys[s]'(by omega) :: ys.drop (s + 1) := List.drop_eq_getElem_cons (by omega)
  rw [ex, ey]
  by_cases h : xs[s]? = ys[s]?
  ·rw [if_pos h, Result.andThen_ok]
   have h2 : xs[s]'(by omega) = ys[s]'(by omega) := by
    rw [List.getElem?_eq_getElem (by omega), List.getElem?_eq_getElem (by omega)] at h
    exact Option.some.inj h
   simp only [ih (s + 1) (by omega), h2, List.cons.injEq, true_and]
  ·rw [if_neg h, Result.andThen_ok]
   have h2 : ¬ xs[s]'(by omega) = ys[s]'(by omega) := fun e => h (by rw [List.getElem?_eq_getElem (by omega), List.getElem?_eq_getElem (by omega), e])
   rw [if_neg (fun e => h2 (List.cons.inj e).1)]
   simp only [Sem.run_pure]

theorem run_equalIn_arr {P : Program} (w : World) (d : Nat) (t e n : Nat) (k : IntKind) (ht : P.underlying t = some (.array n e)) (he : P.underlying e = some (.int k)) (hsz : (P.info? e).map (·.size) = some 1)
  (xs ys : List Int) (hx : xs.length = n) (hy : ys.length = n) :
  (Op.equalIn (d + 2) t (.agg (xs.map (Value.int k)).toArray) (.agg (ys.map (Value.int k)).toArray)).run P w = .ok (decide (xs = ys)) w := by
 obtain ⟨i, hi, hs⟩ := Option.map_eq_some_iff.1 hsz
 unfold Op.equalIn
 simp only [Sem.run_bind, run_underlying ht, Result.andThen_ok, sizeOf, typeInfo]
 simp [hi, hs, Std.Legacy.Range.forIn_eq_forIn_range']
 rw [run_forIn_eq w n xs ys hx hy _ ?_ n 0 (by omega)]
 ·simp only [List.drop_zero, Result.andThen_ok]
  by_cases h : xs = ys
  ·simp [h, Sem.run_pure]
  ·simp [h, Sem.run_pure]
 ·intro j s hj
  have h1 : xs[j]? = some xs[j] := List.getElem?_eq_getElem (by omega)
  have h2 : ys[j]? = some ys[j] := List.getElem?_eq_getElem (by omega)
  have p1 : ∀ l : List Int, (hl : l.length = n) → (part e (l.map (Value.int k)).toArray j).run P w = .ok (.int k (l[j]'(by omega))) w := by
   intro l hl
   have h3 : ((l.map (Value.int k)).toArray)[j]? = some (.int k (l[j]'(by omega))) := by simp [hl, hj]
   unfold part
   simp only [Sem.run_bind, isAgg, run_underlying he, Result.andThen_ok, Sem.run_pure]
   simp only [Bool.false_eq_true, if_false, h3, Sem.run_pure]
  simp only [Sem.run_bind, p1 xs hx, p1 ys hy, Result.andThen_ok, run_equalIn_int w d e k k _ _ he]
  by_cases h : xs[j] = ys[j]
  ·simp [h1, h2, h, Sem.run_pure]
  ·simp [h1, h2, h, Sem.run_pure]

theorem run_neq_arr {P : Program} (w : World) (t e n : Nat) (k : IntKind) (ht : P.underlying t = some (.array n e)) (he : P.underlying e = some (.int k)) (hsz : (P.info? e).map (·.size) = some 1)
  (xs ys : List Int) (hx : xs.length = n) (hy : ys.length = n) :
  (binOp .neq t (.agg (xs.map (Value.int k)).toArray) (.agg (ys.map (Value.int k)).toArray)).run P w = .ok (.bool (!decide (xs = ys))) w := by
 rw [run_neq_struct, run_equalIn_arr w 9998 t e n k ht he hsz xs ys hx hy]; rfl

theorem bytes_ints (l : List UInt8) : l.map B8 = (l.map fun d => (d.toNat : Int)).map (Value.int .u8) := by rw [List.map_map]; rfl
theorem bytes_inj {l m : List UInt8} : (l.map fun d => (d.toNat : Int)) = (m.map fun d => (d.toNat : Int)) ↔ l = m := by
 constructor
 ·intro h
  refine List.map_inj_right (fun x y hxy => ?_) |>.1 h
  have h2 : (x.toNat : Int) = (y.toNat : Int) := hxy
  exact UInt8.toNat_inj.1 (by omega)
 ·intro h; rw [h]

section quiet
variable {P : Program} {w : World} {ops : Array Oper} {rest : List Oper} {act : Act} {Q : Act → Prop} {ty : TypeId} {pos : String} {after : Array Edge}

end quiet
end Go.Dx
end

section
/- Laws on full slices: 'b[:len:len]' and an append behind it, which copies. No program in sight. -/
namespace Go.Dx
open Go.RowKit

section ops
variable {P : Program} {w : World} {ops : Array Oper} {rest : List Oper} {o : Oper} {act : Act} {Q : Exit → Act → World → Prop}
 {ty : TypeId} {pos : String} {after : Array Edge}
end ops
end Go.Dx
end

section
/- Regions that draw their order and whose callees make memory of their own: walked once, at the class 'whatever came on top'. No program in sight. -/
namespace Go.Dx
open Go.RowKit
structure OnTop (w : World) where
 v : World
 h : Below w.heap.size w v
theorem onTop_call {P : Program} {f : FuncId} {args : Array Value} {w : World} {p : OnTop w} {v : Value}
  (h : Calls P f args p.v fun e w' => e = .returned v ∧ Below p.v.heap.size p.v w') : Calls P f args p.v fun e w'' => e = .returned v ∧ ∃ q : OnTop w, w'' = q.v :=
 h.mono fun _ w'' ⟨he, hb⟩ => ⟨he, ⟨w'', p.h.trans (hb.mono p.h.size)⟩, rfl⟩
section
variable {P : Program} {C : World → Prop} {ops : Array Oper} {rest : List Oper} {act : Act} {Q : Act → Prop}
end
end Go.Dx
end

section
/- Blocks that are known whole: local arrays and structs. Laws of the walk on whole loads and stores, cuts of arrays, results that lie in memory. No program in sight. -/
namespace Go.Dx
open Go.RowKit
def Box (w : World) (g : Nat) (t : TypeId) (cs : List Value) : Prop := w.heap[g]? = some (.cells cs.toArray t (0, 0))
section
variable {w w' : World} {g : Nat} {t : TypeId} {cs : List Value}
theorem Box.lt (h : Box w g t cs) : g < w.heap.size := (Array.getElem?_eq_some_iff.1 h).1
theorem Box.cell (h : Box w g t cs) (j : Nat) : w.cell? ⟨g, j, none⟩ = cs[j]? := by rw [cell_of_row w g j cs.toArray t (0, 0) h]; simp
theorem Box.at_ (h : Box w g t cs) {j : Nat} {u : Value} (hu : cs[j]? = some u) : w.cell? ⟨g, j, none⟩ = some u := by rw [h.cell, hu]
theorem Box.free (h : Box w g t cs) (j : Nat) : w.frozen? ⟨g, j, none⟩ = false := by unfold Box at h; simp [World.frozen?, h]
theorem Box.new (w : World) (t : TypeId) (us : Array Value) : Box (w.alloc (.cells us t)) w.heap.size t us.toList := heap_alloc_new w _
theorem Box.drew (h : Box w g t cs) : Box w.drew g t cs := h
theorem Box.drewN (h : Box w g t cs) (n : Nat) : Box (w.drewN n) g t cs := h
theorem Box.alloc (h : Box w g t cs) (o : Obj) : Box (w.alloc o) g t cs := (Below.heap_alloc w o g h.lt).trans h
theorem Box.put (h : Box w g t cs) (j : Nat) (u : Value) : Box (w.setCell ⟨g, j, none⟩ u) g t (cs.set j u) := by
 unfold Box at h ⊢
 simp [World.setCell, Array.getElem?_modify, h]
theorem Box.far (h : Box w g t cs) {p : Addr} (hp : g ≠ p.block) (u : Value) : Box (w.setCell p u) g t cs := (Below.heap_setCell w p u g hp).trans h
theorem Box.below {B : Nat} (h : Box w g t cs) (hb : Below B w w') (hg : g < B) : Box w' g t cs := (hb.block g hg).trans h
theorem Box.under (h : Box w g t cs) (hb : Below w.heap.size w w') : Box w' g t cs := h.below hb h.lt
theorem Box.grown {row : Option Nat} (h : Box w g t cs) (hb : w.grownBy w' row) (hg : some g ≠ row) : Box w' g t cs := (hb.block g h.lt hg).trans h
theorem Box.sl (h : Box w g t cs) (off n c sz : Nat) (l : List Value) (hl : l.length = n * sz) (hc : n ≤ c) (hm : c ≤ maxLen) (he : ∀ j u, l[j]? = some u → cs[off + j]? = some u) : Sl w sz (some ⟨g, off, none⟩) n c l :=
 ⟨hl, hc, hm, (fun h => by cases h), fun p hp j u hj => by cases hp; rw [Addr.add_lit]; exact h.at_ (he j u hj)⟩
end

theorem belowN {B : Nat} {a w : World} (h : Below B a w) (n : Nat) : Below B a (w.drewN n) := ⟨h.os, h.tape, h.output, h.size, h.block⟩
section run
variable {P : Program} {w : World}
def IsAgg (P : Program) (t : TypeId) : Prop := (∃ n e, P.underlying t = some (.array n e)) ∨ ∃ fs, P.underlying t = some (.struct fs)
theorem run_isAgg {t : TypeId} (h : IsAgg P t) : (isAgg t).run P w = .ok true w := by
 rcases h with ⟨n, e, h⟩ | ⟨fs, h⟩ <;> simp [isAgg, run_underlying h]
theorem run_loadVar_box {t e : TypeId} {g off : Nat} {old cs : List Value} (hag : IsAgg P t) (hsz : (P.info? t).map (·.size) = some cs.length) (hb : Box w g e old) (hc : ∀ j u, cs[j]? = some u → old[off + j]? = some u) :
  (loadVar t ⟨g, off, none⟩).run P w = .ok (.agg cs.toArray) w := by
 obtain ⟨i, hi, hs0⟩ := Option.map_eq_some_iff.1 hsz
 have hl := run_loadCells_list (P := P) w ⟨g, off, none⟩ cs (fun j u hj => by rw [Addr.add_lit]; exact hb.at_ (hc j u hj))
 simp [loadVar, run_isAgg hag, sizeOf, typeInfo, hi, hs0, hl]
theorem run_results_cell {fn : Func} {tmps : Array Value} {t : Tmp} {ty e : TypeId} {g : Nat} {cs : List Value} (hr : fn.results = #[.cell t ty]) (ht : tmps.getD t undef = .pointer (some ⟨g, 0, none⟩)) (hag : IsAgg P ty) (hsz : (P.info? ty).map (·.size) = some cs.length)
  (hb : Box w g e cs) : (results fn tmps).run P w = .ok (.agg cs.toArray) w := by
 have hl := run_loadVar_box (P := P) (off := 0) hag hsz hb (fun j u hj => by rw [Nat.zero_add]; exact hj)
 have ht2 : tmps[t]?.getD undef = .pointer (some ⟨g, 0, none⟩) := by rw [← ht]; simp
 simp only [results, hr]
 simp [ht2, asAddr, hl]
end run

section ops
variable {P : Program} {w : World} {ops : Array Oper} {rest : List Oper} {act : Act} {Q : Exit → Act → World → Prop}
 {ty : TypeId} {pos : String} {after : Array Edge}
theorem load_box (d : Nat) (t : TypeId) (x : Operand) (e : TypeId) (g off : Nat) (old cs : List Value) (hag : IsAgg P t) (hsz : (P.info? t).map (·.size) = some cs.length) (hb : Box w g e old) (hx : act.eval x = .pointer (some ⟨g, off, none⟩))
  (hc : ∀ j u, cs[j]? = some u → old[off + j]? = some u) (hK : wpList P ops Q rest (act.put (some d) (.agg cs.toArray)) w) :
  wpList P ops Q ({ dst := some d, op := .load t x, type := ty, pos := pos, after := after, guard := none } :: rest) act w := by
 refine wpList_plain rfl fun K hK' => ?_
 have hrun : (Instr.loadAt t (.pointer (some ⟨g, off, none⟩))).run P w = .ok (.agg cs.toArray) w := by
  simp [Instr.loadAt, Instr.sureAddr, run_loadVar_box hag hsz hb hc]
 unfold Oper.wp
 simp [execOp, hx, hrun, Result.andThen]
 exact hK' _ _ hK
theorem store_box (t : TypeId) (x y : Operand) (e : TypeId) (g off : Nat) (old cs : List Value) (v : Value) (hsz : (P.info? t).map (·.size) = some cs.length) (hb : Box w g e old) (hx : act.eval x = .pointer (some ⟨g, off, none⟩))
  (hy : act.eval y = v) (hv : v.cells = cs.toArray) (hl : off + cs.length ≤ old.length) (h1 : ∀ u ∈ cs, u.oneCell' = true)
  (hK : ∀ w', Box w' g e (old.take off ++ cs ++ old.drop (off + cs.length)) → w.grownBy w' (some g) → w'.heap.size = w.heap.size → wpList P ops Q rest act w') :
  wpList P ops Q ({ dst := none, op := .store t x y, type := ty, pos := pos, after := after, guard := none } :: rest) act w := by
 refine wpList_plain rfl fun K hK' => ?_
 obtain ⟨i, hi, hs0⟩ := Option.map_eq_some_iff.1 hsz
 have hst := run_storeCells_at P g off e cs 0 old.toArray w hb (by simpa using hl) h1
 simp only [Nat.add_zero, List.toList_toArray] at hst
 have hrun : (Instr.storeAt t (.pointer (some ⟨g, off, none⟩)) v).run P w = .ok () (w.setRow g (old.take off ++ cs ++ old.drop (off + cs.length)).toArray) := by
  simp [Instr.storeAt, Instr.sureAddr, storeVar, sizeOf, typeInfo, hi, hs0, hv, hst]
 unfold Oper.wp
 simp [execOp, hx, hy, hrun, Result.andThen]
 refine hK' _ _ (hK _ ?_ ⟨rfl, rfl, rfl, by simp [World.setRow], fun k _ hk => setRow_other w g k _ (fun e => hk (by rw [e]))⟩ (by simp [World.setRow]))
 have := setRow_heap w g old.toArray (old.take off ++ cs ++ old.drop (off + cs.length)).toArray e (0, 0) hb
 simpa [Box] using this
theorem store_all (t : TypeId) (x y : Operand) (e : TypeId) (g : Nat) (old cs : List Value) (v : Value) (hsz : (P.info? t).map (·.size) = some cs.length) (hb : Box w g e old) (hx : act.eval x = .pointer (some ⟨g, 0, none⟩))
  (hy : act.eval y = v) (hv : v.cells = cs.toArray) (hl : cs.length = old.length) (h1 : ∀ u ∈ cs, u.oneCell' = true)
  (hK : ∀ w', Box w' g e cs → w.grownBy w' (some g) → w'.heap.size = w.heap.size → wpList P ops Q rest act w') :
  wpList P ops Q ({ dst := none, op := .store t x y, type := ty, pos := pos, after := after, guard := none } :: rest) act w :=
 store_box t x y e g 0 old cs v hsz hb hx hy hv (by omega) h1 (fun w' hb' hg hs => hK w' (by
  have e1 : old.drop (0 + cs.length) = [] := List.drop_eq_nil_of_le (by omega)
  rw [e1, List.take_zero, List.nil_append, List.append_nil] at hb'
  exact hb') hg hs)
theorem val_at {o : Oper} (hg : o.guard = none) (v : Value) (h : (execOp act.eval o).run P w = .ok (.value v) w) (hK : wpList P ops Q rest (act.put o.dst v) w) : wpList P ops Q (o :: rest) act w := by
 refine wpList_plain hg fun K hK' => ?_
 unfold Oper.wp
 rw [h]
 exact hK' _ _ hK
theorem hold_build {dst : Option Tmp} {t ty : TypeId} {ps : Array (Nat × Operand)} {pos : String} {after : Array Edge} {g : Option (Nat × Bool)}
  (h : Hid (wpList P ops Q ({ dst := dst, op := .build t ps, type := ty, pos := pos, after := after, guard := g } :: rest) act w)) : wpList P ops Q ({ dst := dst, op := .build t ps, type := ty, pos := pos, after := after, guard := g } :: rest) act w := h
theorem store_cell (t : TypeId) (x y : Operand) (e : TypeId) (g j : Nat) (old : List Value) (v : Value) (hsz : (P.info? t).map (·.size) = some 1) (hb : Box w g e old) (hx : act.eval x = .pointer (some ⟨g, j, none⟩))
  (hy : act.eval y = v) (h1 : v.oneCell' = true) (hv : v.cells = #[v]) (hj : j < old.length)
  (hK : ∀ w', Box w' g e (old.set j v) → w.grownBy w' (some g) → w'.heap.size = w.heap.size → wpList P ops Q rest act w') :
  wpList P ops Q ({ dst := none, op := .store t x y, type := ty, pos := pos, after := after, guard := none } :: rest) act w :=
 store_box t x y e g j old [v] v hsz hb hx hy hv (by simp; omega) (by simpa using h1) (fun w' hb' hg hs => hK w' (by
  have e : old.take j ++ [v] ++ old.drop (j + [v].length) = old.set j v := by
   rw [List.set_eq_take_append_cons_drop, if_pos hj]
   simp
  rw [e] at hb'
  exact hb') hg hs)
theorem index_val (d : Nat) (t e n : TypeId) (x y : Operand) (ht : P.underlying t = some (.array n e)) (hsz : (P.info? e).map (·.size) = some 1) (hna : ∀ w, (isAgg e).run P w = .ok false w) (cs : List Value) (hx : act.eval x = .agg cs.toArray) (k : IntKind) (i : Nat) (hy : act.eval y = .int k (i : Int)) (hi : i < n)
  (u : Value) (hu : cs[i]? = some u) (hK : wpList P ops Q rest (act.put (some d) u) w) :
  wpList P ops Q ({ dst := some d, op := .index t x y, type := ty, pos := pos, after := after, guard := none } :: rest) act w := by
 refine wpList_plain rfl fun K hK' => ?_
 obtain ⟨i0, hi0, hs0⟩ := Option.map_eq_some_iff.1 hsz
 have h3 : (0 : Int) ≤ i ∧ (i : Int) < n := by omega
 have hrun : (Instr.index t (.agg cs.toArray) (.int k (i : Int))).run P w = .ok u w := by
  simp [Instr.index, asIntOf, run_underlying ht, sizeOf, typeInfo, hi0, hs0, h3, part, hna, hu, hi]
 unfold Oper.wp
 simp [execOp, hx, hy, hrun, Result.andThen]
 exact hK' _ _ hK
end ops
section still
variable {P : Program} {w : World} {ops : Array Oper} {rest : List Oper} {act : Act} {Q : Act → Prop}
theorem still_at {o : Oper} (v : Value) (hw : Region.wanted o (yielded ops act.tmps) = true) (h : (execOp act.eval o).run P w = .ok (.value v) w)
  (hK : wpStill P ops w Q rest (act.put o.dst v)) : wpStill P ops w Q (o :: rest) act := by
 refine wpStill_step fun K hK' => ?_
 rw [if_pos hw]
 unfold Oper.still
 rw [h]
 exact ⟨rfl, hK' _ hK⟩
end still
end Go.Dx
end

section
namespace Go.Proofs.YtfagjaabladgpaaDoor
open Go.RowKit Go.Dx

theorem isAgg_64 : IsAgg Tryd.prog 118 := .inl ⟨_, _, Tryd.underlying118⟩
theorem size_64 : (Tryd.prog.info? 118).map (·.size) = some 64 := by kernel_rfl
theorem box_zero (w : World) (us : Array Value) (t : TypeId) (b : Nat) (hb : b = w.heap.size) (l : List UInt32) (hus : us.toList = l.map W32) : Box (w.alloc (.cells us t)) b t (l.map W32) := by
 subst hb; rw [← hus]; exact Box.new w t us
theorem box_zero2 (w w2 : World) (us : Array Value) (t : TypeId) (o : Obj) (hw : w2 = (w.alloc (.cells us t)).alloc o) (l : List UInt32) (hus : us.toList = l.map W32) : Box w2 w.heap.size t (l.map W32) := by
 subst hw; exact (box_zero w us t _ rfl l hus).alloc o
set_option maxRecDepth 100000 in
set_option maxHeartbeats 4000000 in
theorem words_any (l : List UInt8) (a : Option Addr) (c : Nat) (w : World) (hs : Sl w 1 a 64 c (l.map B8)) :
  Calls Tryd.prog 76 #[.slice a 64 c] w fun e w' => e = .returned (.agg ((wl l 64).map W32).toArray) ∧ Below w.heap.size w w' := by
 have hl : l.length = 64 := hs.n_eq.symm
 have HL := hide hl
 clear hl
 go_enter Tryd.func76, Tryd.ntmps76
 go_wp2
 go_loopg [4] 16 (fun g i w' => ∃ t : Nat, t ≤ 16 ∧ g = 16 - t ∧ i = .int .i64 t ∧ Box w' (w.heap.size + 1) 118 ((warr l t).map W32) ∧ Box w' w.heap.size 118 ((List.replicate 64 (0 : UInt32)).map W32) ∧ Below w.heap.size w w')
 case atStart =>
  refine ⟨0, by omega, by omega, rfl, box_zero _ _ _ _ (by simp) _ rfl, box_zero2 w _ _ _ _ rfl _ rfl, ((Below.refl _ _).alloc (Nat.le_refl _) _).alloc (by simp) _⟩
 case round =>
  obtain ⟨t, ht, hg, rfl, hx3, hx2, hb⟩ := hrel
  have HG := hide hg
  clear hg
  by_cases hlt : t < 16
  ·obtain ⟨b, off, rfl, hbs, hcell⟩ := (hs.below hb).ex (by simp [HL.out])
   obtain ⟨p0, h0⟩ : ∃ p, p = 4 * t := ⟨_, rfl⟩
   obtain ⟨p1, h1⟩ : ∃ p, p = 4 * t + 1 := ⟨_, rfl⟩
   obtain ⟨p2, h2⟩ : ∃ p, p = 4 * t + 2 := ⟨_, rfl⟩
   obtain ⟨p3, h3⟩ : ∃ p, p = 4 * t + 3 := ⟨_, rfl⟩
   obtain ⟨x0, q0⟩ : ∃ x, l[p0]? = some x := ⟨l[p0]'(by have := HL.out; omega), by simp⟩
   obtain ⟨x1, q1⟩ : ∃ x, l[p1]? = some x := ⟨l[p1]'(by have := HL.out; omega), by simp⟩
   obtain ⟨x2, q2⟩ : ∃ x, l[p2]? = some x := ⟨l[p2]'(by have := HL.out; omega), by simp⟩
   obtain ⟨x3, q3⟩ : ∃ x, l[p3]? = some x := ⟨l[p3]'(by have := HL.out; omega), by simp⟩
   have c0 : wr.cell? ⟨b, off + p0, none⟩ = some (B8 x0) := hcell _ _ (by rw [List.getElem?_map, q0]; rfl)
   have c1 : wr.cell? ⟨b, off + p1, none⟩ = some (B8 x1) := hcell _ _ (by rw [List.getElem?_map, q1]; rfl)
   have c2 : wr.cell? ⟨b, off + p2, none⟩ = some (B8 x2) := hcell _ _ (by rw [List.getElem?_map, q2]; rfl)
   have c3 : wr.cell? ⟨b, off + p3, none⟩ = some (B8 x3) := hcell _ _ (by rw [List.getElem?_map, q3]; rfl)
   have d0 : wr.cell? ⟨w.heap.size + 1, t, none⟩ = some (W32 0) := hx3.at_ (by rw [List.getElem?_map, warr_at l (by omega)]; rfl)
   have f0 := hx3.free t
   have HN : Hid (be4 x0 x1 x2 x3 = wnext l (wl l t) t) := by
    show _ = _
    unfold wnext
    rw [if_pos hlt, ← h1, ← h2, ← h3, ← h0, List.getD_eq_getElem?_getD, List.getD_eq_getElem?_getD, List.getD_eq_getElem?_getD, List.getD_eq_getElem?_getD, q0, q1, q2, q3]
    rfl
   have e0 : 4 * (t : Int) = (p0 : Int) := by omega
   have e1 : (p0 : Int) + 1 = (p1 : Int) := by omega
   have e2 : (p0 : Int) + 2 = (p2 : Int) := by omega
   have e3 : (p0 : Int) + 3 = (p3 : Int) := by omega
   have z0 : IntKind.i64.wrap (p0 : Int) = (p0 : Int) := IntWalk.i64_in _ (by omega)
   have z1 : IntKind.i64.wrap (p1 : Int) = (p1 : Int) := IntWalk.i64_in _ (by omega)
   have z2 : IntKind.i64.wrap (p2 : Int) = (p2 : Int) := IntWalk.i64_in _ (by omega)
   have z3 : IntKind.i64.wrap (p3 : Int) = (p3 : Int) := IntWalk.i64_in _ (by omega)
   have m0 : p0 < 64 := by omega
   have m1 : p1 < 64 := by omega
   have m2 : p2 < 64 := by omega
   have m3 : p3 < 64 := by omega
   have it : (t : Int) < 64 := by omega
   have i0 : (p0 : Int) < 64 := by omega
   have i1 : (p1 : Int) < 64 := by omega
   have i2 : (p2 : Int) < 64 := by omega
   have i3 : (p3 : Int) < 64 := by omega
   clear hcell q0 q1 q2 q3 h0 h1 h2 h3
   go_wp2
   go_still_tail 35, (by kernel_rfl)
   change wpList _ _ _ _ _ wr.drew
   go_wp2
   go_roundg (16 - (t + 1))
   case measure => have := HG.out; omega
   case rel =>
    refine ⟨t + 1, by omega, rfl, by go_num, ?_, ?_, ?_⟩
    ·rw [be4_or', HN.out]
     have h := hx3.put t (W32 (wnext l (wl l t) t))
     rw [box_set, warr_next l (by omega)] at h
     exact h.drew
    ·exact (hx2.far (by simp) _).drew
    ·exact (hb.setCell (p := ⟨w.heap.size + 1, t, none⟩) (Nat.le_succ _) _).drew
  ·obtain rfl : t = 16 := by omega
   clear HG
   go_wp2
   obtain ⟨wo, rfl⟩ : ∃ wo : World, wo = wr := ⟨_, rfl⟩
   go_loopg [5] 48 (fun g i w' => ∃ t : Nat, 16 ≤ t ∧ t ≤ 64 ∧ g = 64 - t ∧ i = .int .i64 t ∧ Box w' (w.heap.size + 1) 118 ((warr l t).map W32) ∧ Box w' w.heap.size 118 ((List.replicate 64 (0 : UInt32)).map W32) ∧ Below w.heap.size w w')
   case atStart => exact ⟨16, by omega, by omega, by omega, rfl, hx3, hx2, hb⟩
   case round =>
    clear hx3 hx2 hb
    obtain ⟨t, ht0, ht, hg, rfl, hx3, hx2, hb⟩ := hrel
    have HG := hide hg
    clear hg
    by_cases hlt : t < 64
    ·obtain ⟨u0, h0⟩ : ∃ p, p = t - 16 := ⟨_, rfl⟩
     obtain ⟨u1, h1⟩ : ∃ p, p = t - 15 := ⟨_, rfl⟩
     obtain ⟨u7, h7⟩ : ∃ p, p = t - 7 := ⟨_, rfl⟩
     obtain ⟨u2, h2⟩ : ∃ p, p = t - 2 := ⟨_, rfl⟩
     obtain ⟨x0, g0⟩ : ∃ x, x = (wl l t).getD u0 0 := ⟨_, rfl⟩
     obtain ⟨x1, g1⟩ : ∃ x, x = (wl l t).getD u1 0 := ⟨_, rfl⟩
     obtain ⟨x7, g7⟩ : ∃ x, x = (wl l t).getD u7 0 := ⟨_, rfl⟩
     obtain ⟨x2, g2⟩ : ∃ x, x = (wl l t).getD u2 0 := ⟨_, rfl⟩
     have c0 : wr.cell? ⟨w.heap.size + 1, u0, none⟩ = some (W32 x0) := hx3.at_ (by rw [g0]; exact box_at (warr_get l (by omega)))
     have c1 : wr.cell? ⟨w.heap.size + 1, u1, none⟩ = some (W32 x1) := hx3.at_ (by rw [g1]; exact box_at (warr_get l (by omega)))
     have c7 : wr.cell? ⟨w.heap.size + 1, u7, none⟩ = some (W32 x7) := hx3.at_ (by rw [g7]; exact box_at (warr_get l (by omega)))
     have c2 : wr.cell? ⟨w.heap.size + 1, u2, none⟩ = some (W32 x2) := hx3.at_ (by rw [g2]; exact box_at (warr_get l (by omega)))
     have d0 : wr.cell? ⟨w.heap.size + 1, t, none⟩ = some (W32 0) := hx3.at_ (box_at (warr_at l (by omega)))
     have f0 := hx3.free t
     have HN : Hid (x0 + sig0 x1 + x7 + sig1 x2 = wnext l (wl l t) t) := by
      show _ = _
      unfold wnext
      rw [if_neg (by omega), ← h0, ← h1, ← h7, ← h2, ← g0, ← g1, ← g7, ← g2]
     have e0 : (t : Int) - 16 = (u0 : Int) := by omega
     have e1 : (t : Int) - 15 = (u1 : Int) := by omega
     have e7 : (t : Int) - 7 = (u7 : Int) := by omega
     have e2 : (t : Int) - 2 = (u2 : Int) := by omega
     have z0 : IntKind.i64.wrap (u0 : Int) = (u0 : Int) := IntWalk.i64_in _ (by omega)
     have z1 : IntKind.i64.wrap (u1 : Int) = (u1 : Int) := IntWalk.i64_in _ (by omega)
     have z7 : IntKind.i64.wrap (u7 : Int) = (u7 : Int) := IntWalk.i64_in _ (by omega)
     have z2 : IntKind.i64.wrap (u2 : Int) = (u2 : Int) := IntWalk.i64_in _ (by omega)
     have it : (t : Int) < 64 := by omega
     have i0 : (u0 : Int) < 64 := by omega
     have i1 : (u1 : Int) < 64 := by omega
     have i7 : (u7 : Int) < 64 := by omega
     have i2 : (u2 : Int) < 64 := by omega
     clear h0 h1 h7 h2 g0 g1 g7 g2
     go_wp2
     go_quiet (first | (go_at_call_of 77 (Value.int IntKind.i64 7); exact Calls.quiet_of (rotr_c _ 7 7 rfl (by omega) (by omega) _)) | (go_at_call_of 77 (Value.int IntKind.i64 18); exact Calls.quiet_of (rotr_c _ 18 18 rfl (by omega) (by omega) _)))
     go_wp2
     go_quiet (first | (go_at_call_of 77 (Value.int IntKind.i64 17); exact quiet_moreH (rotr_c _ 17 17 rfl (by omega) (by omega) _)) | (go_at_call_of 77 (Value.int IntKind.i64 19); exact quiet_moreH (rotr_c _ 19 19 rfl (by omega) (by omega) _)))
     go_wp2
     refine wp_region_still_tail 15 (by kernel_rfl) (by kernel_rfl) ?_
     change wpStill _ _ (World.drew _) _ _ _
     simp only [List.take_succ_cons, List.take_zero, List.drop_succ_cons, List.drop_zero]
     repeat still_step
     refine wpStill_nil ?_
     change wpList _ _ _ _ _ (World.drew _)
     go_wp2
     go_roundg (64 - (t + 1))
     case measure => have := HG.out; omega
     case rel =>
      refine ⟨t + 1, by omega, by omega, rfl, by go_num, ?_, ?_, ?_⟩
      ·rw [sig0_raw, sig1_raw]
       rw [w_add4, HN.out]
       have h := hx3.put t (W32 (wnext l (wl l t) t))
       rw [box_set, warr_next l (by omega)] at h
       exact h
      ·exact (hx2.far (by simp) _)
      ·exact (belowN hb _).setCell (p := ⟨w.heap.size + 1, t, none⟩) (Nat.le_succ _) _
    ·obtain rfl : t = 64 := by omega
     obtain ⟨ws, hws⟩ : ∃ ws, Hid (wl l 64 = ws) := ⟨_, rfl⟩
     have hwl : ws.length = 64 := by rw [← hws.out]; exact wl_length l 64
     rw [warr_all, hws.out] at hx3
     have hz : (Tryd.prog.info? 118).map (·.size) = some (ws.map W32).length := by rw [List.length_map, hwl]; exact size_64
     have hz2 := hide hz
     have hl2 := hide (show (ws.map W32).length = ((List.replicate 64 (0 : UInt32)).map W32).length by rw [List.length_map, List.length_map, List.length_replicate, hwl])
     clear hz hwl
     go_wp2_with (first
      | (with_reducible refine load_box 100 118 _ 118 _ 0 _ (ws.map W32) isAgg_64 hz2.out hx3 rfl (fun j u hj => by rw [Nat.zero_add]; exact hj) ?_)
      | (with_reducible refine store_all 118 _ _ 118 _ _ (ws.map W32) _ hz2.out hx2 rfl rfl rfl hl2.out (one_map _ (fun _ => rfl) _) ?_; intro w5 hx5 hg5 hs5))
     refine bodyPost_ret (run_results_cell rfl rfl isAgg_64 hz2.out hx5) rfl ⟨by rw [hws.out], hb.grown hg5 (hb.size) (fun k hk => by cases hk; exact Nat.le_refl _)⟩
end Go.Proofs.YtfagjaabladgpaaDoor
end

section
namespace Go.Proofs.YtfagjaabladgpaaDoor
open Go.RowKit Go.Dx

theorem be4_val (l : List UInt8) (p : Nat) (h : p + 3 < l.length) : be4 (l.getD p 0) (l.getD (p + 1) 0) (l.getD (p + 2) 0) (l.getD (p + 3) 0) = UInt32.ofNat (val ((l.drop p).take 4)) := by
 have e : (l.drop p).take 4 = [l[p], l[p + 1], l[p + 2], l[p + 3]] := by
  apply List.ext_getElem
  ·simp; omega
  ·intro i h1 h2
   have : i = 0 ∨ i = 1 ∨ i = 2 ∨ i = 3 := by simp at h2; omega
   rcases this with rfl | rfl | rfl | rfl <;> simp
 rw [e, List.getD_eq_getElem?_getD, List.getD_eq_getElem?_getD, List.getD_eq_getElem?_getD, List.getD_eq_getElem?_getD, List.getElem?_eq_getElem (by omega), List.getElem?_eq_getElem (by omega), List.getElem?_eq_getElem (by omega), List.getElem?_eq_getElem (by omega)]
 simp only [Option.getD_some, be4, val, List.foldl_cons, List.foldl_nil]
 congr 1
 omega
theorem warr_same (b : List UInt8) {t : Nat} (h : t < 64) : (warr b t).set t 0 = warr b t := by
 have h1 := warr_at b h
 apply List.ext_getElem?
 intro i
 rw [List.getElem?_set]
 split
 ·rename_i e; subst e
  rw [if_pos (by rw [warr_length b (by omega)]; exact h), h1]
 ·rfl
set_option maxRecDepth 100000 in
set_option maxHeartbeats 4000000 in
theorem schedule_any (l : List UInt8) (a : Option Addr) (c : Nat) (w : World) (hs : Sl w 1 a 64 c (l.map B8)) :
  Calls Tryd.prog 68 #[.slice a 64 c] w fun e w' => e = .returned (.agg ((wl l 64).map W32).toArray) ∧ Below w.heap.size w w' := by
 have hl : l.length = 64 := hs.n_eq.symm
 have HL := hide hl
 clear hl
 go_enter Tryd.func68, Tryd.ntmps68
 go_wp2
 go_loopg [11] 64 (fun g i w' => ∃ t : Nat, t ≤ 64 ∧ g = 64 - t ∧ i = .int .i64 t ∧ Box w' (w.heap.size + 1) 118 ((warr l t).map W32) ∧ Box w' w.heap.size 118 ((List.replicate 64 (0 : UInt32)).map W32) ∧ Below w.heap.size w w')
 case atStart =>
  refine ⟨0, by omega, by omega, rfl, box_zero _ _ _ _ (by simp) _ rfl, box_zero2 w _ _ _ _ rfl _ rfl, ((Below.refl _ _).alloc (Nat.le_refl _) _).alloc (by simp) _⟩
 case round =>
  obtain ⟨t, ht, hg, rfl, hx3, hx2, hb⟩ := hrel
  have HG := hide hg
  clear hg
  have it64 : (t : Int) ≤ 64 := by omega
  by_cases hlt : t < 16
  ·obtain ⟨b0, o0, rfl, hb0, _⟩ := hs.ex (by simp [HL.out])
   have hs1 := hs.below hb
   have hp : 4 * t + 4 ≤ 64 := by omega
   go_wp2_with (with_reducible refine cut_b 22 _ _ _ _ _ _ _ rfl hs1 _ _ _ _ (4 * t) (4 * t + 4) rfl rfl (by omega) (by omega) (by omega) (by omega) ?_; intro a2 hs2 hblk)
   obtain ⟨bs, hbs⟩ : ∃ bs, Hid ((l.drop (4 * t)).take (4 * t + 4 - 4 * t) = bs) := ⟨_, rfl⟩
   rw [hbs.out] at hs2
   have hbl : bs.length = 4 := by rw [← hbs.out, List.length_take, List.length_drop, HL.out]; omega
   obtain ⟨b, off, rfl, hbb, hcell⟩ := hs2.ex (by simp [hbl])
   obtain ⟨q, hq, hqb⟩ := hblk _ rfl
   injection hq with hq
   subst hq
   have hqb : b0 = b := hqb
   subst hqb
   have HN : Hid (UInt32.ofNat (val bs) = wnext l (wl l t) t) := by
    show _ = _
    unfold wnext
    rw [if_pos hlt, be4_val l (4 * t) (by rw [HL.out]; omega), ← hbs.out, show 4 * t + 4 - 4 * t = 4 by omega]
   have hcw : ∀ j u, (bs.map B8)[j]? = some u → w.cell? ⟨b0, off + j, none⟩ = some u := fun j u hj => by rw [← hcell j u hj, hb.cell hb0]
   have hcw := hide hcw
   have hbl := hide hbl
   clear hcell hblk hs2 hbb
   obtain ⟨wo, rfl⟩ : ∃ wo : World, wo = wr := ⟨_, rfl⟩
   go_loopg [24] 4 (fun g i w' => ∃ k : Nat, k ≤ 4 ∧ g = 4 - k ∧ i = .int .i64 k ∧ Box w' (w.heap.size + 1) 118 (((warr l t).set t (UInt32.ofNat (val (bs.take k)))).map W32) ∧ Box w' w.heap.size 118 ((List.replicate 64 (0 : UInt32)).map W32) ∧ Below w.heap.size w w')
   case atStart =>
    refine ⟨0, by omega, by omega, rfl, ?_, hx2, hb⟩
    rw [List.take_zero, show UInt32.ofNat (val []) = 0 from rfl, warr_same l (by omega)]
    exact hx3
   case round =>
    clear hx3 hx2 hb hs1
    obtain ⟨k, hk, hg2, rfl, hx3, hx2, hb⟩ := hrel
    have HG2 := hide hg2
    clear hg2
    by_cases hkl : k < 4
    ·obtain ⟨x, hx⟩ : ∃ x, bs[k]? = some x := ⟨bs[k]'(by rw [hbl.out]; exact hkl), by simp⟩
     have c0 : wr.cell? ⟨b0, off + k, none⟩ = some (B8 x) := by rw [hb.cell hb0]; exact hcw.out k _ (by rw [List.getElem?_map, hx]; rfl)
     obtain ⟨y, hy⟩ : ∃ y, Hid (UInt32.ofNat (val (bs.take k)) = y) := ⟨_, rfl⟩
     have hv : val (bs.take k) < 16777216 := Nat.lt_of_lt_of_le (val_lt _) (Nat.le_trans (Nat.pow_le_pow_right (by omega) (show (bs.take k).length ≤ 3 by rw [List.length_take]; omega)) (by decide))
     have hyn : y.toNat = val (bs.take k) := by rw [← hy.out, UInt32.toNat_ofNat']; omega
     have hy24 : y.toNat < 16777216 := by omega
     have HE : Hid (UInt32.ofNat (y.toNat * 256 + x.toNat) = UInt32.ofNat (val (bs.take (k + 1)))) := by
      show _ = _
      rw [List.take_add_one, hx, Option.toList_some, val_snoc, hyn, Nat.mul_comm]
     rw [hy.out] at hx3
     have d0 : wr.cell? ⟨w.heap.size + 1, t, none⟩ = some (W32 y) := hx3.at_ (box_at (by rw [List.getElem?_set_self (by rw [warr_length l (by omega)]; omega)]))
     have f0 := hx3.free t
     have hx8 := UInt8.toNat_lt x
     clear hx hyn hv
     go_wp2
     go_roundg (4 - (k + 1))
     case measure => have := HG2.out; omega
     case rel =>
      refine ⟨k + 1, by omega, rfl, by go_num, ?_, hx2.far (by simp) _, hb.setCell (p := ⟨w.heap.size + 1, t, none⟩) (Nat.le_succ _) _⟩
      rw [sh8n y x hy24, HE.out]
      have h := hx3.put t (W32 (UInt32.ofNat (val (bs.take (k + 1)))))
      rw [box_set, List.set_set] at h
      exact h
    ·obtain rfl : k = 4 := by omega
     rw [List.take_of_length_le (by rw [hbl.out]; omega), HN.out, warr_next l (by omega)] at hx3
     go_wp2
     go_roundg (64 - (t + 1))
     case measure => have := HG.out; omega
     case rel => exact ⟨t + 1, by omega, rfl, by go_num, hx3, hx2, hb⟩
  ·by_cases hlt2 : t < 64
   ·obtain ⟨u0, h0⟩ : ∃ p, p = t - 16 := ⟨_, rfl⟩
    obtain ⟨u1, h1⟩ : ∃ p, p = t - 15 := ⟨_, rfl⟩
    obtain ⟨u7, h7⟩ : ∃ p, p = t - 7 := ⟨_, rfl⟩
    obtain ⟨u2, h2⟩ : ∃ p, p = t - 2 := ⟨_, rfl⟩
    obtain ⟨x0, g0⟩ : ∃ x, x = (wl l t).getD u0 0 := ⟨_, rfl⟩
    obtain ⟨x1, g1⟩ : ∃ x, x = (wl l t).getD u1 0 := ⟨_, rfl⟩
    obtain ⟨x7, g7⟩ : ∃ x, x = (wl l t).getD u7 0 := ⟨_, rfl⟩
    obtain ⟨x2, g2⟩ : ∃ x, x = (wl l t).getD u2 0 := ⟨_, rfl⟩
    have c0 : wr.cell? ⟨w.heap.size + 1, u0, none⟩ = some (W32 x0) := hx3.at_ (by rw [g0]; exact box_at (warr_get l (by omega)))
    have c1 : wr.cell? ⟨w.heap.size + 1, u1, none⟩ = some (W32 x1) := hx3.at_ (by rw [g1]; exact box_at (warr_get l (by omega)))
    have c7 : wr.cell? ⟨w.heap.size + 1, u7, none⟩ = some (W32 x7) := hx3.at_ (by rw [g7]; exact box_at (warr_get l (by omega)))
    have c2 : wr.cell? ⟨w.heap.size + 1, u2, none⟩ = some (W32 x2) := hx3.at_ (by rw [g2]; exact box_at (warr_get l (by omega)))
    have d0 : wr.cell? ⟨w.heap.size + 1, t, none⟩ = some (W32 0) := hx3.at_ (box_at (warr_at l (by omega)))
    have f0 := hx3.free t
    have HN : Hid (x0 + sig0 x1 + x7 + sig1 x2 = wnext l (wl l t) t) := by
     show _ = _
     unfold wnext
     rw [if_neg (by omega), ← h0, ← h1, ← h7, ← h2, ← g0, ← g1, ← g7, ← g2]
    have e0 : (t : Int) - 16 = (u0 : Int) := by omega
    have e1 : (t : Int) - 15 = (u1 : Int) := by omega
    have e7 : (t : Int) - 7 = (u7 : Int) := by omega
    have e2 : (t : Int) - 2 = (u2 : Int) := by omega
    have z0 : IntKind.i64.wrap (u0 : Int) = (u0 : Int) := IntWalk.i64_in _ (by omega)
    have z1 : IntKind.i64.wrap (u1 : Int) = (u1 : Int) := IntWalk.i64_in _ (by omega)
    have z7 : IntKind.i64.wrap (u7 : Int) = (u7 : Int) := IntWalk.i64_in _ (by omega)
    have z2 : IntKind.i64.wrap (u2 : Int) = (u2 : Int) := IntWalk.i64_in _ (by omega)
    have it : (t : Int) < 64 := by omega
    have i0 : (u0 : Int) < 64 := by omega
    have i1 : (u1 : Int) < 64 := by omega
    have i7 : (u7 : Int) < 64 := by omega
    have i2 : (u2 : Int) < 64 := by omega
    clear h0 h1 h7 h2 g0 g1 g7 g2
    go_wp2
    go_quiet (fail)
    go_wp2_with fail
    refine (rotl_c _ 7 _ rfl (by omega) (by omega) _).mono ?_
    rintro e w' ⟨rfl, rfl⟩
    go_wp2_with fail
    refine (rotl_c _ 18 _ rfl (by omega) (by omega) _).mono ?_
    rintro e w' ⟨rfl, rfl⟩
    go_wp2_with fail
    refine (rotl_c _ 17 _ rfl (by omega) (by omega) _).mono ?_
    rintro e w' ⟨rfl, rfl⟩
    go_wp2_with fail
    refine (rotl_c _ 19 _ rfl (by omega) (by omega) _).mono ?_
    rintro e w' ⟨rfl, rfl⟩
    go_wp2_with fail
    refine wp_region_still_tail 15 (by kernel_rfl) (by kernel_rfl) ?_
    change wpStill _ _ (World.drew _) _ _ _
    simp only [List.take_succ_cons, List.take_zero, List.drop_succ_cons, List.drop_zero]
    repeat still_step
    refine wpStill_nil ?_
    change wpList _ _ _ _ _ (World.drew _)
    go_wp2
    go_roundg (64 - (t + 1))
    case measure => have := HG.out; omega
    case rel =>
     refine ⟨t + 1, by omega, rfl, by go_num, ?_, hx2.far (by simp) _, (belowN hb _).setCell (p := ⟨w.heap.size + 1, t, none⟩) (Nat.le_succ _) _⟩
     rw [sig0_raw, sig1_raw, w_add4, HN.out]
     have h := hx3.put t (W32 (wnext l (wl l t) t))
     rw [box_set, warr_next l (by omega)] at h
     exact h
   ·obtain rfl : t = 64 := by omega
    obtain ⟨ws, hws⟩ : ∃ ws, Hid (wl l 64 = ws) := ⟨_, rfl⟩
    have hwl : ws.length = 64 := by rw [← hws.out]; exact wl_length l 64
    rw [warr_all, hws.out] at hx3
    have hz : (Tryd.prog.info? 118).map (·.size) = some (ws.map W32).length := by rw [List.length_map, hwl]; exact size_64
    have hz2 := hide hz
    have hl2 := hide (show (ws.map W32).length = ((List.replicate 64 (0 : UInt32)).map W32).length by rw [List.length_map, List.length_map, List.length_replicate, hwl])
    clear hz hwl
    go_wp2_with (first
     | (with_reducible refine load_box 78 118 _ 118 _ 0 _ (ws.map W32) isAgg_64 hz2.out hx3 rfl (fun j u hj => by rw [Nat.zero_add]; exact hj) ?_)
     | (with_reducible refine store_all 118 _ _ 118 _ _ (ws.map W32) _ hz2.out hx2 rfl rfl rfl hl2.out (one_map _ (fun _ => rfl) _) ?_; intro w5 hx5 hg5 hs5))
    refine bodyPost_ret (run_results_cell rfl rfl isAgg_64 hz2.out hx5) rfl ⟨by rw [hws.out], hb.grown hg5 (hb.size) (fun k hk => by cases hk; exact Nat.le_refl _)⟩
end Go.Proofs.YtfagjaabladgpaaDoor
end

section
namespace Go.Proofs.YtfagjaabladgpaaDoor
open Go.RowKit Go.Dx

theorem box_next (w : World) (o : Obj) (us : Array Value) (t : TypeId) : Box ((w.alloc o).alloc (.cells us t)) (w.heap.size + 1) t us.toList := by
 have h := Box.new (w.alloc o) t us
 simpa using h
structure Laid (w : World) : Prop where
 b : ∀ j u, K256[j]? = some u → w.cell? ⟨0, j, none⟩ = some (W32 u)
theorem Laid.below {w w' : World} (h : Laid w) (hb : Below w.heap.size w w') : Laid w' :=
 ⟨fun j u hj => by rw [hb.cell (World.block_lt_of_cell? w _ (h.b j u hj))]; exact h.b j u hj⟩
theorem Laid.mono {w w' : World} {B : Nat} (h : Laid w) (hb : Below B w w') (hB : w.heap.size ≤ B) : Laid w' := h.below (hb.mono hB)
structure LaidR (w : World) : Prop where
 a : ∀ j u, K256[j]? = some u → w.cell? ⟨1, j, none⟩ = some (W32 u)
theorem LaidR.below {w w' : World} (h : LaidR w) (hb : Below w.heap.size w w') : LaidR w' :=
 ⟨fun j u hj => by rw [hb.cell (World.block_lt_of_cell? w _ (h.a j u hj))]; exact h.a j u hj⟩
theorem LaidR.mono {w w' : World} {B : Nat} (h : LaidR w) (hb : Below B w w') (hB : w.heap.size ≤ B) : LaidR w' := h.below (hb.mono hB)
theorem hold_store {P : Program} {w : World} {ops : Array Oper} {rest : List Oper} {act : Act} {Q : Exit → Act → World → Prop} {dst : Option Tmp} {t ty : TypeId} {x y : Operand} {pos : String} {after : Array Edge} {g : Option (Nat × Bool)}
  (h : Hid (wpList P ops Q ({ dst := dst, op := .store t x y, type := ty, pos := pos, after := after, guard := g } :: rest) act w)) : wpList P ops Q ({ dst := dst, op := .store t x y, type := ty, pos := pos, after := after, guard := g } :: rest) act w := h
theorem size_u32 : (Tryd.prog.info? 64).map (·.size) = some 1 := by kernel_rfl
theorem size_8 : (Tryd.prog.info? 65).map (·.size) = some 8 := by kernel_rfl
theorem size_4 : (Tryd.prog.info? 120).map (·.size) = some 4 := by kernel_rfl
theorem isAgg_8 : IsAgg Tryd.prog 65 := .inl ⟨_, _, Tryd.underlying65⟩
set_option maxRecDepth 100000 in
set_option maxHeartbeats 4000000 in
theorem compress_any (s : HSt) (l : List UInt8) (a : Option Addr) (c : Nat) (w : World) (hL : Laid w) (hs : Sl w 1 a 64 c (l.map B8)) :
  Calls Tryd.prog 53 #[.agg (s.list.map W32).toArray, .slice a 64 c] w fun e w' => e = .returned (.agg ((comp s l).list.map W32).toArray) ∧ Below w.heap.size w w' := by
 obtain ⟨ws, hws⟩ : ∃ ws, Hid (wl l 64 = ws) := ⟨_, rfl⟩
 have hC := hide (schedule_any l a c)
 rw [hws.out] at hC
 have hwl : ws.length = 64 := by rw [← hws.out]; exact wl_length l 64
 obtain ⟨s0, s1, s2, s3, s4, s5, s6, s7⟩ := s
 have hz : (Tryd.prog.info? 118).map (·.size) = some (ws.map W32).length := by rw [List.length_map, hwl]; exact size_64
 have hz2 := hide hz
 have hl2 := hide (show (ws.map W32).length = ((List.replicate 64 (0 : UInt32)).map W32).length by rw [List.length_map, List.length_map, List.length_replicate, hwl])
 have hwl := hide hwl
 clear hz
 simp only [HSt.list, List.map_cons, List.map_nil]
 go_enter Tryd.func53, Tryd.ntmps53
 go_wp2_with fail
 refine (hC.out _ ((hs.alloc _).alloc _)).mono ?_
 rintro e w1 ⟨rfl, h1⟩
 have b1 : Below w.heap.size w w1 := (((Below.refl _ _).alloc (Nat.le_refl _) _).alloc (by simp) _).trans (h1.mono (by simp; omega))
 have x2 : Box w1 w.heap.size 65 [W32 s0, W32 s1, W32 s2, W32 s3, W32 s4, W32 s5, W32 s6, W32 s7] := (((Box.new w _ _)).alloc _).under h1
 have hsz : w.heap.size + 2 ≤ w1.heap.size := by have := h1.size; simp at this; omega
 have x4 : Box w1 (w.heap.size + 1) 65 ((List.replicate 8 (0 : UInt32)).map W32) := (box_zero _ _ _ _ (by simp) _ rfl).under h1
 have hL1 := hL.mono b1 (Nat.le_refl _)
 clear h1 hL hs hC
 go_wp2_with (first
  | (with_reducible refine store_all 118 _ _ 118 _ _ (ws.map W32) _ hz2.out (box_zero _ _ _ _ rfl (List.replicate 64 (0 : UInt32)) rfl) rfl rfl rfl hl2.out (one_map _ (fun _ => rfl) _) ?_; intro w2 x5 hg2 hs2))
 have b2 : Below w.heap.size w w2 := (b1.alloc (by omega) _).grown hg2 (by simp; omega) (fun k hk => by cases hk; omega)
 have x2 := (x2.alloc (.cells ((List.replicate 64 (0 : UInt32)).map W32).toArray 118)).grown hg2 (by simp; omega)
 have x4 := (x4.alloc (.cells ((List.replicate 64 (0 : UInt32)).map W32).toArray 118)).grown hg2 (by simp; omega)
 have hsz2 : w1.heap.size + 1 ≤ w2.heap.size := by have := hg2.size; simp at this; omega
 have hL2 : Laid w2 := hL1.below (((Below.refl _ _).alloc (Nat.le_refl _) _).grown hg2 (by simp) (fun k hk => by cases hk; omega))
 obtain ⟨B, hB⟩ : ∃ B, B = w.heap.size := ⟨_, rfl⟩
 obtain ⟨g5, hg5⟩ : ∃ g, g = w1.heap.size := ⟨_, rfl⟩
 rw [← hB] at b2 x2 x4 hsz ⊢
 rw [← hg5] at x5 hsz hsz2 ⊢
 have HB := hide hB
 clear hg2 b1 hB hg5 hs2
 have c0 : w2.cell? ⟨B, 0, none⟩ = some (W32 s0) := x2.at_ rfl
 have c1 : w2.cell? ⟨B, 1, none⟩ = some (W32 s1) := x2.at_ rfl
 have c2 : w2.cell? ⟨B, 2, none⟩ = some (W32 s2) := x2.at_ rfl
 have c3 : w2.cell? ⟨B, 3, none⟩ = some (W32 s3) := x2.at_ rfl
 have c4 : w2.cell? ⟨B, 4, none⟩ = some (W32 s4) := x2.at_ rfl
 have c5 : w2.cell? ⟨B, 5, none⟩ = some (W32 s5) := x2.at_ rfl
 have c6 : w2.cell? ⟨B, 6, none⟩ = some (W32 s6) := x2.at_ rfl
 have c7 : w2.cell? ⟨B, 7, none⟩ = some (W32 s7) := x2.at_ rfl
 have hBlt : B < w2.heap.size := by omega
 have n1 : w2.heap.size ≠ B := by omega
 have n2 : w2.heap.size + 1 ≠ B := by omega
 have n3 : B ≠ w2.heap.size := by omega
 have n4 : B ≠ w2.heap.size + 1 := by omega
 have ha1 : ∀ W : World, (Instr.arrayAt 120 (.slice (some ⟨B, 0, none⟩) 4 8)).run Tryd.prog W = .ok (.pointer (some ⟨B, 0, none⟩)) W := fun W => by simp [Instr.arrayAt, run_underlying Tryd.underlying120]
 have ha2 : ∀ W : World, (Instr.arrayAt 120 (.slice (some ⟨B, 4, none⟩) 4 4)).run Tryd.prog W = .ok (.pointer (some ⟨B, 4, none⟩)) W := fun W => by simp [Instr.arrayAt, run_underlying Tryd.underlying120]
 go_cut [6, 7] from 15 to 20 (fun p q w' => ∃ g6 g7, p = .pointer (some ⟨g6, 0, none⟩) ∧ q = .pointer (some ⟨g7, 0, none⟩) ∧ g6 ≠ g7 ∧ g5 < g6 ∧ g5 < g7 ∧ Box w' g6 120 [W32 s0, W32 s1, W32 s2, W32 s3] ∧ Box w' g7 120 [W32 s4, W32 s5, W32 s6, W32 s7] ∧ Below w2.heap.size w2 w')
 case first =>
  go_region
  all_goals go_wp2_with fail
  all_goals go_meet
  ·exact ⟨w2.heap.size, w2.heap.size + 1, rfl, rfl, by omega, by omega, by omega, ((Box.new w2 _ _).alloc _).drew, (box_next w2 _ _ _).drew, (((Below.refl _ _).alloc (Nat.le_refl _) _).alloc (by simp) _).drew⟩
  ·exact ⟨w2.heap.size + 1, w2.heap.size, rfl, rfl, by omega, by omega, by omega, (box_next w2 _ _ _).drew, ((Box.new w2 _ _).alloc _).drew, (((Below.refl _ _).alloc (Nat.le_refl _) _).alloc (by simp) _).drew⟩
 case rest =>
  obtain ⟨g6, g7, rfl, rfl, hne, h6, h7, x6, x7, hb3⟩ := hcut
  have x2 := x2.under hb3
  have x4 := x4.under hb3
  have x5 := x5.under hb3
  have hL3 := hL2.below hb3
  have b3 := b2.trans (hb3.mono (by omega))
  clear c0 c1 c2 c3 c4 c5 c6 c7 ha1 ha2 n1 n2 n3 n4 hBlt b2 hL2 hb3 hL1
  obtain ⟨KS, hKS⟩ : ∃ KS, Hid (K256 = KS) := ⟨_, rfl⟩
  have hKl := hide (show KS.length = 64 by rw [← hKS.out]; rfl)
  have hKb := hide hL3.b
  rw [hKS.out] at hKb
  have hKz := hide (show (KS.map W32).length = 64 by rw [List.length_map, hKl.out])
  clear hL3
  go_wp2_with (with_reducible refine load_agg 21 118 _ 64 size_64 _ _ Tryd.underlying118 ⟨0, 0, none⟩ rfl (KS.map W32) hKz.out (fun j u hj => by rw [Addr.add_lit, Nat.zero_add]; rw [List.getElem?_map] at hj; obtain ⟨q, hq, rfl⟩ := Option.map_eq_some_iff.1 hj; exact hKb.out j q hq) ?_)
  go_loopg [22] 64 (fun g i w' => ∃ t : Nat, t ≤ 64 ∧ g = 64 - t ∧ i = .int .i64 t ∧ (∃ r, rnds KS ws ⟨s0, s1, s2, s3, s4, s5, s6, s7⟩ t = r ∧ Box w' g6 120 [W32 r.a, W32 r.b, W32 r.c, W32 r.d] ∧ Box w' g7 120 [W32 r.e, W32 r.f, W32 r.g, W32 r.h]) ∧ Box w' B 65 [W32 s0, W32 s1, W32 s2, W32 s3, W32 s4, W32 s5, W32 s6, W32 s7] ∧ Box w' (B + 1) 65 ((List.replicate 8 (0 : UInt32)).map W32) ∧ Box w' g5 118 (ws.map W32) ∧ Below B w w')
  case atStart => exact ⟨0, by omega, by omega, rfl, ⟨_, rfl, x6, x7⟩, x2, x4, x5, b3⟩
  case round =>
   clear x2 x4 x5 x6 x7 b3
   obtain ⟨t, ht, hg, rfl, ⟨r, hr, x6, x7⟩, x2, x4, x5, b3⟩ := hrel
   have HG := hide hg
   have HR := hide hr
   clear hg hr
   obtain ⟨a0, b0, c0, d0, e0, f0, g0, h0⟩ := r
   simp only at x6 x7
   by_cases hlt : t < 64
   ·obtain ⟨kk, hk⟩ : ∃ k, KS[t]? = some k := ⟨KS[t]'(by rw [hKl.out]; exact hlt), by simp⟩
    obtain ⟨wt, hwt⟩ : ∃ k, ws[t]? = some k := ⟨ws[t]'(by rw [hwl.out]; exact hlt), by simp⟩
    have q0 : wr.cell? ⟨g6, 0, none⟩ = some (W32 a0) := x6.at_ rfl
    have q1 : wr.cell? ⟨g6, 1, none⟩ = some (W32 b0) := x6.at_ rfl
    have q2 : wr.cell? ⟨g6, 2, none⟩ = some (W32 c0) := x6.at_ rfl
    have q3 : wr.cell? ⟨g6, 3, none⟩ = some (W32 d0) := x6.at_ rfl
    have q4 : wr.cell? ⟨g7, 0, none⟩ = some (W32 e0) := x7.at_ rfl
    have q5 : wr.cell? ⟨g7, 1, none⟩ = some (W32 f0) := x7.at_ rfl
    have q6 : wr.cell? ⟨g7, 2, none⟩ = some (W32 g0) := x7.at_ rfl
    have q7 : wr.cell? ⟨g7, 3, none⟩ = some (W32 h0) := x7.at_ rfl
    have q8 : wr.cell? ⟨g5, t, none⟩ = some (W32 wt) := x5.at_ (box_at hwt)
    have it : (t : Int) < 64 := by omega
    have HN : Hid (rnds KS ws ⟨s0, s1, s2, s3, s4, s5, s6, s7⟩ (t + 1) = rnd ⟨a0, b0, c0, d0, e0, f0, g0, h0⟩ kk wt) := by
     show _ = _
     rw [rnds, HR.out, List.getD_eq_getElem?_getD, List.getD_eq_getElem?_getD, hk, hwt]
     rfl
    have hk := hide hk
    have hwt := hide hwt
    go_wp2_with (with_reducible refine index_val 25 118 64 _ _ _ Tryd.underlying118 (by kernel_rfl) (fun W => by kernel_rfl) (KS.map W32) rfl _ t rfl hlt (W32 kk) (box_at hk.out) ?_)
    have hns := not_raw
    go_cut [10] from 26 to 50 (fun x w' => x = W32 (h0 + mix3 e0 6 11 25 + ((e0 &&& f0) ^^^ ((e0 ^^^ (-1)) &&& g0)) + kk + wt) ∧ ∃ n, w' = wr.drewN n)
    case first =>
     go_quiet ((go_at_call 69; exact quiet_leftH (mix_6 _ _)))
     go_wp2_with fail
     go_meet
     exact ⟨val_w (by rw [ch_raw]; exact sum_x _ _ _ _ _), _, rfl⟩
    case rest =>
     obtain ⟨rfl, n1, rfl⟩ := hcut
     go_wp2_with fail
     go_cut [11] from 51 to 71 (fun x w' => x = W32 (mix3 a0 2 13 22 + ((a0 &&& b0) ^^^ (a0 &&& c0) ^^^ (b0 &&& c0))) ∧ ∃ n, w' = wr.drewN n)
     case first =>
      go_quiet ((go_at_call 69; exact quiet_left2 (mix_2 _ _)))
      go_wp2_with fail
      go_meet
      exact ⟨val_w (by rw [maj_raw]; exact w_add' _ _), _, World.drewN_drewN _ _ _⟩
     case rest =>
      obtain ⟨rfl, n2, rfl⟩ := hcut
      clear hns
      generalize hX : h0 + mix3 e0 6 11 25 + ((e0 &&& f0) ^^^ ((e0 ^^^ (-1)) &&& g0)) + kk + wt = X
      generalize hY : mix3 a0 2 13 22 + ((a0 &&& b0) ^^^ (a0 &&& c0) ^^^ (b0 &&& c0)) = Y
      have hX := hide hX
      have hY := hide hY
      go_wp2_with (with_reducible refine hold_store ?_)
      refine hide ?_
      refine store_all 120 _ _ 120 g7 _ [W32 (d0 + X), W32 e0, W32 f0, W32 g0] _ size_4 (x7.drewN n2) rfl rfl (by show #[_, _, _, _] = _; rw [w_add']) (Eq.refl 4) (by simp [Value.oneCell']) ?_
      intro w8 y7 hg8 hs8
      have y6 := (x6.drewN n2).grown hg8 (by simp; exact hne)
      have p0 : w8.cell? ⟨g6, 0, none⟩ = some (W32 a0) := y6.at_ rfl
      have p1 : w8.cell? ⟨g6, 1, none⟩ = some (W32 b0) := y6.at_ rfl
      have p2 : w8.cell? ⟨g6, 2, none⟩ = some (W32 c0) := y6.at_ rfl
      go_wp2_with (with_reducible refine hold_store ?_)
      refine hide ?_
      refine store_all 120 _ _ 120 g6 _ [W32 (X + Y), W32 a0, W32 b0, W32 c0] _ size_4 y6 rfl rfl (by show #[_, _, _, _] = _; rw [w_add']) (Eq.refl 4) (by simp [Value.oneCell']) ?_
      intro w9 z6 hg9 hs9
      go_wp2_with fail
      go_roundg (64 - (t + 1))
      case measure => have := HG.out; omega
      case rel =>
       have z7 := y7.grown hg9 (by simp; exact Ne.symm hne)
       have z2 := ((x2.drewN n2).grown hg8 (by simp; omega)).grown hg9 (by simp; omega)
       have z4 := ((x4.drewN n2).grown hg8 (by simp; omega)).grown hg9 (by simp; omega)
       have z5 := ((x5.drewN n2).grown hg8 (by simp; omega)).grown hg9 (by simp; omega)
       have bb := ((belowN b3 n2).grown hg8 (Nat.le_of_lt (x2.drewN n2).lt) (fun k hk => by cases hk; omega)).grown hg9 (Nat.le_of_lt ((x2.drewN n2).grown hg8 (by simp; omega)).lt) (fun k hk => by cases hk; omega)
       refine ⟨t + 1, by omega, rfl, by go_num, ⟨_, HN.out, ?_, ?_⟩, z2, z4, z5, bb⟩
       ·rw [← hX.out, ← hY.out] at z6; exact z6
       ·rw [← hX.out] at z7; exact z7
   ·obtain rfl : t = 64 := by omega
    clear HG hKb hKz hKl
    go_wp2
    obtain ⟨wo, rfl⟩ : ∃ wo : World, wo = wr := ⟨_, rfl⟩
    go_loopg [94] 4 (fun g i w' => ∃ k : Nat, k ≤ 4 ∧ g = 4 - k ∧ i = .int .i64 k ∧ (k = 0 ∧ Box w' B 65 [W32 s0, W32 s1, W32 s2, W32 s3, W32 s4, W32 s5, W32 s6, W32 s7] ∨ k = 1 ∧ Box w' B 65 [W32 (s0 + a0), W32 s1, W32 s2, W32 s3, W32 (s4 + e0), W32 s5, W32 s6, W32 s7] ∨ k = 2 ∧ Box w' B 65 [W32 (s0 + a0), W32 (s1 + b0), W32 s2, W32 s3, W32 (s4 + e0), W32 (s5 + f0), W32 s6, W32 s7] ∨ k = 3 ∧ Box w' B 65 [W32 (s0 + a0), W32 (s1 + b0), W32 (s2 + c0), W32 s3, W32 (s4 + e0), W32 (s5 + f0), W32 (s6 + g0), W32 s7] ∨ k = 4 ∧ Box w' B 65 [W32 (s0 + a0), W32 (s1 + b0), W32 (s2 + c0), W32 (s3 + d0), W32 (s4 + e0), W32 (s5 + f0), W32 (s6 + g0), W32 (s7 + h0)]) ∧ Box w' (B + 1) 65 ((List.replicate 8 (0 : UInt32)).map W32) ∧ Box w' g6 120 [W32 a0, W32 b0, W32 c0, W32 d0] ∧ Box w' g7 120 [W32 e0, W32 f0, W32 g0, W32 h0] ∧ Below B w w')
    case atStart => exact ⟨0, by omega, by omega, rfl, .inl ⟨rfl, x2⟩, x4, x6, x7, b3⟩
    case round =>
     clear x2 x4 x5 x6 x7 b3
     obtain ⟨k, hk, hg, rfl, hx2, x4, x6, x7, b3⟩ := hrel
     have HG := hide hg
     clear hg
     rcases hx2 with ⟨rfl, x2⟩ | ⟨rfl, x2⟩ | ⟨rfl, x2⟩ | ⟨rfl, x2⟩ | ⟨rfl, x2⟩
     ·have q0 : wr.cell? ⟨B, 0, none⟩ = some (W32 s0) := x2.at_ rfl
      have q1 : wr.cell? ⟨g6, 0, none⟩ = some (W32 a0) := x6.at_ rfl
      go_wp2
      refine wp_region_still_tail 8 (by kernel_rfl) (by kernel_rfl) ?_
      change wpStill _ _ (World.drew _) _ _ _
      simp only [List.take_succ_cons, List.take_zero, List.drop_succ_cons, List.drop_zero]
      repeat still_step
      refine wpStill_nil ?_
      change wpList _ _ _ _ _ (World.drew _)
      refine store_cell 64 _ _ 65 B 0 _ (W32 (s0 + a0)) size_u32 x2.drew rfl (by rw [← val_w (w_add' _ _)]; rfl) rfl rfl (by simp) ?_
      intro w8 y2 hg8 hs8
      have y2 : Box w8 B 65 [W32 (s0 + a0), W32 s1, W32 s2, W32 s3, W32 s4, W32 s5, W32 s6, W32 s7] := y2
      have y4 := x4.drew.grown hg8 (by simp)
      have y6 := x6.drew.grown hg8 (by simp; omega)
      have y7 := x7.drew.grown hg8 (by simp; omega)
      have c3 := b3.drew.grown hg8 (Nat.le_of_lt x2.lt) (fun k hk => by cases hk; omega)
      have q2 : w8.cell? ⟨B, 4, none⟩ = some (W32 s4) := y2.at_ rfl
      have q3 : w8.cell? ⟨g7, 0, none⟩ = some (W32 e0) := y7.at_ rfl
      have zk : IntKind.i64.wrap 4 = 4 := by decide
      go_wp2
      refine wp_region_still_tail 9 (by kernel_rfl) (by kernel_rfl) ?_
      change wpStill _ _ (World.drew _) _ _ _
      simp only [List.take_succ_cons, List.take_zero, List.drop_succ_cons, List.drop_zero]
      repeat still_step
      refine wpStill_nil ?_
      change wpList _ _ _ _ _ (World.drew _)
      refine store_cell 64 _ _ 65 B 4 _ (W32 (s4 + e0)) size_u32 y2.drew rfl (by rw [← val_w (w_add' _ _)]; rfl) rfl rfl (by simp) ?_
      intro w9 z2 hg9 hs9
      have z2 : Box w9 B 65 [W32 (s0 + a0), W32 s1, W32 s2, W32 s3, W32 (s4 + e0), W32 s5, W32 s6, W32 s7] := z2
      go_wp2
      go_roundg (4 - 1)
      case measure => have := HG.out; omega
      case rel => exact ⟨1, by omega, rfl, by go_num, by first | exact .inr (.inl ⟨rfl, z2⟩) | exact .inr (.inr (.inl ⟨rfl, z2⟩)) | exact .inr (.inr (.inr (.inl ⟨rfl, z2⟩))) | exact .inr (.inr (.inr (.inr ⟨rfl, z2⟩))), y4.drew.grown hg9 (by simp), y6.drew.grown hg9 (by simp; omega), y7.drew.grown hg9 (by simp; omega), c3.drew.grown hg9 (Nat.le_of_lt y2.lt) (fun k hk => by cases hk; omega)⟩
     ·have q0 : wr.cell? ⟨B, 1, none⟩ = some (W32 s1) := x2.at_ rfl
      have q1 : wr.cell? ⟨g6, 1, none⟩ = some (W32 b0) := x6.at_ rfl
      go_wp2
      refine wp_region_still_tail 8 (by kernel_rfl) (by kernel_rfl) ?_
      change wpStill _ _ (World.drew _) _ _ _
      simp only [List.take_succ_cons, List.take_zero, List.drop_succ_cons, List.drop_zero]
      repeat still_step
      refine wpStill_nil ?_
      change wpList _ _ _ _ _ (World.drew _)
      refine store_cell 64 _ _ 65 B 1 _ (W32 (s1 + b0)) size_u32 x2.drew rfl (by rw [← val_w (w_add' _ _)]; rfl) rfl rfl (by simp) ?_
      intro w8 y2 hg8 hs8
      have y2 : Box w8 B 65 [W32 (s0 + a0), W32 (s1 + b0), W32 s2, W32 s3, W32 (s4 + e0), W32 s5, W32 s6, W32 s7] := y2
      have y4 := x4.drew.grown hg8 (by simp)
      have y6 := x6.drew.grown hg8 (by simp; omega)
      have y7 := x7.drew.grown hg8 (by simp; omega)
      have c3 := b3.drew.grown hg8 (Nat.le_of_lt x2.lt) (fun k hk => by cases hk; omega)
      have q2 : w8.cell? ⟨B, 5, none⟩ = some (W32 s5) := y2.at_ rfl
      have q3 : w8.cell? ⟨g7, 1, none⟩ = some (W32 f0) := y7.at_ rfl
      have zk : IntKind.i64.wrap 5 = 5 := by decide
      go_wp2
      refine wp_region_still_tail 9 (by kernel_rfl) (by kernel_rfl) ?_
      change wpStill _ _ (World.drew _) _ _ _
      simp only [List.take_succ_cons, List.take_zero, List.drop_succ_cons, List.drop_zero]
      repeat still_step
      refine wpStill_nil ?_
      change wpList _ _ _ _ _ (World.drew _)
      refine store_cell 64 _ _ 65 B 5 _ (W32 (s5 + f0)) size_u32 y2.drew rfl (by rw [← val_w (w_add' _ _)]; rfl) rfl rfl (by simp) ?_
      intro w9 z2 hg9 hs9
      have z2 : Box w9 B 65 [W32 (s0 + a0), W32 (s1 + b0), W32 s2, W32 s3, W32 (s4 + e0), W32 (s5 + f0), W32 s6, W32 s7] := z2
      go_wp2
      go_roundg (4 - 2)
      case measure => have := HG.out; omega
      case rel => exact ⟨2, by omega, rfl, by go_num, by first | exact .inr (.inl ⟨rfl, z2⟩) | exact .inr (.inr (.inl ⟨rfl, z2⟩)) | exact .inr (.inr (.inr (.inl ⟨rfl, z2⟩))) | exact .inr (.inr (.inr (.inr ⟨rfl, z2⟩))), y4.drew.grown hg9 (by simp), y6.drew.grown hg9 (by simp; omega), y7.drew.grown hg9 (by simp; omega), c3.drew.grown hg9 (Nat.le_of_lt y2.lt) (fun k hk => by cases hk; omega)⟩
     ·have q0 : wr.cell? ⟨B, 2, none⟩ = some (W32 s2) := x2.at_ rfl
      have q1 : wr.cell? ⟨g6, 2, none⟩ = some (W32 c0) := x6.at_ rfl
      go_wp2
      refine wp_region_still_tail 8 (by kernel_rfl) (by kernel_rfl) ?_
      change wpStill _ _ (World.drew _) _ _ _
      simp only [List.take_succ_cons, List.take_zero, List.drop_succ_cons, List.drop_zero]
      repeat still_step
      refine wpStill_nil ?_
      change wpList _ _ _ _ _ (World.drew _)
      refine store_cell 64 _ _ 65 B 2 _ (W32 (s2 + c0)) size_u32 x2.drew rfl (by rw [← val_w (w_add' _ _)]; rfl) rfl rfl (by simp) ?_
      intro w8 y2 hg8 hs8
      have y2 : Box w8 B 65 [W32 (s0 + a0), W32 (s1 + b0), W32 (s2 + c0), W32 s3, W32 (s4 + e0), W32 (s5 + f0), W32 s6, W32 s7] := y2
      have y4 := x4.drew.grown hg8 (by simp)
      have y6 := x6.drew.grown hg8 (by simp; omega)
      have y7 := x7.drew.grown hg8 (by simp; omega)
      have c3 := b3.drew.grown hg8 (Nat.le_of_lt x2.lt) (fun k hk => by cases hk; omega)
      have q2 : w8.cell? ⟨B, 6, none⟩ = some (W32 s6) := y2.at_ rfl
      have q3 : w8.cell? ⟨g7, 2, none⟩ = some (W32 g0) := y7.at_ rfl
      have zk : IntKind.i64.wrap 6 = 6 := by decide
      go_wp2
      refine wp_region_still_tail 9 (by kernel_rfl) (by kernel_rfl) ?_
      change wpStill _ _ (World.drew _) _ _ _
      simp only [List.take_succ_cons, List.take_zero, List.drop_succ_cons, List.drop_zero]
      repeat still_step
      refine wpStill_nil ?_
      change wpList _ _ _ _ _ (World.drew _)
      refine store_cell 64 _ _ 65 B 6 _ (W32 (s6 + g0)) size_u32 y2.drew rfl (by rw [← val_w (w_add' _ _)]; rfl) rfl rfl (by simp) ?_
      intro w9 z2 hg9 hs9
      have z2 : Box w9 B 65 [W32 (s0 + a0), W32 (s1 + b0), W32 (s2 + c0), W32 s3, W32 (s4 + e0), W32 (s5 + f0), W32 (s6 + g0), W32 s7] := z2
      go_wp2
      go_roundg (4 - 3)
      case measure => have := HG.out; omega
      case rel => exact ⟨3, by omega, rfl, by go_num, by first | exact .inr (.inl ⟨rfl, z2⟩) | exact .inr (.inr (.inl ⟨rfl, z2⟩)) | exact .inr (.inr (.inr (.inl ⟨rfl, z2⟩))) | exact .inr (.inr (.inr (.inr ⟨rfl, z2⟩))), y4.drew.grown hg9 (by simp), y6.drew.grown hg9 (by simp; omega), y7.drew.grown hg9 (by simp; omega), c3.drew.grown hg9 (Nat.le_of_lt y2.lt) (fun k hk => by cases hk; omega)⟩
     ·have q0 : wr.cell? ⟨B, 3, none⟩ = some (W32 s3) := x2.at_ rfl
      have q1 : wr.cell? ⟨g6, 3, none⟩ = some (W32 d0) := x6.at_ rfl
      go_wp2
      refine wp_region_still_tail 8 (by kernel_rfl) (by kernel_rfl) ?_
      change wpStill _ _ (World.drew _) _ _ _
      simp only [List.take_succ_cons, List.take_zero, List.drop_succ_cons, List.drop_zero]
      repeat still_step
      refine wpStill_nil ?_
      change wpList _ _ _ _ _ (World.drew _)
      refine store_cell 64 _ _ 65 B 3 _ (W32 (s3 + d0)) size_u32 x2.drew rfl (by rw [← val_w (w_add' _ _)]; rfl) rfl rfl (by simp) ?_
      intro w8 y2 hg8 hs8
      have y2 : Box w8 B 65 [W32 (s0 + a0), W32 (s1 + b0), W32 (s2 + c0), W32 (s3 + d0), W32 (s4 + e0), W32 (s5 + f0), W32 (s6 + g0), W32 s7] := y2
      have y4 := x4.drew.grown hg8 (by simp)
      have y6 := x6.drew.grown hg8 (by simp; omega)
      have y7 := x7.drew.grown hg8 (by simp; omega)
      have c3 := b3.drew.grown hg8 (Nat.le_of_lt x2.lt) (fun k hk => by cases hk; omega)
      have q2 : w8.cell? ⟨B, 7, none⟩ = some (W32 s7) := y2.at_ rfl
      have q3 : w8.cell? ⟨g7, 3, none⟩ = some (W32 h0) := y7.at_ rfl
      have zk : IntKind.i64.wrap 7 = 7 := by decide
      go_wp2
      refine wp_region_still_tail 9 (by kernel_rfl) (by kernel_rfl) ?_
      change wpStill _ _ (World.drew _) _ _ _
      simp only [List.take_succ_cons, List.take_zero, List.drop_succ_cons, List.drop_zero]
      repeat still_step
      refine wpStill_nil ?_
      change wpList _ _ _ _ _ (World.drew _)
      refine store_cell 64 _ _ 65 B 7 _ (W32 (s7 + h0)) size_u32 y2.drew rfl (by rw [← val_w (w_add' _ _)]; rfl) rfl rfl (by simp) ?_
      intro w9 z2 hg9 hs9
      have z2 : Box w9 B 65 [W32 (s0 + a0), W32 (s1 + b0), W32 (s2 + c0), W32 (s3 + d0), W32 (s4 + e0), W32 (s5 + f0), W32 (s6 + g0), W32 (s7 + h0)] := z2
      go_wp2
      go_roundg (4 - 4)
      case measure => have := HG.out; omega
      case rel => exact ⟨4, by omega, rfl, by go_num, by first | exact .inr (.inl ⟨rfl, z2⟩) | exact .inr (.inr (.inl ⟨rfl, z2⟩)) | exact .inr (.inr (.inr (.inl ⟨rfl, z2⟩))) | exact .inr (.inr (.inr (.inr ⟨rfl, z2⟩))), y4.drew.grown hg9 (by simp), y6.drew.grown hg9 (by simp; omega), y7.drew.grown hg9 (by simp; omega), c3.drew.grown hg9 (Nat.le_of_lt y2.lt) (fun k hk => by cases hk; omega)⟩
     ·have hz8 : (Tryd.prog.info? 65).map (·.size) = some ([W32 (s0 + a0), W32 (s1 + b0), W32 (s2 + c0), W32 (s3 + d0), W32 (s4 + e0), W32 (s5 + f0), W32 (s6 + g0), W32 (s7 + h0)]).length := size_8
      go_wp2_with (first
       | (with_reducible refine load_box 115 65 _ 65 _ 0 _ [W32 (s0 + a0), W32 (s1 + b0), W32 (s2 + c0), W32 (s3 + d0), W32 (s4 + e0), W32 (s5 + f0), W32 (s6 + g0), W32 (s7 + h0)] isAgg_8 hz8 x2 rfl (fun j u hj => by rw [Nat.zero_add]; exact hj) ?_)
       | (with_reducible refine store_all 65 _ _ 65 _ _ [W32 (s0 + a0), W32 (s1 + b0), W32 (s2 + c0), W32 (s3 + d0), W32 (s4 + e0), W32 (s5 + f0), W32 (s6 + g0), W32 (s7 + h0)] _ hz8 x4 rfl rfl rfl (Eq.refl 8) (by simp [Value.oneCell']) ?_; intro w5 x5 hg5 hs5))
      refine bodyPost_ret (run_results_cell rfl rfl isAgg_8 hz8 x5) rfl ⟨?_, by rw [← HB.out]; exact b3.grown hg5 (Nat.le_of_lt x2.lt) (fun k hk => by cases hk; omega)⟩
      unfold comp
      rw [hws.out, hKS.out, HR.out]
      rfl
end Go.Proofs.YtfagjaabladgpaaDoor
end

section
/- Sequences of decodings. No Go. -/
namespace Go.Dx
def seqTo {α : Type} (f : List UInt8 → α × Int × Int) (l : List UInt8) (A : Nat) : Nat → List α × Nat × Int
 | 0 => ([], A, 0)
 | k + 1 =>
  let r := seqTo f l A k
  if r.2.2 ≠ 0 then r
  else
   let x := f (l.drop r.2.1)
   if x.2.2 ≠ 0 then ([], 0, x.2.2) else (r.1 ++ [x.1], r.2.1 + x.2.1.toNat, 0)
def decSeq {α : Type} (f : List UInt8 → α × Int × Int) (l : List UInt8) : List α × Int × Int :=
 if cntErr l 1 ≠ 0 then ([], 0, cntErr l 1)
 else
  let r := seqTo f l (decInt l).2.1.toNat (decInt l).1.toNat
  if r.2.2 ≠ 0 then ([], 0, r.2.2) else (r.1, (r.2.1 : Int), 0)

theorem seqTo_err {α : Type} {f : List UInt8 → α × Int × Int} {l : List UInt8} {A k : Nat} (h : (seqTo f l A k).2.2 ≠ 0) : ∀ m, seqTo f l A (k + m) = seqTo f l A k
 | 0 => rfl
 | m + 1 => by
  have ih := seqTo_err h m
  show (let r := seqTo f l A (k + m); if r.2.2 ≠ 0 then r else _) = _
  simp only
  rw [ih, if_pos h]
theorem seqTo_stop {α : Type} {f : List UInt8 → α × Int × Int} {l : List UInt8} {A k : Nat} {xs : List α} {B : Nat} (h : seqTo f l A k = (xs, B, 0)) (he : (f (l.drop B)).2.2 ≠ 0) :
  seqTo f l A (k + 1) = ([], 0, (f (l.drop B)).2.2) := by
 show (let r := seqTo f l A k; if r.2.2 ≠ 0 then r else _) = _
 simp only [h]
 rw [if_neg (by simp), if_pos he]
theorem seqTo_step {α : Type} {f : List UInt8 → α × Int × Int} {l : List UInt8} {A k : Nat} {xs : List α} {B : Nat} (h : seqTo f l A k = (xs, B, 0)) (he : (f (l.drop B)).2.2 = 0) :
  seqTo f l A (k + 1) = (xs ++ [(f (l.drop B)).1], B + (f (l.drop B)).2.1.toNat, 0) := by
 show (let r := seqTo f l A k; if r.2.2 ≠ 0 then r else _) = _
 simp only [h]
 rw [if_neg (by simp), if_neg (by simp [he])]
theorem decSeq_cnt {α : Type} {f : List UInt8 → α × Int × Int} {l : List UInt8} (h : cntErr l 1 ≠ 0) : decSeq f l = ([], 0, cntErr l 1) := by unfold decSeq; rw [if_pos h]
theorem decSeq_err {α : Type} {f : List UInt8 → α × Int × Int} {l : List UInt8} {A N k : Nat} (h : cntErr l 1 = 0) (hA : (decInt l).2.1 = (A : Int)) (hN : (decInt l).1 = (N : Int)) {E : Int} (hk : k < N) (hE : E ≠ 0)
  (hs : seqTo f l A (k + 1) = ([], 0, E)) : decSeq f l = ([], 0, E) := by
 unfold decSeq
 rw [if_neg (by simp [h]), hA, hN]
 obtain ⟨m, rfl⟩ : ∃ m, N = (k + 1) + m := ⟨N - (k + 1), by omega⟩
 have := seqTo_err (f := f) (l := l) (A := A) (k := k + 1) (by rw [hs]; exact hE) m
 simp only [Int.toNat_natCast]
 rw [this, hs]
 simp [hE]
theorem decSeq_ok {α : Type} {f : List UInt8 → α × Int × Int} {l : List UInt8} {A N : Nat} (h : cntErr l 1 = 0) (hA : (decInt l).2.1 = (A : Int)) (hN : (decInt l).1 = (N : Int)) {xs : List α} {B : Nat}
  (hs : seqTo f l A N = (xs, B, 0)) : decSeq f l = (xs, (B : Int), 0) := by
 unfold decSeq
 rw [if_neg (by simp [h]), hA, hN]
 simp [hs]
theorem seqTo_len {α : Type} {f : List UInt8 → α × Int × Int} {l : List UInt8} {A : Nat} : ∀ {k : Nat} {xs : List α} {B : Nat}, seqTo f l A k = (xs, B, 0) → xs.length = k
 | 0, xs, B, h => by simp [seqTo] at h; obtain ⟨rfl, _⟩ := h; rfl
 | k + 1, xs, B, h => by
  by_cases h0 : (seqTo f l A k).2.2 = 0
  ·by_cases he : (f (l.drop (seqTo f l A k).2.1)).2.2 = 0
   ·have := seqTo_step (k := k) (xs := (seqTo f l A k).1) (B := (seqTo f l A k).2.1) (by rw [← h0]) he
    rw [this] at h
    injection h with h1 h2
    rw [← h1, List.length_append, seqTo_len (k := k) (xs := (seqTo f l A k).1) (B := (seqTo f l A k).2.1) (by rw [← h0])]
    rfl
   ·have := seqTo_stop (k := k) (xs := (seqTo f l A k).1) (B := (seqTo f l A k).2.1) (by rw [← h0]) he
    rw [this] at h
    injection h with h1 h2
    injection h2 with h2 h3
    exact absurd h3 he
  ·have := seqTo_err h0 1
   rw [this] at h
   rw [h] at h0
   exact absurd rfl h0
theorem decBytes_used {l : List UInt8} (h : (decBytes l).2.2 = 0) : 1 ≤ (decBytes l).2.1 ∧ (decBytes l).2.1 ≤ l.length := by
 by_cases hE : cntErr l 1 = 0
 ·obtain ⟨A, N, e1, e2, e3, hA, hAN, hN⟩ := cnt_facts (by omega) hE
  unfold decBytes
  rw [if_pos hE, e1, e2]
  simp at hAN ⊢
  omega
 ·unfold decBytes at h
  rw [if_neg hE] at h
  exact absurd h hE
end Go.Dx
end

section
/- The plain laws of layer 1: round trip, canonical, truncated. No Go. -/
namespace Go.Dx

theorem val_digs_to {m k : Nat} (h : m < 256 ^ k) : ∀ j, j ≤ k → val (digs m k j) = m / 256 ^ (k - j)
 | 0, _ => by rw [digs_zero, Nat.sub_zero, Nat.div_eq_of_lt h]; rfl
 | j + 1, hj => by
  rw [digs_succ, val_snoc, val_digs_to h j (by omega), dig_toNat]
  have e1 : k - j = (k - 1 - j) + 1 := by omega
  have e2 : k - (j + 1) = k - 1 - j := by omega
  rw [e1, e2, Nat.pow_succ, ← Nat.div_div_eq_div_mul]
  omega
theorem val_digs {m k : Nat} (h : m < 256 ^ k) : val (digs m k k) = m := by rw [val_digs_to h k (Nat.le_refl _), Nat.sub_self, Nat.pow_zero, Nat.div_one]
theorem map_flp_flp (neg : Bool) (l : List UInt8) : (l.map (flp neg)).map (flp neg) = l := by
 rw [List.map_map]
 have : (flp neg ∘ flp neg) = id := by funext d; exact flp_flp neg d
 rw [this, List.map_id]
theorem hd_sign (neg : Bool) (k : Nat) (h : k ≤ 8) : decide ((hd neg k).toNat < 128) = neg := by
 cases neg with
 | false => have := hd_pos k h; apply decide_eq_false; omega
 | true => have := hd_neg k h; apply decide_eq_true; omega
theorem flp_hd (neg : Bool) (k : Nat) (h : k ≤ 8) : (flp neg (hd neg k)).toNat = 128 + k := by
 unfold hd; rw [flp_flp, UInt8.toNat_ofNat']; omega
theorem decInt_enc {n : Int} (h0 : -9223372036854775808 ≤ n) (h1 : n ≤ 9223372036854775807) (t : List UInt8) :
  decInt (encInt n ++ t) = (n, (((encInt n).length : Nat) : Int), 0) := by
 have hm := mag_lt h0 h1
 have hL := len_klen (m := mag n) (by omega)
 have hval : n = if decide (n < 0) then -1 - (mag n : Int) else (mag n : Int) := by
  unfold mag
  by_cases hn : n < 0 <;> simp [hn] <;> omega
 rw [encInt_length]
 unfold encInt
 generalize mag n = m at *
 generalize klen m = k at *
 generalize decide (n < 0) = neg at *
 subst hval
 obtain ⟨h8, hk, hk2⟩ := hL
 rw [List.cons_append, decInt_cons, hd_sign _ _ h8, flp_hd _ _ h8, Nat.add_sub_cancel_left]
 have hlen : ((digs m k k).map (flp neg)).length = k := by rw [List.length_map, digs_length]
 have htake : ((digs m k k).map (flp neg) ++ t).take k = (digs m k k).map (flp neg) := by
  have := List.take_left (l₁ := (digs m k k).map (flp neg)) (l₂ := t); rwa [hlen] at this
 have hv : val ((((digs m k k).map (flp neg) ++ t).take k).map (flp neg)) = m := by rw [htake, map_flp_flp, val_digs hk]
 rw [decK_ok (by omega) (by rw [List.length_append, hlen]; omega) ?_ (by rw [hv]; omega), hv]
 ·rfl
 ·rcases Nat.eq_zero_or_pos k with h | h
  ·exact .inl h
  ·refine .inr ?_
   obtain ⟨j, rfl⟩ : ∃ j, k = j + 1 := ⟨k - 1, by omega⟩
   have e : ((digs m (j + 1) (j + 1)).map (flp neg) ++ t).getD 0 0 = flp neg (dig m j) := by
    unfold digs; rw [List.range_succ_eq_map]; simp
   rw [e, flp_flp]
   intro hz
   have h3 := congrArg UInt8.toNat hz
   rw [dig_toNat] at h3
   rcases hk2 with h2 | h2
   ·omega
   ·have h4 : 1 ≤ m / 256 ^ j := (Nat.le_div_iff_mul_le (Nat.pow_pos (by omega))).2 (by simpa using h2)
    have h5 : m / 256 ^ j < 256 := (Nat.div_lt_iff_lt_mul (Nat.pow_pos (by omega))).2 (by rw [Nat.mul_comm]; rwa [← Nat.pow_succ])
    have h6 : m / 256 ^ j % 256 = m / 256 ^ j := Nat.mod_eq_of_lt h5
    simp at h3
    omega
theorem decInt_cut {n : Int} (h0 : -9223372036854775808 ≤ n) (h1 : n ≤ 9223372036854775807) {i : Nat} (hi : i < (encInt n).length) : decInt ((encInt n).take i) = (0, 0, 3) := by
 have hm := mag_lt h0 h1
 have hL := len_klen (m := mag n) (by omega)
 rw [encInt_length] at hi
 unfold encInt
 cases i with
 | zero => rfl
 | succ j =>
  rw [List.take_succ_cons, decInt_cons, hd_sign _ _ hL.1, flp_hd _ _ hL.1, Nat.add_sub_cancel_left]
  exact decK_more (by have := hL.1; omega) (by rw [List.length_take, List.length_map, digs_length]; omega)
theorem decInt_canon {b : List UInt8} (h : (decInt b).2.2 = 0) : encInt (decInt b).1 = b.take (decInt b).2.1.toNat := by
 cases b with
 | nil => simp [decInt] at h
 | cons x t =>
  rw [decInt_cons] at h ⊢
  have hge := flp_ge x (decide (x.toNat < 128)) rfl
  generalize decide (x.toNat < 128) = neg at *
  obtain ⟨K, hK⟩ : ∃ K, (flp neg x).toNat = 128 + K := ⟨(flp neg x).toNat - 128, by omega⟩
  rw [hK, Nat.add_sub_cancel_left] at h ⊢
  by_cases h8 : 8 < K
  ·rw [decK_8 h8] at h; simp at h
  by_cases hl : t.length < K
  ·rw [decK_more h8 hl] at h; simp at h
  by_cases hz : K = 0 ∨ flp neg (t.getD 0 0) ≠ 0
  ·by_cases hb : 9223372036854775808 ≤ val ((t.take K).map (flp neg))
   ·rw [decK_big h8 hl hz hb] at h; simp at h
   ·rw [decK_ok h8 hl hz hb]
    have := (enc_iff hK (by omega) (by omega) (by omega)).2 hz
    show encInt (if neg then _ else _) = _
    rw [this]
    show _ = (x :: t).take ((K : Int) + 1).toNat
    rw [show ((K : Int) + 1).toNat = K + 1 by omega, List.take_succ_cons]
  ·rw [decK_zero h8 hl (by omega) (by
    by_cases h : flp neg (t.getD 0 0) = 0
    ·exact h
    ·exact absurd (.inr h) hz)] at h
   simp at h
end Go.Dx
end

section
/- What is decoded was encoded: strings and lists. No Go. -/
namespace Go.Dx
def Canon {α : Type} (f : List UInt8 → α × Int × Int) (enc : α → List UInt8) : Prop :=
 ∀ b, (f b).2.2 = 0 → 0 ≤ (f b).2.1 ∧ (f b).2.1 ≤ b.length ∧ enc (f b).1 = b.take (f b).2.1.toNat
theorem canon_int : Canon decInt encInt := fun b h => by
 obtain ⟨h1, h2, _, _⟩ := decInt_used h
 exact ⟨by omega, h2, decInt_canon h⟩
theorem canon_bytes : Canon decBytes fun s => encBytes s.data.toList := fun b h => by
 by_cases hE : cntErr b 1 = 0
 ·obtain ⟨A, N, e1, e2, e3, hA, hAN, hN⟩ := cnt_facts (by omega) hE
  have hc := decInt_canon e3
  rw [e1, e2] at hc
  simp at hAN hc
  unfold decBytes
  rw [if_pos hE, e1, e2]
  simp only [Int.toNat_natCast]
  refine ⟨by omega, by omega, ?_⟩
  rw [show ((A : Int) + (N : Int)).toNat = A + N by omega, List.take_add]
  unfold encBytes
  rw [List.length_take, List.length_drop, show min N (b.length - A) = N by omega, hc]
 ·unfold decBytes at h
  rw [if_neg hE] at h
  exact absurd h hE
theorem seqTo_canon {α : Type} {f : List UInt8 → α × Int × Int} {enc : α → List UInt8} (hf : Canon f enc) {l : List UInt8} {A : Nat} (hA : A ≤ l.length) :
  ∀ {k : Nat} {xs : List α} {B : Nat}, seqTo f l A k = (xs, B, 0) → A ≤ B ∧ B ≤ l.length ∧ xs.flatMap enc = (l.drop A).take (B - A)
 | 0, xs, B, h => by
  simp [seqTo] at h
  obtain ⟨rfl, rfl⟩ := h
  exact ⟨Nat.le_refl _, hA, by simp⟩
 | k + 1, xs, B, h => by
  by_cases h0 : (seqTo f l A k).2.2 = 0
  ·obtain ⟨h1, h2, h3⟩ := seqTo_canon hf hA (k := k) (xs := (seqTo f l A k).1) (B := (seqTo f l A k).2.1) (by rw [← h0])
   by_cases he : (f (l.drop (seqTo f l A k).2.1)).2.2 = 0
   ·have hs := seqTo_step (k := k) (xs := (seqTo f l A k).1) (B := (seqTo f l A k).2.1) (by rw [← h0]) he
    rw [hs] at h
    injection h with g1 g2
    injection g2 with g2 g3
    obtain ⟨c1, c2, c3⟩ := hf _ he
    generalize seqTo f l A k = r at *
    obtain ⟨U, hU⟩ := Int.eq_ofNat_of_zero_le c1
    rw [hU] at c2 c3 g2
    rw [List.length_drop] at c2
    simp only [Int.toNat_natCast] at c3 g2
    subst g1 g2
    refine ⟨by omega, by omega, ?_⟩
    rw [List.flatMap_append, h3, List.flatMap_cons, List.flatMap_nil, List.append_nil, c3, show r.2.1 + U - A = (r.2.1 - A) + U by omega, List.take_add, List.drop_drop,
     show A + (r.2.1 - A) = r.2.1 by omega]
   ·have hs := seqTo_stop (k := k) (xs := (seqTo f l A k).1) (B := (seqTo f l A k).2.1) (by rw [← h0]) he
    rw [hs] at h
    injection h with g1 g2
    injection g2 with g2 g3
    exact absurd g3 he
  ·have := seqTo_err h0 1
   rw [this] at h
   rw [h] at h0
   exact absurd rfl h0
theorem decSeq_bad {α : Type} {f : List UInt8 → α × Int × Int} {l : List UInt8} (h : (decSeq f l).2.2 ≠ 0) : decSeq f l = ([], 0, (decSeq f l).2.2) := by
 unfold decSeq at *
 by_cases hE : cntErr l 1 = 0
 ·rw [if_neg (by simp [hE])] at h ⊢
  by_cases hr : (seqTo f l (decInt l).2.1.toNat (decInt l).1.toNat).2.2 = 0
  ·rw [if_neg (by simp [hr])] at h; exact absurd rfl h
  ·simp only [if_pos hr]
 ·simp only [if_pos hE]
theorem decSeq_canon {α : Type} {f : List UInt8 → α × Int × Int} {enc : α → List UInt8} (hf : Canon f enc) {l : List UInt8} (h : (decSeq f l).2.2 = 0) :
  0 ≤ (decSeq f l).2.1 ∧ (decSeq f l).2.1 ≤ l.length ∧ encInt ((decSeq f l).1.length : Nat) ++ (decSeq f l).1.flatMap enc = l.take (decSeq f l).2.1.toNat ∧ (decSeq f l).1.length ≤ l.length := by
 by_cases hE : cntErr l 1 = 0
 ·obtain ⟨A, N, e1, e2, e3, hA, hAN, hN⟩ := cnt_facts (by omega) hE
  have hc := decInt_canon e3
  rw [e1, e2] at hc
  simp at hAN hc
  by_cases h0 : (seqTo f l A N).2.2 = 0
  ·have hs : seqTo f l A N = ((seqTo f l A N).1, (seqTo f l A N).2.1, 0) := by rw [← h0]
   have hlen := seqTo_len hs
   obtain ⟨h1, h2, h3⟩ := seqTo_canon hf (by omega) hs
   rw [decSeq_ok hE e1 e2 hs]
   refine ⟨by simp, by simpa using h2, ?_, by simp only; omega⟩
   simp only [Int.toNat_natCast]
   rw [hlen, h3, hc, show (seqTo f l A N).2.1 = A + ((seqTo f l A N).2.1 - A) by omega, List.take_add, Nat.add_sub_cancel_left]
  ·exfalso
   apply h0
   unfold decSeq at h
   rw [if_neg (by simp [hE]), e1, e2] at h
   simp only [Int.toNat_natCast] at h
   rw [if_pos h0] at h
   exact h
 ·rw [decSeq_cnt hE] at h
  exact absurd h hE
theorem seqTo_all {α : Type} {f : List UInt8 → α × Int × Int} {P : α → Prop} (hP : ∀ b, P (f b).1) {l : List UInt8} {A : Nat} : ∀ k, ∀ x ∈ (seqTo f l A k).1, P x
 | 0 => by intro x hx; simp [seqTo] at hx
 | k + 1 => by
  intro x hx
  have ih := seqTo_all hP (l := l) (A := A) k
  unfold seqTo at hx
  simp only at hx
  split at hx
  ·exact ih x hx
  ·split at hx
   ·simp at hx
   ·rw [List.mem_append] at hx
    rcases hx with hx | hx
    ·exact ih x hx
    ·simp at hx; subst hx; exact hP _
theorem encBytes_len (l : List UInt8) : l.length ≤ (encBytes l).length := by unfold encBytes; rw [List.length_append]; omega
theorem mem_flatMap_len {α : Type} (enc : α → List UInt8) : ∀ (xs : List α) (x : α), x ∈ xs → (enc x).length ≤ (xs.flatMap enc).length
 | y :: ys, x, h => by
  rw [List.flatMap_cons, List.length_append]
  rcases List.mem_cons.1 h with rfl | h
  ·omega
  ·have := mem_flatMap_len enc ys x h; omega
theorem decInts_short (l : List UInt8) : (encInts (decSeq decInt l).1).length ≤ l.length + 9 ∧ (decSeq decInt l).1.length ≤ l.length := by
 by_cases h : (decSeq decInt l).2.2 = 0
 ·obtain ⟨h1, h2, h3, h4⟩ := decSeq_canon canon_int h
  refine ⟨?_, h4⟩
  unfold encInts
  rw [h3, List.length_take]
  omega
 ·rw [decSeq_bad h]
  refine ⟨?_, by simp⟩
  show (encInt 0 ++ []).length ≤ _
  have := encInt_le 0
  simp
  omega
theorem decStrs_short (l : List UInt8) : (encStrs (decSeq decBytes l).1).length ≤ l.length + 9 ∧ (decSeq decBytes l).1.length ≤ l.length ∧ ∀ s ∈ (decSeq decBytes l).1, s.size ≤ l.length := by
 by_cases h : (decSeq decBytes l).2.2 = 0
 ·obtain ⟨h1, h2, h3, h4⟩ := decSeq_canon canon_bytes h
  have h5 := congrArg List.length h3
  rw [List.length_append, List.length_take] at h5
  refine ⟨?_, h4, fun s hs => ?_⟩
  ·unfold encStrs
   rw [h3, List.length_take]
   omega
  ·have h6 := mem_flatMap_len (fun s : ByteArray => encBytes s.data.toList) _ s hs
   have h7 := encBytes_len s.data.toList
   have h8 : s.data.toList.length = s.size := Array.length_toList
   omega
 ·rw [decSeq_bad h]
  refine ⟨?_, by simp, by simp⟩
  show (encInt 0 ++ []).length ≤ _
  have := encInt_le 0
  simp
  omega
theorem decBytes_short (l : List UInt8) : (decBytes l).1.size ≤ l.length := by
 by_cases h : (decBytes l).2.2 = 0
 ·obtain ⟨h1, h2, h3⟩ := canon_bytes l h
  have h5 := congrArg List.length h3
  have h7 := encBytes_len (decBytes l).1.data.toList
  have h8 : (decBytes l).1.data.toList.length = (decBytes l).1.size := Array.length_toList
  rw [List.length_take] at h5
  simp only at h5
  omega
 ·unfold decBytes at *
  split
  ·rename_i hE; rw [if_pos hE] at h; exact absurd rfl h
  ·exact Nat.zero_le _
end Go.Dx
end
