/- The contracts of the functions that the law reaches, joined into one text. -/
import Derived.Test.YtfagjaabladgpaaDoorBaseBF
set_option linter.unusedVariables false
set_option linter.unusedSimpArgs false

section
/- Chapter 06: rules that a call owns, with cells that lie below or that the call owns; what later stores leave. -/
namespace Go.Dx
open Go.RowKit
def KeepAbove (B : Nat) (w w' : World) : Prop := ∀ k, B ≤ k → k < w.heap.size → w'.heap[k]? = w.heap[k]?
theorem KeepAbove.refl (B : Nat) (w : World) : KeepAbove B w w := fun _ _ _ => rfl
theorem KeepAbove.grown {B : Nat} {w w1 w2 : World} (h : KeepAbove B w w1) (hs : w.heap.size ≤ w1.heap.size) {g : Nat} (hg : w1.grownBy w2 (some g)) (hB : g < B) : KeepAbove B w w2 :=
 fun k h1 h2 => (hg.block k (Nat.lt_of_lt_of_le h2 hs) (fun e => by cases e; omega)).trans (h k h1 h2)
theorem KeepAbove.bel {B : Nat} {w w1 w2 : World} (h : KeepAbove B w w1) (hs : w.heap.size ≤ w1.heap.size) (hb : Below w1.heap.size w1 w2) : KeepAbove B w w2 :=
 fun k h1 h2 => (hb.block k (Nat.lt_of_lt_of_le h2 hs)).trans (h k h1 h2)
theorem Own.keep {w w' : World} {B B' : Nat} {e : TypeId} {sz : Nat} {a : Option Addr} {n c : Nat} {cs : List Value} (h : Own w B e sz a n c cs) (hB : B' ≤ B) (hk : KeepAbove B' w w') : Own w' B e sz a n c cs := by
 refine ⟨h.1, ?_⟩
 rcases h.2 with h2 | ⟨g, cap, cur, h1, h2, h3, r⟩
 ·exact .inl h2
 ·exact .inr ⟨g, cap, cur, h1, h2, (hk g (by omega) (Array.getElem?_eq_some_iff.1 h3).1).trans h3, r⟩
theorem Own.pre {w : World} {B : Nat} {e : TypeId} {sz : Nat} {a : Option Addr} {n c : Nat} {xs : List Value} (h : Own w B e sz a n c xs) (k : Nat) (hk : k ≤ n) : Own w B e sz a k c (xs.take (k * sz)) := by
 refine ⟨by rw [List.length_take, h.1]; exact Nat.min_eq_left (Nat.mul_le_mul_right _ hk), ?_⟩
 rcases h.2 with ⟨h1, h0⟩ | ⟨g, cap, cur, h1, h2, h3, h4, h5, h6, h7⟩
 ·left
  injection h1 with e1 e2 e3
  subst e1; subst e3
  obtain rfl : k = 0 := by omega
  exact ⟨rfl, rfl⟩
 ·injection h1 with e1 e2 e3
  subst e1; subst e3
  refine .inr ⟨g, c, cur, rfl, h2, h3, by omega, h5, h6, ?_⟩
  rw [← h7, List.take_take, Nat.min_eq_left (Nat.mul_le_mul_right _ hk)]
theorem Own.zero3 {w : World} {B : Nat} {e : TypeId} {p : Addr} {n c : Nat} {sz : Nat} {xs : List Value} (h : Own w B e sz (some p) n c xs) : p = ⟨p.block, 0, none⟩ := by
 rcases h.2 with ⟨h1, _⟩ | ⟨g, cap, cur, h1, _⟩
 ·cases h1
 ·injection h1 with h1 hn hc
  injection h1 with h1
  subst h1; rfl
theorem flat_set {α : Type} {f : α → List Value} {sz : Nat} (hf : ∀ x, (f x).length = sz) {x y : α} {j : Nat} (hj : j < sz) {v : Value} (hy : f y = (f x).set j v) : ∀ (l : List α) (i : Nat), l[i]? = some x → (l.flatMap f).set (i * sz + j) v = (l.set i y).flatMap f
 | [], i, h => by simp at h
 | z :: l, 0, h => by
  have e : z = x := by simpa using h
  subst e
  rw [List.flatMap_cons, List.set_cons_zero, List.flatMap_cons, hy, Nat.zero_mul, Nat.zero_add, List.set_append_left _ _ (by rw [hf]; exact hj)]
 | z :: l, i + 1, h => by
  have h' : l[i]? = some x := by simpa using h
  rw [List.flatMap_cons, List.set_cons_succ, List.flatMap_cons, ← flat_set hf hj hy l i h', List.set_append_right _ _ (by rw [hf, Nat.succ_mul]; omega), hf, show (i + 1) * sz + j - sz = i * sz + j by rw [Nat.succ_mul]; omega]
structure OL (w0 w : World) (E U : TypeId) (B : Nat) (a : Option Addr) (c : Nat) (ps : List RH) : Prop where
 top : Own w B E 3 a ps.length c (ps.flatMap rc)
 row : ∀ p ∈ ps, (Sl w0 1 p.2.1 p.2.2.1 p.2.2.2 (p.1.cells.map B8) ∨ Own w B U 1 p.2.1 p.2.2.1 p.2.2.2 (p.1.cells.map B8)) ∧ p.1.text.size ≤ 1000
section
variable {w0 w w' : World} {E U : TypeId} {B : Nat} {a : Option Addr} {c : Nat} {ps : List RH}
theorem OL.rul (h : OL w0 w E U B a c ps) (hb : Below w0.heap.size w0 w') (hk : KeepAbove B w w') : Rul w' a ps.length c ps :=
 ⟨(h.top.keep (Nat.le_refl _) hk).sl, fun p hp => ⟨by
  rcases (h.row p hp).1 with h1 | h1
  ·exact h1.below hb
  ·exact (h1.keep (Nat.le_refl _) hk).sl, (h.row p hp).2⟩⟩
theorem OL.below (h : OL w0 w E U B a c ps) (hb : Below w.heap.size w w') : OL w0 w' E U B a c ps :=
 ⟨h.top.below hb, fun p hp => ⟨(h.row p hp).1.imp id (fun h => h.below hb), (h.row p hp).2⟩⟩
theorem OL.rows {a' : Option Addr} {n' c' : Nat} {cs' : List Value} (h : OL w0 w E U B a c ps) (ht : Own w' B E 3 a' n' c' cs') (hg : w.grownBy w' (a.map (·.block))) (hE : E ≠ U) : ∀ p ∈ ps, (Sl w0 1 p.2.1 p.2.2.1 p.2.2.2 (p.1.cells.map B8) ∨ Own w' B U 1 p.2.1 p.2.2.1 p.2.2.2 (p.1.cells.map B8)) ∧ p.1.text.size ≤ 1000 := by
 intro p hp
 refine ⟨?_, (h.row p hp).2⟩
 rcases (h.row p hp).1 with h1 | h1
 ·exact .inl h1
 ·refine .inr (h1.kept hg fun r hr => ?_)
  cases a with
  | none => simp
  | some t =>
   have ho := h.top
   rw [hr] at h1
   have := own_far h1 ho (fun e => hE e.symm)
   simpa using this
theorem OL.push {a' : Option Addr} {c' : Nat} {p : RH} (h : OL w0 w E U B a c ps) (hx : Sl w0 1 p.2.1 p.2.2.1 p.2.2.2 (p.1.cells.map B8) ∨ Own w B U 1 p.2.1 p.2.2.1 p.2.2.2 (p.1.cells.map B8)) (hz : p.1.text.size ≤ 1000)
  (ht : Own w' B E 3 a' (ps.length + 1) c' (ps.flatMap rc ++ rc p)) (hg : w.grownBy w' (a.map (·.block))) (hE : E ≠ U) : OL w0 w' E U B a' c' (ps ++ [p]) := by
 refine ⟨by rw [List.length_append, List.flatMap_append, List.flatMap_singleton]; exact ht, fun q hq => ?_⟩
 rcases List.mem_append.1 hq with hq | hq
 ·exact h.rows ht hg hE q hq
 ·rw [List.mem_singleton] at hq
  subst hq
  refine ⟨?_, hz⟩
  rcases hx with h1 | h1
  ·exact .inl h1
  ·refine .inr (h1.kept hg fun r hr => ?_)
   cases a with
   | none => simp
   | some t =>
    have ho := h.top
    rw [hr] at h1
    have := own_far h1 ho (fun e => hE e.symm)
    simpa using this
theorem OL.take (h : OL w0 w E U B a c ps) (k : Nat) (hk : k ≤ ps.length) : OL w0 w E U B a c (ps.take k) := by
 have := h.top.pre k hk
 rw [flat_take rc_len] at this
 exact ⟨by rw [List.length_take, Nat.min_eq_left hk]; exact this, fun p hp => h.row p (List.mem_of_mem_take hp)⟩
theorem OL.some (h : OL w0 w E U B a c ps) (h0 : ps.length ≠ 0) : ∃ g, a = Option.some ⟨g, 0, none⟩ ∧ B ≤ g ∧ g < w.heap.size := by
 cases a with
 | none =>
  have := h.top.sl.nil rfl
  have h2 := h.top.sl.le
  omega
 | some p =>
  have hz := h.top.zero3
  exact ⟨p.block, by rw [← hz], h.top.base.1, h.top.base.2⟩
end
section
variable {P : Program} {w : World} {ops : Array Oper} {rest : List Oper} {act : Act} {Q : Exit → Act → World → Prop} {ty : TypeId} {pos : String} {after : Array Edge}
theorem cut_lo_g (d : Nat) (t : TypeId) (x lo : Operand) (e : TypeId) (ht : P.underlying t = some (.slice e)) (sz : Nat) (hsz : (P.info? e).map (·.size) = some sz)
  (a : Option Addr) (n c : Nat) (hx : act.eval x = .slice a n c) (kl : IntKind) (l : Nat) (hl : act.eval lo = .int kl (l : Int)) (hln : l ≤ n)
  (hK : wpList P ops Q rest (act.put (some d) (.slice (if c = l then a else a.map (·.add (l * sz))) (n - l) (c - l))) w) :
  wpList P ops Q ({ dst := some d, op := .slice t x (some lo) none none, type := ty, pos := pos, after := after, guard := none } :: rest) act w := by
 refine wpList_plain rfl fun K hK' => ?_
 obtain ⟨i0, hi0, hs0⟩ := Option.map_eq_some_iff.1 hsz
 have hrun : (Instr.sliceAt t (.slice a n c) (some (.int kl (l : Int))) none none).run P w = .ok (.slice (if c = l then a else a.map (·.add (l * sz))) (n - l) (c - l)) w := by
  have h2 : (0 : Int) ≤ l ∧ (l : Int) ≤ n := by omega
  simp [Instr.sliceAt, Instr.slice, Instr.sliceBounds, Instr.sliceBound, asIntOf, run_underlying ht, sizeOf, typeInfo, hi0, hs0, h2, hln]
 unfold Oper.wp
 simp only [execOp, Option.map_some, Option.map_none, hx, hl, Sem.run_bind, hrun, Result.andThen, Sem.run_pure]
 exact hK' _ _ hK
theorem cut_hi_g (d : Nat) (t : TypeId) (x hi : Operand) (e : TypeId) (ht : P.underlying t = some (.slice e)) (sz : Nat) (hsz : (P.info? e).map (·.size) = some sz)
  (a : Option Addr) (n c : Nat) (hx : act.eval x = .slice a n c) (ku : IntKind) (u : Nat) (hu : act.eval hi = .int ku (u : Int)) (hun : u ≤ c)
  (hK : wpList P ops Q rest (act.put (some d) (.slice a u c)) w) :
  wpList P ops Q ({ dst := some d, op := .slice t x none (some hi) none, type := ty, pos := pos, after := after, guard := none } :: rest) act w := by
 refine wpList_plain rfl fun K hK' => ?_
 obtain ⟨i0, hi0, hs0⟩ := Option.map_eq_some_iff.1 hsz
 have hrun : (Instr.sliceAt t (.slice a n c) none (some (.int ku (u : Int))) none).run P w = .ok (.slice a u c) w := by
  have h3 : (0 : Int) ≤ u ∧ (u : Int) ≤ c := by omega
  simp [Instr.sliceAt, Instr.slice, Instr.sliceBounds, Instr.sliceBound, asIntOf, run_underlying ht, sizeOf, typeInfo, hi0, h3, hun]
  intro _
  cases a with
  | none => rfl
  | some p => simp [Addr.add]
 unfold Oper.wp
 simp [execOp, hx, hu, hrun, Result.andThen]
 exact hK' _ _ hK
end
end Go.Dx
end

section
/- Chapter 06: what Bent's switch leaves. -/
namespace Go.Dx
open Go.RowKit
def BSz (m : Nat) (t : Ta) : Prop := (1 ≤ t.dig.length ∧ t.dig.length ≤ 1000) ∧ t.l0.length ≤ m ∧ t.l1.length ≤ m
theorem BSz.mono {m m' : Nat} {t : Ta} (h : BSz m t) (hm : m ≤ m') : BSz m' t := ⟨h.1, Nat.le_trans h.2.1 hm, Nat.le_trans h.2.2 hm⟩
theorem Own.box {w : World} {B : Nat} {e : TypeId} {sz : Nat} {q : Addr} {n c : Nat} {cs : List Value} (h : Own w B e sz (some q) n c cs) :
  ∃ cur : List Value, q = ⟨q.block, 0, none⟩ ∧ Box w q.block e cur ∧ n * sz ≤ cur.length ∧ ∀ (w' : World) (i : Nat) (v : Value), i < n * sz → Box w' q.block e (cur.set i v) → Own w' B e sz (some q) n c (cs.set i v) := by
 obtain ⟨hl, h2⟩ := h
 rcases h2 with ⟨h1, _⟩ | ⟨g, cap, cur, h1, h2, h3, h4, h5, h6, h7⟩
 ·cases h1
 ·injection h1 with h1 hn hc
  injection h1 with h1
  subst h1
  subst hc
  have hm : n * sz ≤ c * sz := Nat.mul_le_mul_right _ h4
  refine ⟨cur.toList, rfl, (by unfold Box; simpa using h3), by rw [Array.length_toList]; omega, fun w' i v hi hx => ⟨by rw [List.length_set]; exact hl, .inr ⟨g, c, (cur.toList.set i v).toArray, rfl, h2, hx, h4, h5, by simpa using h6, ?_⟩⟩⟩
  rw [List.toList_toArray, List.take_set, h7]
section
variable {w0 w w' : World} {T E U : TypeId} {B g4 g8 m : Nat} {a : Option Addr} {c : Nat} {ps : List RH} {H : TH} {t : Ta}
theorem ol_put2 {q : Addr} {x y : RH} {i j : Nat} {v : Value} (h : OL w0 w E U B (some q) c ps) (hx : ps[i]? = some x) (hj : j < 3) (hy : rc y = (rc x).set j v) (ht : Own w' B E 3 (some q) ps.length c ((ps.flatMap rc).set (i * 3 + j) v)) (hg : w.grownBy w' (some q.block)) (hE : E ≠ U)
  (hr : Sl w0 1 y.2.1 y.2.2.1 y.2.2.2 (y.1.cells.map B8) ∨ Own w B U 1 y.2.1 y.2.2.1 y.2.2.2 (y.1.cells.map B8)) (hz : y.1.text.size ≤ 1000) : OL w0 w' E U B (some q) c (ps.set i y) := by
 have key : ∀ p : RH, Own w B U 1 p.2.1 p.2.2.1 p.2.2.2 (p.1.cells.map B8) → Own w' B U 1 p.2.1 p.2.2.1 p.2.2.2 (p.1.cells.map B8) := by
  intro p hp
  refine hp.kept hg (fun r hr => ?_)
  rw [hr] at hp
  simpa using own_far hp h.top (fun e => hE e.symm)
 refine ⟨?_, fun p hp => ?_⟩
 ·rw [List.length_set, ← flat_set rc_len hj hy ps i hx]
  exact ht
 ·rcases List.mem_or_eq_of_mem_set hp with hp | hp
  ·exact ⟨(h.row p hp).1.imp id (key p), (h.row p hp).2⟩
  ·subst hp
   exact ⟨hr.imp id (key _), hz⟩
theorem Own.row3 {w : World} {e : TypeId} {c0 B : Nat} {ps : List RH} (h : Own w B e 3 a ps.length c0 (ps.flatMap rc)) {k : Nat} {p : RH} (hx : ps[k]? = some p) :
  ∃ g, a = some ⟨g, 0, none⟩ ∧ B ≤ g ∧ g < w.heap.size ∧ w.cell? ⟨g, k * 3, none⟩ = some (.string p.1.text) ∧ w.cell? ⟨g, k * 3 + 1, none⟩ = some (.int .i64 p.1.whr) ∧ w.cell? ⟨g, k * 3 + 2, none⟩ = some (.slice p.2.1 p.2.2.1 p.2.2.2) := by
 obtain ⟨b, o, rfl, h1, h2, h3, h4⟩ := ru_cells h.sl hx
 have hz := h.zero3
 have hb := h.base
 have : o = 0 := by injection hz
 subst this
 simp only [Nat.zero_add] at h2 h3 h4
 exact ⟨b, rfl, hb.1, hb.2, h2, h3, h4⟩
theorem rus_len (ps : List RH) : (rus ps).length = ps.length := by unfold rus; rw [List.length_map]
theorem ol_far (h : OL w0 w E U B a c ps) {g : Nat} (hg : w.grownBy w' (some g)) (hB : g < B) : OL w0 w' E U B a c ps := by
 refine ⟨h.top.kept hg fun p hp => ?_, fun p hp => ⟨(h.row p hp).1.imp id fun h1 => h1.kept hg fun q hq => ?_, (h.row p hp).2⟩⟩
 ·have ht := h.top
  rw [hp] at ht
  have := ht.base.1
  simp; omega
 ·rw [hq] at h1
  have := h1.base.1
  simp; omega
theorem ta_cap {n : Nat} {cs : List UInt8} (hT : TaIs w H t) (h : Sl w 1 a n c (cs.map B8)) : TaIs w { H with c := (a, n, c) } { t with cap := cs } := ⟨hT.l0, hT.l1, hT.e0, hT.e1, hT.d, h, hT.n, hT.f, hT.s⟩
theorem ta_sw {n : Nat} {cs : List UInt8} (hT : TaIs w H t) (h : Sl w 1 a n c (cs.map B8)) : TaIs w { H with s := (a, n, c) } { t with sw := cs } := ⟨hT.l0, hT.l1, hT.e0, hT.e1, hT.d, hT.c, hT.n, hT.f, h⟩
theorem ta_dig {n : Nat} {cs : List UInt8} (hT : TaIs w H t) (h : Sl w 1 a n c (cs.map B8)) : TaIs w { H with d := (a, n, c) } { t with dig := cs } := ⟨hT.l0, hT.l1, hT.e0, hT.e1, h, hT.c, hT.n, hT.f, hT.s⟩
theorem text_at (l : List ByteArray) (hl : (l.all fun s => decide (s.size ≤ 1000)) = true) (r : Nat) (hr : r < l.length) : ∃ s, (l.map Value.string)[r]? = some (.string s) ∧ s.size ≤ 1000 := by
 refine ⟨l[r], by simp [hr], ?_⟩
 have := List.all_eq_true.1 hl l[r] (List.getElem_mem hr)
 simpa using this
def GDel (w0 : World) (B : Nat) (E : TypeId) (sz g k : Nat) (ys : List Value) : Nat → List Value → World → Prop
 | 0, _, w => Below w0.heap.size w0 w
 | _ + 1, vs, w => (∃ a' c', vs = [.slice a' k c'] ∧ Own w B E sz a' k c' ys) ∧ w0.grownBy w (some g)
theorem GDel.mono {w0 : World} {B : Nat} {E : TypeId} {sz g k : Nat} {ys : List Value} : ∀ j vs w w', Below w.heap.size w w' → GDel w0 B E sz g k ys j vs w → GDel w0 B E sz g k ys j vs w'
 | 0, _, _, _, hb, h => Below.trans h (hb.mono (Below.size h))
 | _ + 1, _, _, _, hb, ⟨⟨a', c', h1, h2⟩, h3⟩ => ⟨⟨a', c', h1, h2.below hb⟩, grown_below h3 (hb.mono h3.size)⟩
theorem OL.sub {qs : List RH} {a' : Option Addr} {n' c' : Nat} (h : OL w0 w E U B a c ps) (hq : ∀ p ∈ qs, p ∈ ps) (hl : qs.length = n') (ht : Own w' B E 3 a' n' c' (qs.flatMap rc)) (hg : w.grownBy w' (a.map (·.block))) (hE : E ≠ U) : OL w0 w' E U B a' c' qs :=
 ⟨by rw [hl]; exact ht, fun p hp => h.rows ht hg hE p (hq p hp)⟩
theorem OL.cut_lo {g k : Nat} (h : OL w0 w E U B (Option.some ⟨g, 0, none⟩) c ps) (hk : k ≤ ps.length) : ∃ aW : Option Addr, (if c = k then Option.some ⟨g, 0, none⟩ else (Option.some (⟨g, 0, none⟩ : Addr)).map (·.add (k * 3))) = aW ∧ Sl w 3 aW (ps.length - k) (c - k) ((ps.drop k).flatMap rc) := by
 refine ⟨_, rfl, ?_⟩
 have := h.top.sl.cut k ps.length hk (Nat.le_refl _)
 rw [flat_drop rc_len, flat_take rc_len, List.take_of_length_le (by rw [List.length_drop]; exact Nat.le_refl _)] at this
 exact this
theorem own_some {w : World} {B : Nat} {e : TypeId} {sz : Nat} {a : Option Addr} {n c : Nat} {cs : List Value} (h : Own w B e sz a n c cs) (h0 : n ≠ 0) : ∃ g, a = Option.some ⟨g, 0, none⟩ ∧ B ≤ g ∧ g < w.heap.size := by
 cases a with
 | none =>
  have := h.sl.nil rfl
  have h2 := h.sl.le
  omega
 | some p =>
  have hz := h.zero3
  exact ⟨p.block, by rw [← hz], h.base.1, h.base.2⟩
theorem own_empty8 {w : World} {B b : Nat} {e : TypeId} {sz : Nat} (h : Box w b e []) (hB : B ≤ b) : Own w B e sz (Option.some ⟨b, 0, none⟩) 0 0 [] := ⟨by simp, .inr ⟨b, 0, #[], rfl, hB, h, Nat.le_refl _, by unfold maxLen; omega, by simp, by simp⟩⟩
theorem grown_high {a b c : World} {row : Option Nat} {g : Nat} (h : a.grownBy b row) (k : b.grownBy c (Option.some g)) (hg : a.heap.size ≤ g) : a.grownBy c row :=
 ⟨k.os.trans h.os, k.tape.trans h.tape, k.output.trans h.output, Nat.le_trans h.size k.size, fun i hi hr => (k.block i (Nat.lt_of_lt_of_le hi h.size) (by simp; omega)).trans (h.block i hi hr)⟩
end
theorem GDel.box2 {w0 w : World} {B : Nat} {E T : TypeId} {sz g k g4 : Nat} {ys us : List Value} {j : Nat} {vs : List Value} (h : GDel w0 B E sz g k ys j vs w) (hx : Box w0 g4 T us) (hne : g4 ≠ g) : Box w g4 T us := by
 cases j with
 | zero => exact hx.under h
 | succ j => exact hx.grown h.2 (by simpa using hne)
theorem GDel.size6 {w0 w : World} {B : Nat} {E : TypeId} {sz g k : Nat} {ys : List Value} {j : Nat} {vs : List Value} (h : GDel w0 B E sz g k ys j vs w) : w0.heap.size ≤ w.heap.size := by
 cases j with
 | zero => exact Below.size h
 | succ j => exact h.2.size
end Go.Dx
end

section
/- Chapter 06: what Bent's switch leaves, and bounds of its rules. -/
namespace Go.Dx
open Go.RowKit
def RuA (r : Ru) : Prop := -1000 ≤ r.whr ∧ r.whr ≤ 1000 ∧ r.cells.length ≤ 1000
def RuT (t : Ta) : Prop := (∀ r ∈ t.l0, RuA r) ∧ (∀ r ∈ t.l1, RuA r) ∧ t.cap.length ≤ 1000 ∧ t.num.length ≤ 1000 ∧ t.fin.length ≤ 1000 ∧ t.sw.length ≤ 1000
theorem RuT.lang {t : Ta} (h : RuT t) {ps : List RH} {l : List Ru} (he : rus ps = l) (hl : l = t.l0 ∨ l = t.l1) : ∀ p ∈ ps, RuA p.1 := fun p hp => by
 have hm : p.1 ∈ l := by rw [← he]; exact List.mem_map.2 ⟨p, hp, rfl⟩
 rcases hl with rfl | rfl
 ·exact h.1 _ hm
 ·exact h.2.1 _ hm
theorem rus_A {ps : List RH} (h : ∀ p ∈ ps, RuA p.1) : ∀ r ∈ rus ps, RuA r := fun r hr => by
 obtain ⟨p, hp, rfl⟩ := List.mem_map.1 hr
 exact h p hp
theorem goodT_A {t : Ta} (h : goodT t = true) : RuT t := by
 unfold goodT at h
 simp only [Bool.and_eq_true, decide_eq_true_eq, List.all_eq_true] at h
 obtain ⟨⟨⟨⟨⟨⟨⟨_, _⟩, a3⟩, a4⟩, a5⟩, a6⟩, a7⟩, a8⟩ := h
 have ind : ∀ {l : List UInt8}, indic l = true → l.length ≤ 1000 := fun {l} h => by
  unfold indic at h
  simp only [Bool.and_eq_true, decide_eq_true_eq] at h
  omega
 have one : ∀ r : Ru, ruOk r = true → RuA r := fun r h => by
  unfold ruOk at h
  simp only [Bool.and_eq_true, decide_eq_true_eq] at h
  exact ⟨by omega, by omega, ind h.1.2⟩
 exact ⟨fun r hr => one r (a7 r hr), fun r hr => one r (a8 r hr), ind a3, ind a4, ind a5, ind a6⟩
def RBu (w0 : World) (T : TypeId) (B g4 g8 m : Nat) (v : Value) (w : World) : Prop :=
 ∃ (H : TH) (t : Ta) (a : Option Addr) (c : Nat) (ps : List RH), v = .slice a ps.length c ∧ Hid (∀ w', Below w0.heap.size w0 w' → KeepAbove B w w' → TaIs w' H t ∧ Rul w' a ps.length c ps) ∧ Box w g4 T (tcells H) ∧ (∃ z, Box w g8 T z ∧ z.length = 7) ∧ Below w0.heap.size w0 w ∧ (BSz m t ∧ RuT t) ∧ ps.length ≤ m + 100 ∧ ∀ p ∈ ps, RuA p.1
section
variable {w0 w w' : World} {T E U : TypeId} {B g4 g8 m : Nat} {a : Option Addr} {c : Nat} {ps : List RH} {H : TH} {t : Ta}
theorem RBu.rules (hT : TaIs w0 H t) (hO : OL w0 w E U B a c ps) (b4 : Box w g4 T (tcells H)) (b8 : ∃ z, Box w g8 T z ∧ z.length = 7) (hb : Below w0.heap.size w0 w) (hm : BSz m t) (hl : ps.length ≤ m + 100) (ht : RuT t) (hq : ∀ p ∈ ps, RuA p.1) : RBu w0 T B g4 g8 m (.slice a ps.length c) w :=
 ⟨H, t, a, c, ps, rfl, hide fun _ h1 h2 => ⟨hT.below h1, hO.rul h1 h2⟩, b4, b8, hb, ⟨hm, ht⟩, hl, hq⟩
theorem rbu_put {g i j : Nat} {x y : RH} {v : Value} {cur : List Value} (hT : TaIs w0 H t) (hO : OL w0 w E U B (some ⟨g, 0, none⟩) c ps) (hE : E ≠ U) (hx : ps[i]? = some x)
  (hp : ∀ (w' : World) (i : Nat) (v : Value), i < ps.length * 3 → Box w' g E (cur.set i v) → Own w' B E 3 (some ⟨g, 0, none⟩) ps.length c ((ps.flatMap rc).set i v)) (hj : j < 3) (hy : rc y = (rc x).set j v)
  (h8 : Box w' g E (cur.set (i * 3 + j) v)) (hg : w.grownBy w' (some g)) (hr : Own w B U 1 y.2.1 y.2.2.1 y.2.2.2 (y.1.cells.map B8) ∨ y.2 = x.2 ∧ y.1.cells = x.1.cells) (hz : y.1.text.size ≤ 1000)
  (b4 : Box w g4 T (tcells H)) (h4 : g4 < B) (b8 : ∃ z, Box w g8 T z ∧ z.length = 7) (h88 : g8 < B) (hb : Below w0.heap.size w0 w) (hB0 : w0.heap.size ≤ B) (hm : BSz m t) (hl : ps.length ≤ m + 100) (ht : RuT t) (hq : ∀ p ∈ ps, RuA p.1) (hyA : RuA y.1) : RBu w0 T B g4 g8 m (.slice (some ⟨g, 0, none⟩) ps.length c) w' := by
 have hgB : B ≤ g := hO.top.base.1
 have hi := (List.getElem?_eq_some_iff.1 hx).1
 have hrow := hO.row x (List.mem_of_getElem? hx)
 have hr' : Sl w0 1 y.2.1 y.2.2.1 y.2.2.2 (y.1.cells.map B8) ∨ Own w B U 1 y.2.1 y.2.2.1 y.2.2.2 (y.1.cells.map B8) := by
  rcases hr with h1 | ⟨h1, h2⟩
  ·exact .inr h1
  ·rw [h1, h2]; exact hrow.1
 have key := ol_put2 hO hx hj hy (hp w' (i * 3 + j) v (by omega) h8) hg hE hr' hz
 obtain ⟨z, hz1, hz2⟩ := b8
 have := RBu.rules (g4 := g4) (g8 := g8) (m := m) hT key (b4.grown hg (by simp; omega)) ⟨z, hz1.grown hg (by simp; omega), hz2⟩ (hb.grown hg hb.size (fun q hq => by cases hq; omega)) hm (by rw [List.length_set]; exact hl) ht
  (fun p hp => by
   rcases List.mem_or_eq_of_mem_set hp with hp | hp
   ·exact hq p hp
   ·subst hp; exact hyA)
 rwa [List.length_set] at this
theorem rbu_cell {a' : Option Addr} {n' c' : Nat} {cs : List UInt8} {H' : TH} {t' : Ta} (hT : TaIs w0 H t) (hO : OL w0 w E U B a c ps) (hu : Own w' B U 1 a' n' c' (cs.map B8)) (hg : w.grownBy w' (some g4)) (h4 : g4 < B)
  (hK : ∀ w'', TaIs w'' H t → Sl w'' 1 a' n' c' (cs.map B8) → TaIs w'' H' t') (b4 : Box w' g4 T (tcells H')) (b8 : ∃ z, Box w g8 T z ∧ z.length = 7) (h88 : g8 ≠ g4) (hb : Below w0.heap.size w0 w) (h40 : w0.heap.size ≤ g4) (hm : BSz m t') (hl : ps.length ≤ m + 100) (ht : RuT t') (hq : ∀ p ∈ ps, RuA p.1) : RBu w0 T B g4 g8 m (.slice a ps.length c) w' := by
 obtain ⟨z, hz1, hz2⟩ := b8
 have hO' := ol_far hO hg h4
 exact ⟨H', t', a, c, ps, rfl, hide fun w'' h1 h2 => ⟨hK w'' (hT.below h1) (hu.keep (Nat.le_refl _) h2).sl, hO'.rul h1 h2⟩, b4, ⟨z, hz1.grown hg (by simpa using h88), hz2⟩, hb.grown hg hb.size (fun q hq => by cases hq; exact h40), ⟨hm, ht⟩, hl, hq⟩
end
end Go.Dx
end

section
/- Chapter 06, plain: what is decoded is written as it was read; how long the bytes are. -/
namespace Go.Dx
open Go.RowKit
theorem thenD_canon {α β γ : Type} {f : List UInt8 → α × Int × Int} {g : List UInt8 → β × Int × Int} {h : α → β → γ} {d : γ} {e1 : α → List UInt8} {e2 : β → List UInt8} {e : γ → List UInt8}
  (hf : Canon f e1) (hg : Canon g e2) (hh : ∀ x b, (g b).2.2 = 0 → e (h x (g b).1) = e1 x ++ e2 (g b).1) : Canon (thenD f g h d) e := fun b hb => by
 by_cases h1 : (f b).2.2 = 0
 ·by_cases h2 : (g (b.drop (f b).2.1.toNat)).2.2 = 0
  ·rw [thenD_ok h1 h2]
   obtain ⟨a1, a2, a3⟩ := hf b h1
   obtain ⟨b1, b2, b3⟩ := hg _ h2
   rw [List.length_drop] at b2
   refine ⟨by show 0 ≤ (f b).2.1 + _; omega, by show (f b).2.1 + _ ≤ _; omega, ?_⟩
   show e (h _ _) = b.take ((f b).2.1 + (g (b.drop (f b).2.1.toNat)).2.1).toNat
   rw [hh _ _ h2, a3, b3, Int.toNat_add a1 b1, List.take_add]
  ·rw [thenD_snd h1 h2] at hb
   exact absurd hb h2
 ·rw [thenD_fst h1] at hb
  exact absurd hb h1
theorem canon_ru : Canon decRu encRu :=
 thenD_canon (e1 := fun s : ByteArray => encBytes s.data.toList) (e2 := fun q : Int × ByteArray => encInt q.1 ++ encBytes q.2.data.toList) canon_bytes
  (thenD_canon (e1 := encInt) (e2 := fun s : ByteArray => encBytes s.data.toList) canon_int canon_bytes (fun _ _ _ => rfl)) (fun _ _ _ => rfl)
theorem canon_many {α : Type} {f : List UInt8 → α × Int × Int} {e : α → List UInt8} (hf : Canon f e) : Canon (manyD f) (encMany e) := fun b hb => by
 unfold manyD at hb ⊢
 by_cases h1 : (decInt b).2.2 ≠ 0
 ·rw [if_pos h1] at hb; exact absurd hb h1
 rw [if_neg h1] at hb ⊢
 by_cases h2 : (decInt b).1 < 0
 ·rw [if_pos h2] at hb; cases hb
 rw [if_neg h2] at hb ⊢
 by_cases h3 : (seqTo f b (decInt b).2.1.toNat (decInt b).1.toNat).2.2 ≠ 0
 ·rw [if_pos h3] at hb; exact absurd hb h3
 rw [if_neg h3]
 obtain ⟨a1, a2, _, _⟩ := decInt_used (Decidable.not_not.1 h1)
 have a3 := decInt_canon (Decidable.not_not.1 h1)
 obtain ⟨r, hr⟩ : ∃ r, seqTo f b (decInt b).2.1.toNat (decInt b).1.toNat = r := ⟨_, rfl⟩
 obtain ⟨xs, B, E⟩ := r
 rw [hr] at h3 ⊢
 obtain rfl : E = 0 := Decidable.not_not.1 h3
 have hl := seqTo_len hr
 have hA : (decInt b).2.1.toNat ≤ b.length := by omega
 obtain ⟨c1, c2, c3⟩ := seqTo_canon hf hA hr
 refine ⟨Int.natCast_nonneg _, by show (B : Int) ≤ _; omega, ?_⟩
 show encMany e xs = b.take ((B : Int)).toNat
 unfold encMany
 rw [hl, Int.toNat_of_nonneg (by omega), a3, c3, Int.toNat_natCast]
 have e1 : B = (decInt b).2.1.toNat + (B - (decInt b).2.1.toNat) := by omega
 conv => rhs; rw [e1]
 rw [List.take_add]
theorem canon_five : Canon decFive encStrs := fun b hb => by
 unfold decFive at hb ⊢
 by_cases h1 : (decSeq decBytes b).2.2 ≠ 0
 ·rw [if_pos h1] at hb; exact absurd hb h1
 rw [if_neg h1] at hb ⊢
 by_cases h2 : (decSeq decBytes b).1.length ≠ 5
 ·rw [if_pos h2] at hb; cases hb
 rw [if_neg h2]
 obtain ⟨a1, a2, a3, _⟩ := decSeq_canon canon_bytes (Decidable.not_not.1 h1)
 exact ⟨a1, a2, a3⟩
theorem five_len {b : List UInt8} (h : (decFive b).2.2 = 0) : (decFive b).1.length = 5 := by
 unfold decFive at h ⊢
 by_cases h1 : (decSeq decBytes b).2.2 ≠ 0
 ·rw [if_pos h1] at h; exact absurd h h1
 rw [if_neg h1] at h ⊢
 by_cases h2 : (decSeq decBytes b).1.length ≠ 5
 ·rw [if_pos h2] at h; cases h
 rw [if_neg h2]
 exact Decidable.not_not.1 h2
theorem S8_id (s : ByteArray) : S8 s.data.toList = s := by unfold S8; simp
theorem enc_five (x y : List Ru) {ss : List ByteArray} (h : ss.length = 5) : encTa (five [x, y] ss) = encMany encRu x ++ (encMany encRu y ++ encStrs ss) := by
 match ss, h with
 | [a, b, c, d, e], _ => simp [encTa, five, S8_id]
theorem canon_ta : Canon decTa encTa :=
 thenD_canon (e1 := encMany encRu) (e2 := fun q : List Ru × List ByteArray => encMany encRu q.1 ++ encStrs q.2) (canon_many canon_ru)
  (thenD_canon (e1 := encMany encRu) (e2 := encStrs) (canon_many canon_ru) canon_five (fun _ _ _ => rfl))
  (fun x b h => by
   have h5 : ((thenD (manyD decRu) decFive (fun y l => (y, l)) ([], []) b).1).2.length = 5 := by
    by_cases h1 : (manyD decRu b).2.2 = 0
    ·by_cases h2 : (decFive (b.drop (manyD decRu b).2.1.toNat)).2.2 = 0
     ·rw [thenD_ok h1 h2]; exact five_len h2
     ·rw [thenD_snd h1 h2] at h; exact absurd h h2
    ·rw [thenD_fst h1] at h; exact absurd h h1
   exact enc_five x _ h5)
theorem decTa_bad {l : List UInt8} (h : (decTa l).2.2 ≠ 0) : (decTa l).1 = ta0 := by
 unfold decTa at h ⊢
 by_cases h1 : (manyD decRu l).2.2 = 0
 ·by_cases h2 : (thenD (manyD decRu) decFive (fun y l => (y, l)) ([], []) (l.drop (manyD decRu l).2.1.toNat)).2.2 = 0
  ·rw [thenD_ok h1 h2] at h; exact absurd rfl h
  ·rw [thenD_snd h1 h2]
 ·rw [thenD_fst h1]
theorem enc_ta0 : (encTa ta0).length ≤ 20 := by decide +kernel
theorem dec_short (l : List UInt8) : (encTa (decTa l).1).length ≤ l.length + 20 := by
 by_cases h : (decTa l).2.2 = 0
 ·obtain ⟨_, _, h3⟩ := canon_ta l h
  rw [h3, List.length_take]
  omega
 ·rw [decTa_bad h]
  have := enc_ta0
  omega
theorem many_all {P : Ru → Prop} (hP : ∀ b, P (decRu b).1) (b : List UInt8) : ∀ r ∈ (manyD decRu b).1, P r := by
 unfold manyD
 split
 ·intro r h; cases h
 ·split
  ·intro r h; cases h
  ·split
   ·intro r h; cases h
   ·exact seqTo_all hP _
theorem dec_whr (l : List UInt8) : WhB (decTa l).1 := by
 have hP : ∀ b, (fun r : Ru => -9223372036854775808 ≤ r.whr ∧ r.whr ≤ 9223372036854775807) (decRu b).1 := fun b => by
  rcases decRu_cases b with ⟨e, h, _⟩ | ⟨r, n, h, _, _, h3, h4⟩
  ·rw [h]; exact (by decide : -9223372036854775808 ≤ (0 : Int) ∧ (0 : Int) ≤ 9223372036854775807)
  ·rw [h]; exact ⟨h3, h4⟩
 have hM := many_all (P := fun r : Ru => -9223372036854775808 ≤ r.whr ∧ r.whr ≤ 9223372036854775807) hP
 unfold decTa
 intro r hr
 by_cases h1 : (manyD decRu l).2.2 = 0
 ·by_cases h2 : (thenD (manyD decRu) decFive (fun y l => (y, l)) ([], []) (l.drop (manyD decRu l).2.1.toNat)).2.2 = 0
  ·rw [thenD_ok h1 h2] at hr
   rcases hr with hr | hr
   ·exact hM _ r hr
   ·have hr : r ∈ (thenD (manyD decRu) decFive (fun y l => (y, l)) ([], []) (l.drop (manyD decRu l).2.1.toNat)).1.1 := hr
    generalize l.drop (manyD decRu l).2.1.toNat = b at *
    by_cases h3 : (manyD decRu b).2.2 = 0
    ·by_cases h4 : (decFive (b.drop (manyD decRu b).2.1.toNat)).2.2 = 0
     ·rw [thenD_ok h3 h4] at hr; exact hM _ r hr
     ·rw [thenD_snd h3 h4] at hr; cases hr
    ·rw [thenD_fst h3] at hr; cases hr
  ·rw [thenD_snd h1 h2] at hr
   rcases hr with hr | hr <;> cases hr
 ·rw [thenD_fst h1] at hr
  rcases hr with hr | hr <;> cases hr
theorem flat_le {α : Type} {f : α → List UInt8} {m : Nat} : ∀ {l : List α}, (∀ x ∈ l, (f x).length ≤ m) → (l.flatMap f).length ≤ m * l.length
 | [], _ => by simp
 | x :: l, h => by
  have h1 := h x List.mem_cons_self
  have h2 := flat_le (l := l) fun y hy => h y (List.mem_cons_of_mem _ hy)
  rw [List.flatMap_cons, List.length_append, List.length_cons, Nat.mul_add]
  omega
theorem enc_bound {t : Ta} (hz : BSz 1000 t) (hr : RuT t) (h0 : ∀ r ∈ t.l0, r.text.size ≤ 1000) (h1 : ∀ r ∈ t.l1, r.text.size ≤ 1000) : (encTa t).length ≤ 5000000 := by
 have hru : ∀ r : Ru, RuA r → r.text.size ≤ 1000 → (encRu r).length ≤ 2050 := fun r ha hs => by
  have a1 := encInt_le (r.text.data.toList.length : Int)
  have a2 := encInt_le r.whr
  have a3 := encInt_le (r.cells.length : Int)
  have a4 : r.text.data.toList.length = r.text.size := Array.length_toList
  have a5 := ha.2.2
  unfold encRu encBytes
  rw [List.length_append, List.length_append, List.length_append, List.length_append]
  omega
 have m0 := flat_le (f := encRu) (m := 2050) (l := t.l0) (fun r h => hru r (hr.1 r h) (h0 r h))
 have m1 := flat_le (f := encRu) (m := 2050) (l := t.l1) (fun r h => hru r (hr.2.1 r h) (h1 r h))
 have c0 := encInt_le (t.l0.length : Int)
 have c1 := encInt_le (t.l1.length : Int)
 have c5 := encInt_le (([S8 t.dig, S8 t.cap, S8 t.num, S8 t.fin, S8 t.sw] : List ByteArray).length : Int)
 have ms := flat_le (f := fun s : ByteArray => encBytes s.data.toList) (m := 1020) (l := [S8 t.dig, S8 t.cap, S8 t.num, S8 t.fin, S8 t.sw]) (fun s hs => by
  have a1 := encInt_le (s.data.toList.length : Int)
  have a2 : s.data.toList.length ≤ 1000 := by
   simp only [List.mem_cons, List.not_mem_nil, or_false] at hs
   rcases hs with rfl | rfl | rfl | rfl | rfl <;> rw [S8_list]
   ·exact hz.1.2
   ·exact hr.2.2.1
   ·exact hr.2.2.2.1
   ·exact hr.2.2.2.2.1
   ·exact hr.2.2.2.2.2
  unfold encBytes
  rw [List.length_append]
  omega)
 have z0 := hz.2.1
 have z1 := hz.2.2
 unfold encTa encMany encStrs
 simp only [List.length_append] at ms ⊢
 have e5 : ([S8 t.dig, S8 t.cap, S8 t.num, S8 t.fin, S8 t.sw] : List ByteArray).length = 5 := rfl
 rw [e5] at ms c5 ⊢
 generalize (List.flatMap (fun s : ByteArray => encInt (s.data.toList.length : Int) ++ s.data.toList) [S8 t.dig, S8 t.cap, S8 t.num, S8 t.fin, S8 t.sw]).length = q at *
 omega
theorem enc_pos (t : Ta) : 1 ≤ (encTa t).length := by
 have := encInt_pos (t.l0.length : Int)
 unfold encTa encMany
 simp only [List.length_append]
 omega
theorem TaB_of {t : Ta} (hz : BSz 1000 t) (hr : RuT t) (h0 : ∀ r ∈ t.l0, r.text.size ≤ 1000) (h1 : ∀ r ∈ t.l1, r.text.size ≤ 1000) : TaB t := by
 have hru : ∀ r : Ru, RuA r → r.text.size ≤ 1000 → RuB r := fun r ha hs => ⟨by omega, ⟨by have := ha.1; omega, by have := ha.2.1; omega⟩, by have := ha.2.2; omega⟩
 refine ⟨⟨by have := hz.2.1; omega, fun r h => hru r (hr.1 r h) (h0 r h)⟩, ⟨by have := hz.2.2; omega, fun r h => hru r (hr.2.1 r h) (h1 r h)⟩, fun x hx => ?_⟩
 simp only [List.mem_cons, List.not_mem_nil, or_false] at hx
 rcases hx with rfl | rfl | rfl | rfl | rfl
 ·have := hz.1.2; omega
 ·have := hr.2.2.1; omega
 ·have := hr.2.2.2.1; omega
 ·have := hr.2.2.2.2.1; omega
 ·have := hr.2.2.2.2.2; omega
theorem WhB_of {t : Ta} (hr : RuT t) : WhB t := fun r h => by
 rcases h with h | h
 ·have := hr.1 r h; exact ⟨by have := this.1; omega, by have := this.2.1; omega⟩
 ·have := hr.2.1 r h; exact ⟨by have := this.1; omega, by have := this.2.1; omega⟩
end Go.Dx
end

section
/- Chapter 06, in plain Lean: a rule more at the end of a language leaves all steps that there were, where no text holds its letter. No program in sight. -/
namespace Go.Dx
def qqq : Ru := ⟨⟨#[113, 113, 113]⟩, 0, [9]⟩
def moreT (t : Ta) : Ta := { t with l0 := t.l0 ++ [qqq] }
theorem name_q {r : Ru} (h : chars r.text ≠ [113, 113, 113]) : nameOf r ≠ nameOf qqq := fun e => h (congrArg Prod.fst e)
theorem own_more {l : List Ru} {r : Ru} {c : UInt8} (h : ownB l c = true) : ownB (l ++ [r]) c = true := by
 unfold ownB at h ⊢
 rw [List.map_append]
 exact decide_eq_true (List.mem_append_left _ (of_decide_eq_true h))
theorem miss_more {l : List Ru} {r : Ru} (h : missB l = false) : missB (l ++ [r]) = false := by
 unfold missB at h ⊢
 rw [List.any_eq_false] at h ⊢
 intro k hk
 have h1 := h k hk
 cases ho : ownB l (UInt8.ofNat (97 + k)) with
 | true => rw [own_more ho]; simp
 | false => rw [ho] at h1; simp at h1
theorem valid_more {t : Ta} (hv : validE t = 0) (hl : t.l0.length ≤ 95) (hq : ∀ r ∈ t.l0, chars r.text ≠ [113, 113, 113]) : validE (moreT t) = 0 := by
 obtain ⟨h0, h1, hg, d0, d1, m0, m1⟩ := valid_parts hv
 have e0 : (moreT t).l0 = t.l0 ++ [qqq] := rfl
 have e1 : (moreT t).l1 = t.l1 := rfl
 have hg' : goodT (moreT t) = true := by
  unfold goodT at hg ⊢
  simp only [Bool.and_eq_true] at hg
  obtain ⟨⟨⟨⟨⟨⟨⟨a1, a2⟩, a3⟩, a4⟩, a5⟩, a6⟩, a7⟩, a8⟩ := hg
  rw [e0, e1, List.all_append, a7]
  simp only [Bool.and_eq_true, Bool.true_and]
  exact ⟨⟨⟨⟨⟨⟨⟨a1, a2⟩, a3⟩, a4⟩, a5⟩, a6⟩, by decide⟩, a8⟩
 have d0' : dupB (t.l0 ++ [qqq]) = false := by
  unfold dupB at d0 ⊢
  simp only [Bool.not_eq_eq_eq_not, Bool.not_false, decide_eq_true_eq] at d0 ⊢
  rw [List.map_append, List.nodup_append]
  refine ⟨d0, by simp, ?_⟩
  intro a ha b hb e
  simp only [List.map_cons, List.map_nil, List.mem_singleton] at hb
  subst hb
  obtain ⟨r, hr, rfl⟩ := List.mem_map.1 ha
  exact name_q (hq r hr) e
 unfold validE
 rw [e0, e1, if_neg (by rw [List.length_append]; simp; omega), hg', if_neg (by simp), d0', d1, if_neg (by simp), miss_more m0, m1]
 rfl
theorem ruleSteps_app (t : Ta) (s : St) (x : Sy) (l : List Sy) (i : Nat) (b : List Ru) : ∀ (a : List Ru) (k : Nat), ruleSteps t s x l i k (a ++ b) = ruleSteps t s x l i k a ++ ruleSteps t s x l i (k + a.length) b
 | [], k => by simp [ruleSteps]
 | r :: a, k => by
  simp only [List.cons_append, ruleSteps]
  rw [ruleSteps_app t s x l i b a (k + 1), List.append_assoc, List.length_cons, show k + 1 + a.length = k + (a.length + 1) by omega]
theorem ruleSteps_more (t : Ta) (s : St) (x : Sy) (l : List Sy) (i : Nat) : ∀ (a : List Ru) (k : Nat), ruleSteps (moreT t) s x l i k a = ruleSteps t s x l i k a
 | [], k => rfl
 | r :: a, k => by
  simp only [ruleSteps]
  rw [ruleSteps_more t s x l i a (k + 1)]
  rfl
theorem fits_q {l : List Sy} {i : Nat} {x : Sy} (hx : l[i]? = some x) (hq : low x.c ≠ 113) : fitsB qqq l i = false := by
 unfold fitsB
 rw [hx]
 have hd : l.drop i = x :: l.drop (i + 1) := by
  have hi := (List.getElem?_eq_some_iff.1 hx).1
  rw [List.drop_eq_getElem_cons hi, (List.getElem?_eq_some_iff.1 hx).2]
 simp only [hd, show chars qqq.text = [113, 113, 113] from rfl, sameAt, decide_eq_false hq, Bool.false_and]
theorem steps_more {t : Ta} (hv : validE t = 0) (hl : t.l0.length ≤ 95) (hq : ∀ r ∈ t.l0, chars r.text ≠ [113, 113, 113]) (s : St) {l : List Sy} (hc : ∀ x ∈ l, low x.c ≠ 113) (i : Int) : stepsL (moreT t) s l i = stepsL t s l i := by
 unfold stepsL
 rw [hv, valid_more hv hl hq]
 cases hx : l[i.toNat]? with
 | none => rfl
 | some x =>
  have hnx : nextL (moreT t) s l i.toNat x = nextL t s l i.toNat x := by
   unfold nextL
   have hh : ruleSteps (moreT t) s x l i.toNat 0 (langOf (moreT t) x.lang) = ruleSteps t s x l i.toNat 0 (langOf t x.lang) := by
    rw [ruleSteps_more]
    unfold langOf
    split
    ·show ruleSteps t s x l i.toNat 0 (t.l0 ++ [qqq]) = _
     rw [ruleSteps_app]
     simp only [ruleSteps, fits_q hx (hc x (List.mem_of_getElem? hx))]
     simp
    ·rfl
   rw [hh]
   rfl
  simp only [hnx]
theorem charF_q : ∀ n, n < 240 → low (charF n) ≠ 113 := by decide +kernel
theorem words7_q : ∀ s ∈ words7, ∀ c ∈ chars s, low c ≠ 113 := by decide +kernel
theorem stepS_q {o : List Sy} {g n : Nat} (hn : n < 240) (ho : ∀ x ∈ o, low x.c ≠ 113) : ∀ x ∈ stepS o g n, low x.c ≠ 113 := by
 have h1 : ∀ x ∈ o ++ [(⟨(langS g n : Int), charF n⟩ : Sy)], low x.c ≠ 113 := by
  intro x hx
  rcases List.mem_append.1 hx with hx | hx
  ·exact ho x hx
  ·rw [List.mem_singleton] at hx; subst hx; exact charF_q n hn
 unfold stepS
 split
 ·intro x hx
  unfold outW at hx
  rcases List.mem_append.1 hx with hx | hx
  ·exact h1 x hx
  ·obtain ⟨c, hc, rfl⟩ := List.mem_map.1 hx
   have hm : words7.getD (n % 7) ⟨#[]⟩ ∈ words7 := by
    have : n % 7 < words7.length := Nat.mod_lt _ (by decide)
    rw [List.getD_eq_getElem?_getD, List.getElem?_eq_getElem this]
    exact List.getElem_mem _
   exact words7_q _ hm c (List.mem_of_mem_take hc)
 ·exact h1
theorem symsS_q {f : Int → Nat} (hf : ∀ x, f x < 240) : ∀ (l : List Int) (o : List Sy) (g : Nat), (∀ x ∈ o, low x.c ≠ 113) → ∀ x ∈ symsS f l o g, low x.c ≠ 113
 | [], o, g, h => h
 | x :: xs, o, g, h => by
  unfold symsS
  split
  ·exact symsS_q hf xs _ _ (stepS_q (hf x) h)
  ·exact h
end Go.Dx
end

section
/- Chapter 06: the reference's Bent: tables with something changed; what they are does not matter. -/
namespace Go.Proofs.YtfagjaabladgpaaDoor
open Go.RowKit Go.Dx
set_option maxRecDepth 100000 in
set_option maxHeartbeats 4000000 in
theorem ref_BentB (H : TH) (t : Ta) (m : Nat) (hm : m ≤ 10000) (at_ how by_ : Int) (hat : -9223372036854775808 ≤ at_ ∧ at_ ≤ 9223372036854775807) (hhow : -9223372036854775808 ≤ how ∧ how ≤ 9223372036854775807) (hby : -9223372036854775808 ≤ by_ ∧ by_ ≤ 9223372036854775807)
  (w : World) (hT : TaIs w H t) (hz : BSz m t) (hru : RuT t) :
  Calls Tryd.prog 4 #[H.v, .int .i64 at_, .int .i64 how, .int .i64 by_] w fun e w' => ∃ H' t', e = .returned (TH.v H') ∧ TaIs w' H' t' ∧ (BSz (m + 100) t' ∧ RuT t') ∧ Below w.heap.size w w' := by
 obtain ⟨r1, hr1, hA1⟩ := around_any at_ 2 2 w rfl hat.1 hat.2 (by decide) (by decide)
 obtain ⟨r66, hr66, hA66⟩ := around_any by_ 66 66 w rfl hby.1 hby.2 (by decide) (by decide)
 obtain ⟨rh, hrh, hAh⟩ := around_any how 11 11 w rfl hhow.1 hhow.2 (by decide) (by decide)
 have HA1 := hide hA1
 have HA66 := hide hA66
 have HAh := hide hAh
 have hat2 := tdiv_in hat.1 hat.2 (d := 2) (by decide)
 have HAT := hide hat
 have HAT2 := hide hat2
 have HHOW := hide hhow
 have HBY := hide hby
 clear hA1 hA66 hAh hat hhow hby hat2
 have X0 := (Box.new w 29 (tcells H).toArray).alloc (.cells #[.slice none 0 0, .slice none 0 0, .slice none 0 0, .slice none 0 0, .slice none 0 0, .slice none 0 0, .slice none 0 0] 29)
 have X1 := Box.new (w.alloc (.cells (tcells H).toArray 29)) 29 #[.slice none 0 0, .slice none 0 0, .slice none 0 0, .slice none 0 0, .slice none 0 0, .slice none 0 0, .slice none 0 0]
 rw [show (w.alloc (.cells (tcells H).toArray 29)).heap.size = w.heap.size + 1 by simp] at X1
 have hb0 : Below w.heap.size w ((w.alloc (.cells (tcells H).toArray 29)).alloc (.cells #[.slice none 0 0, .slice none 0 0, .slice none 0 0, .slice none 0 0, .slice none 0 0, .slice none 0 0, .slice none 0 0] 29)) := (blo w _).trans ((blo _ _).mono (by simp))
 have hsz2 : w.heap.size + 2 ≤ ((w.alloc (.cells (tcells H).toArray 29)).alloc (.cells #[.slice none 0 0, .slice none 0 0, .slice none 0 0, .slice none 0 0, .slice none 0 0, .slice none 0 0, .slice none 0 0] 29)).heap.size := by simp
 obtain ⟨g8, hg8⟩ : ∃ g8, g8 = w.heap.size + 1 := ⟨_, rfl⟩
 obtain ⟨an, nn, cn, psn, hcn, hRn, hen⟩ := sel_lang hT r1 (by omega)
 have hlen : psn.length ≤ m := by
  have h1 := congrArg List.length hen
  rw [rus_len] at h1
  rw [h1]
  have h2 := hz.2
  unfold langK
  split
  ·exact h2.1
  ·exact h2.2
 obtain rfl : nn = psn.length := hRn.n_eq
 have hcT : (tcells H)[r1]? = some (.slice an psn.length cn) := by
  rcases r1 with _ | _ | r1
  ·exact hcn
  ·exact hcn
  ·omega
 have hqn := hru.lang hen (by unfold langK; split; exact .inl rfl; exact .inr rfl)
 have HQN := hide hqn
 have HQT := hide hru
 clear hqn hru
 have HT := hide hT
 have HEN := hide hen
 have HZ := hide hz
 have hcnB := X0.at_ hcT
 clear hT hen hz hcn hcT
 obtain ⟨⟨a0, n0, c0⟩, ⟨a1, n1, c1⟩, ps0, ps1, ⟨ad, nd, cd⟩, ⟨ac, nc, cc⟩, ⟨au, nu, cu⟩, ⟨af, nf, cf⟩, ⟨aw, nw, cw⟩⟩ := H
 unfold TH.v
 unfold tcells at X0 X1 hb0 hsz2 hcnB
 simp only [hdv] at X0 X1 hb0 hsz2 hcnB ⊢
 go_enter Tryd.func4, Tryd.ntmps4
 go_wp2_with fail
 rw [← hg8] at X1 ⊢
 generalize hgen : (w.alloc (.cells _ 29)).alloc (.cells _ 29) = w2 at *
 clear hgen
 have hsz2' : g8 < w2.heap.size := by omega
 have hg8w : w.heap.size < g8 := by omega
 clear hg8
 refine (HA1.out _).mono ?_
 rintro e wz ⟨rfl, rfl⟩
 obtain ⟨B, hB⟩ : ∃ B, B = w2.heap.size := ⟨_, rfl⟩
 have hSn := hRn.top.below hb0
 have h48 : (0 + psn.length) * 48 ≤ 140737488355328 := by omega
 have h49 : 0 + psn.length ≤ maxLen := by unfold maxLen; omega
 go_wp2_with (at_builtin; refine append_own rfl _ _ 24 rfl 45 zeroRule 3 48 Tryd.underlying24 info_rule rfl w2 w2.heap.size none 0 0 [] rfl (Own.nil _ _ _ _) an psn.length cn (psn.flatMap rc) rfl hSn (one_flat rc_one psn) h48 h49 (Nat.le_refl _) (Below.refl _ _) ?_; intro a3 c3 w3 hO3 hg3 hb3; rw [Nat.zero_add, List.nil_append, ← hB] at hO3; refine hold ?_)
 refine hide ?_
 have hbw3 := hb0.trans (hb3.mono hb0.size)
 have hX4 := X0.under hb3
 have hX8 := X1.under hb3
 have hOL : OL w w3 45 5 B a3 c3 psn := ⟨hO3, fun p hp => ⟨.inl (hRn.row p hp).1, (hRn.row p hp).2⟩⟩
 have hB2 : w.heap.size < B ∧ g8 < B := by omega
 have hB3 : B ≤ w3.heap.size := by rw [hB]; exact hb3.size
 clear hO3 hg3 hb3 hSn X0 X1 hb0 hsz2 hsz2' hB hcnB h48 h49 hRn
 by_cases hn0 : psn.length = 0
 ·have d0 : ((psn.length : Int) == 0) = true := by rw [hn0]; rfl
  have hone : ∀ u ∈ ([.slice a0 n0 c0, .slice a1 n1 c1, .slice ad nd cd, .slice ac nc cc, .slice au nu cu, .slice af nf cf, .slice aw nw cw] : List Value), u.oneCell' = true := by simp [Value.oneCell']
  go_wp2_with (first
   | (with_reducible refine load_struct 26 29 _ 7 size_tables _ Tryd.underlying29 ⟨w.heap.size, 0, none⟩ rfl [.slice a0 n0 c0, .slice a1 n1 c1, .slice ad nd cd, .slice ac nc cc, .slice au nu cu, .slice af nf cf, .slice aw nw cw] rfl (fun j u hj => by rw [Addr.add_lit, Nat.zero_add]; exact hX4.at_ hj) ?_)
   | (with_reducible refine store_all 29 _ _ 29 g8 [.slice none 0 0, .slice none 0 0, .slice none 0 0, .slice none 0 0, .slice none 0 0, .slice none 0 0, .slice none 0 0] [.slice a0 n0 c0, .slice a1 n1 c1, .slice ad nd cd, .slice ac nc cc, .slice au nu cu, .slice af nf cf, .slice aw nw cw] _ (size7 _ _ _ _ _ _ _) hX8 rfl rfl rfl (Eq.refl 7) hone ?_; intro w12 hx12 hg12 hs12))
  have hbw12 := hbw3.grown hg12 hbw3.size (fun q hq => by cases hq; omega)
  have hT := HT.out.below hbw12
  refine bodyPost_ret (run_results_cell rfl rfl agg_tables (size7 _ _ _ _ _ _ _) hx12) rfl ⟨_, t, rfl, hT, ⟨HZ.out.mono (by omega), HQT.out⟩, hbw12⟩
 ·have d0 : ((psn.length : Int) == 0) = false := beq_eq_false_iff_ne.2 (by omega)
  have hpm := hlen
  go_wp2_with fail
  refine (around_ex psn.length (wrap64 (at_.tdiv 2)) (psn.length : Int) _ rfl (wrap_in _) (by omega) (by omega)).mono ?_
  rintro e wa ⟨i, hi, rfl, rfl⟩
  go_wp2_with fail
  refine (HA66.out _).mono ?_
  rintro e wa ⟨rfl, rfl⟩
  obtain ⟨bb, hbb⟩ : ∃ bb : UInt8, (r66 : Int) = (bb.toNat : Int) := ⟨UInt8.ofNat r66, by rw [UInt8.toNat_ofNat']; omega⟩
  rw [hbb]
  have hb256 : ((bb.toNat : Int) % 256) = (bb.toNat : Int) := by have := bb.toNat_lt; omega
  clear hbb
  go_wp2_with fail
  refine (HAh.out _).mono ?_
  rintro e wa ⟨rfl, rfl⟩
  clear HA1 HA66 HAh hb256
  go_upto_block 0 with fail
  go_cut [10, 13] from 37 to 172 (fun v u w' => RBu w 29 B w.heap.size g8 m v w')
  case first =>
   obtain ⟨y0, hy0⟩ : ∃ y, psn[i]? = some y := ⟨_, List.getElem?_eq_getElem hi⟩
   obtain ⟨g, ha3, hBg, hgl, k0, k1, k2⟩ := hOL.top.row3 hy0
   subst ha3
   obtain ⟨cur, _, hxg, hcl, hput⟩ := hOL.top.box
   have hxg : Box w3 g 45 cur := hxg
   have HPUT : Hid (∀ (w' : World) (i : Nat) (v : Value), i < psn.length * 3 → Box w' g 45 (cur.set i v) → Own w' B 45 3 (some ⟨g, 0, none⟩) psn.length c3 ((psn.flatMap rc).set i v)) := hide hput
   have hln0 : i * 3 < cur.length := by omega
   have hln1 : i * 3 + 1 < cur.length := by omega
   have hln2 : i * 3 + 2 < cur.length := by omega
   have hBw : w.heap.size ≤ B := by omega
   have hlm : psn.length ≤ m + 100 := by omega
   have HY0S := hide ((hOL.row y0 (List.mem_of_getElem? hy0)).2)
   have HY0 := hide hy0
   have i0 : decide ((i : Int) < (psn.length : Int)) = true := decide_eq_true (by omega)
   have i0' : decide (i < psn.length) = true := decide_eq_true hi
   clear hput hy0
   obtain rfl | rfl | rfl | rfl | rfl | rfl | rfl | rfl | rfl | rfl | rfl : rh = 0 ∨ rh = 1 ∨ rh = 2 ∨ rh = 3 ∨ rh = 4 ∨ rh = 5 ∨ rh = 6 ∨ rh = 7 ∨ rh = 8 ∨ rh = 9 ∨ rh = 10 := by omega
   ·clear k0 k1 k2
    have hOL1 := hOL
    have hX41 := hX4
    have hX81 := hX8
    have hbw1 := hbw3
    have hxg1 := hxg
    have HTX := HY0S
    go_wp2_with fail
    refine (around_ex 6 _ _ _ rfl HBY.out (by decide) (by decide)).mono ?_
    rintro e wa ⟨r, hr, rfl, rfl⟩
    go_wp2_with (with_reducible refine store_cell 3 _ _ 45 g (i * 3 + 1) cur (.int .i64 ((r : Int) - 1)) size_int hxg1 rfl rfl rfl rfl hln1 ?_; intro w8 hx8 hg8 hs8)
    go_meet
    exact rbu_put HT.out hOL1 (by decide) HY0.out HPUT.out (y := (⟨y0.1.text, (r : Int) - 1, y0.1.cells⟩, y0.2)) (j := 1) (by decide) rfl hx8 hg8 (.inr ⟨rfl, rfl⟩) (HTX.out) hX41 hB2.1 ⟨_, hX81, rfl⟩ hB2.2 hbw1 hBw HZ.out hlm HQT.out HQN.out (by have q9 := HQN.out y0 (List.mem_of_getElem? HY0.out); first | exact q9 | exact ⟨q9.1, q9.2.1, by show 1 ≤ 1000; decide⟩ | exact ⟨by show (-1000 : Int) ≤ (r : Int) - 1; omega, by show (r : Int) - 1 ≤ 1000; omega, q9.2.2⟩ | (refine ⟨q9.1, q9.2.1, ?_⟩; show (List.take _ _).length ≤ 1000; rw [List.length_take]; exact Nat.le_trans (Nat.min_le_right _ _) (by simp)))
   ·have hal := blo w3 (.cells #[.int .u8 (bb.toNat : Int)] 5)
    have hOL1 := hOL.below hal
    have hX41 := hX4.under hal
    have hX81 := hX8.under hal
    have hbw1 := hbw3.trans (hal.mono hbw3.size)
    have hxg1 := hxg.under hal
    have HTX := HY0S
    have hown := Own.built w3 B 5 1 1 #[.int .u8 (bb.toNat : Int)] hB3 rfl (by decide)
    go_wp2_with (with_reducible refine store_cell 23 _ _ 45 g (i * 3 + 2) cur (.slice (some ⟨w3.heap.size, 0, none⟩) 1 1) size_row hxg1 rfl rfl rfl rfl hln2 ?_; intro w8 hx8 hg8 hs8)
    go_meet
    exact rbu_put HT.out hOL1 (by decide) HY0.out HPUT.out (y := (⟨y0.1.text, y0.1.whr, [bb]⟩, (some ⟨w3.heap.size, 0, none⟩, 1, 1))) (j := 2) (by decide) rfl hx8 hg8 (.inl hown) (HTX.out) hX41 hB2.1 ⟨_, hX81, rfl⟩ hB2.2 hbw1 hBw HZ.out hlm HQT.out HQN.out (by have q9 := HQN.out y0 (List.mem_of_getElem? HY0.out); first | exact q9 | exact ⟨q9.1, q9.2.1, by show 1 ≤ 1000; decide⟩ | exact ⟨by show (-1000 : Int) ≤ (r : Int) - 1; omega, by show (r : Int) - 1 ≤ 1000; omega, q9.2.2⟩ | (refine ⟨q9.1, q9.2.1, ?_⟩; show (List.take _ _).length ≤ 1000; rw [List.length_take]; exact Nat.le_trans (Nat.min_le_right _ _) (by simp)))
   ·have hal := blo w3 (.cells #[.int .u8 (bb.toNat : Int), .int .u8 (bb.toNat : Int), .int .u8 1, .int .u8 2, .int .u8 3] 5)
    have hOL1 := hOL.below hal
    have hX41 := hX4.under hal
    have hX81 := hX8.under hal
    have hbw1 := hbw3.trans (hal.mono hbw3.size)
    have hxg1 := hxg.under hal
    have HTX := HY0S
    have hown := Own.built w3 B 5 1 5 #[.int .u8 (bb.toNat : Int), .int .u8 (bb.toNat : Int), .int .u8 1, .int .u8 2, .int .u8 3] hB3 rfl (by decide)
    go_wp2_with fail
    refine (around_ex 6 (wrap64 (by_.tdiv 66)) _ _ rfl (wrap_in _) (by decide) (by decide)).mono ?_
    rintro e wa ⟨r, hr, rfl, rfl⟩
    generalize w3.alloc (.cells _ _) = w4 at *
    have hown2 := hown.pre r (by omega)
    rw [Nat.mul_one] at hown2
    go_wp2_with (first
     | (with_reducible refine cut_hi_g 73 _ _ _ _ Tryd.underlying23 1 size_u8 (some ⟨w3.heap.size, 0, none⟩) 5 5 rfl .i64 r rfl (by omega) ?_)
     | (with_reducible refine store_cell 23 _ _ 45 g (i * 3 + 2) cur (.slice (some ⟨w3.heap.size, 0, none⟩) r 5) size_row hxg1 rfl rfl rfl rfl hln2 ?_; intro w8 hx8 hg8 hs8))
    go_meet
    exact rbu_put HT.out hOL1 (by decide) HY0.out HPUT.out (y := (⟨y0.1.text, y0.1.whr, [bb, bb, 1, 2, 3].take r⟩, (some ⟨w3.heap.size, 0, none⟩, r, 5))) (j := 2) (by decide) rfl hx8 hg8 (.inl (by rw [List.map_take]; exact hown2)) (HTX.out) hX41 hB2.1 ⟨_, hX81, rfl⟩ hB2.2 hbw1 hBw HZ.out hlm HQT.out HQN.out (by have q9 := HQN.out y0 (List.mem_of_getElem? HY0.out); first | exact q9 | exact ⟨q9.1, q9.2.1, by show 1 ≤ 1000; decide⟩ | exact ⟨by show (-1000 : Int) ≤ (r : Int) - 1; omega, by show (r : Int) - 1 ≤ 1000; omega, q9.2.2⟩ | (refine ⟨q9.1, q9.2.1, ?_⟩; show (List.take _ _).length ≤ 1000; rw [List.length_take]; exact Nat.le_trans (Nat.min_le_right _ _) (by simp)))
   ·have hal := blo w3 (.cells #[.string ⟨#[]⟩, .string ⟨#[65]⟩, .string ⟨#[55]⟩, .string ⟨#[97, 46]⟩, .string ⟨#[46, 46]⟩, .string ⟨#[97, 98, 99, 100, 101, 102, 103, 104]⟩, .string ⟨#[97, 98, 99, 100, 101, 102, 103, 104, 105]⟩, .string ⟨#[33]⟩, .string ⟨#[97]⟩] 9)
    have hOL1 := hOL.below hal
    have hX41 := hX4.under hal
    have hX81 := hX8.under hal
    have hbw1 := hbw3.trans (hal.mono hbw3.size)
    have hxg1 := hxg.under hal
    have hbs := Box.new w3 9 #[.string ⟨#[]⟩, .string ⟨#[65]⟩, .string ⟨#[55]⟩, .string ⟨#[97, 46]⟩, .string ⟨#[46, 46]⟩, .string ⟨#[97, 98, 99, 100, 101, 102, 103, 104]⟩, .string ⟨#[97, 98, 99, 100, 101, 102, 103, 104, 105]⟩, .string ⟨#[33]⟩, .string ⟨#[97]⟩]
    go_wp2_with fail
    refine (around_ex 9 _ _ _ rfl HBY.out (by decide) (by decide)).mono ?_
    rintro e wa ⟨r, hr, rfl, rfl⟩
    generalize w3.alloc (.cells _ _) = w4 at *
    obtain ⟨sx, hsx, hsl⟩ := text_at ([⟨#[]⟩, ⟨#[65]⟩, ⟨#[55]⟩, ⟨#[97, 46]⟩, ⟨#[46, 46]⟩, ⟨#[97, 98, 99, 100, 101, 102, 103, 104]⟩, ⟨#[97, 98, 99, 100, 101, 102, 103, 104, 105]⟩, ⟨#[33]⟩, ⟨#[97]⟩] : List ByteArray) (by decide) r (by simpa using hr)
    have HTX := hide hsl
    have hcs := hbs.at_ (j := r) (u := .string sx) (by simpa using hsx)
    clear hsx hsl
    go_wp2_with (with_reducible refine store_cell 9 _ _ 45 g (i * 3) cur (.string sx) size_str hxg1 rfl rfl rfl rfl hln0 ?_; intro w8 hx8 hg8 hs8)
    go_meet
    exact rbu_put HT.out hOL1 (by decide) HY0.out HPUT.out (y := (⟨sx, y0.1.whr, y0.1.cells⟩, y0.2)) (j := 0) (by decide) rfl hx8 hg8 (.inr ⟨rfl, rfl⟩) (HTX.out) hX41 hB2.1 ⟨_, hX81, rfl⟩ hB2.2 hbw1 hBw HZ.out hlm HQT.out HQN.out (by have q9 := HQN.out y0 (List.mem_of_getElem? HY0.out); first | exact q9 | exact ⟨q9.1, q9.2.1, by show 1 ≤ 1000; decide⟩ | exact ⟨by show (-1000 : Int) ≤ (r : Int) - 1; omega, by show (r : Int) - 1 ≤ 1000; omega, q9.2.2⟩ | (refine ⟨q9.1, q9.2.1, ?_⟩; show (List.take _ _).length ≤ 1000; rw [List.length_take]; exact Nat.le_trans (Nat.min_le_right _ _) (by simp)))
   ·have HI1 : Hid ((i : Int) + 1 = ((i + 1 : Nat) : Int)) := hide (by omega)
    have hic : i ≤ c3 := by have := hOL.top.sl.le; omega
    obtain ⟨aW, hAW, hSW⟩ := hOL.cut_lo (k := i + 1) hi
    have HAW := hide hAW
    have HSW := hide hSW
    have HKL : Hid ((psn.take i ++ psn.drop (i + 1)).length = i + (psn.length - (i + 1))) := hide (by rw [List.length_append, List.length_take, List.length_drop]; omega)
    clear hAW hSW
    have hpl : psn.length ≤ 10000 := by omega
    go_wp2_with fail
    refine wp_region_chain4 8 (fun w w' => w.grownBy w' (some g)) (GDel w3 B 45 3 g (i + (psn.length - (i + 1))) ((psn.take i ++ psn.drop (i + 1)).flatMap rc)) [⟨7, 96, [], fun _ _ => True⟩] [⟨0, 89, [89], fun vs _ => vs = [.slice (some ⟨g, 0, none⟩) psn.length c3]⟩, ⟨1, 90, [90], fun vs _ => vs = [.int .i64 (i : Int)]⟩, ⟨2, 91, [91], fun vs _ => vs = [.slice (some ⟨g, 0, none⟩) i c3]⟩, ⟨3, 92, [92], fun vs _ => vs = [.slice (some ⟨g, 0, none⟩) psn.length c3]⟩, ⟨4, 93, [93], fun vs _ => vs = [.int .i64 (i : Int)]⟩, ⟨5, 94, [94], fun vs _ => vs = [.int .i64 ((i : Int) + 1)]⟩, ⟨6, 95, [95], fun vs _ => vs = [.slice aW (psn.length - (i + 1)) (c3 - (i + 1))]⟩] (by kernel_rfl) (by kernel_rfl) ?_ (fun _ _ h => grown_of_below h _) GDel.mono ?_ ?_ ?_ ?_
    ·exact (Still.below 1 : Below w3.heap.size w3 (w3.drewN 1))
    ·simp only [All]
     refine ⟨(fun _ _ _ _ h => h), (fun _ _ _ _ h => h), (fun _ _ _ _ h => h), (fun _ _ _ _ h => h), (fun _ _ _ _ h => h), (fun _ _ _ _ h => h), (fun _ _ _ _ h => h), trivial⟩
    ·intro m c hc o ho a' w' hG hfr hdep
     rcases m with _ | m
     ·cases hc
      obtain rfl := oj ho
      have hb : Below w3.heap.size w3 w' := hG
      have g91 : a'.tmps[91]?.getD undef = .slice (some ⟨g, 0, none⟩) i c3 := by simpa using hdep 2 _ rfl (by kernel_rfl)
      have g95 : a'.tmps[95]?.getD undef = .slice aW (psn.length - (i + 1)) (c3 - (i + 1)) := by simpa using hdep 6 _ rfl (by kernel_rfl)
      clear hfr hdep hG
      have hO1 := (hOL.top.pre i (Nat.le_of_lt hi)).below hb
      rw [flat_take rc_len] at hO1
      refine append_own rfl _ _ 24 rfl 45 zeroRule 3 48 Tryd.underlying24 info_rule rfl w' B (some ⟨g, 0, none⟩) i c3 _ (by show a'.tmps.getD 91 undef = _; simpa using g91) hO1 aW (psn.length - (i + 1)) (c3 - (i + 1)) _ (by show a'.tmps.getD 95 undef = _; simpa using g95) (HSW.out.below hb) (one_flat rc_one _) (by omega) (by unfold maxLen; omega) (Nat.le_trans hB3 hb.size) (Below.refl _ _) ?_
      intro a9 c9 w9 ho9 hg9 hb9
      have hg39 := grown_trans (grown_of_below hb (some g)) hg9
      go_wp2
      exact ⟨rfl, _, rfl, hg9, ⟨a9, c9, rfl, ho9⟩, hg39⟩
     ·cases hc
    ·simp only [All]
     refine ⟨?_, ?_, ?_, ?_, ?_, ?_, ?_, trivial⟩
     ·intro o ho a' w' hfr hdep hst; obtain rfl := oj ho
      have g10 : a'.tmps[10]?.getD undef = .slice (some ⟨g, 0, none⟩) psn.length c3 := by simpa using hfr 10 (by kernel_rfl)
      clear ho hfr hdep hst; go_wp2_with fail; exact ⟨rfl, _, rfl, br, rfl⟩
     ·intro o ho a' w' hfr hdep hst; obtain rfl := oj ho
      have g11 : a'.tmps[11]?.getD undef = .int .i64 (i : Int) := by simpa using hfr 11 (by kernel_rfl)
      clear ho hfr hdep hst; go_wp2_with fail; exact ⟨rfl, _, rfl, br, rfl⟩
     ·intro o ho a' w' hfr hdep hst; obtain rfl := oj ho
      have g89 : a'.tmps[89]?.getD undef = .slice (some ⟨g, 0, none⟩) psn.length c3 := by simpa using hdep 0 _ rfl (by kernel_rfl)
      have g90 : a'.tmps[90]?.getD undef = .int .i64 (i : Int) := by simpa using hdep 1 _ rfl (by kernel_rfl)
      clear ho hfr hdep hst; refine cut_hi_g 91 _ _ _ _ Tryd.underlying24 3 size_rule (some ⟨g, 0, none⟩) psn.length c3 (by show a'.tmps.getD 89 undef = _; simpa using g89) .i64 i (by show a'.tmps.getD 90 undef = _; simpa using g90) hic ?_
      go_wp2_with fail; exact ⟨rfl, _, rfl, br, rfl⟩
     ·intro o ho a' w' hfr hdep hst; obtain rfl := oj ho
      have g10 : a'.tmps[10]?.getD undef = .slice (some ⟨g, 0, none⟩) psn.length c3 := by simpa using hfr 10 (by kernel_rfl)
      clear ho hfr hdep hst; go_wp2_with fail; exact ⟨rfl, _, rfl, br, rfl⟩
     ·intro o ho a' w' hfr hdep hst; obtain rfl := oj ho
      have g11 : a'.tmps[11]?.getD undef = .int .i64 (i : Int) := by simpa using hfr 11 (by kernel_rfl)
      clear ho hfr hdep hst; go_wp2_with fail; exact ⟨rfl, _, rfl, br, rfl⟩
     ·intro o ho a' w' hfr hdep hst; obtain rfl := oj ho
      have g93 : a'.tmps[93]?.getD undef = .int .i64 (i : Int) := by simpa using hdep 4 _ rfl (by kernel_rfl)
      clear ho hfr hdep hst; go_wp2_with fail; exact ⟨rfl, _, rfl, br, rfl⟩
     ·intro o ho a' w' hfr hdep hst; obtain rfl := oj ho
      have g92 : a'.tmps[92]?.getD undef = .slice (some ⟨g, 0, none⟩) psn.length c3 := by simpa using hdep 3 _ rfl (by kernel_rfl)
      have g94 : a'.tmps[94]?.getD undef = .int .i64 ((i : Int) + 1) := by simpa using hdep 5 _ rfl (by kernel_rfl)
      clear ho hfr hdep hst; refine cut_lo_g 95 _ _ _ _ Tryd.underlying24 3 size_rule (some ⟨g, 0, none⟩) psn.length c3 (by show a'.tmps.getD 92 undef = _; simpa using g92) .i64 (i + 1) (by show a'.tmps.getD 94 undef = .int .i64 ((i + 1 : Nat) : Int); rw [← HI1.out]; simpa using g94) hi ?_
      rw [HAW.out]
      go_wp2_with fail; exact ⟨rfl, _, rfl, br, rfl⟩
    ·intro gg w8 hG hp
     obtain ⟨⟨a7, c7, p96, ho7⟩, hg7⟩ := hG
     clear hp
     simp at p96
     rw [← HKL.out] at p96
     simp only [List.drop_succ_cons, List.drop_zero, List.map_cons, List.map_nil, putAll, Act.put, List.setIfInBounds_toArray, List.set_cons_succ, List.set_cons_zero, List.cons_append, List.nil_append, p96]
     have hO8 := hOL.sub (qs := psn.take i ++ psn.drop (i + 1)) (fun p hp => by rcases List.mem_append.1 hp with h | h; exact List.mem_of_mem_take h; exact List.mem_of_mem_drop h) HKL.out ho7 hg7 (by decide)
     have hX48 := hX4.grown hg7 (by simp; omega)
     have hX88 := hX8.grown hg7 (by simp; omega)
     have hb8 := hbw3.grown hg7 hbw3.size (fun q hq => by cases hq; omega)
     go_wp2_with fail
     go_meet
     exact RBu.rules HT.out hO8 hX48 ⟨_, hX88, rfl⟩ hb8 HZ.out (by rw [HKL.out]; omega) HQT.out (fun p hp => HQN.out p (by rcases List.mem_append.1 hp with h | h; exact List.mem_of_mem_take h; exact List.mem_of_mem_drop h))
   ·have HC : Hid (∀ (j : Nat) (u : Value), ([.string y0.1.text, .int .i64 y0.1.whr, .slice y0.2.1 y0.2.2.1 y0.2.2.2] : List Value)[j]? = some u → w3.cell? ⟨g, i * 3 + j, none⟩ = some u) := hide (by
     intro j u hj
     rcases j with _ | _ | _ | j
     ·cases hj; exact k0
     ·cases hj; exact k1
     ·cases hj; exact k2
     ·cases hj)
    have h48 : (psn.length + 1) * 48 ≤ 140737488355328 := by omega
    have h49 : psn.length + 1 ≤ maxLen := by unfold maxLen; omega
    have hrow := hOL.row y0 (List.mem_of_getElem? HY0.out)
    have HROW := hide hrow
    clear hrow
    go_wp2_with (first
     | (with_reducible refine load_struct 103 45 _ 3 size_rule _ Tryd.underlying45 ⟨g, i * 3, none⟩ rfl [.string y0.1.text, .int .i64 y0.1.whr, .slice y0.2.1 y0.2.2.1 y0.2.2.2] rfl (fun j u hj => by rw [Addr.add_lit]; exact HC.out j u hj) ?_)
     | (at_builtin; refine append_lit rfl _ _ 24 rfl 45 zeroRule 3 48 Tryd.underlying24 info_rule rfl w3 B (some ⟨g, 0, none⟩) psn.length c3 _ rfl hOL.top 1 [.string y0.1.text, .int .i64 y0.1.whr, .slice y0.2.1 y0.2.2.1 y0.2.2.2] rfl rfl (rc_one y0) h48 h49 hB3 (Below.refl _ _) ?_; intro a9 c9 w9 ho9 hg9 hb9))
    have hO8 := hOL.push (p := y0) HROW.out.1 HROW.out.2 ho9 hg9 (by decide)
    have hg9 : w3.grownBy w9 (some g) := hg9
    have hX48 := hX4.grown hg9 (by simp; omega)
    have hX88 := hX8.grown hg9 (by simp; omega)
    have hb8 := hbw3.grown hg9 hbw3.size (fun q hq => by cases hq; omega)
    go_meet
    have hfin : RBu w 29 B w.heap.size g8 m (.slice a9 (psn ++ [y0]).length c9) w9 := RBu.rules HT.out hO8 hX48 ⟨_, hX88, rfl⟩ hb8 HZ.out (by rw [List.length_append]; show psn.length + 1 ≤ _; omega) HQT.out (fun p hp => HQN.out p (by rcases List.mem_append.1 hp with h | h; exact h; rw [List.mem_singleton] at h; rw [h]; exact List.mem_of_getElem? HY0.out))
    rw [List.length_append] at hfin
    exact hfin
   ·clear k0 k1 k2
    have hpl : psn.length ≤ 10000 := by omega
    have HOL := hide hOL
    clear hOL
    go_wp2_with fail
    go_loopg [10, 13] 97 (fun gh l v w' => ∃ (k c : Nat) (a : Option Addr) (ps : List RH), k ≤ 97 ∧ gh = 97 - k ∧ l = .slice a ps.length c ∧ v = .int .i64 (k : Int) ∧ Hid (ps.length = psn.length + k ∧ ∀ p ∈ ps, RuA p.1) ∧ OL w w' 45 5 B a c ps ∧ Below B w3 w')
    case atStart => exact ⟨0, _, _, psn, by omega, by omega, rfl, rfl, hide ⟨rfl, HQN.out⟩, HOL.out, Below.refl _ _⟩
    case round =>
     obtain ⟨k, c, a, ps, hk, hgk, rfl, rfl, HL, hO, hb⟩ := hrel
     have HGK := hide hgk
     have HL2 := HL.out.2
     have HLQ := hide HL2
     replace HL := hide HL.out.1
     clear HL2
     have hlk := HL.out
     have hpl2 : ps.length ≤ 10097 := by omega
     clear hgk hlk
     by_cases hkl : k < 97
     ·have d1 : decide ((k : Int) < 97) = true := decide_eq_true (by omega)
      obtain ⟨u1, hu1⟩ : ∃ u1 : UInt8, 97 + (k : Int) % 26 = (u1.toNat : Int) := ⟨UInt8.ofNat (97 + k % 26), by rw [UInt8.toNat_ofNat']; omega⟩
      obtain ⟨u2, hu2⟩ : ∃ u2 : UInt8, 97 + (k : Int) / 26 = (u2.toNat : Int) := ⟨UInt8.ofNat (97 + k / 26), by rw [UInt8.toNat_ofNat']; omega⟩
      have HU1 := hide hu1
      have HU2 := hide hu2
      have hsz := hb.size
      have hBr : B ≤ wr.heap.size := Nat.le_trans hB3 hsz
      clear hu1 hu2 hsz
      have ho3 := Own.built wr B 5 1 3 #[.int .u8 (97 + (k : Int) % 26), .int .u8 (97 + (k : Int) / 26), .int .u8 113] hBr rfl (by decide)
      have hs3 := ho3.sl
      have h3e : (#[.int .u8 (97 + (k : Int) % 26), .int .u8 (97 + (k : Int) / 26), .int .u8 113] : Array Value).toList = ([u1, u2, 113] : List UInt8).map B8 := by rw [HU1.out, HU2.out]; rfl
      rw [h3e] at hs3
      have hal := blo wr (.cells #[.int .u8 (97 + (k : Int) % 26), .int .u8 (97 + (k : Int) / 26), .int .u8 113] 5)
      clear ho3 h3e
      go_wp2_with (with_reducible refine to_str 122 _ (some ⟨wr.heap.size, 0, none⟩) 3 3 [u1, u2, 113] rfl hs3 ?_; refine hold ?_)
      refine hide ?_
      generalize wr.alloc (.cells _ 5) = w4 at *
      have hO4 := hO.below hal
      have hb4 := hb.trans (hal.mono hBr)
      have hB4 := Nat.le_trans hBr hal.size
      clear hO hb hal hBr
      have ho7 := Own.built w4 B 5 1 1 #[.int .u8 7] hB4 rfl (by decide)
      have e7 : (w4.alloc (.cells #[.int .u8 7] 5)).heap.size = w4.heap.size + 1 := by simp
      have hfr := Sl.fresh (w4.alloc (.cells #[.int .u8 7] 5)) 45 3 1 (rc ((⟨⟨#[u1, u2, 113]⟩, 0, [7]⟩ : Ru), (some ⟨w4.heap.size, 0, none⟩, 1, 1))) rfl (by decide)
      rw [e7] at hfr
      have hb6 : Below w4.heap.size w4 ((w4.alloc (.cells #[.int .u8 7] 5)).alloc (.cells (rc ((⟨⟨#[u1, u2, 113]⟩, 0, [7]⟩ : Ru), (some ⟨w4.heap.size, 0, none⟩, 1, 1))).toArray 45)) := (blo _ _).trans ((blo _ _).mono (by simp))
      have hO6 := hO4.below hb6
      have ho76 := ho7.alloc (.cells (rc ((⟨⟨#[u1, u2, 113]⟩, 0, [7]⟩ : Ru), (some ⟨w4.heap.size, 0, none⟩, 1, 1))).toArray 45)
      have hB6 := Nat.le_trans hB4 hb6.size
      have hb36 := hb4.trans (hb6.mono hB4)
      have h48 : (ps.length + 1) * 48 ≤ 140737488355328 := by omega
      have h49 : ps.length + 1 ≤ maxLen := by unfold maxLen; omega
      have HF := hide hfr
      have HE7 := hide e7
      clear hb4 hO4 hb6 e7 hfr ho7
      go_wp2_with (at_builtin; refine append_own rfl _ _ 24 rfl 45 zeroRule 3 48 Tryd.underlying24 info_rule rfl w3 B a ps.length c _ rfl hO6.top (some ⟨w4.heap.size + 1, 0, none⟩) 1 1 (rc ((⟨⟨#[u1, u2, 113]⟩, 0, [7]⟩ : Ru), (some ⟨w4.heap.size, 0, none⟩, 1, 1))) rfl HF.out (rc_one _) h48 h49 hB6 hb36 ?_; intro a9 c9 w9 ho9 hg9 hb9)
      have hO9 := hO6.push (p := ((⟨⟨#[u1, u2, 113]⟩, 0, [7]⟩ : Ru), (some ⟨w4.heap.size, 0, none⟩, 1, 1))) (.inr ho76) (show (3 : Nat) ≤ 1000 by decide) ho9 hg9 (by decide)
      go_roundg (97 - (k + 1))
      case measure => have := HGK.out; omega
      case rel => exact ⟨k + 1, c9, a9, ps ++ [((⟨⟨#[u1, u2, 113]⟩, 0, [7]⟩ : Ru), (some ⟨w4.heap.size, 0, none⟩, 1, 1))], by omega, rfl, by rw [List.length_append]; rfl, by go_num, hide ⟨by rw [List.length_append, HL.out]; show _ + 1 = _; omega, fun p hp => by rcases List.mem_append.1 hp with h | h; exact HLQ.out p h; rw [List.mem_singleton] at h; subst h; exact ⟨by show (-1000 : Int) ≤ 0; decide, by show (0 : Int) ≤ 1000; decide, by show 1 ≤ 1000; decide⟩⟩, hO9, hb9⟩
     ·obtain rfl : k = 97 := by omega
      have d1 : decide (((97 : Nat) : Int) < 97) = false := by decide
      go_wp2_with fail
      refine (around_ex 4 _ _ _ rfl HBY.out (by decide) (by decide)).mono ?_
      rintro e wa ⟨r, hr, rfl, rfl⟩
      have hcap := hO.top.sl.le
      have hlq : ps.length ≤ psn.length + 97 := by rw [HL.out]; exact Nat.le_refl _
      have hX48 := hX4.below hb hB2.1
      have hX88 := hX8.below hb hB2.2
      have hb8 := hbw3.trans (hb.mono hBw)
      clear hb
      by_cases hc : ps.length ≤ 95 + r
      ·go_wp2_with fail
       go_meet
       exact RBu.rules HT.out hO hX48 ⟨_, hX88, rfl⟩ hb8 HZ.out (by omega) HQT.out HLQ.out
      ·have hO2 := hO.take (95 + r) (by omega)
       go_wp2_with fail
       go_meet
       have hfin : RBu w 29 B w.heap.size g8 m (.slice a (ps.take (95 + r)).length c) wr := RBu.rules HT.out hO2 hX48 ⟨_, hX88, rfl⟩ hb8 HZ.out (by rw [List.length_take]; omega) HQT.out (fun p hp => HLQ.out p (List.mem_of_mem_take hp))
       rw [List.length_take, Nat.min_eq_left (by omega)] at hfin
       exact hfin
   ·clear k0 k1 k2
    have hnd : nd = t.dig.length := HT.out.d.n_eq
    have hd1 := HZ.out.1
    have hnd1 : 1 ≤ nd ∧ nd ≤ 1000 := by omega
    have HND := hide hnd
    have hal := blo w3 (.cells #[] 5)
    have hown : Own (w3.alloc (.cells #[] 5)) w3.heap.size 5 1 (some ⟨w3.heap.size, 0, none⟩) 0 0 [] := own_empty8 (Box.new w3 5 #[]) (Nat.le_refl w3.heap.size)
    have hD4 : Sl (w3.alloc (.cells #[] 5)) 1 ad nd cd (t.dig.map B8) := (HT.out.d.below hbw3).below hal
    have hX44 := hX4.under hal
    have hcl : (w3.alloc (.cells #[] 5)).cell? ⟨w.heap.size, 2, none⟩ = some (.slice ad nd cd) := hX44.at_ rfl
    have h48 : (0 + nd) * 1 ≤ 140737488355328 := by omega
    have h49 : 0 + nd ≤ maxLen := by unfold maxLen; omega
    have hsz4 := hal.size
    clear hnd hd1 hX44
    go_wp2_with (at_builtin; refine append_own rfl _ _ 23 rfl 5 (.int .u8 0) 1 1 Tryd.underlying23 info_u8 rfl (w3.alloc (.cells #[] 5)) w3.heap.size (some ⟨w3.heap.size, 0, none⟩) 0 0 [] rfl hown ad nd cd (t.dig.map B8) rfl hD4 (one_map _ (fun _ => rfl) _) h48 h49 hsz4 (Below.refl _ _) ?_; intro aD cD w5 ho5 hg5 hb5; refine hold ?_)
    refine hide ?_
    rw [Nat.zero_add, List.nil_append] at ho5
    have hb35 := hal.trans hb5
    obtain ⟨gD, rfl, hgD, _⟩ := own_some ho5 (by omega)
    have hX45 := hX4.under hb35
    have hlx : 2 < ([.slice a0 n0 c0, .slice a1 n1 c1, .slice ad nd cd, .slice ac nc cc, .slice au nu cu, .slice af nf cf, .slice aw nw cw] : List Value).length := by simp
    have hly : 2 < ([.slice a0 n0 c0, .slice a1 n1 c1, .slice (some ⟨gD, 0, none⟩) nd cD, .slice ac nc cc, .slice au nu cu, .slice af nf cf, .slice aw nw cw] : List Value).length := by simp
    clear hal hown hD4 hcl h48 h49 hsz4 hg5 hb5
    go_wp2_with (with_reducible refine store_cell 23 _ _ 29 w.heap.size 2 [.slice a0 n0 c0, .slice a1 n1 c1, .slice ad nd cd, .slice ac nc cc, .slice au nu cu, .slice af nf cf, .slice aw nw cw] (.slice (some ⟨gD, 0, none⟩) nd cD) size_row hX45 rfl rfl rfl rfl hlx ?_; intro w6 hx6 hg6 hs6)
    have hx6 : Box w6 w.heap.size 29 [.slice a0 n0 c0, .slice a1 n1 c1, .slice (some ⟨gD, 0, none⟩) nd cD, .slice ac nc cc, .slice au nu cu, .slice af nf cf, .slice aw nw cw] := hx6
    have hg36 := grown_trans (grown_of_below hb35 (some w.heap.size)) hg6
    have ho6 := ho5.kept hg6 (fun p hp => by cases hp; simp; omega)
    have h36 := hg36.size
    have hgDl := ho6.base.2
    have hgDl : gD < w6.heap.size := hgDl
    have hqc0 := ho6.sl.le
    obtain ⟨rk, hrk, hAk⟩ := around_any (wrap64 (by_.tdiv 66)) 11 11 w rfl (wrap_in _).1 (wrap_in _).2 (by decide) (by decide)
    have HAK := hide hAk
    obtain ⟨q, hq⟩ : ∃ q, q = rk % nd := ⟨_, rfl⟩
    have hqn : q < nd := by rw [hq]; exact Nat.mod_lt _ (by omega)
    have hqc : q ≤ cD := by omega
    have HQ1 : Hid ((rk : Int) % (nd : Int) = (q : Int)) := hide (by rw [hq]; omega)
    have HQ2 : Hid ((rk : Int).tmod (nd : Int) = (q : Int)) := hide (by rw [Int.tmod_eq_emod_of_nonneg (by omega)]; exact HQ1.out)
    have HNZ : Hid (((nd : Int) == 0) = false) := hide (beq_eq_false_iff_ne.2 (by omega))
    have HC2 : Hid (([.slice a0 n0 c0, .slice a1 n1 c1, .slice (some ⟨gD, 0, none⟩) nd cD, .slice ac nc cc, .slice au nu cu, .slice af nf cf, .slice aw nw cw] : List Value)[2]? = some (.slice (some ⟨gD, 0, none⟩) nd cD)) := hide rfl
    have HG6 : Hid (w.heap.size < w6.heap.size) := hide (by omega)
    have hgDne : w.heap.size ≠ gD := by omega
    clear hAk hq hX45 hb35 ho5 hs6
    refine wp_region_chain4 14 (fun w w' => w.grownBy w' (some gD)) (GDel w6 w3.heap.size 5 1 gD (q + 1) ((t.dig.map B8).take q ++ [.int .u8 (bb.toNat : Int)])) [⟨12, 154, [], fun _ _ => True⟩] [⟨0, 142, [142], fun vs _ => vs = [.pointer (some ⟨w.heap.size, 2, none⟩)]⟩, ⟨1, 143, [143], fun vs _ => vs = [.slice (some ⟨gD, 0, none⟩) nd cD]⟩, ⟨2, 144, [144], fun vs _ => vs = [.int .i64 by_]⟩, ⟨3, 145, [145], fun vs _ => vs = [.int .i64 (wrap64 (by_.tdiv 66))]⟩, ⟨4, 146, [146], fun vs _ => vs = [.int .i64 (rk : Int)]⟩, ⟨5, 147, [147], fun vs _ => vs = [.pointer (some ⟨w.heap.size, 2, none⟩)]⟩, ⟨6, 148, [148], fun vs _ => vs = [.slice (some ⟨gD, 0, none⟩) nd cD]⟩, ⟨7, 149, [149], fun vs _ => vs = [.int .i64 (nd : Int)]⟩, ⟨8, 150, [150], fun vs _ => vs = [.int .i64 (q : Int)]⟩, ⟨9, 151, [151], fun vs _ => vs = [.slice (some ⟨gD, 0, none⟩) q cD]⟩, ⟨10, 152, [152], fun vs _ => vs = [.int .u8 (bb.toNat : Int)]⟩, ⟨11, 153, [153], fun vs w' => ∃ b, vs = [.slice (some ⟨b, 0, none⟩) 1 1] ∧ gD < b ∧ Sl w' 1 (some ⟨b, 0, none⟩) 1 1 [.int .u8 (bb.toNat : Int)]⟩, ⟨13, 155, [155], fun vs _ => vs = [.pointer (some ⟨w.heap.size, 2, none⟩)]⟩] (by kernel_rfl) (by kernel_rfl) ?_ (fun _ _ h => grown_of_below h _) GDel.mono ?_ ?_ ?_ ?_
    ·exact (Still.below 1 : Below w6.heap.size w6 (w6.drewN 1))
    ·simp only [All]
     refine ⟨(fun _ _ _ _ h => h), (fun _ _ _ _ h => h), (fun _ _ _ _ h => h), (fun _ _ _ _ h => h), (fun _ _ _ _ h => h), (fun _ _ _ _ h => h), (fun _ _ _ _ h => h), (fun _ _ _ _ h => h), (fun _ _ _ _ h => h), (fun _ _ _ _ h => h), (fun _ _ _ _ h => h), (fun vs w1 w2 hr ⟨b, h1, h0, h2⟩ => ⟨b, h1, h0, h2.grown hr (fun q hq => by cases hq; simp; omega)⟩), (fun _ _ _ _ h => h), trivial⟩
    ·intro m c hc o ho a' w' hG hfr hdep
     rcases m with _ | m
     ·cases hc
      obtain rfl := oj ho
      have hb : Below w6.heap.size w6 w' := hG
      have g151 : a'.tmps[151]?.getD undef = .slice (some ⟨gD, 0, none⟩) q cD := by simpa using hdep 9 _ rfl (by kernel_rfl)
      obtain ⟨b2, g153, hb2, hs2⟩ := hdep 11 _ rfl (by kernel_rfl)
      simp at g153
      clear hfr hdep hG
      have hO1 := (ho6.pre q (Nat.le_of_lt hqn)).below hb
      rw [Nat.mul_one] at hO1
      refine append_own rfl _ _ 23 rfl 5 (.int .u8 0) 1 1 Tryd.underlying23 info_u8 rfl w' w3.heap.size (some ⟨gD, 0, none⟩) q cD _ (by show a'.tmps.getD 151 undef = _; simpa using g151) hO1 (some ⟨b2, 0, none⟩) 1 1 [.int .u8 (bb.toNat : Int)] (by show a'.tmps.getD 153 undef = _; simpa using g153) hs2 (by simp [Value.oneCell']) (by omega) (by unfold maxLen; omega) (Nat.le_trans h36 hb.size) (Below.refl _ _) ?_
      intro a9 c9 w9 ho9 hg9 hb9
      have hg69 := grown_trans (grown_of_below hb (some gD)) hg9
      go_wp2
      exact ⟨rfl, _, rfl, hg9, ⟨a9, c9, rfl, ho9⟩, hg69⟩
     ·cases hc
    ·simp only [All]
     refine ⟨?_, ?_, ?_, ?_, ?_, ?_, ?_, ?_, ?_, ?_, ?_, ?_, ?_, trivial⟩
     ·intro o ho a' w' hfr hdep hst; obtain rfl := oj ho
      have g4 : a'.tmps[4]?.getD undef = .pointer (some ⟨w.heap.size, 0, none⟩) := by simpa using hfr 4 (by kernel_rfl)
      clear ho hfr hdep hst; go_wp2_with fail; exact ⟨rfl, _, rfl, br, rfl⟩
     ·intro o ho a' w' hfr hdep hst; obtain rfl := oj ho
      have g142 : a'.tmps[142]?.getD undef = .pointer (some ⟨w.heap.size, 2, none⟩) := by simpa using hdep 0 _ rfl (by kernel_rfl)
      obtain ⟨j, _, _, hG⟩ := hst
      clear ho hfr hdep; have hcl := (hG.box2 hx6 hgDne).at_ HC2.out
      clear hG
      go_wp2_with fail; exact ⟨rfl, _, rfl, br, rfl⟩
     ·intro o ho a' w' hfr hdep hst; obtain rfl := oj ho
      have g3 : a'.tmps[3]?.getD undef = .int .i64 by_ := by simpa using hfr 3 (by kernel_rfl)
      clear ho hfr hdep hst; go_wp2_with fail; exact ⟨rfl, _, rfl, br, rfl⟩
     ·intro o ho a' w' hfr hdep hst; obtain rfl := oj ho
      have g144 : a'.tmps[144]?.getD undef = .int .i64 by_ := by simpa using hdep 2 _ rfl (by kernel_rfl)
      clear ho hfr hdep hst; go_wp2_with fail; exact ⟨rfl, _, rfl, br, rfl⟩
     ·intro o ho a' w' hfr hdep hst; obtain rfl := oj ho
      have g145 : a'.tmps[145]?.getD undef = .int .i64 (wrap64 (by_.tdiv 66)) := by simpa using hdep 3 _ rfl (by kernel_rfl)
      clear ho hfr hdep hst; go_wp2_with fail
      refine (HAK.out _).mono ?_
      rintro e w2 ⟨rfl, rfl⟩
      go_wp2_with fail; exact ⟨rfl, _, rfl, br, rfl⟩
     ·intro o ho a' w' hfr hdep hst; obtain rfl := oj ho
      have g4 : a'.tmps[4]?.getD undef = .pointer (some ⟨w.heap.size, 0, none⟩) := by simpa using hfr 4 (by kernel_rfl)
      clear ho hfr hdep hst; go_wp2_with fail; exact ⟨rfl, _, rfl, br, rfl⟩
     ·intro o ho a' w' hfr hdep hst; obtain rfl := oj ho
      have g147 : a'.tmps[147]?.getD undef = .pointer (some ⟨w.heap.size, 2, none⟩) := by simpa using hdep 5 _ rfl (by kernel_rfl)
      obtain ⟨j, _, _, hG⟩ := hst
      clear ho hfr hdep; have hcl := (hG.box2 hx6 hgDne).at_ HC2.out
      clear hG
      go_wp2_with fail; exact ⟨rfl, _, rfl, br, rfl⟩
     ·intro o ho a' w' hfr hdep hst; obtain rfl := oj ho
      have g148 : a'.tmps[148]?.getD undef = .slice (some ⟨gD, 0, none⟩) nd cD := by simpa using hdep 6 _ rfl (by kernel_rfl)
      clear ho hfr hdep hst; go_wp2_with fail; exact ⟨rfl, _, rfl, br, rfl⟩
     ·intro o ho a' w' hfr hdep hst; obtain rfl := oj ho
      have g146 : a'.tmps[146]?.getD undef = .int .i64 (rk : Int) := by simpa using hdep 4 _ rfl (by kernel_rfl)
      have g149 : a'.tmps[149]?.getD undef = .int .i64 (nd : Int) := by simpa using hdep 7 _ rfl (by kernel_rfl)
      clear ho hfr hdep hst; have hq1 := HQ1.out
      have hq2 := HQ2.out
      have hnz : ((nd : Int) == 0) = false := HNZ.out
      go_wp2_with fail; exact ⟨rfl, _, rfl, br, rfl⟩
     ·intro o ho a' w' hfr hdep hst; obtain rfl := oj ho
      have g143 : a'.tmps[143]?.getD undef = .slice (some ⟨gD, 0, none⟩) nd cD := by simpa using hdep 1 _ rfl (by kernel_rfl)
      have g150 : a'.tmps[150]?.getD undef = .int .i64 (q : Int) := by simpa using hdep 8 _ rfl (by kernel_rfl)
      clear ho hfr hdep hst; refine cut_hi_g 151 _ _ _ _ Tryd.underlying23 1 size_u8 (some ⟨gD, 0, none⟩) nd cD (by show a'.tmps.getD 143 undef = _; simpa using g143) .i64 q (by show a'.tmps.getD 150 undef = _; simpa using g150) hqc ?_
      go_wp2_with fail; exact ⟨rfl, _, rfl, br, rfl⟩
     ·intro o ho a' w' hfr hdep hst; obtain rfl := oj ho
      have g12 : a'.tmps[12]?.getD undef = .int .u8 (bb.toNat : Int) := by simpa using hfr 12 (by kernel_rfl)
      clear ho hfr hdep hst; go_wp2_with fail; exact ⟨rfl, _, rfl, br, rfl⟩
     ·intro o ho a' w' hfr hdep hst; obtain rfl := oj ho
      have g152 : a'.tmps[152]?.getD undef = .int .u8 (bb.toNat : Int) := by simpa using hdep 10 _ rfl (by kernel_rfl)
      obtain ⟨j, _, _, hG⟩ := hst
      clear ho hfr hdep; have hsz := hG.size6
      clear hG
      go_wp2_with fail
      exact ⟨rfl, _, rfl, blo _ _, _, rfl, by omega, Sl.fresh _ _ 1 1 [.int .u8 (bb.toNat : Int)] rfl (by decide)⟩
     ·intro o ho a' w' hfr hdep hst; obtain rfl := oj ho
      have g4 : a'.tmps[4]?.getD undef = .pointer (some ⟨w.heap.size, 0, none⟩) := by simpa using hfr 4 (by kernel_rfl)
      clear ho hfr hdep hst; go_wp2_with fail; exact ⟨rfl, _, rfl, br, rfl⟩
    ·intro gg w7 hG hp
     obtain ⟨⟨a7, c7, p154, ho7⟩, hg67⟩ := hG
     have p155 := hp 12 _ rfl
     clear hp
     simp at p154 p155
     simp only [List.drop_succ_cons, List.drop_zero, List.map_cons, List.map_nil, putAll, Act.put, List.setIfInBounds_toArray, List.set_cons_succ, List.set_cons_zero, List.cons_append, List.nil_append, p154, p155]
     have hx7 := hx6.grown hg67 (by simp; omega)
     have hg37 := grown_high hg36 hg67 hgD
     clear hg67 hg36 hx6 hg6
     go_wp2_with (with_reducible refine store_cell 23 _ _ 29 w.heap.size 2 [.slice a0 n0 c0, .slice a1 n1 c1, .slice (some ⟨gD, 0, none⟩) nd cD, .slice ac nc cc, .slice au nu cu, .slice af nf cf, .slice aw nw cw] (.slice a7 (q + 1) c7) size_row hx7 rfl rfl rfl rfl hly ?_; intro w8 hx8 hg8 hs8)
     have hu8 := (ho7.mono hB3).kept hg8 (fun p hp => by subst hp; have := ho7.base.1; simp; omega)
     go_meet
     exact rbu_cell (cs := t.dig.take q ++ [bb]) HT.out hOL (by rw [List.map_append, List.map_take]; exact hu8) (grown_trans hg37 hg8) hB2.1 (fun w'' h1 h2 => ta_dig h1 h2) hx8 ⟨_, hX8, rfl⟩ (by omega) hbw3 (Nat.le_refl _) ⟨⟨by show 1 ≤ (t.dig.take q ++ [bb]).length; rw [List.length_append]; exact Nat.le_add_left _ _, by show (t.dig.take q ++ [bb]).length ≤ 1000; rw [List.length_append, List.length_take]; have := HND.out; show _ + 1 ≤ _; omega⟩, HZ.out.2⟩ hlm (by have q9 := HQT.out; exact ⟨q9.1, q9.2.1, by first | exact q9.2.2.1 | (show (List.take _ _).length ≤ 1000; rw [List.length_take]; exact Nat.le_trans (Nat.min_le_right _ _) (by simp)), q9.2.2.2.1, q9.2.2.2.2.1, by first | exact q9.2.2.2.2.2 | (show (List.take _ _).length ≤ 1000; rw [List.length_take]; exact Nat.le_trans (Nat.min_le_right _ _) (by simp))⟩) HQN.out
   ·have hal := blo w3 (.cells #[.int .u8 (bb.toNat : Int), .int .u8 (bb.toNat : Int)] 5)
    have hOL1 := hOL.below hal
    have hX41 := hX4.under hal
    have hX81 := hX8.under hal
    have hbw1 := hbw3.trans (hal.mono hbw3.size)
    have hxg1 := hxg.under hal
    have hown := Own.built w3 B 5 1 2 #[.int .u8 (bb.toNat : Int), .int .u8 (bb.toNat : Int)] hB3 rfl (by decide)
    go_wp2_with fail
    refine (around_ex 3 (wrap64 (by_.tdiv 66)) _ _ rfl (wrap_in _) (by decide) (by decide)).mono ?_
    rintro e wa ⟨r, hr, rfl, rfl⟩
    generalize w3.alloc (.cells _ _) = w4 at *
    have hown2 := hown.pre r (by omega)
    rw [Nat.mul_one] at hown2
    have hlx : 3 < ([.slice a0 n0 c0, .slice a1 n1 c1, .slice ad nd cd, .slice ac nc cc, .slice au nu cu, .slice af nf cf, .slice aw nw cw] : List Value).length := by simp
    go_wp2_with (first
     | (with_reducible refine cut_hi_g 164 _ _ _ _ Tryd.underlying23 1 size_u8 (some ⟨w3.heap.size, 0, none⟩) 2 2 rfl .i64 r rfl (by omega) ?_)
     | (with_reducible refine store_cell 23 _ _ 29 w.heap.size 3 [.slice a0 n0 c0, .slice a1 n1 c1, .slice ad nd cd, .slice ac nc cc, .slice au nu cu, .slice af nf cf, .slice aw nw cw] (.slice (some ⟨w3.heap.size, 0, none⟩) r 2) size_row hX41 rfl rfl rfl rfl hlx ?_; intro w8 hx8 hg8 hs8))
    go_meet
    have hown3 := hown2.kept hg8 (fun p hp => by cases hp; simp; omega)
    exact rbu_cell (cs := [bb, bb].take r) HT.out hOL1 (by rw [List.map_take]; exact hown3) hg8 hB2.1 (fun w'' h1 h2 => ta_cap h1 h2) hx8 ⟨_, hX81, rfl⟩ (by omega) hbw1 (Nat.le_refl _) HZ.out hlm (by have q9 := HQT.out; exact ⟨q9.1, q9.2.1, by first | exact q9.2.2.1 | (show (List.take _ _).length ≤ 1000; rw [List.length_take]; exact Nat.le_trans (Nat.min_le_right _ _) (by simp)), q9.2.2.2.1, q9.2.2.2.2.1, by first | exact q9.2.2.2.2.2 | (show (List.take _ _).length ≤ 1000; rw [List.length_take]; exact Nat.le_trans (Nat.min_le_right _ _) (by simp))⟩) HQN.out
   ·have hal := blo w3 (.cells #[.int .u8 1, .int .u8 2, .int .u8 3, .int .u8 4, .int .u8 5] 5)
    have hOL1 := hOL.below hal
    have hX41 := hX4.under hal
    have hX81 := hX8.under hal
    have hbw1 := hbw3.trans (hal.mono hbw3.size)
    have hxg1 := hxg.under hal
    have hown := Own.built w3 B 5 1 5 #[.int .u8 1, .int .u8 2, .int .u8 3, .int .u8 4, .int .u8 5] hB3 rfl (by decide)
    go_wp2_with fail
    refine (around_ex 6 _ _ _ rfl HBY.out (by decide) (by decide)).mono ?_
    rintro e wa ⟨r, hr, rfl, rfl⟩
    generalize w3.alloc (.cells _ _) = w4 at *
    have hown2 := hown.pre r (by omega)
    rw [Nat.mul_one] at hown2
    have hlx : 6 < ([.slice a0 n0 c0, .slice a1 n1 c1, .slice ad nd cd, .slice ac nc cc, .slice au nu cu, .slice af nf cf, .slice aw nw cw] : List Value).length := by simp
    go_wp2_with (first
     | (with_reducible refine cut_hi_g 171 _ _ _ _ Tryd.underlying23 1 size_u8 (some ⟨w3.heap.size, 0, none⟩) 5 5 rfl .i64 r rfl (by omega) ?_)
     | (with_reducible refine store_cell 23 _ _ 29 w.heap.size 6 [.slice a0 n0 c0, .slice a1 n1 c1, .slice ad nd cd, .slice ac nc cc, .slice au nu cu, .slice af nf cf, .slice aw nw cw] (.slice (some ⟨w3.heap.size, 0, none⟩) r 5) size_row hX41 rfl rfl rfl rfl hlx ?_; intro w8 hx8 hg8 hs8))
    go_meet
    have hown3 := hown2.kept hg8 (fun p hp => by cases hp; simp; omega)
    exact rbu_cell (cs := [1, 2, 3, 4, 5].take r) HT.out hOL1 (by rw [List.map_take]; exact hown3) hg8 hB2.1 (fun w'' h1 h2 => ta_sw h1 h2) hx8 ⟨_, hX81, rfl⟩ (by omega) hbw1 (Nat.le_refl _) HZ.out hlm (by have q9 := HQT.out; exact ⟨q9.1, q9.2.1, by first | exact q9.2.2.1 | (show (List.take _ _).length ≤ 1000; rw [List.length_take]; exact Nat.le_trans (Nat.min_le_right _ _) (by simp)), q9.2.2.2.1, q9.2.2.2.2.1, by first | exact q9.2.2.2.2.2 | (show (List.take _ _).length ≤ 1000; rw [List.length_take]; exact Nat.le_trans (Nat.min_le_right _ _) (by simp))⟩) HQN.out
   ·have hal := blo w3 (.cells #[.string ⟨#[116, 104]⟩, .string ⟨#[101, 114]⟩, .string ⟨#[97]⟩, .string ⟨#[46]⟩] 9)
    have hOL1 := hOL.below hal
    have hX41 := hX4.under hal
    have hX81 := hX8.under hal
    have hbw1 := hbw3.trans (hal.mono hbw3.size)
    have hxg1 := hxg.under hal
    have hbs := Box.new w3 9 #[.string ⟨#[116, 104]⟩, .string ⟨#[101, 114]⟩, .string ⟨#[97]⟩, .string ⟨#[46]⟩]
    go_wp2_with fail
    refine (around_ex 4 _ _ _ rfl HBY.out (by decide) (by decide)).mono ?_
    rintro e wa ⟨r, hr, rfl, rfl⟩
    generalize w3.alloc (.cells _ _) = w4 at *
    obtain ⟨sx, hsx, hsl⟩ := text_at ([⟨#[116, 104]⟩, ⟨#[101, 114]⟩, ⟨#[97]⟩, ⟨#[46]⟩] : List ByteArray) (by decide) r (by simpa using hr)
    have HTX := hide hsl
    have hcs := hbs.at_ (j := r) (u := .string sx) (by simpa using hsx)
    clear hsx hsl
    go_wp2_with (with_reducible refine store_cell 9 _ _ 45 g (i * 3) cur (.string sx) size_str hxg1 rfl rfl rfl rfl hln0 ?_; intro w8 hx8 hg8 hs8)
    go_meet
    exact rbu_put HT.out hOL1 (by decide) HY0.out HPUT.out (y := (⟨sx, y0.1.whr, y0.1.cells⟩, y0.2)) (j := 0) (by decide) rfl hx8 hg8 (.inr ⟨rfl, rfl⟩) (HTX.out) hX41 hB2.1 ⟨_, hX81, rfl⟩ hB2.2 hbw1 hBw HZ.out hlm HQT.out HQN.out (by have q9 := HQN.out y0 (List.mem_of_getElem? HY0.out); first | exact q9 | exact ⟨q9.1, q9.2.1, by show 1 ≤ 1000; decide⟩ | exact ⟨by show (-1000 : Int) ≤ (r : Int) - 1; omega, by show (r : Int) - 1 ≤ 1000; omega, q9.2.2⟩ | (refine ⟨q9.1, q9.2.1, ?_⟩; show (List.take _ _).length ≤ 1000; rw [List.length_take]; exact Nat.le_trans (Nat.min_le_right _ _) (by simp)))
  case rest =>
   clear hOL hX4 hX8 hbw3 hlen hpm
   obtain ⟨H2, t2, a, c, ps, rfl, HTR, hX4, ⟨z, hX8, hz7⟩, hb, ⟨hm, hut⟩, hl, hul⟩ := hcut
   obtain ⟨⟨e0, f0, h0⟩, ⟨e1, f1, h1⟩, q0, q1, ⟨ed, fd, hd⟩, ⟨ec, fc, hc⟩, ⟨eu, fu, hu⟩, ⟨ef, ff, hf⟩, ⟨ew, fw, hw⟩⟩ := H2
   have hX4 : Box wc w.heap.size 29 [.slice e0 f0 h0, .slice e1 f1 h1, .slice ed fd hd, .slice ec fc hc, .slice eu fu hu, .slice ef ff hf, .slice ew fw hw] := hX4
   have hon1 : ∀ u ∈ ([.slice a ps.length c] : List Value), u.oneCell' = true := by simp [Value.oneCell']
   obtain rfl | rfl : r1 = 0 ∨ r1 = 1 := by omega
   ·have hl1 : 0 + ([.slice a ps.length c] : List Value).length ≤ ([.slice e0 f0 h0, .slice e1 f1 h1, .slice ed fd hd, .slice ec fc hc, .slice eu fu hu, .slice ef ff hf, .slice ew fw hw] : List Value).length := by simp
    have hone : ∀ u ∈ ([.slice a ps.length c, .slice e1 f1 h1, .slice ed fd hd, .slice ec fc hc, .slice eu fu hu, .slice ef ff hf, .slice ew fw hw] : List Value), u.oneCell' = true := by simp [Value.oneCell']
    go_wp2_with (with_reducible refine store_box 26 _ _ 29 w.heap.size 0 [.slice e0 f0 h0, .slice e1 f1 h1, .slice ed fd hd, .slice ec fc hc, .slice eu fu hu, .slice ef ff hf, .slice ew fw hw] [.slice a ps.length c] (.agg #[.slice a ps.length c]) (size_tab1 _) hX4 rfl rfl rfl hl1 hon1 ?_; intro w8 hx8 hg8 hs8; refine hold ?_)
    refine hide ?_
    have hx8 : Box w8 w.heap.size 29 [.slice a ps.length c, .slice e1 f1 h1, .slice ed fd hd, .slice ec fc hc, .slice eu fu hu, .slice ef ff hf, .slice ew fw hw] := hx8
    have hX88 := hX8.grown hg8 (by simp; omega)
    have hz8 : ([.slice a ps.length c, .slice e1 f1 h1, .slice ed fd hd, .slice ec fc hc, .slice eu fu hu, .slice ef ff hf, .slice ew fw hw] : List Value).length = z.length := by rw [hz7]; rfl
    go_wp2_with (first
     | (with_reducible refine load_struct 178 29 _ 7 size_tables _ Tryd.underlying29 ⟨w.heap.size, 0, none⟩ rfl [.slice a ps.length c, .slice e1 f1 h1, .slice ed fd hd, .slice ec fc hc, .slice eu fu hu, .slice ef ff hf, .slice ew fw hw] rfl (fun j u hj => by rw [Addr.add_lit, Nat.zero_add]; exact hx8.at_ hj) ?_)
     | (with_reducible refine store_all 29 _ _ 29 g8 z [.slice a ps.length c, .slice e1 f1 h1, .slice ed fd hd, .slice ec fc hc, .slice eu fu hu, .slice ef ff hf, .slice ew fw hw] _ (size7 _ _ _ _ _ _ _) hX88 rfl rfl rfl hz8 hone ?_; intro w12 hx12 hg12 hs12))
    have hbw12 := (hb.grown hg8 hb.size (fun q hq => by cases hq; exact Nat.le_refl _)).grown hg12 (Nat.le_trans hb.size hg8.size) (fun q hq => by cases hq; omega)
    have hka : KeepAbove B wc w12 := ((KeepAbove.refl B wc).grown (Nat.le_refl _) hg8 hB2.1).grown hg8.size hg12 hB2.2
    obtain ⟨hTA, hRU⟩ := HTR.out w12 hbw12 hka
    have hlz := hm.2
    refine bodyPost_ret (run_results_cell rfl rfl agg_tables (size7 _ _ _ _ _ _ _) hx12) rfl ⟨⟨(a, ps.length, c), (e1, f1, h1), ps, q1, (ed, fd, hd), (ec, fc, hc), (eu, fu, hu), (ef, ff, hf), (ew, fw, hw)⟩, ⟨rus ps, t2.l1, t2.dig, t2.cap, t2.num, t2.fin, t2.sw⟩, rfl, ⟨hRU, hTA.l1, rfl, hTA.e1, hTA.d, hTA.c, hTA.n, hTA.f, hTA.s⟩, ⟨⟨hm.1, by show (rus ps).length ≤ _; rw [rus_len]; exact hl, by show t2.l1.length ≤ _; omega⟩, rus_A hul, hut.2⟩, hbw12⟩
   ·have hl1 : 1 + ([.slice a ps.length c] : List Value).length ≤ ([.slice e0 f0 h0, .slice e1 f1 h1, .slice ed fd hd, .slice ec fc hc, .slice eu fu hu, .slice ef ff hf, .slice ew fw hw] : List Value).length := by simp
    have hone : ∀ u ∈ ([.slice e0 f0 h0, .slice a ps.length c, .slice ed fd hd, .slice ec fc hc, .slice eu fu hu, .slice ef ff hf, .slice ew fw hw] : List Value), u.oneCell' = true := by simp [Value.oneCell']
    go_wp2_with (with_reducible refine store_box 26 _ _ 29 w.heap.size 1 [.slice e0 f0 h0, .slice e1 f1 h1, .slice ed fd hd, .slice ec fc hc, .slice eu fu hu, .slice ef ff hf, .slice ew fw hw] [.slice a ps.length c] (.agg #[.slice a ps.length c]) (size_tab1 _) hX4 rfl rfl rfl hl1 hon1 ?_; intro w8 hx8 hg8 hs8; refine hold ?_)
    refine hide ?_
    have hx8 : Box w8 w.heap.size 29 [.slice e0 f0 h0, .slice a ps.length c, .slice ed fd hd, .slice ec fc hc, .slice eu fu hu, .slice ef ff hf, .slice ew fw hw] := hx8
    have hX88 := hX8.grown hg8 (by simp; omega)
    have hz8 : ([.slice e0 f0 h0, .slice a ps.length c, .slice ed fd hd, .slice ec fc hc, .slice eu fu hu, .slice ef ff hf, .slice ew fw hw] : List Value).length = z.length := by rw [hz7]; rfl
    go_wp2_with (first
     | (with_reducible refine load_struct 178 29 _ 7 size_tables _ Tryd.underlying29 ⟨w.heap.size, 0, none⟩ rfl [.slice e0 f0 h0, .slice a ps.length c, .slice ed fd hd, .slice ec fc hc, .slice eu fu hu, .slice ef ff hf, .slice ew fw hw] rfl (fun j u hj => by rw [Addr.add_lit, Nat.zero_add]; exact hx8.at_ hj) ?_)
     | (with_reducible refine store_all 29 _ _ 29 g8 z [.slice e0 f0 h0, .slice a ps.length c, .slice ed fd hd, .slice ec fc hc, .slice eu fu hu, .slice ef ff hf, .slice ew fw hw] _ (size7 _ _ _ _ _ _ _) hX88 rfl rfl rfl hz8 hone ?_; intro w12 hx12 hg12 hs12))
    have hbw12 := (hb.grown hg8 hb.size (fun q hq => by cases hq; exact Nat.le_refl _)).grown hg12 (Nat.le_trans hb.size hg8.size) (fun q hq => by cases hq; omega)
    have hka : KeepAbove B wc w12 := ((KeepAbove.refl B wc).grown (Nat.le_refl _) hg8 hB2.1).grown hg8.size hg12 hB2.2
    obtain ⟨hTA, hRU⟩ := HTR.out w12 hbw12 hka
    have hlz := hm.2
    refine bodyPost_ret (run_results_cell rfl rfl agg_tables (size7 _ _ _ _ _ _ _) hx12) rfl ⟨⟨(e0, f0, h0), (a, ps.length, c), q0, ps, (ed, fd, hd), (ec, fc, hc), (eu, fu, hu), (ef, ff, hf), (ew, fw, hw)⟩, ⟨t2.l0, rus ps, t2.dig, t2.cap, t2.num, t2.fin, t2.sw⟩, rfl, ⟨hTA.l0, hRU, hTA.e0, rfl, hTA.d, hTA.c, hTA.n, hTA.f, hTA.s⟩, ⟨⟨hm.1, by show t2.l0.length ≤ _; omega, by show (rus ps).length ≤ _; rw [rus_len]; exact hl⟩, hut.1, rus_A hul, hut.2.2⟩, hbw12⟩
end Go.Proofs.YtfagjaabladgpaaDoor
end

section
/- Chapter 06: the tables that the reference makes; no rule is 'qqq'. -/
namespace Go.Dx
open Go.RowKit
def NoQ (l : List Ru) : Prop := ∀ r ∈ l, chars r.text ≠ [113, 113, 113]
theorem NoQ.push {l : List Ru} {r : Ru} (h : NoQ l) (hr : chars r.text ≠ [113, 113, 113]) : NoQ (l ++ [r]) := fun q hq => by
 rcases List.mem_append.1 hq with hq | hq
 ·exact h q hq
 ·rw [List.mem_singleton] at hq; subst hq; exact hr
structure RawQ (l : List Ru) : Prop where
 r : Raw l
 q : NoQ l
structure Raw1Q (l : List Ru) (k : Nat) : Prop where
 r : Raw1 l k
 q : NoQ l
structure Raw2Q (l : List Ru) (k : Nat) : Prop where
 r : Raw2 l k
 q : NoQ l
structure Raw3Q (l : List Ru) (k : Nat) : Prop where
 r : Raw3 l k
 q : NoQ l
theorem Raw1Q.len {l : List Ru} {k : Nat} (h : Raw1Q l k) : l.length = k := h.r.len
theorem Raw2Q.len {l : List Ru} {k : Nat} (h : Raw2Q l k) : l.length = 26 + k := h.r.len
theorem Raw3Q.len {l : List Ru} {k : Nat} (h : Raw3Q l k) : l.length = 32 + k := h.r.len
theorem Raw1Q.zero : Raw1Q [] 0 := ⟨Raw1.zero, fun _ h => by cases h⟩
theorem Raw1Q.step {l : List Ru} {k : Nat} (h : Raw1Q l k) (hk : k < 26) {s : ByteArray} (hs : chars s = [UInt8.ofNat (97 + k)]) {v : UInt8} (hv : cellOk v = true) : Raw1Q (l ++ [⟨s, 0, [v]⟩]) (k + 1) :=
 ⟨h.r.step hk hs hv, h.q.push (by show chars s ≠ _; rw [hs]; simp)⟩
theorem Raw2Q.zero {l : List Ru} (h : Raw1Q l 26) : Raw2Q l 0 := ⟨Raw2.zero h.r, h.q⟩
theorem Raw2Q.step {l : List Ru} {k : Nat} (h : Raw2Q l k) {c : UInt8} (hk : marks6[k]? = some c) {s : ByteArray} (hs : chars s = [c]) {v : UInt8} (hv : cellOk v = true) : Raw2Q (l ++ [⟨s, 0, [v]⟩]) (k + 1) :=
 ⟨h.r.step hk hs hv, h.q.push (by show chars s ≠ _; rw [hs]; simp)⟩
theorem Raw3Q.zero {l : List Ru} (h : Raw2Q l 6) : Raw3Q l 0 := ⟨Raw3.zero h.r, h.q⟩
theorem texts12_q : ∀ s ∈ texts12, chars s ≠ [113, 113, 113] := by decide
theorem Raw3Q.step {l : List Ru} {k : Nat} (h : Raw3Q l k) {r : Ru} (hq : chars r.text ≠ [113, 113, 113]) (hr : ruOk r = true) : Raw3Q (l ++ [r]) (k + 1) := ⟨h.r.step hr, h.q.push hq⟩
theorem Raw3Q.raw {l : List Ru} {k : Nat} (h : Raw3Q l k) (hk : k ≤ 50) : RawQ l := ⟨h.r.raw hk, h.q⟩
structure GoodTaQ (t : Ta) : Prop where
 g : GoodTa t
 few : t.l0.length ≤ 95
 noq : ∀ r ∈ t.l0, chars r.text ≠ [113, 113, 113]
theorem good_tablesQ {t : Ta} {L0 L1 : List Ru} (h0 : RawQ L0) (h1 : RawQ L1) (o0 : OnceOf L0 t.l0) (o1 : OnceOf L1 t.l1) (hd : t.dig.length = 10) (hdc : okCells t.dig = true) (hc : indic t.cap = true) (hn : indic t.num = true) (hf : indic t.fin = true) (hs : indic t.sw = true) : GoodTaQ t :=
 ⟨good_tables h0.r h1.r o0 o1 hd hdc hc hn hf hs, by have := o0.len; have := h0.r.len; omega, fun r hr => h0.q r (o0.sub r hr)⟩
end Go.Dx
namespace Go.Proofs.YtfagjaabladgpaaDoor
open Go.RowKit Go.Dx
def RGQ (w : World) (B : Nat) (v : Value) : Prop := ∃ L L', RawQ L ∧ OnceOf L L' ∧ RO w B v L'
theorem RGQ.below {w w' : World} {B : Nat} {v : Value} (h : RGQ w B v) (hb : Below w.heap.size w w') : RGQ w' B v := by
 obtain ⟨L, L', h1, h2, h3⟩ := h
 exact ⟨L, L', h1, h2, h3.below hb⟩
theorem RGQ.kept {w w' : World} {B : Nat} {v : Value} {g : Nat} {us : List Value} (h : RGQ w B v) (hg : w.grownBy w' (some g)) (hx : Box w g 29 us) : RGQ w' B v := by
 obtain ⟨L, L', h1, h2, h3⟩ := h
 exact ⟨L, L', h1, h2, h3.kept hg hx⟩
structure TWQ (w0 w : World) (B g1 g0 : Nat) (v0 v1 : Value) (vs : List Value) (ls : List (List UInt8)) : Prop where
 box : Box w g1 29 (v0 :: v1 :: vs)
 out : Box w g0 29 [.slice none 0 0, .slice none 0 0, .slice none 0 0, .slice none 0 0, .slice none 0 0, .slice none 0 0, .slice none 0 0]
 l0 : RGQ w B v0
 l1 : RGQ w B v1
 len : vs.length = 5
 row : ∀ (j : Nat) (v : Value) (l : List UInt8), vs[j]? = some v → ls[j]? = some l → UB w v l
 bel : Below B w0 w
theorem TWQ.below {w0 w w' : World} {B g1 g0 : Nat} {v0 v1 : Value} {vs : List Value} {ls : List (List UInt8)} (h : TWQ w0 w B g1 g0 v0 v1 vs ls) (hb : Below w.heap.size w w') (hB : B ≤ w0.heap.size) : TWQ w0 w' B g1 g0 v0 v1 vs ls :=
 ⟨h.box.under hb, h.out.under hb, h.l0.below hb, h.l1.below hb, h.len, fun j v l h1 h2 => (h.row j v l h1 h2).below hb, h.bel.trans (hb.mono (Nat.le_trans hB h.bel.size))⟩
theorem TWQ.store {w0 w w' : World} {B g1 g0 : Nat} {v0 v1 : Value} {vs : List Value} {ls : List (List UInt8)} (h : TWQ w0 w B g1 g0 v0 v1 vs ls) {j : Nat} {u : Value} {l : List UInt8} (hg : w.grownBy w' (some g1)) (hx : Box w' g1 29 (v0 :: v1 :: vs.set j u)) (hu : UB w u l) (hB : B ≤ g1) (hB0 : B ≤ w0.heap.size) (h01 : some g0 ≠ some g1) :
  TWQ w0 w' B g1 g0 v0 v1 (vs.set j u) (ls.set j l) := by
 refine ⟨hx, h.out.grown hg h01, h.l0.kept hg h.box, h.l1.kept hg h.box, by rw [List.length_set]; exact h.len, ?_, h.bel.grown hg (Nat.le_trans hB0 h.bel.size) (fun q hq => by cases hq; exact hB)⟩
 intro i v m h1 h2
 rw [List.getElem?_set] at h1 h2
 by_cases e : j = i
 ·subst e
  rw [if_pos rfl] at h1 h2
  split at h1
  ·split at h2
   ·cases h1; cases h2; exact hu.kept hg h.box
   ·cases h2
  ·cases h1
 ·rw [if_neg e] at h1 h2
  exact (h.row i v m h1 h2).kept hg h.box
set_option maxRecDepth 100000 in
set_option maxHeartbeats 8000000 in
theorem ref_TablesQ (n : Int) (hn0 : -9223372036854775808 ≤ n) (hn1 : n ≤ 9223372036854775807) (w : World) : Calls Tryd.prog 5 #[.int .i64 n] w fun e w' => ∃ H t, e = .returned (TH.v H) ∧ TaIs w' H t ∧ GoodTaQ t ∧ Below w.heap.size w w' := by
 have X0 := (Box.new w 29 #[.slice none 0 0, .slice none 0 0, .slice none 0 0, .slice none 0 0, .slice none 0 0, .slice none 0 0, .slice none 0 0]).alloc (.cells #[.slice none 0 0, .slice none 0 0, .slice none 0 0, .slice none 0 0, .slice none 0 0, .slice none 0 0, .slice none 0 0] 29)
 have X1 := Box.new (w.alloc (.cells #[.slice none 0 0, .slice none 0 0, .slice none 0 0, .slice none 0 0, .slice none 0 0, .slice none 0 0, .slice none 0 0] 29)) 29 #[.slice none 0 0, .slice none 0 0, .slice none 0 0, .slice none 0 0, .slice none 0 0, .slice none 0 0, .slice none 0 0]
 rw [show (w.alloc (.cells #[.slice none 0 0, .slice none 0 0, .slice none 0 0, .slice none 0 0, .slice none 0 0, .slice none 0 0, .slice none 0 0] 29)).heap.size = w.heap.size + 1 by simp] at X1
 have hb0 : Below w.heap.size w ((w.alloc (.cells #[.slice none 0 0, .slice none 0 0, .slice none 0 0, .slice none 0 0, .slice none 0 0, .slice none 0 0, .slice none 0 0] 29)).alloc (.cells #[.slice none 0 0, .slice none 0 0, .slice none 0 0, .slice none 0 0, .slice none 0 0, .slice none 0 0, .slice none 0 0] 29)) := (blo w _).trans ((blo _ _).mono (by simp))
 obtain ⟨g1, hg1⟩ : ∃ g1, g1 = w.heap.size + 1 := ⟨_, rfl⟩
 have hg1w : w.heap.size ≤ g1 := by omega
 have hg01 : some w.heap.size ≠ some g1 := by simp; omega
 go_enter Tryd.func5, Tryd.ntmps5
 go_wp2_with fail
 rw [← hg1] at X1 ⊢
 clear hg1
 generalize (w.alloc (.cells _ 29)).alloc (.cells _ 29) = w2 at *
 go_loopg [4] 2 (fun gh v w' => ∃ (k : Nat) (v0 v1 : Value), k ≤ 2 ∧ gh = 2 - k ∧ v = .int .i64 (k : Int) ∧ Box w' g1 29 [v0, v1, .slice none 0 0, .slice none 0 0, .slice none 0 0, .slice none 0 0, .slice none 0 0] ∧ Box w' w.heap.size 29 [.slice none 0 0, .slice none 0 0, .slice none 0 0, .slice none 0 0, .slice none 0 0, .slice none 0 0, .slice none 0 0] ∧ (1 ≤ k → RGQ w' w.heap.size v0) ∧ (2 ≤ k → RGQ w' w.heap.size v1) ∧ Below w.heap.size w w')
 case atStart => exact ⟨0, _, _, by omega, by omega, rfl, X1, X0, fun h => by omega, fun h => by omega, hb0⟩
 case round =>
  clear X0 X1 hb0
  obtain ⟨k, v0, v1, hk, hg, rfl, hX1, hX0, hr0, hr1, hb⟩ := hrel
  have HG := hide hg
  clear hg
  by_cases hkl : k < 2
  ·obtain ⟨wo, rfl⟩ : ∃ wo : World, wo = wr := ⟨_, rfl⟩
   have d0 : decide (k < 2) = true := decide_eq_true hkl
   have d0' : decide ((k : Int) < 2) = true := decide_eq_true (by omega)
   go_wp2_with fail
   go_loopg [5, 6] 26 (fun gh l v w' => ∃ (i : Nat) (ps : List RH) (a : Option Addr) (c : Nat), i ≤ 26 ∧ gh = 26 - i ∧ l = .slice a ps.length c ∧ v = .int .i64 (i : Int) ∧ Hid (Raw1Q (rus ps) i) ∧ ORu w' 45 5 wo.heap.size a c ps ∧ Below wo.heap.size wo w')
   case atStart => exact ⟨0, [], none, 0, by omega, by omega, rfl, rfl, hide Raw1Q.zero, ORu.nil _ _ _ _, Below.refl _ _⟩
   case round =>
    obtain ⟨i, ps, a, c, hi, hgi, rfl, rfl, HRW, hOR, hbo⟩ := hrel
    have HGI := hide hgi
    have hple : ps.length ≤ 26 := by have := HRW.out.len; unfold rus at this; rw [List.length_map] at this; omega
    clear hgi
    by_cases hil : i < 26
    ·obtain ⟨cu, hcu⟩ : ∃ cu, cu = UInt8.ofNat (97 + i) := ⟨_, rfl⟩
     have HU97 : Hid (([.int .u8 (97 + (i : Int))] : List Value) = [cu].map B8) := hide (by
      have : (cu.toNat : Int) = 97 + (i : Int) := by rw [hcu, UInt8.toNat_ofNat']; omega
      show _ = [Value.int .u8 (cu.toNat : Int)]
      rw [this])
     obtain ⟨kk, hkk⟩ : ∃ kk : Nat, kk = (i + 3 * k) % 26 := ⟨_, rfl⟩
     have HKK : Hid (((i : Int) + 3 * (k : Int)) % 26 = (kk : Int)) := hide (by omega)
     have HKT : Hid (((i : Int) + 3 * (k : Int)).tmod 26 = (kk : Int)) := hide (by rw [Int.tmod_eq_emod_of_nonneg (by omega)]; exact HKK.out)
     obtain ⟨cv, hcv, hcal⟩ := ref_cell n hn0 hn1 kk (by omega)
     have HCV := hide hcal
     have HST : Hid (∀ h, Hid (Raw1Q (rus (ps ++ [((⟨⟨#[cu]⟩, 0, [cv]⟩ : Ru), h)])) (i + 1))) := hide (fun h => hide (by
      have := HRW.out.step hil (s := ⟨#[cu]⟩) (by rw [hcu]; rfl) hcv
      unfold rus at this ⊢
      simpa using this))
     clear hcu hkk hcal hcv
     have HNE : Hid (∀ b, wr.heap.size ≤ b → some b ≠ a.map (·.block)) := hide (fun b hb => own_map hOR.top hb)
     go_wp2_with fail
     refine wp_region_chain4 17 (fun w w' => w.grownBy w' (a.map (·.block))) (GAp wr wo 45 5 (ps.length + 1) ps (⟨⟨#[cu]⟩, 0, [cv]⟩ : Ru)) [⟨16, 39, [], fun _ _ => True⟩] [⟨0, 23, [23], fun vs _ => vs = [.slice a ps.length c]⟩, ⟨1, 24, [24], fun vs _ => vs = [.int .i64 (i : Int)]⟩, ⟨2, 25, [25], fun vs _ => vs = [.int .i64 (97 + (i : Int))]⟩, ⟨3, 26, [26], fun vs _ => vs = [.int .u8 (97 + (i : Int))]⟩, ⟨4, 27, [27], fun vs w' => ∃ b, vs = [.slice (some ⟨b, 0, none⟩) 1 1] ∧ wr.heap.size ≤ b ∧ Own w' 0 5 1 (some ⟨b, 0, none⟩) 1 1 [.int .u8 (97 + (i : Int))]⟩, ⟨5, 28, [28], fun vs _ => vs = [.string ⟨#[cu]⟩]⟩, ⟨6, 29, [29], fun vs _ => vs = [.int .i64 n]⟩, ⟨7, 30, [30], fun vs _ => vs = [.int .i64 (i : Int)]⟩, ⟨8, 31, [31], fun vs _ => vs = [.int .i64 (k : Int)]⟩, ⟨9, 32, [32], fun vs _ => vs = [.int .i64 (3 * (k : Int))]⟩, ⟨10, 33, [33], fun vs _ => vs = [.int .i64 ((i : Int) + 3 * (k : Int))]⟩, ⟨11, 34, [34], fun vs _ => vs = [.int .i64 (kk : Int)]⟩, ⟨12, 35, [35], fun vs _ => vs = [.int .u8 (cv.toNat : Int)]⟩, ⟨13, 36, [36], fun vs w' => ∃ b, vs = [.slice (some ⟨b, 0, none⟩) 1 1] ∧ wr.heap.size ≤ b ∧ Own w' 0 5 1 (some ⟨b, 0, none⟩) 1 1 ([cv].map B8)⟩, ⟨14, 37, [37], fun vs w' => ∃ b, vs = [.agg #[.string (⟨⟨#[cu]⟩, 0, [cv]⟩ : Ru).text, .int .i64 0, .slice (some ⟨b, 0, none⟩) 1 1]] ∧ wr.heap.size ≤ b ∧ Own w' 0 5 1 (some ⟨b, 0, none⟩) 1 1 ([cv].map B8)⟩, ⟨15, 38, [38], fun vs w' => ∃ b2, vs = [.slice (some ⟨b2, 0, none⟩) 1 1] ∧ wr.heap.size ≤ b2 ∧ ∃ b, wr.heap.size ≤ b ∧ Sl w' 3 (some ⟨b2, 0, none⟩) 1 1 (rc ((⟨⟨#[cu]⟩, 0, [cv]⟩ : Ru), (some ⟨b, 0, none⟩, 1, 1))) ∧ Own w' 0 5 1 (some ⟨b, 0, none⟩) 1 1 ([cv].map B8)⟩] (by kernel_rfl) (by kernel_rfl) ?_ (fun _ _ h => grown_of_below h _) GAp.mono ?_ ?_ ?_ ?_
     ·exact (Still.below 1 : Below wr.heap.size wr (wr.drewN 1))
     ·simp only [All]
      refine ⟨(fun _ _ _ _ h => h), (fun _ _ _ _ h => h), (fun _ _ _ _ h => h), (fun _ _ _ _ h => h), (fun vs w1 w2 hr ⟨b, h1, h0, h2⟩ => ⟨b, h1, h0, h2.kept hr (fun q hq => by cases hq; exact HNE.out b h0)⟩), (fun _ _ _ _ h => h), (fun _ _ _ _ h => h), (fun _ _ _ _ h => h), (fun _ _ _ _ h => h), (fun _ _ _ _ h => h), (fun _ _ _ _ h => h), (fun _ _ _ _ h => h), (fun _ _ _ _ h => h), (fun vs w1 w2 hr ⟨b, h1, h0, h2⟩ => ⟨b, h1, h0, h2.kept hr (fun q hq => by cases hq; exact HNE.out b h0)⟩), (fun vs w1 w2 hr ⟨b, h1, h0, h2⟩ => ⟨b, h1, h0, h2.kept hr (fun q hq => by cases hq; exact HNE.out b h0)⟩), (fun vs w1 w2 hr ⟨b2, h1, h2, b, h0, h3, h4⟩ => ⟨b2, h1, h2, b, h0, h3.grown hr (fun q hq => by cases hq; exact HNE.out b2 h2), h4.kept hr (fun q hq => by cases hq; exact HNE.out b h0)⟩), trivial⟩
     ·intro m c hc o ho a' w' hG hfr hdep
      rcases m with _ | m
      ·cases hc
       obtain rfl := oj ho
       have hb : Below wr.heap.size wr w' := hG
       have g23 : a'.tmps[23]?.getD undef = .slice a ps.length c := by simpa using hdep 0 _ rfl (by kernel_rfl)
       obtain ⟨b2, g38, hb2, b8, _, hs2, ho8⟩ := hdep 15 _ rfl (by kernel_rfl)
       simp at g38
       clear hfr hdep hG
       have hOw := hOR.below hb
       have hbo2 := hbo.trans (hb.mono hbo.size)
       refine app_ru2 rfl _ _ rfl wo wo.heap.size a c ps (by show a'.tmps.getD 23 undef = _; simpa using g23) hOw ((⟨⟨#[cu]⟩, 0, [cv]⟩ : Ru), (some ⟨b8, 0, none⟩, 1, 1)) ho8 (by show (1 : Nat) ≤ 1000; decide) (some ⟨b2, 0, none⟩) 1 (by show a'.tmps.getD 38 undef = _; simpa using g38) hs2 (by omega) hbo2.size hbo2 ?_
       intro a3 c3 w7 ho7 hb7 hgr7
       go_wp2
       exact ⟨rfl, _, rfl, hgr7, ⟨a3, c3, rfl, _, ho7⟩, hb7, Nat.le_trans hb.size hgr7.size⟩
      ·cases hc
     ·simp only [All]
      refine ⟨?_, ?_, ?_, ?_, ?_, ?_, ?_, ?_, ?_, ?_, ?_, ?_, ?_, ?_, ?_, ?_, trivial⟩
      ·intro o ho a' w' hfr hdep hst; obtain rfl := oj ho
       have g5 : a'.tmps[5]?.getD undef = .slice a ps.length c := by simpa using hfr 5 (by kernel_rfl)
       clear ho hfr hdep hst; go_wp2_with fail; exact ⟨rfl, _, rfl, br, rfl⟩
      ·intro o ho a' w' hfr hdep hst; obtain rfl := oj ho
       have g6 : a'.tmps[6]?.getD undef = .int .i64 (i : Int) := by simpa using hfr 6 (by kernel_rfl)
       clear ho hfr hdep hst; go_wp2_with fail; exact ⟨rfl, _, rfl, br, rfl⟩
      ·intro o ho a' w' hfr hdep hst; obtain rfl := oj ho
       have g24 : a'.tmps[24]?.getD undef = .int .i64 (i : Int) := by simpa using hdep 1 _ rfl (by kernel_rfl)
       clear ho hfr hdep hst; go_wp2_with fail; exact ⟨rfl, _, rfl, br, rfl⟩
      ·intro o ho a' w' hfr hdep hst; obtain rfl := oj ho
       have g25 : a'.tmps[25]?.getD undef = .int .i64 (97 + (i : Int)) := by simpa using hdep 2 _ rfl (by kernel_rfl)
       clear ho hfr hdep hst; go_wp2_with fail; exact ⟨rfl, _, rfl, br, rfl⟩
      ·intro o ho a' w' hfr hdep hst; obtain rfl := oj ho
       have g26 : a'.tmps[26]?.getD undef = .int .u8 (97 + (i : Int)) := by simpa using hdep 3 _ rfl (by kernel_rfl)
       obtain ⟨j, _, _, hG⟩ := hst
       clear ho hfr hdep; have hsz := hG.size
       clear hG
       go_wp2_with fail
       exact ⟨rfl, _, rfl, blo _ _, _, rfl, hsz, Own.built w' 0 5 1 1 #[.int .u8 (97 + (i : Int))] (Nat.zero_le _) rfl (by decide)⟩
      ·intro o ho a' w' hfr hdep hst; obtain rfl := oj ho
       obtain ⟨b8, g27, hb8, ho8⟩ := hdep 4 _ rfl (by kernel_rfl)
       simp at g27
       clear ho hfr hdep hst; have hs8 := ho8.sl
       rw [HU97.out] at hs8
       refine to_str 28 _ (some ⟨b8, 0, none⟩) 1 1 [cu] (by show a'.tmps.getD 27 undef = _; simpa using g27) hs8 ?_
       go_wp2_with fail; exact ⟨rfl, _, rfl, br, rfl⟩
      ·intro o ho a' w' hfr hdep hst; obtain rfl := oj ho
       have g0 : a'.tmps[0]?.getD undef = .int .i64 n := by simpa using hfr 0 (by kernel_rfl)
       clear ho hfr hdep hst; go_wp2_with fail; exact ⟨rfl, _, rfl, br, rfl⟩
      ·intro o ho a' w' hfr hdep hst; obtain rfl := oj ho
       have g6 : a'.tmps[6]?.getD undef = .int .i64 (i : Int) := by simpa using hfr 6 (by kernel_rfl)
       clear ho hfr hdep hst; go_wp2_with fail; exact ⟨rfl, _, rfl, br, rfl⟩
      ·intro o ho a' w' hfr hdep hst; obtain rfl := oj ho
       have g4 : a'.tmps[4]?.getD undef = .int .i64 (k : Int) := by simpa using hfr 4 (by kernel_rfl)
       clear ho hfr hdep hst; go_wp2_with fail; exact ⟨rfl, _, rfl, br, rfl⟩
      ·intro o ho a' w' hfr hdep hst; obtain rfl := oj ho
       have g31 : a'.tmps[31]?.getD undef = .int .i64 (k : Int) := by simpa using hdep 8 _ rfl (by kernel_rfl)
       clear ho hfr hdep hst; go_wp2_with fail; exact ⟨rfl, _, rfl, br, rfl⟩
      ·intro o ho a' w' hfr hdep hst; obtain rfl := oj ho
       have g30 : a'.tmps[30]?.getD undef = .int .i64 (i : Int) := by simpa using hdep 7 _ rfl (by kernel_rfl)
       have g32 : a'.tmps[32]?.getD undef = .int .i64 (3 * (k : Int)) := by simpa using hdep 9 _ rfl (by kernel_rfl)
       clear ho hfr hdep hst; go_wp2_with fail; exact ⟨rfl, _, rfl, br, rfl⟩
      ·intro o ho a' w' hfr hdep hst; obtain rfl := oj ho
       have g33 : a'.tmps[33]?.getD undef = .int .i64 ((i : Int) + 3 * (k : Int)) := by simpa using hdep 10 _ rfl (by kernel_rfl)
       clear ho hfr hdep hst; have hkk := HKK.out
       have hkt := HKT.out
       go_wp2_with fail; exact ⟨rfl, _, rfl, br, rfl⟩
      ·intro o ho a' w' hfr hdep hst; obtain rfl := oj ho
       have g29 : a'.tmps[29]?.getD undef = .int .i64 n := by simpa using hdep 6 _ rfl (by kernel_rfl)
       have g34 : a'.tmps[34]?.getD undef = .int .i64 (kk : Int) := by simpa using hdep 11 _ rfl (by kernel_rfl)
       clear ho hfr hdep hst; go_wp2_with fail
       refine (HCV.out _).mono ?_
       rintro e w2 ⟨rfl, hb2⟩
       go_wp2_with fail
       exact ⟨rfl, _, rfl, hb2, rfl⟩
      ·intro o ho a' w' hfr hdep hst; obtain rfl := oj ho
       have g35 : a'.tmps[35]?.getD undef = .int .u8 (cv.toNat : Int) := by simpa using hdep 12 _ rfl (by kernel_rfl)
       obtain ⟨j, _, _, hG⟩ := hst
       clear ho hfr hdep; have hsz := hG.size
       clear hG
       go_wp2_with fail
       exact ⟨rfl, _, rfl, blo _ _, _, rfl, hsz, Own.built w' 0 5 1 1 #[.int .u8 (cv.toNat : Int)] (Nat.zero_le _) rfl (by decide)⟩
      ·intro o ho a' w' hfr hdep hst; obtain rfl := oj ho
       have g28 : a'.tmps[28]?.getD undef = .string ⟨#[cu]⟩ := by simpa using hdep 5 _ rfl (by kernel_rfl)
       obtain ⟨b8, g36, hb8, ho8⟩ := hdep 13 _ rfl (by kernel_rfl)
       simp at g36
       clear ho hfr hdep hst; go_wp2_with fail; exact ⟨rfl, _, rfl, br, b8, rfl, hb8, ho8⟩
      ·intro o ho a' w' hfr hdep hst; obtain rfl := oj ho
       obtain ⟨b8, g37, hb8, ho8⟩ := hdep 14 _ rfl (by kernel_rfl)
       simp at g37
       obtain ⟨j, _, _, hG⟩ := hst
       clear ho hfr hdep; have hsz := hG.size
       clear hG
       go_wp2_with fail
       exact ⟨rfl, _, rfl, blo _ _, _, rfl, hsz, b8, hb8, Sl.fresh _ _ 3 1 (rc ((⟨⟨#[cu]⟩, 0, [cv]⟩ : Ru), (some ⟨b8, 0, none⟩, 1, 1))) rfl (by decide), ho8.alloc _⟩
     ·intro g w7 hG hp
      obtain ⟨⟨a7, c7, p39, h7, ho7⟩, hB7, _⟩ := hG
      clear hp
      simp at p39
      simp only [List.drop_succ_cons, List.drop_zero, List.map_cons, List.map_nil, putAll, Act.put, List.setIfInBounds_toArray, List.set_cons_succ, List.set_cons_zero, List.cons_append, List.nil_append, p39]
      clear p39
      go_wp2_with fail
      go_roundg (26 - (i + 1))
      case measure => have := HGI.out; omega
      case rel => exact ⟨i + 1, ps ++ [((⟨⟨#[cu]⟩, 0, [cv]⟩ : Ru), h7)], a7, c7, by omega, rfl, by rw [List.length_append]; rfl, by go_num, HST.out h7, ho7, hB7⟩
    ·obtain rfl : i = 26 := by omega
     have HR2 := hide (Raw2Q.zero HRW.out)
     go_wp2_with fail
     go_loopg [5, 8] 6 (fun gh l v w' => ∃ (i : Nat) (ps : List RH) (a : Option Addr) (c : Nat), i ≤ 6 ∧ gh = 6 - i ∧ l = .slice a ps.length c ∧ v = .int .i64 (i : Int) ∧ Hid (Raw2Q (rus ps) i) ∧ ORu w' 45 5 wo.heap.size a c ps ∧ Below wo.heap.size wo w')
     case atStart => exact ⟨0, ps, a, c, by omega, by omega, rfl, rfl, HR2, hOR, hbo⟩
     case round =>
      clear hOR hbo HRW HGI hple HR2
      obtain ⟨i, ps, a, c, hi, hgi, rfl, rfl, HRW, hOR, hbo⟩ := hrel
      have HGI := hide hgi
      have hple : ps.length ≤ 32 := by have := HRW.out.len; unfold rus at this; rw [List.length_map] at this; omega
      clear hgi
      by_cases hil : i < 6
      ·obtain ⟨cm, hcm⟩ : ∃ cm, marks6[i]? = some cm := ⟨_, List.getElem?_eq_getElem (show i < marks6.length from hil)⟩
       obtain ⟨sm, hsm⟩ : ∃ sm, sm = (⟨#[32, 46, 44, 63, 39, 45]⟩ : ByteArray).extract i (i + 1) := ⟨_, rfl⟩
       have hsc : chars sm = [cm] := by rw [hsm]; exact marks_at i cm hil hcm
       have HSZ : Hid (sm.size ≤ 1000) := hide (by rw [size_chars, hsc]; show (1 : Nat) ≤ 1000; decide)
       have HSL : Hid (∀ wx : World, (Instr.slice 9 (.string ⟨#[32, 46, 44, 63, 39, 45]⟩) (some (.int .i64 (i : Int))) (some (.int .i64 ((i : Int) + 1))) none).run Tryd.prog wx = .ok (.string sm) wx) := hide (fun wx => by
        rw [run_slice_string (P := Tryd.prog) (w := wx) 9 _ .i64 .i64 (i : Int) ((i : Int) + 1) Tryd.underlying9 (by omega) (by omega) (by show (i : Int) + 1 ≤ ((6 : Nat) : Int); omega), hsm]
        rfl)
       obtain ⟨cv, hcv, hcal⟩ := ref_cell n hn0 hn1 (26 + i) (by omega)
       rw [show (((26 + i : Nat)) : Int) = 26 + (i : Int) by omega] at hcal
       have HCV := hide hcal
       have HST : Hid (∀ h, Hid (Raw2Q (rus (ps ++ [((⟨sm, 0, [cv]⟩ : Ru), h)])) (i + 1))) := hide (fun h => hide (by
        have := HRW.out.step hcm hsc hcv
        unfold rus at this ⊢
        simpa using this))
       clear hsm hcm hsc hcal hcv
       have HNE : Hid (∀ b, wr.heap.size ≤ b → some b ≠ a.map (·.block)) := hide (fun b hb => own_map hOR.top hb)
       go_wp2_with fail
       refine wp_region_chain4 14 (fun w w' => w.grownBy w' (a.map (·.block))) (GAp wr wo 45 5 (ps.length + 1) ps (⟨sm, 0, [cv]⟩ : Ru)) [⟨13, 59, [], fun _ _ => True⟩] [⟨0, 46, [46], fun vs _ => vs = [.slice a ps.length c]⟩, ⟨1, 47, [47], fun vs _ => vs = [.string ⟨#[32, 46, 44, 63, 39, 45]⟩]⟩, ⟨2, 48, [48], fun vs _ => vs = [.int .i64 (i : Int)]⟩, ⟨3, 49, [49], fun vs _ => vs = [.int .i64 (i : Int)]⟩, ⟨4, 50, [50], fun vs _ => vs = [.int .i64 ((i : Int) + 1)]⟩, ⟨5, 51, [51], fun vs _ => vs = [.string sm]⟩, ⟨6, 52, [52], fun vs _ => vs = [.int .i64 n]⟩, ⟨7, 53, [53], fun vs _ => vs = [.int .i64 (i : Int)]⟩, ⟨8, 54, [54], fun vs _ => vs = [.int .i64 (26 + (i : Int))]⟩, ⟨9, 55, [55], fun vs _ => vs = [.int .u8 (cv.toNat : Int)]⟩, ⟨10, 56, [56], fun vs w' => ∃ b, vs = [.slice (some ⟨b, 0, none⟩) 1 1] ∧ wr.heap.size ≤ b ∧ Own w' 0 5 1 (some ⟨b, 0, none⟩) 1 1 ([cv].map B8)⟩, ⟨11, 57, [57], fun vs w' => ∃ b, vs = [.agg #[.string (⟨sm, 0, [cv]⟩ : Ru).text, .int .i64 0, .slice (some ⟨b, 0, none⟩) 1 1]] ∧ wr.heap.size ≤ b ∧ Own w' 0 5 1 (some ⟨b, 0, none⟩) 1 1 ([cv].map B8)⟩, ⟨12, 58, [58], fun vs w' => ∃ b2, vs = [.slice (some ⟨b2, 0, none⟩) 1 1] ∧ wr.heap.size ≤ b2 ∧ ∃ b, wr.heap.size ≤ b ∧ Sl w' 3 (some ⟨b2, 0, none⟩) 1 1 (rc ((⟨sm, 0, [cv]⟩ : Ru), (some ⟨b, 0, none⟩, 1, 1))) ∧ Own w' 0 5 1 (some ⟨b, 0, none⟩) 1 1 ([cv].map B8)⟩] (by kernel_rfl) (by kernel_rfl) ?_ (fun _ _ h => grown_of_below h _) GAp.mono ?_ ?_ ?_ ?_
       ·exact (Still.below 1 : Below wr.heap.size wr (wr.drewN 1))
       ·simp only [All]
        refine ⟨(fun _ _ _ _ h => h), (fun _ _ _ _ h => h), (fun _ _ _ _ h => h), (fun _ _ _ _ h => h), (fun _ _ _ _ h => h), (fun _ _ _ _ h => h), (fun _ _ _ _ h => h), (fun _ _ _ _ h => h), (fun _ _ _ _ h => h), (fun _ _ _ _ h => h), (fun vs w1 w2 hr ⟨b, h1, h0, h2⟩ => ⟨b, h1, h0, h2.kept hr (fun q hq => by cases hq; exact HNE.out b h0)⟩), (fun vs w1 w2 hr ⟨b, h1, h0, h2⟩ => ⟨b, h1, h0, h2.kept hr (fun q hq => by cases hq; exact HNE.out b h0)⟩), (fun vs w1 w2 hr ⟨b2, h1, h2, b, h0, h3, h4⟩ => ⟨b2, h1, h2, b, h0, h3.grown hr (fun q hq => by cases hq; exact HNE.out b2 h2), h4.kept hr (fun q hq => by cases hq; exact HNE.out b h0)⟩), trivial⟩
       ·intro m c hc o ho a' w' hG hfr hdep
        rcases m with _ | m
        ·cases hc
         obtain rfl := oj ho
         have hb : Below wr.heap.size wr w' := hG
         have g46 : a'.tmps[46]?.getD undef = .slice a ps.length c := by simpa using hdep 0 _ rfl (by kernel_rfl)
         obtain ⟨b2, g58, hb2, b8, _, hs2, ho8⟩ := hdep 12 _ rfl (by kernel_rfl)
         simp at g58
         clear hfr hdep hG
         have hOw := hOR.below hb
         have hbo2 := hbo.trans (hb.mono hbo.size)
         refine app_ru2 rfl _ _ rfl wo wo.heap.size a c ps (by show a'.tmps.getD 46 undef = _; simpa using g46) hOw ((⟨sm, 0, [cv]⟩ : Ru), (some ⟨b8, 0, none⟩, 1, 1)) ho8 (HSZ.out) (some ⟨b2, 0, none⟩) 1 (by show a'.tmps.getD 58 undef = _; simpa using g58) hs2 (by omega) hbo2.size hbo2 ?_
         intro a3 c3 w7 ho7 hb7 hgr7
         go_wp2
         exact ⟨rfl, _, rfl, hgr7, ⟨a3, c3, rfl, _, ho7⟩, hb7, Nat.le_trans hb.size hgr7.size⟩
        ·cases hc
       ·simp only [All]
        refine ⟨?_, ?_, ?_, ?_, ?_, ?_, ?_, ?_, ?_, ?_, ?_, ?_, ?_, trivial⟩
        ·intro o ho a' w' hfr hdep hst; obtain rfl := oj ho
         have g5 : a'.tmps[5]?.getD undef = .slice a ps.length c := by simpa using hfr 5 (by kernel_rfl)
         clear ho hfr hdep hst; go_wp2_with fail; exact ⟨rfl, _, rfl, br, rfl⟩
        ·intro o ho a' w' hfr hdep hst; obtain rfl := oj ho
         have g7 : a'.tmps[7]?.getD undef = .string ⟨#[32, 46, 44, 63, 39, 45]⟩ := by simpa using hfr 7 (by kernel_rfl)
         clear ho hfr hdep hst; go_wp2_with fail; exact ⟨rfl, _, rfl, br, rfl⟩
        ·intro o ho a' w' hfr hdep hst; obtain rfl := oj ho
         have g8 : a'.tmps[8]?.getD undef = .int .i64 (i : Int) := by simpa using hfr 8 (by kernel_rfl)
         clear ho hfr hdep hst; go_wp2_with fail; exact ⟨rfl, _, rfl, br, rfl⟩
        ·intro o ho a' w' hfr hdep hst; obtain rfl := oj ho
         have g8 : a'.tmps[8]?.getD undef = .int .i64 (i : Int) := by simpa using hfr 8 (by kernel_rfl)
         clear ho hfr hdep hst; go_wp2_with fail; exact ⟨rfl, _, rfl, br, rfl⟩
        ·intro o ho a' w' hfr hdep hst; obtain rfl := oj ho
         have g49 : a'.tmps[49]?.getD undef = .int .i64 (i : Int) := by simpa using hdep 3 _ rfl (by kernel_rfl)
         clear ho hfr hdep hst; go_wp2_with fail; exact ⟨rfl, _, rfl, br, rfl⟩
        ·intro o ho a' w' hfr hdep hst; obtain rfl := oj ho
         have g47 : a'.tmps[47]?.getD undef = .string ⟨#[32, 46, 44, 63, 39, 45]⟩ := by simpa using hdep 1 _ rfl (by kernel_rfl)
         have g48 : a'.tmps[48]?.getD undef = .int .i64 (i : Int) := by simpa using hdep 2 _ rfl (by kernel_rfl)
         have g50 : a'.tmps[50]?.getD undef = .int .i64 ((i : Int) + 1) := by simpa using hdep 4 _ rfl (by kernel_rfl)
         clear ho hfr hdep hst; have hsl := HSL.out
         go_wp2_with fail; exact ⟨rfl, _, rfl, br, rfl⟩
        ·intro o ho a' w' hfr hdep hst; obtain rfl := oj ho
         have g0 : a'.tmps[0]?.getD undef = .int .i64 n := by simpa using hfr 0 (by kernel_rfl)
         clear ho hfr hdep hst; go_wp2_with fail; exact ⟨rfl, _, rfl, br, rfl⟩
        ·intro o ho a' w' hfr hdep hst; obtain rfl := oj ho
         have g8 : a'.tmps[8]?.getD undef = .int .i64 (i : Int) := by simpa using hfr 8 (by kernel_rfl)
         clear ho hfr hdep hst; go_wp2_with fail; exact ⟨rfl, _, rfl, br, rfl⟩
        ·intro o ho a' w' hfr hdep hst; obtain rfl := oj ho
         have g53 : a'.tmps[53]?.getD undef = .int .i64 (i : Int) := by simpa using hdep 7 _ rfl (by kernel_rfl)
         clear ho hfr hdep hst; go_wp2_with fail; exact ⟨rfl, _, rfl, br, rfl⟩
        ·intro o ho a' w' hfr hdep hst; obtain rfl := oj ho
         have g52 : a'.tmps[52]?.getD undef = .int .i64 n := by simpa using hdep 6 _ rfl (by kernel_rfl)
         have g54 : a'.tmps[54]?.getD undef = .int .i64 (26 + (i : Int)) := by simpa using hdep 8 _ rfl (by kernel_rfl)
         clear ho hfr hdep hst; go_wp2_with fail
         refine (HCV.out _).mono ?_
         rintro e w2 ⟨rfl, hb2⟩
         go_wp2_with fail
         exact ⟨rfl, _, rfl, hb2, rfl⟩
        ·intro o ho a' w' hfr hdep hst; obtain rfl := oj ho
         have g55 : a'.tmps[55]?.getD undef = .int .u8 (cv.toNat : Int) := by simpa using hdep 9 _ rfl (by kernel_rfl)
         obtain ⟨j, _, _, hG⟩ := hst
         clear ho hfr hdep; have hsz := hG.size
         clear hG
         go_wp2_with fail
         exact ⟨rfl, _, rfl, blo _ _, _, rfl, hsz, Own.built w' 0 5 1 1 #[.int .u8 (cv.toNat : Int)] (Nat.zero_le _) rfl (by decide)⟩
        ·intro o ho a' w' hfr hdep hst; obtain rfl := oj ho
         have g51 : a'.tmps[51]?.getD undef = .string sm := by simpa using hdep 5 _ rfl (by kernel_rfl)
         obtain ⟨b8, g56, hb8, ho8⟩ := hdep 10 _ rfl (by kernel_rfl)
         simp at g56
         clear ho hfr hdep hst; go_wp2_with fail; exact ⟨rfl, _, rfl, br, b8, rfl, hb8, ho8⟩
        ·intro o ho a' w' hfr hdep hst; obtain rfl := oj ho
         obtain ⟨b8, g57, hb8, ho8⟩ := hdep 11 _ rfl (by kernel_rfl)
         simp at g57
         obtain ⟨j, _, _, hG⟩ := hst
         clear ho hfr hdep; have hsz := hG.size
         clear hG
         go_wp2_with fail
         exact ⟨rfl, _, rfl, blo _ _, _, rfl, hsz, b8, hb8, Sl.fresh _ _ 3 1 (rc ((⟨sm, 0, [cv]⟩ : Ru), (some ⟨b8, 0, none⟩, 1, 1))) rfl (by decide), ho8.alloc _⟩
       ·intro g w7 hG hp
        obtain ⟨⟨a7, c7, p59, h7, ho7⟩, hB7, _⟩ := hG
        clear hp
        simp at p59
        simp only [List.drop_succ_cons, List.drop_zero, List.map_cons, List.map_nil, putAll, Act.put, List.setIfInBounds_toArray, List.set_cons_succ, List.set_cons_zero, List.cons_append, List.nil_append, p59]
        clear p59
        go_wp2_with fail
        go_roundg (6 - (i + 1))
        case measure => have := HGI.out; omega
        case rel => exact ⟨i + 1, ps ++ [((⟨sm, 0, [cv]⟩ : Ru), h7)], a7, c7, by omega, rfl, by rw [List.length_append]; rfl, by go_num, HST.out h7, ho7, hB7⟩
      ·obtain rfl : i = 6 := by omega
       have HR3 := hide (Raw3Q.zero HRW.out)
       go_wp2_with fail
       refine (around_ex 6 _ _ _ rfl (wrap_in _) (by decide) (by decide)).mono ?_
       rintro e w3 ⟨r6, hr6, rfl, hw3⟩
       obtain ⟨tb, htb⟩ : ∃ tb, tb = wr.heap.size := ⟨_, rfl⟩
       have HTX : Own w3 0 9 1 (some ⟨tb, 0, none⟩) 12 12 (texts12.map Value.string) := by
        rw [← hw3, htb]
        exact Own.built wr 0 9 1 12 (texts12.map Value.string).toArray (Nat.zero_le _) rfl (by decide)
       have hb3 : Below wr.heap.size wr w3 := by rw [← hw3]; exact blo _ _
       rw [← htb]
       clear htb hw3
       go_wp2_with fail
       obtain ⟨M, hM⟩ : ∃ M : Nat, M = 3 + r6 := ⟨_, rfl⟩
       have HMI : Hid ((3 : Int) + (r6 : Int) = (M : Int)) := hide (by omega)
       rw [HMI.out]
       have hM8 : M ≤ 8 := by omega
       clear hM hr6
       have hOR3 := hOR.below hb3
       have hbo3 := hbo.trans (hb3.mono hbo.size)
       clear hOR hbo hb3
       go_loopg [5, 11] M (fun gh l v w' => ∃ (i : Nat) (ps : List RH) (a : Option Addr) (c : Nat), i ≤ M ∧ gh = M - i ∧ l = .slice a ps.length c ∧ v = .int .i64 (i : Int) ∧ Hid (Raw3Q (rus ps) i) ∧ ORu w' 45 5 wo.heap.size a c ps ∧ Own w' 0 9 1 (some ⟨tb, 0, none⟩) 12 12 (texts12.map Value.string) ∧ Below wo.heap.size wo w')
       case atStart => exact ⟨0, ps, a, c, by omega, by omega, rfl, rfl, HR3, hOR3, HTX, hbo3⟩
       case round =>
        clear hOR3 hbo3 HTX HRW HGI hple HR3
        obtain ⟨i, ps, a, c, hi, hgi, rfl, rfl, HRW, hOR, hTX, hbo⟩ := hrel
        have HGI := hide hgi
        have hple : ps.length ≤ 40 := by have := HRW.out.len; unfold rus at this; rw [List.length_map] at this; omega
        clear hgi
        by_cases hil : i < M
        ·have d1 : decide (i < M) = true := decide_eq_true hil
         have d1' : decide ((i : Int) < (M : Int)) = true := decide_eq_true (by omega)
         go_wp2_with fail
         refine (around_ex 12 _ _ _ rfl (wrap_in _) (by decide) (by decide)).mono ?_
         rintro e w4 ⟨kt, hkt, rfl, rfl⟩
         obtain ⟨st, hst⟩ : ∃ st, texts12[kt]? = some st := ⟨_, List.getElem?_eq_getElem (show kt < texts12.length from hkt)⟩
         have hsm := List.mem_of_getElem? hst
         have HCT : Hid (wr.cell? ⟨tb, kt, none⟩ = some (.string st)) := hide (by
          have := hTX.sl.cell ⟨tb, 0, none⟩ rfl kt (.string st) (by rw [List.getElem?_map, hst]; rfl)
          simpa [Addr.add_lit] using this)
         have hcl := HCT.out
         obtain ⟨ii, hii⟩ : ∃ ii : Nat, ii = i * i := ⟨_, rfl⟩
         have HII : Hid ((i : Int) * (i : Int) = (ii : Int)) := hide (by rw [hii]; exact (Int.natCast_mul i i).symm)
         have hii64 : ii ≤ 64 := by rw [hii]; exact Nat.mul_le_mul (show i ≤ 8 by omega) (show i ≤ 8 by omega)
         obtain ⟨cv, hcv, hcal⟩ := ref_cell n hn0 hn1 (37 + i) (by omega)
         rw [show (((37 + i : Nat)) : Int) = 37 + (i : Int) by omega] at hcal
         have HCV := hide hcal
         clear hii hcal hst
         go_wp2_with fail
         refine wp_region_free 19 [⟨0, 80, [80], fun vs _ => vs = [.slice (some ⟨tb, 0, none⟩) 12 12]⟩, ⟨1, 81, [81], fun vs _ => vs = [.int .i64 (kt : Int)]⟩, ⟨2, 82, [82], fun vs _ => vs = [.pointer (some ⟨tb, kt, none⟩)]⟩, ⟨3, 83, [83], fun vs _ => vs = [.string st]⟩, ⟨4, 84, [84], fun vs _ => vs = [.int .i64 n]⟩, ⟨5, 85, [85], fun vs _ => vs = [.int .i64 (n.tdiv 7)]⟩, ⟨6, 86, [86], fun vs _ => vs = [.int .i64 (i : Int)]⟩, ⟨7, 87, [87], fun vs _ => vs = [.int .i64 (i : Int)]⟩, ⟨8, 88, [88], fun vs _ => vs = [.int .i64 (ii : Int)]⟩, ⟨9, 89, [89], fun vs _ => vs = [.int .i64 (wrap64 (n.tdiv 7 + (ii : Int)))]⟩, ⟨10, 90, [90], fun vs w' => ∃ r : Nat, vs = [.int .i64 (r : Int)] ∧ r < 6⟩, ⟨11, 91, [91], fun vs w' => ∃ r : Nat, vs = [.int .i64 (r : Int)] ∧ r < 4⟩, ⟨12, 92, [92], fun vs _ => vs = [.int .i64 n]⟩, ⟨13, 93, [93], fun vs _ => vs = [.int .i64 (i : Int)]⟩, ⟨14, 94, [94], fun vs _ => vs = [.int .i64 (37 + (i : Int))]⟩, ⟨15, 95, [95], fun vs _ => vs = [.int .u8 (cv.toNat : Int)]⟩, ⟨16, 96, [96], fun vs w' => ∃ b, vs = [.slice (some ⟨b, 0, none⟩) 1 1] ∧ Own w' 0 5 1 (some ⟨b, 0, none⟩) 1 1 ([cv].map B8)⟩, ⟨17, 97, [97], fun vs w' => ∃ (b r : Nat), vs = [.agg #[.string st, .int .i64 (r : Int), .slice (some ⟨b, 0, none⟩) 1 1]] ∧ r < 4 ∧ Own w' 0 5 1 (some ⟨b, 0, none⟩) 1 1 ([cv].map B8)⟩, ⟨18, 13, [13], fun vs w' => ∃ b, vs = [.pointer (some ⟨b, 0, none⟩)] ∧ wr.heap.size ≤ b ∧ Box w' b 45 [.string ⟨#[]⟩, .int .i64 0, .slice none 0 0]⟩] (by kernel_rfl) (by kernel_rfl) ?_ ?_ ?_
         ·simp only [All]
          refine ⟨fun _ _ _ _ h => h, fun _ _ _ _ h => h, fun _ _ _ _ h => h, fun _ _ _ _ h => h, fun _ _ _ _ h => h, fun _ _ _ _ h => h, fun _ _ _ _ h => h, fun _ _ _ _ h => h, fun _ _ _ _ h => h, fun _ _ _ _ h => h, ?_, ?_, fun _ _ _ _ h => h, fun _ _ _ _ h => h, fun _ _ _ _ h => h, fun _ _ _ _ h => h, ?_, ?_, ?_, trivial⟩
          ·exact fun _ _ _ _ h => h
          ·exact fun _ _ _ _ h => h
          ·rintro vs w2 w3 hb ⟨b, h1, h2⟩
           exact ⟨b, h1, h2.below hb⟩
          ·rintro vs w2 w3 hb ⟨b, r, h1, h3, h2⟩
           exact ⟨b, r, h1, h3, h2.below hb⟩
          ·rintro vs w2 w3 hb ⟨b, h1, h2, h3⟩
           exact ⟨b, h1, h2, h3.under hb⟩
         ·simp only [All]
          refine ⟨?_, ?_, ?_, ?_, ?_, ?_, ?_, ?_, ?_, ?_, ?_, ?_, ?_, ?_, ?_, ?_, ?_, ?_, ?_, trivial⟩
          ·intro o ho a' w' hb hfr hdep; obtain rfl := oj ho
           have g9 : a'.tmps[9]?.getD undef = .slice (some ⟨tb, 0, none⟩) 12 12 := by simpa using hfr 9 (by kernel_rfl)
           clear ho hfr hdep; go_wp2_with fail; exact ⟨rfl, _, rfl, br, rfl⟩
          ·intro o ho a' w' hb hfr hdep; obtain rfl := oj ho
           have g12 : a'.tmps[12]?.getD undef = .int .i64 (kt : Int) := by simpa using hfr 12 (by kernel_rfl)
           clear ho hfr hdep; go_wp2_with fail; exact ⟨rfl, _, rfl, br, rfl⟩
          ·intro o ho a' w' hb hfr hdep; obtain rfl := oj ho
           have g80 : a'.tmps[80]?.getD undef = .slice (some ⟨tb, 0, none⟩) 12 12 := by simpa using hdep 0 _ rfl (by kernel_rfl)
           have g81 : a'.tmps[81]?.getD undef = .int .i64 (kt : Int) := by simpa using hdep 1 _ rfl (by kernel_rfl)
           clear ho hfr hdep; go_wp2_with fail; exact ⟨rfl, _, rfl, br, rfl⟩
          ·intro o ho a' w' hb hfr hdep; obtain rfl := oj ho
           have g82 : a'.tmps[82]?.getD undef = .pointer (some ⟨tb, kt, none⟩) := by simpa using hdep 2 _ rfl (by kernel_rfl)
           clear ho hfr hdep; have hcl := cell_below HCT.out hb
           go_wp2_with fail; exact ⟨rfl, _, rfl, br, rfl⟩
          ·intro o ho a' w' hb hfr hdep; obtain rfl := oj ho
           have g0 : a'.tmps[0]?.getD undef = .int .i64 n := by simpa using hfr 0 (by kernel_rfl)
           clear ho hfr hdep; go_wp2_with fail; exact ⟨rfl, _, rfl, br, rfl⟩
          ·intro o ho a' w' hb hfr hdep; obtain rfl := oj ho
           have g84 : a'.tmps[84]?.getD undef = .int .i64 n := by simpa using hdep 4 _ rfl (by kernel_rfl)
           clear ho hfr hdep; go_wp2_with fail; exact ⟨rfl, _, rfl, br, rfl⟩
          ·intro o ho a' w' hb hfr hdep; obtain rfl := oj ho
           have g11 : a'.tmps[11]?.getD undef = .int .i64 (i : Int) := by simpa using hfr 11 (by kernel_rfl)
           clear ho hfr hdep; go_wp2_with fail; exact ⟨rfl, _, rfl, br, rfl⟩
          ·intro o ho a' w' hb hfr hdep; obtain rfl := oj ho
           have g11 : a'.tmps[11]?.getD undef = .int .i64 (i : Int) := by simpa using hfr 11 (by kernel_rfl)
           clear ho hfr hdep; go_wp2_with fail; exact ⟨rfl, _, rfl, br, rfl⟩
          ·intro o ho a' w' hb hfr hdep; obtain rfl := oj ho
           have g86 : a'.tmps[86]?.getD undef = .int .i64 (i : Int) := by simpa using hdep 6 _ rfl (by kernel_rfl)
           have g87 : a'.tmps[87]?.getD undef = .int .i64 (i : Int) := by simpa using hdep 7 _ rfl (by kernel_rfl)
           clear ho hfr hdep; have hii := HII.out
           go_wp2_with fail; exact ⟨rfl, _, rfl, br, rfl⟩
          ·intro o ho a' w' hb hfr hdep; obtain rfl := oj ho
           have g85 : a'.tmps[85]?.getD undef = .int .i64 (n.tdiv 7) := by simpa using hdep 5 _ rfl (by kernel_rfl)
           have g88 : a'.tmps[88]?.getD undef = .int .i64 (ii : Int) := by simpa using hdep 8 _ rfl (by kernel_rfl)
           clear ho hfr hdep; go_wp2_with fail; exact ⟨rfl, _, rfl, br, rfl⟩
          ·intro o ho a' w' hb hfr hdep; obtain rfl := oj ho
           have g89 : a'.tmps[89]?.getD undef = .int .i64 (wrap64 (n.tdiv 7 + (ii : Int))) := by simpa using hdep 9 _ rfl (by kernel_rfl)
           clear ho hfr hdep; go_wp2_with fail
           refine (around_ex 6 _ _ _ rfl (wrap_in _) (by decide) (by decide)).mono ?_
           rintro e w2 ⟨r, hr, rfl, rfl⟩
           go_wp2_with fail; exact ⟨rfl, _, rfl, br, r, rfl, hr⟩
          ·intro o ho a' w' hb hfr hdep; obtain rfl := oj ho
           obtain ⟨r, g90, hr⟩ := hdep 10 _ rfl (by kernel_rfl)
           replace g90 : a'.tmps[90]?.getD undef = .int .i64 (r : Int) := by simpa using g90
           obtain ⟨s, hs⟩ : ∃ s, s = r % 4 := ⟨_, rfl⟩
           have hs1 : (r : Int) % 4 = (s : Int) := by omega
           have hs2 : (r : Int).tmod 4 = (s : Int) := by rw [Int.tmod_eq_emod_of_nonneg (by omega)]; exact hs1
           have hs4 : s < 4 := by omega
           clear hs hr
           clear ho hfr hdep; go_wp2_with fail; exact ⟨rfl, _, rfl, br, s, rfl, hs4⟩
          ·intro o ho a' w' hb hfr hdep; obtain rfl := oj ho
           have g0 : a'.tmps[0]?.getD undef = .int .i64 n := by simpa using hfr 0 (by kernel_rfl)
           clear ho hfr hdep; go_wp2_with fail; exact ⟨rfl, _, rfl, br, rfl⟩
          ·intro o ho a' w' hb hfr hdep; obtain rfl := oj ho
           have g11 : a'.tmps[11]?.getD undef = .int .i64 (i : Int) := by simpa using hfr 11 (by kernel_rfl)
           clear ho hfr hdep; go_wp2_with fail; exact ⟨rfl, _, rfl, br, rfl⟩
          ·intro o ho a' w' hb hfr hdep; obtain rfl := oj ho
           have g93 : a'.tmps[93]?.getD undef = .int .i64 (i : Int) := by simpa using hdep 13 _ rfl (by kernel_rfl)
           clear ho hfr hdep; go_wp2_with fail; exact ⟨rfl, _, rfl, br, rfl⟩
          ·intro o ho a' w' hb hfr hdep; obtain rfl := oj ho
           have g92 : a'.tmps[92]?.getD undef = .int .i64 n := by simpa using hdep 12 _ rfl (by kernel_rfl)
           have g94 : a'.tmps[94]?.getD undef = .int .i64 (37 + (i : Int)) := by simpa using hdep 14 _ rfl (by kernel_rfl)
           clear ho hfr hdep; go_wp2_with fail
           refine (HCV.out _).mono ?_
           rintro e w2 ⟨rfl, hb2⟩
           go_wp2_with fail
           exact ⟨rfl, _, rfl, hb2, rfl⟩
          ·intro o ho a' w' hb hfr hdep; obtain rfl := oj ho
           have g95 : a'.tmps[95]?.getD undef = .int .u8 (cv.toNat : Int) := by simpa using hdep 15 _ rfl (by kernel_rfl)
           clear ho hfr hdep; go_wp2_with fail
           exact ⟨rfl, _, rfl, blo _ _, _, rfl, Own.built w' 0 5 1 1 #[.int .u8 (cv.toNat : Int)] (Nat.zero_le _) rfl (by decide)⟩
          ·intro o ho a' w' hb hfr hdep; obtain rfl := oj ho
           have g83 : a'.tmps[83]?.getD undef = .string st := by simpa using hdep 3 _ rfl (by kernel_rfl)
           obtain ⟨r, g91, hr⟩ := hdep 11 _ rfl (by kernel_rfl)
           replace g91 : a'.tmps[91]?.getD undef = .int .i64 (r : Int) := by simpa using g91
           obtain ⟨b8, g96, ho8⟩ := hdep 16 _ rfl (by kernel_rfl)
           replace g96 : a'.tmps[96]?.getD undef = .slice (some ⟨b8, 0, none⟩) 1 1 := by simpa using g96
           clear ho hfr hdep; go_wp2_with fail; exact ⟨rfl, _, rfl, br, b8, r, rfl, hr, ho8⟩
          ·intro o ho a' w' hb hfr hdep; obtain rfl := oj ho
           clear ho hfr hdep; have hxn := Box.new w' 45 #[.string ⟨#[]⟩, .int .i64 0, .slice none 0 0]
           have hsz := hb.size
           go_wp2_with fail
           exact ⟨rfl, _, rfl, blo _ _, _, rfl, hsz, hxn⟩
         ·intro g w9 hb9 hp9
          obtain ⟨b9, r9, p97, hr9, ho9⟩ := hp9 17 _ rfl
          obtain ⟨b13, p13, hb13, hx13⟩ := hp9 18 _ rfl
          clear hp9
          simp at p97 p13
          simp only [List.drop_succ_cons, List.drop_zero, List.map_cons, List.map_nil, putAll, Act.put, List.setIfInBounds_toArray, List.set_cons_succ, List.set_cons_zero, List.cons_append, List.nil_append, p97, p13]
          clear p97 p13
          go_wp2_with (with_reducible refine store_all 45 _ _ 45 b13 [.string ⟨#[]⟩, .int .i64 0, .slice none 0 0] [.string st, .int .i64 (r9 : Int), .slice (some ⟨b9, 0, none⟩) 1 1] _ (size_ru3 _ _ _) hx13 rfl rfl rfl (Eq.refl 3) (by simp [Value.oneCell']) ?_; intro w10 hx10 hg10 hs10; refine hold ?_)
          refine hide ?_
          have hRB : RB wr w10 b13 st (r9 : Int) := RB.set (cs := [cv]) hx13 ho9 (one_ok hcv) hb9 hb13 hg10 hx10
          clear hx13 ho9 hb9 hg10 hx10 hs10
          go_wp2_with fail
          refine (around_ex 3 _ _ _ rfl (wrap_in _) (by decide) (by decide)).mono ?_
          rintro e w11 ⟨q, hq, rfl, rfl⟩
          go_upto_if 103 with fail
          go_cut [13] from 104 to 114 (fun p w' => p = .pointer (some ⟨b13, 0, none⟩) ∧ RB wr w' b13 st (r9 : Int))
          case first =>
           by_cases hq0 : q = 0
           ·subst hq0
            obtain ⟨cs0, a0, m0, c0, _, hx0, _, hbw⟩ := hRB
            go_wp2_with fail
            refine (cell_ex n hn0 hn1 36 _ rfl (by decide) _).mono ?_
            rintro e w12 ⟨cA, hcA, rfl, hb12⟩
            go_wp2_with fail
            refine (around_ex 26 _ _ _ rfl (wrap_in _) (by decide) (by decide)).mono ?_
            rintro e w13 ⟨q2, hq2, rfl, rfl⟩
            go_wp2_with fail
            refine (cell_ex n hn0 hn1 q2 _ rfl (by omega) _).mono ?_
            rintro e w14 ⟨cB, hcB, rfl, hb14b⟩
            have hb14 := hb12.trans (hb14b.mono hb12.size)
            have ub := Own.built w14 0 5 1 2 #[.int .u8 (cA.toNat : Int), .int .u8 (cB.toNat : Int)] (Nat.zero_le _) rfl (by decide)
            have hxs := (hx0.under hb14).alloc (.cells #[.int .u8 (cA.toNat : Int), .int .u8 (cB.toNat : Int)] 5)
            have hbs := (hbw.trans (hb14.mono hbw.size)).trans ((blo w14 (.cells #[.int .u8 (cA.toNat : Int), .int .u8 (cB.toNat : Int)] 5)).mono (Nat.le_trans hbw.size hb14.size))
            have hln : 2 < ([.string st, .int .i64 (r9 : Int), .slice a0 m0 c0] : List Value).length := by simp
            go_wp2_with (with_reducible refine store_cell 23 _ _ 45 b13 2 [.string st, .int .i64 (r9 : Int), .slice a0 m0 c0] (.slice (some ⟨w14.heap.size, 0, none⟩) 2 2) size_row hxs rfl rfl rfl rfl hln ?_; intro w15 hx15 hg15 hs15)
            go_meet
            exact ⟨rfl, RB.set (cs := [cA, cB]) hxs ub (two_ok hcA hcB) hbs hb13 hg15 hx15⟩
           ·have dq : ((q : Int) == 0) = false := by simpa using hq0
            have dq2 : decide ((q : Int) = 0) = false := by simpa using hq0
            go_wp2_with fail
            go_meet
            exact ⟨rfl, hRB⟩
          case rest =>
          clear hRB hq
          obtain ⟨rfl, hRB⟩ := hcut
          obtain ⟨wd, rfl⟩ : ∃ wd : World, wd = wc := ⟨_, rfl⟩
          go_wp2_with fail
          refine (around_ex 23 _ _ _ rfl (wrap_in _) (by decide) (by decide)).mono ?_
          rintro e w11 ⟨q, hq, rfl, rfl⟩
          go_upto_if 120 with fail
          go_cut [13] from 121 to 132 (fun p w' => p = .pointer (some ⟨b13, 0, none⟩) ∧ RB wr w' b13 st (r9 : Int))
          case first =>
           by_cases hq0 : q = 0
           ·subst hq0
            obtain ⟨cs0, a0, m0, c0, _, hx0, _, hbw⟩ := hRB
            go_wp2_with fail
            refine (around_ex 32 _ _ _ rfl (tdiv_in hn0 hn1 (by decide)) (by decide) (by decide)).mono ?_
            rintro e wz ⟨q1, hq1, rfl, rfl⟩
            go_wp2_with fail
            refine (cell_ex n hn0 hn1 q1 _ rfl (by omega) _).mono ?_
            rintro e w12 ⟨cA, hcA, rfl, hb12⟩
            go_wp2_with fail
            refine (around_ex 32 _ _ _ rfl (tdiv_in hn0 hn1 (by decide)) (by decide) (by decide)).mono ?_
            rintro e w13 ⟨q2, hq2, rfl, rfl⟩
            go_wp2_with fail
            refine (cell_ex n hn0 hn1 q2 _ rfl (by omega) _).mono ?_
            rintro e w14 ⟨cB, hcB, rfl, hb14b⟩
            have hb14 := hb12.trans (hb14b.mono hb12.size)
            have ub := Own.built w14 0 5 1 2 #[.int .u8 (cA.toNat : Int), .int .u8 (cB.toNat : Int)] (Nat.zero_le _) rfl (by decide)
            have hxs := (hx0.under hb14).alloc (.cells #[.int .u8 (cA.toNat : Int), .int .u8 (cB.toNat : Int)] 5)
            have hbs := (hbw.trans (hb14.mono hbw.size)).trans ((blo w14 (.cells #[.int .u8 (cA.toNat : Int), .int .u8 (cB.toNat : Int)] 5)).mono (Nat.le_trans hbw.size hb14.size))
            have hln : 2 < ([.string st, .int .i64 (r9 : Int), .slice a0 m0 c0] : List Value).length := by simp
            go_wp2_with (with_reducible refine store_cell 23 _ _ 45 b13 2 [.string st, .int .i64 (r9 : Int), .slice a0 m0 c0] (.slice (some ⟨w14.heap.size, 0, none⟩) 2 2) size_row hxs rfl rfl rfl rfl hln ?_; intro w15 hx15 hg15 hs15)
            go_meet
            exact ⟨rfl, RB.set (cs := [cA, cB]) hxs ub (two_ok hcA hcB) hbs hb13 hg15 hx15⟩
           ·have dq : ((q : Int) == 0) = false := by simpa using hq0
            have dq2 : decide ((q : Int) = 0) = false := by simpa using hq0
            go_wp2_with fail
            go_meet
            exact ⟨rfl, hRB⟩
          case rest =>
          clear hRB hq
          obtain ⟨rfl, hRB⟩ := hcut
          obtain ⟨wd, rfl⟩ : ∃ wd : World, wd = wc := ⟨_, rfl⟩
          obtain ⟨cs, a1, m1, c1, hcs, hx, hcells, hbw⟩ := hRB
          have HST : Hid (∀ h, Hid (Raw3Q (rus (ps ++ [((⟨st, (r9 : Int), cs⟩ : Ru), h)])) (i + 1))) := hide (fun h => hide (by
           have := HRW.out.step (texts12_q st hsm) (contr_ok hsm (show (0 : Int) ≤ (r9 : Int) by omega) (show (r9 : Int) ≤ 3 by omega) hcs)
           unfold rus at this ⊢
           simpa using this))
          have HSZ : Hid (st.size ≤ 1000) := hide (by
           have := texts12_ok st hsm
           simp only [Bool.and_eq_true, decide_eq_true_eq] at this
           omega)
          have hOw := hOR.below hbw
          have hTw := hTX.below hbw
          have hbo2 := hbo.trans (hbw.mono hbo.size)
          go_wp2_with (first
           | (with_reducible refine load_struct 134 45 _ 3 size_rule _ Tryd.underlying45 ⟨b13, 0, none⟩ rfl [.string st, .int .i64 (r9 : Int), .slice a1 m1 c1] rfl (fun j u hj => by rw [Addr.add_lit, Nat.zero_add]; exact hx.at_ hj) ?_)
           | (at_builtin; refine app_ru rfl _ _ rfl wo wo.heap.size a c ps rfl hOw (⟨st, (r9 : Int), cs⟩, (a1, m1, c1)) hcells HSZ.out rfl (by omega) hbo2.size hbo2 ?_; intro a9 c9 w21 ho21 hb21 hg21))
          go_roundg (M - (i + 1))
          case measure => have := HGI.out; omega
          case rel => exact ⟨i + 1, ps ++ [((⟨st, (r9 : Int), cs⟩ : Ru), (a1, m1, c1))], a9, c9, by omega, rfl, by rw [List.length_append]; rfl, by go_num, HST.out _, ho21, hTw.kept hg21 (fun q hq => by cases hq; exact far_map hTw hOw.top (by decide)), hb21⟩
        ·obtain rfl : i = M := by omega
         have HRaw := hide (Raw3Q.raw HRW.out (by omega))
         have hV7 : ([v0, v1, .slice none 0 0, .slice none 0 0, .slice none 0 0, .slice none 0 0, .slice none 0 0] : List Value).length = 7 := rfl
         obtain ⟨V, hV⟩ : ∃ V : List Value, V = [v0, v1, .slice none 0 0, .slice none 0 0, .slice none 0 0, .slice none 0 0, .slice none 0 0] := ⟨_, rfl⟩
         rw [← hV] at hX1 hV7
         have HV := hide hV
         clear hV
         go_wp2_with fail
         refine (ref_Once ps a c wo.heap.size (by omega) wr hOR).mono ?_
         rintro e w22 ⟨a2, c2, qs, rfl, hQ, hON, hb22⟩
         have hb022 := hbo.trans (hb22.mono hbo.size)
         have hx22 := hX1.under hb022
         have hz22 := hX0.under hb022
         have hkl2 : k + ([.slice a2 qs.length c2] : List Value).length ≤ V.length := by rw [hV7]; simp; omega
         have hone : ∀ u ∈ ([.slice a2 qs.length c2] : List Value), u.oneCell' = true := by simp [Value.oneCell']
         clear hV7
         go_wp2_with (with_reducible refine store_box 26 _ _ 29 g1 k V [.slice a2 qs.length c2] _ (size_tab1 _) hx22 rfl rfl rfl hkl2 hone ?_; intro w23 hx23 hg23 hs23)
         have hnew : RGQ w23 w.heap.size (.slice a2 qs.length c2) := by
          refine RGQ.kept ⟨rus ps, rus qs, HRaw.out, hON, a2, c2, qs, rfl, hQ.mono ?_, rfl⟩ hg23 hx22
          exact Nat.le_trans hb.size hbo.size
         have HKN : Hid (∃ v0' v1', Box w23 g1 29 [v0', v1', .slice none 0 0, .slice none 0 0, .slice none 0 0, .slice none 0 0, .slice none 0 0] ∧ (1 ≤ k + 1 → RGQ w23 w.heap.size v0') ∧ (2 ≤ k + 1 → RGQ w23 w.heap.size v1')) := by
          rw [HV.out] at hx23
          rcases k with _ | _ | k
          ·exact hide ⟨_, v1, hx23, fun _ => hnew, fun h => by omega⟩
          ·exact hide ⟨v0, _, hx23, fun _ => ((hr0 (by omega)).below hb022).kept hg23 hx22, fun _ => hnew⟩
          ·omega
         obtain ⟨v0', v1', z1, z4, z5⟩ := HKN.out
         have hbw := (hb.trans (hb022.mono hb.size)).grown hg23 (Nat.le_trans hb.size hb022.size) (fun q hq => by cases hq; exact hg1w)
         have hz23 := hz22.grown hg23 hg01
         go_roundg (2 - (k + 1))
         case measure => have := HG.out; omega
         case rel => exact ⟨k + 1, v0', v1', by omega, rfl, by go_num, z1, hz23, z4, z5, hbw⟩
  ·obtain rfl : k = 2 := by omega
   have r0 := hr0 (by omega)
   have r1 := hr1 (by omega)
   obtain ⟨w5, rfl⟩ : ∃ w5 : World, w5 = wr := ⟨_, rfl⟩
   have hg15 : g1 < w5.heap.size := hX1.lt
   have hbx5 := hX1
   have HX5 := hide hX1
   have hz5 := hX0
   clear hr0 hr1 hkl hk HG hX1 hX0
   go_wp2_with fail
   go_loopg [14] 10 (fun gh v w' => ∃ (i : Nat) (a : Option Addr) (c : Nat) (ds : List UInt8), i ≤ 10 ∧ gh = 10 - i ∧ v = .int .i64 (i : Int) ∧ ds.length = i ∧ okCells ds = true ∧ Box w' g1 29 [v0, v1, .slice a i c, .slice none 0 0, .slice none 0 0, .slice none 0 0, .slice none 0 0] ∧ Own w' w5.heap.size 5 1 a i c (ds.map B8) ∧ w5.grownBy w' (some g1))
   case atStart => exact ⟨0, none, 0, [], by omega, by omega, rfl, rfl, rfl, hbx5, Own.nil _ _ _ _, grown_of_below (Below.refl _ _) _⟩
   case round =>
    clear hbx5
    obtain ⟨i, a, c, ds, hi, hgi, rfl, hdl, hok, hBx, hOd, hgo⟩ := hrel
    have HGI := hide hgi
    clear hgi
    by_cases hil : i < 10
    ·obtain ⟨cv, hcv, hcal⟩ := ref_cell n hn0 hn1 i (by omega)
     have HCV := hide hcal
     have HOK : Hid (okCells (ds ++ [cv]) = true) := hide (by unfold okCells at hok ⊢; rw [List.all_append, hok]; simp [hcv])
     have HNE : Hid (∀ b, wr.heap.size ≤ b → some b ≠ a.map (·.block)) := hide (fun b hb => own_map hOd hb)
     clear hcal hcv hok
     have HDL := hide hdl
     clear hdl
     have hdl := HDL
     go_wp2_with fail
     refine wp_region_chain4 7 (fun w w' => w.grownBy w' (a.map (·.block))) (GDg wr w5 29 5 g1 [v0, v1, .slice a i c, .slice none 0 0, .slice none 0 0, .slice none 0 0, .slice none 0 0] (i + 1) (ds ++ [cv])) [⟨6, 153, [], fun _ _ => True⟩] [⟨0, 147, [147], fun vs _ => vs = [.pointer (some ⟨g1, 1 + 1, none⟩)]⟩, ⟨1, 148, [148], fun vs _ => vs = [.slice a i c]⟩, ⟨2, 149, [149], fun vs _ => vs = [.int .i64 n]⟩, ⟨3, 150, [150], fun vs _ => vs = [.int .i64 (i : Int)]⟩, ⟨4, 151, [151], fun vs _ => vs = [.int .u8 (cv.toNat : Int)]⟩, ⟨5, 152, [152], fun vs w' => ∃ b, vs = [.slice (some ⟨b, 0, none⟩) 1 1] ∧ wr.heap.size ≤ b ∧ Own w' 0 5 1 (some ⟨b, 0, none⟩) 1 1 ([cv].map B8)⟩] (by kernel_rfl) (by kernel_rfl) ?_ (fun _ _ h => grown_of_below h _) GDg.mono ?_ ?_ ?_ ?_
     ·exact (Still.below 1 : Below wr.heap.size wr (wr.drewN 1))
     ·simp only [All]
      refine ⟨(fun _ _ _ _ h => h), (fun _ _ _ _ h => h), (fun _ _ _ _ h => h), (fun _ _ _ _ h => h), (fun _ _ _ _ h => h), (fun vs w1 w2 hr ⟨b, h1, h0, h2⟩ => ⟨b, h1, h0, h2.kept hr (fun q hq => by cases hq; exact HNE.out b h0)⟩), trivial⟩
     ·intro m c hc o ho a' w' hG hfr hdep
      rcases m with _ | m
      ·cases hc
       obtain rfl := oj ho
       have hb : Below wr.heap.size wr w' := hG
       have g148 : a'.tmps[148]?.getD undef = .slice a i c := by simpa using hdep 1 _ rfl (by kernel_rfl)
       obtain ⟨b2, g152, hb2, hs2⟩ := hdep 5 _ rfl (by kernel_rfl)
       simp at g152
       clear hfr hdep hG
       have hOw := hOd.below hb
       have hsz9 := Nat.le_trans hgo.size hb.size
       refine append_own rfl _ _ 23 rfl 5 (.int .u8 0) 1 1 Tryd.underlying23 info_u8 rfl w' w5.heap.size a i c _ (by show a'.tmps.getD 148 undef = _; simpa using g148) hOw (some ⟨b2, 0, none⟩) 1 1 _ (by show a'.tmps.getD 152 undef = _; simpa using g152) hs2.sl (by simp [Value.oneCell', B8]) (by omega) (by unfold maxLen; omega) hsz9 (Below.refl _ _) ?_
       intro a3 c3 w7 ho7 hgr7 hb7
       rw [← List.map_append] at ho7
       go_wp2
       exact ⟨rfl, _, rfl, hgr7, ⟨a3, c3, rfl, ho7⟩, (hBx.under hb).below hb7 hg15, grown_below (grown_below hgo (hb.mono hgo.size)) hb7, Nat.le_trans hb.size hgr7.size⟩
      ·cases hc
     ·simp only [All]
      refine ⟨?_, ?_, ?_, ?_, ?_, ?_, trivial⟩
      ·intro o ho a' w' hfr hdep hst; obtain rfl := oj ho
       have g3 : a'.tmps[3]?.getD undef = .pointer (some ⟨g1, 0, none⟩) := by simpa using hfr 3 (by kernel_rfl)
       clear ho hfr hdep hst; go_wp2_with fail; exact ⟨rfl, _, rfl, br, rfl⟩
      ·intro o ho a' w' hfr hdep hst; obtain rfl := oj ho
       have g147 : a'.tmps[147]?.getD undef = .pointer (some ⟨g1, 1 + 1, none⟩) := by simpa using hdep 0 _ rfl (by kernel_rfl)
       obtain ⟨j, _, _, hG⟩ := hst
       clear ho hfr hdep; have hcl := (hG.box hBx).at_ (j := 2) rfl
       clear hG
       go_wp2_with fail; exact ⟨rfl, _, rfl, br, rfl⟩
      ·intro o ho a' w' hfr hdep hst; obtain rfl := oj ho
       have g0 : a'.tmps[0]?.getD undef = .int .i64 n := by simpa using hfr 0 (by kernel_rfl)
       clear ho hfr hdep hst; go_wp2_with fail; exact ⟨rfl, _, rfl, br, rfl⟩
      ·intro o ho a' w' hfr hdep hst; obtain rfl := oj ho
       have g14 : a'.tmps[14]?.getD undef = .int .i64 (i : Int) := by simpa using hfr 14 (by kernel_rfl)
       clear ho hfr hdep hst; go_wp2_with fail; exact ⟨rfl, _, rfl, br, rfl⟩
      ·intro o ho a' w' hfr hdep hst; obtain rfl := oj ho
       have g149 : a'.tmps[149]?.getD undef = .int .i64 n := by simpa using hdep 2 _ rfl (by kernel_rfl)
       have g150 : a'.tmps[150]?.getD undef = .int .i64 (i : Int) := by simpa using hdep 3 _ rfl (by kernel_rfl)
       clear ho hfr hdep hst; go_wp2_with fail
       refine (HCV.out _).mono ?_
       rintro e w2 ⟨rfl, hb2⟩
       go_wp2_with fail
       exact ⟨rfl, _, rfl, hb2, rfl⟩
      ·intro o ho a' w' hfr hdep hst; obtain rfl := oj ho
       have g151 : a'.tmps[151]?.getD undef = .int .u8 (cv.toNat : Int) := by simpa using hdep 4 _ rfl (by kernel_rfl)
       obtain ⟨j, _, _, hG⟩ := hst
       clear ho hfr hdep; have hsz := hG.size
       clear hG
       go_wp2_with fail
       exact ⟨rfl, _, rfl, blo _ _, _, rfl, hsz, Own.built w' 0 5 1 1 #[.int .u8 (cv.toNat : Int)] (Nat.zero_le _) rfl (by decide)⟩
     ·intro g w7 hG hp
      obtain ⟨⟨a7, c7, p153, ho7⟩, gB, gG, _⟩ := hG
      clear hp
      simp at p153
      simp only [List.drop_succ_cons, List.drop_zero, List.map_cons, List.map_nil, putAll, Act.put, List.setIfInBounds_toArray, List.set_cons_succ, List.set_cons_zero, List.cons_append, List.nil_append, p153]
      clear p153
      have hln : 2 < ([v0, v1, .slice a i c, .slice none 0 0, .slice none 0 0, .slice none 0 0, .slice none 0 0] : List Value).length := by simp
      go_wp2_with (with_reducible refine store_cell 23 _ _ 29 g1 2 [v0, v1, .slice a i c, .slice none 0 0, .slice none 0 0, .slice none 0 0, .slice none 0 0] (.slice a7 (i + 1) c7) size_row gB rfl rfl rfl rfl hln ?_; intro w8 hx8 hg8 hs8)
      have ho8 := UB8 gB ho7 hg8
      have hgo8 := grown_trans gG hg8
      go_roundg (10 - (i + 1))
      case measure => have := HGI.out; omega
      case rel => exact ⟨i + 1, a7, c7, ds ++ [cv], by omega, rfl, by go_num, by rw [List.length_append, hdl]; rfl, HOK.out, hx8, ho8, hgo8⟩
    ·obtain rfl : i = 10 := by omega
     have hT : TWQ w wr w.heap.size g1 w.heap.size v0 v1 [.slice a 10 c, .slice none 0 0, .slice none 0 0, .slice none 0 0, .slice none 0 0] [ds, [], [], [], []] := by
      refine ⟨hBx, hz5.grown hgo hg01, r0.kept hgo HX5.out, r1.kept hgo HX5.out, rfl, ?_, hb.grown hgo hb.size (fun q hq => by cases hq; exact hg1w)⟩
      intro j v l h1 h2
      rcases j with _ | _ | _ | _ | _ | j
      ·cases h1; cases h2; exact ⟨a, 10, c, rfl, hOd.mono (Nat.zero_le _)⟩
      ·cases h1; cases h2; exact UB.nil _
      ·cases h1; cases h2; exact UB.nil _
      ·cases h1; cases h2; exact UB.nil _
      ·cases h1; cases h2; exact UB.nil _
      ·cases h1
     have HDS := hide (And.intro hdl hok)
     obtain ⟨vs, hvs⟩ : ∃ vs : List Value, vs = [.slice a 10 c, .slice none 0 0, .slice none 0 0, .slice none 0 0, .slice none 0 0] := ⟨_, rfl⟩
     rw [← hvs] at hT
     clear hdl hok hBx hOd hgo r0 r1 hz5 hb hvs
     go_wp2_with fail
     refine (cell_ex n hn0 hn1 32 _ rfl (by decide) _).mono ?_
     rintro e wa ⟨x1, hx1, rfl, hba⟩
     have T1 := (hT.below hba (Nat.le_refl _)).below (blo wa (.cells #[.int .u8 (x1.toNat : Int)] 5)) (Nat.le_refl _)
     have hu : UB (wa.alloc (.cells #[.int .u8 (x1.toNat : Int)] 5)) (.slice (some ⟨wa.heap.size, 0, none⟩) 1 1) [x1] := UB.new wa [x1] 1 rfl (by decide)
     have hbx1 := T1.box
     have hln : 3 < (v0 :: v1 :: vs).length := by simp [T1.len]
     clear hT hba
     go_wp2_with (with_reducible refine store_cell 23 _ _ 29 g1 3 (v0 :: v1 :: vs) (.slice (some ⟨wa.heap.size, 0, none⟩) 1 1) size_row hbx1 rfl rfl rfl rfl hln ?_; intro wb hxb hgb hsb; refine hold ?_)
     refine hide ?_
     have T2 : TWQ w wb w.heap.size g1 w.heap.size v0 v1 _ [ds, [x1], [], [], []] := T1.store (j := 1) (l := [x1]) hgb hxb hu hg1w (Nat.le_refl _) hg01
     clear T1 hu hbx1 hln hxb hgb hsb
     generalize vs.set 1 _ = vs' at T2
     have hT := T2
     clear T2
     obtain ⟨vs, rfl⟩ : ∃ vs : List Value, vs = vs' := ⟨_, rfl⟩
     go_wp2_with fail
     refine (cell_ex n hn0 hn1 33 _ rfl (by decide) _).mono ?_
     rintro e wa ⟨x2, hx2, rfl, hba⟩
     have T1 := (hT.below hba (Nat.le_refl _)).below (blo wa (.cells #[.int .u8 (x2.toNat : Int)] 5)) (Nat.le_refl _)
     have hu : UB (wa.alloc (.cells #[.int .u8 (x2.toNat : Int)] 5)) (.slice (some ⟨wa.heap.size, 0, none⟩) 1 1) [x2] := UB.new wa [x2] 1 rfl (by decide)
     have hbx1 := T1.box
     have hln : 4 < (v0 :: v1 :: vs).length := by simp [T1.len]
     clear hT hba
     go_wp2_with (with_reducible refine store_cell 23 _ _ 29 g1 4 (v0 :: v1 :: vs) (.slice (some ⟨wa.heap.size, 0, none⟩) 1 1) size_row hbx1 rfl rfl rfl rfl hln ?_; intro wb hxb hgb hsb; refine hold ?_)
     refine hide ?_
     have T2 : TWQ w wb w.heap.size g1 w.heap.size v0 v1 _ [ds, [x1], [x2], [], []] := T1.store (j := 2) (l := [x2]) hgb hxb hu hg1w (Nat.le_refl _) hg01
     clear T1 hu hbx1 hln hxb hgb hsb
     generalize vs.set 2 _ = vs' at T2
     have hT := T2
     clear T2
     obtain ⟨vs, rfl⟩ : ∃ vs : List Value, vs = vs' := ⟨_, rfl⟩
     go_wp2_with fail
     refine (cell_ex n hn0 hn1 34 _ rfl (by decide) _).mono ?_
     rintro e wa ⟨x3, hx3, rfl, hba⟩
     have T1 := (hT.below hba (Nat.le_refl _)).below (blo wa (.cells #[.int .u8 (x3.toNat : Int)] 5)) (Nat.le_refl _)
     have hu : UB (wa.alloc (.cells #[.int .u8 (x3.toNat : Int)] 5)) (.slice (some ⟨wa.heap.size, 0, none⟩) 1 1) [x3] := UB.new wa [x3] 1 rfl (by decide)
     have hbx1 := T1.box
     have hln : 5 < (v0 :: v1 :: vs).length := by simp [T1.len]
     clear hT hba
     go_wp2_with (with_reducible refine store_cell 23 _ _ 29 g1 5 (v0 :: v1 :: vs) (.slice (some ⟨wa.heap.size, 0, none⟩) 1 1) size_row hbx1 rfl rfl rfl rfl hln ?_; intro wb hxb hgb hsb; refine hold ?_)
     refine hide ?_
     have T2 : TWQ w wb w.heap.size g1 w.heap.size v0 v1 _ [ds, [x1], [x2], [x3], []] := T1.store (j := 3) (l := [x3]) hgb hxb hu hg1w (Nat.le_refl _) hg01
     clear T1 hu hbx1 hln hxb hgb hsb
     generalize vs.set 3 _ = vs' at T2
     have hT := T2
     clear T2
     obtain ⟨vs, rfl⟩ : ∃ vs : List Value, vs = vs' := ⟨_, rfl⟩
     go_wp2_with fail
     refine (cell_ex n hn0 hn1 35 _ rfl (by decide) _).mono ?_
     rintro e wa ⟨x4, hx4, rfl, hba⟩
     have T1 := (hT.below hba (Nat.le_refl _)).below (blo wa (.cells #[.int .u8 (x4.toNat : Int)] 5)) (Nat.le_refl _)
     have hu : UB (wa.alloc (.cells #[.int .u8 (x4.toNat : Int)] 5)) (.slice (some ⟨wa.heap.size, 0, none⟩) 1 1) [x4] := UB.new wa [x4] 1 rfl (by decide)
     have hbx1 := T1.box
     have hln : 6 < (v0 :: v1 :: vs).length := by simp [T1.len]
     clear hT hba
     go_wp2_with (with_reducible refine store_cell 23 _ _ 29 g1 6 (v0 :: v1 :: vs) (.slice (some ⟨wa.heap.size, 0, none⟩) 1 1) size_row hbx1 rfl rfl rfl rfl hln ?_; intro wb hxb hgb hsb; refine hold ?_)
     refine hide ?_
     have T2 : TWQ w wb w.heap.size g1 w.heap.size v0 v1 _ [ds, [x1], [x2], [x3], [x4]] := T1.store (j := 4) (l := [x4]) hgb hxb hu hg1w (Nat.le_refl _) hg01
     clear T1 hu hbx1 hln hxb hgb hsb
     generalize vs.set 4 _ = vs' at T2
     have hT := T2
     clear T2
     obtain ⟨vs, rfl⟩ : ∃ vs : List Value, vs = vs' := ⟨_, rfl⟩
     go_wp2_with fail
     refine (around_ex 5 _ _ _ rfl (tdiv_in hn0 hn1 (by decide)) (by decide) (by decide)).mono ?_
     rintro e wc1 ⟨q, hq, rfl, rfl⟩
     go_upto_if 174 with fail
     go_cut [3] from 175 to 180 (fun p w' => p = .pointer (some ⟨g1, 0, none⟩) ∧ ∃ (vs : List Value) (s : List UInt8), indic s = true ∧ TWQ w w' w.heap.size g1 w.heap.size v0 v1 vs [ds, [x1], [x2], [x3], s])
     case first =>
      by_cases hq0 : q = 0
      ·subst hq0
       go_wp2_with fail
       refine (cell_ex n hn0 hn1 35 _ rfl (by decide) _).mono ?_
       rintro e wa1 ⟨cA, hcA, rfl, hba1⟩
       go_wp2_with fail
       refine (cell_ex n hn0 hn1 34 _ rfl (by decide) _).mono ?_
       rintro e wa ⟨cB, hcB, rfl, hba2⟩
       have T1 := ((hT.below hba1 (Nat.le_refl _)).below hba2 (Nat.le_refl _)).below (blo wa (.cells #[.int .u8 (cA.toNat : Int), .int .u8 (cB.toNat : Int)] 5)) (Nat.le_refl _)
       have hu : UB (wa.alloc (.cells #[.int .u8 (cA.toNat : Int), .int .u8 (cB.toNat : Int)] 5)) (.slice (some ⟨wa.heap.size, 0, none⟩) 2 2) [cA, cB] := UB.new wa [cA, cB] 2 rfl (by decide)
       have hbx1 := T1.box
       have hln : 6 < (v0 :: v1 :: vs).length := by simp [T1.len]
       go_wp2_with (with_reducible refine store_cell 23 _ _ 29 g1 6 (v0 :: v1 :: vs) (.slice (some ⟨wa.heap.size, 0, none⟩) 2 2) size_row hbx1 rfl rfl rfl rfl hln ?_; intro wb hxb hgb hsb)
       go_meet
       exact ⟨rfl, _, [cA, cB], two_ok hcA hcB, T1.store (j := 4) (l := [cA, cB]) hgb hxb hu hg1w (Nat.le_refl _) hg01⟩
      ·have dq : ((q : Int) == 0) = false := by simpa using hq0
       have dq2 : decide ((q : Int) = 0) = false := by simpa using hq0
       go_wp2_with fail
       go_meet
       exact ⟨rfl, vs, [x4], one_ok hx4, hT⟩
     case rest =>
      clear hT hq
      obtain ⟨rfl, vs, s, hs, hT⟩ := hcut
      obtain ⟨u2, u3, u4, u5, u6, rfl⟩ : ∃ u2 u3 u4 u5 u6, vs = [u2, u3, u4, u5, u6] := by
       have := hT.len
       match vs, this with
       | [u2, u3, u4, u5, u6], _ => exact ⟨_, _, _, _, _, rfl⟩
      have hOUT := hide hT.out
      have hBB := hide hT.bel
      obtain ⟨L0, L0', hW0, hO0, z0, y0, p0, rfl, hR0, hp0⟩ := hT.l0
      obtain ⟨L1, L1', hW1, hO1, z1, y1, p1, rfl, hR1, hp1⟩ := hT.l1
      obtain ⟨z2, n2, y2, rfl, ho2⟩ := hT.row 0 _ _ rfl rfl
      obtain ⟨z3, n3, y3, rfl, ho3⟩ := hT.row 1 _ _ rfl rfl
      obtain ⟨z4, n4, y4, rfl, ho4⟩ := hT.row 2 _ _ rfl rfl
      obtain ⟨z5, n5, y5, rfl, ho5⟩ := hT.row 3 _ _ rfl rfl
      obtain ⟨z6, n6, y6, rfl, ho6⟩ := hT.row 4 _ _ rfl rfl
      have hbx := hT.box
      have hone : ∀ u ∈ ([.slice z0 p0.length y0, .slice z1 p1.length y1, .slice z2 n2 y2, .slice z3 n3 y3, .slice z4 n4 y4, .slice z5 n5 y5, .slice z6 n6 y6] : List Value), u.oneCell' = true := by simp [Value.oneCell']
      have hgood : GoodTaQ ⟨L0', L1', ds, [x1], [x2], [x3], s⟩ := good_tablesQ hW0 hW1 hO0 hO1 HDS.out.1 HDS.out.2 (one_ok hx1) (one_ok hx2) (one_ok hx3) hs
      have HGOOD := hide hgood
      have hH0 := hide hp0
      have hH1 := hide hp1
      clear hT hW0 hO0 hW1 hO1 hgood hs hp0 hp1
      have hout := hOUT.out
      go_wp2_with (first
       | (with_reducible refine load_struct 181 29 _ 7 size_tables _ Tryd.underlying29 ⟨g1, 0, none⟩ rfl [.slice z0 p0.length y0, .slice z1 p1.length y1, .slice z2 n2 y2, .slice z3 n3 y3, .slice z4 n4 y4, .slice z5 n5 y5, .slice z6 n6 y6] rfl (fun j u hj => by rw [Addr.add_lit, Nat.zero_add]; exact hbx.at_ hj) ?_)
       | (with_reducible refine store_all 29 _ _ 29 w.heap.size [.slice none 0 0, .slice none 0 0, .slice none 0 0, .slice none 0 0, .slice none 0 0, .slice none 0 0, .slice none 0 0] [.slice z0 p0.length y0, .slice z1 p1.length y1, .slice z2 n2 y2, .slice z3 n3 y3, .slice z4 n4 y4, .slice z5 n5 y5, .slice z6 n6 y6] _ (size7 _ _ _ _ _ _ _) hout rfl rfl rfl (Eq.refl 7) hone ?_; intro w12 hx12 hg12 hs12))
      have hbw12 := hBB.out.grown hg12 hBB.out.size (fun q hq => by cases hq; exact Nat.le_refl _)
      have hR0' := (hR0.kept hg12 hOUT.out (by decide) (by decide)).rul
      have hR1' := (hR1.kept hg12 hOUT.out (by decide) (by decide)).rul
      have ho2c := UB8 hOUT.out ho2 hg12
      have ho3c := UB8 hOUT.out ho3 hg12
      have ho4c := UB8 hOUT.out ho4 hg12
      have ho5c := UB8 hOUT.out ho5 hg12
      have ho6c := UB8 hOUT.out ho6 hg12
      refine bodyPost_ret (run_results_cell rfl rfl agg_tables (size7 _ _ _ _ _ _ _) hx12) rfl ⟨⟨(z0, p0.length, y0), (z1, p1.length, y1), p0, p1, (z2, n2, y2), (z3, n3, y3), (z4, n4, y4), (z5, n5, y5), (z6, n6, y6)⟩, _, rfl, ⟨hR0', hR1', hH0.out, hH1.out, ho2c.sl, ho3c.sl, ho4c.sl, ho5c.sl, ho6c.sl⟩, HGOOD.out, hbw12⟩
end Go.Proofs.YtfagjaabladgpaaDoor
end
