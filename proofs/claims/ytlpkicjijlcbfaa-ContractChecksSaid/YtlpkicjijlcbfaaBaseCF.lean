/- The contracts of the functions that the law reaches, joined into one text. -/
import Derived.Test.YtlpkicjijlcbfaaBaseCE
import Derived.RangeFuncNested
import Derived.RangeFuncBound
import Derived.RangeFuncCalls
import Derived.RangeFuncLeaves
import Derived.Shelf.Abstract
import Derived.WalkKit
import Derived.TacticsInMore
set_option linter.unusedVariables false
set_option linter.unusedSimpArgs false

section
/- A region of a loop's body (a range over a function), walked as everywhere. No program in sight. -/
namespace Go.Dx
open Go.RowKit
section
variable {P : Program} {ops : Array Oper} {Q : Exit → Act → World → Prop} {L n : Nat}
theorem wide_depth (n : Nat) : (Fence.wide.inRound L).depth.isSome = true → 1 ≤ n := fun h => by cases h
theorem wpListIn_of (hQ : ¬ LetsOut Q) : ∀ (l : List Oper) (a : Act) (w : World), (∀ o ∈ l, ∀ c, o.op ≠ .defer c) → wpList P ops Q l a w → wpListIn (Fence.wide.inRound L) n P ops Q l a w
 | [], a, w, _, h => h
 | o :: l, a, w, hd, h => by
  have ih := fun a w => wpListIn_of hQ l a w (fun x hx => hd x (List.mem_cons_of_mem _ hx))
  simp only [wpList] at h
  simp only [wpListIn]
  by_cases hw : Region.wanted o (yielded ops a.tmps) = true
  ·rw [if_pos hw] at h
   rw [if_pos hw]
   have h := h.resolve_right (fun q => hQ q.2)
   refine ⟨fun f _ => trivial, ?_⟩
   rw [Fence.inRound_round, Oper.semAt_some L a.eval o (hd o (by simp))]
   unfold Oper.wp at h
   generalize (execOp a.eval o).run P w = res at h ⊢
   match res, h with
   | .ok (.value v) w', h => exact ih _ _ h
   | .ok .skip w', h => exact ih _ _ h
   | .ok (.defer d) w', h => exact ih _ _ h
   | .ok (.enter f args) w', h =>
    refine ⟨wide_depth n, CallsIn.inRound L (callsIn_wide.2 (Calls.mono h ?_))⟩
    intro e w2 h2
    cases e with
    | returned v => exact ih _ _ h2
    | panicked ch => exact h2
    | outgrown => exact h2
   | .ok (.row row args) w', h =>
    refine ⟨wide_depth n, fun c cs hr => ?_⟩
    obtain ⟨v, w2, h1, h2⟩ := h c cs
    exact ⟨v, w2, ih _ _ h1, by rw [fenced_inRound]; exact stepsIn_wide.2 h2⟩
   | .halt (.panic v) w', h => exact h
  ·rw [if_neg hw] at h
   rw [if_neg hw]
   exact ⟨fun f _ => trivial, ih _ _ h⟩
theorem wpListIn_pre (hQ : ¬ LetsOut Q) {rest : List Oper} {K : Act → World → Prop} (hK : ∀ a w, wpListIn Fence.wide n P ops Q rest a w → K a w) (hK2 : ∀ a w, K a w → wpListIn Fence.wide n P ops Q rest a w) : ∀ (l : List Oper) (a : Act) (w : World), wpList P ops (Exit.then K Q) l a w → wpListIn Fence.wide n P ops Q (l ++ rest) a w
 | [], a, w, h => hK2 a w h
 | o :: l, a, w, h => by
  have ih := fun a w => wpListIn_pre hQ hK hK2 l a w
  simp only [wpList] at h
  rw [List.cons_append]
  simp only [wpListIn]
  by_cases hw : Region.wanted o (yielded ops a.tmps) = true
  ·rw [if_pos hw] at h
   rw [if_pos hw]
   have h := h.resolve_right (fun q => hQ (by obtain ⟨a, w, h2⟩ := q.2; exact ⟨a, w, h2⟩))
   refine ⟨fun f _ => trivial, ?_⟩
   unfold Oper.wp at h
   show o.uponIn Fence.wide n P a _ Q ((execOp a.eval o).run P w)
   generalize (execOp a.eval o).run P w = res at h ⊢
   match res, h with
   | .ok (.value v) w', h => exact ih _ _ h
   | .ok .skip w', h => exact ih _ _ h
   | .ok (.defer d) w', h => exact ih _ _ h
   | .ok (.enter f args) w', h =>
    refine ⟨(fun h => by cases h), callsIn_wide.2 (Calls.mono h ?_)⟩
    intro e w2 h2
    cases e with
    | returned v => exact ih _ _ h2
    | panicked ch => exact h2
    | outgrown => obtain ⟨a, w, h3⟩ := h2; exact ⟨a, w, h3⟩
   | .ok (.row row args) w', h =>
    refine ⟨(fun h => by cases h), fun c cs hr => ?_⟩
    obtain ⟨v, w2, h1, h2⟩ := h c cs
    exact ⟨v, w2, ih _ _ h1, stepsIn_wide.2 h2⟩
   | .halt (.panic v) w', h => exact h
  ·rw [if_neg hw] at h
   rw [if_neg hw]
   exact ⟨fun f _ => trivial, ih _ _ h⟩
theorem region_in {id : Nat} {l : List Oper} {a : Act} {w : World} (hQ : ¬ LetsOut Q) (hd : ∀ o ∈ l, ∀ c, o.op ≠ .defer c) (h : wpList P l.toArray Q l a w) : (Code.region id l.toArray false).wpIn (Fence.wide.inRound L) n P Q a w :=
 wpIn_region_lit (wpListIn_of hQ l a w hd h)
end
end Go.Dx
end

section
/- A range over a function whose iterator lays what it hands on in memory: the loop's body is told what lies there. No program in sight. -/
namespace Go.Dx
open Go.RowKit
section
variable {P : Program} {α : Type}
def rowIn (L : List Nat) (row : Option Nat) : Prop := ∀ q, row = some q → q ∈ L
theorem rec_keep {W W' : World} {row : Option Nat} {L : List Nat} {k : Nat} {o : Obj} (h : W.heap[k]? = some o) (hg : W.grownBy W' row) (hr : rowIn L row) (hk : k ∉ L) : W'.heap[k]? = some o :=
 (hg.block k (Array.getElem?_eq_some_iff.1 h).1 (fun e => hk (hr k e.symm))).trans h
def notCells (W : World) (b : Nat) : Prop := ∀ C T z, W.heap[b]? ≠ some (.cells C T z)
theorem range_go {g : Operand} {ps : Array Tmp} {assign body : Code} {Q : Exit → Act → World → Prop} {a : Act} {w : World} {n : Nat} {gf : Nat} {lb : Array Value}
  (hg : a.eval g = .func (.func gf) #[] lb) (eg : ∀ args w, (callFunc gf args).run P w = .ok (.enter gf args) w) (encs : α → Array Value) (hps : ∀ x, (encs x).size = ps.size)
  (Kn : α → World → Prop) (Kp : World → World → Prop) (S : List α → Prop) (N : Nat) (I : List α → World → Prop)
  (hI : ∀ pre A B row, I pre A → A.grownBy B row → rowIn [w.heap.size, w.heap.size + 1, w.heap.size + 2] row → I pre B)
  (hKn : ∀ x A B row, Kn x A → A.grownBy B row → rowIn [w.heap.size, w.heap.size + 1] row → Kn x B)
  (hKt : ∀ {A B C : World}, Kp A B → Kp B C → Kp A C) (hKb : ∀ (W : World) (o o' : Obj), W.heap[w.heap.size + 1]? = some o → o.isCells = false → Kp W (W.putObj (w.heap.size + 1) o'))
  (hKw : ∀ W W', Below W.heap.size W W' → Kp W W')
  (h0 : I [] w) (Ax : α → Act → World → Prop) (hAx : ∀ x a A B row, Ax x a A → A.grownBy B row → rowIn [w.heap.size, w.heap.size + 1] row → Ax x a B)
  (hassign : ∀ (L : Nat) (pre : List α) (x : α) (W : World), I pre W → Kn x W → w.heap.size + 1 < W.heap.size → ∀ (K : Act → World → Prop), (∀ a' W', I pre W' → Kn x W' → Ax x a' W' → Below W.heap.size W W' → K a' W') →
   assign.wpIn (Fence.wide.inRound L) (n - 1 - 1) P (Exit.then K (fun _ _ _ => False)) { tmps := (ps.zip (encs x)).foldl (fun t (p, v) => t.setIfInBounds p v) a.tmps, defers := [] } W)
  (hbody : ∀ (L : Nat) (pre : List α) (x : α) (a' : Act) (W : World), I pre W → Kn x W → Ax x a' W → pre.length < N →
   body.wpIn (Fence.wide.inRound L) (n - 1 - 1) P (fun e _ W' => e = .normal ∧ KeepsOthers W W' ∧ Kp W W' ∧ I (pre ++ [x]) W') a' W)
  (hseq : ∀ J : List α → World → Prop, (∀ pre A B row, J pre A → A.grownBy B row → rowIn [w.heap.size + 2] row → J pre B) →
   (∀ pre x W1, J pre W1 → Kn x W1 → pre.length < N → YieldAt Fence.wide (n - 1 - 1) P (w.heap.size + 1) (encs x) W1 fun e W' => e = .returned (.bool true) ∧ J (pre ++ [x]) W' ∧ Kp W1 W') →
   (∀ pre W, J pre W → notCells W w.heap.size ∧ notCells W (w.heap.size + 1)) →
   ∀ W, W.heap.size = w.heap.size + 2 → Below w.heap.size w W → J [] W →
    CallsIn Fence.wide (n - 1) P gf (#[.func (.yield (w.heap.size + 1)) #[] #[]] ++ lb) W fun e W' => (∃ v, e = .returned v) ∧ ∃ xs, S xs ∧ J xs W')
  (hdone : ∀ (xs : List α) (W : World), S xs → I xs W → W.heap[w.heap.size]? = some (.deferred (some [])) → Q .normal { a with defers := { target := .collected w.heap.size, args := #[] } :: a.defers } W) :
  (Code.rangeFunc g ps assign body).wpIn Fence.wide n P Q a w := by
 refine wpIn_rangeFunc fun fn hfn => ?_
 obtain ⟨rec, hrec⟩ : ∃ rec : LoopState → Loop, rec = fun st => { state := st, pending := none, fn, tmps := a.tmps, params := ps, assign, body, defers := w.heap.size } := ⟨_, rfl⟩
 obtain ⟨W1, hW1⟩ : ∃ W1, (w.alloc (.deferred (some []))).alloc (.loop (rec .ready)) = W1 := ⟨_, rfl⟩
 have hsz : W1.heap.size = w.heap.size + 2 := by rw [← hW1]; simp
 have hL1 : W1.heap[w.heap.size + 1]? = some (.loop (rec .ready)) := by
  have h := World.alloc_heap_new (w.alloc (.deferred (some []))) (.loop (rec .ready))
  rw [World.size_alloc] at h
  rw [← hW1]
  exact h
 have hD1 : W1.heap[w.heap.size]? = some (.deferred (some [])) := by
  rw [← hW1]
  exact (Below.heap_alloc _ _ _ (by simp)).trans (World.alloc_heap_new w _)
 have hb1 : Below w.heap.size w W1 := by rw [← hW1]; exact ((Below.refl _ w).alloc (Nat.le_refl _) _).alloc (by simp) _
 have hI1 : I [] W1 := by
  rw [← hW1]
  exact hI _ _ _ none (hI _ _ _ none h0 (World.grownBy_alloc _ _ _) (fun q e => by cases e)) (World.grownBy_alloc _ _ _) (fun q e => by cases e)
 refine ⟨w.heap.size + 1, [{ target := .collected w.heap.size, args := #[] }], W1, { target := .fn (.func gf) lb, args := #[.func (.yield (w.heap.size + 1)) #[] #[]] }, W1, gf,
  #[.func (.yield (w.heap.size + 1)) #[] #[]] ++ lb, W1, ?_, ?_, fun _ _ => trivial, ?_, (fun h => by cases h), ?_⟩
 ·rw [← hW1, hrec]
  exact run_enterLoop_outer _ _ _ _ _
 ·simp only [resolve, hg]
  simp [go_sem]
 ·simp [invoke, go_sem, eg]
 ·refine (hseq (fun pre W => I pre W ∧ W.heap[w.heap.size + 1]? = some (.loop (rec .ready)) ∧ W.heap[w.heap.size]? = some (.deferred (some [])))
   (fun pre A B row hs hgr hr => ⟨hI pre A B row hs.1 hgr (fun q e => by have := hr q e; simp at this ⊢; exact .inr (.inr this)), rec_keep hs.2.1 hgr hr (by simp), rec_keep hs.2.2 hgr hr (by simp)⟩) ?_ (fun pre W hs => ⟨fun C T z h => (by rw [hs.2.2] at h; cases h), fun C T z h => (by rw [hs.2.1] at h; cases h)⟩) W1 hsz hb1 ⟨hI1, hL1, hD1⟩).mono ?_
  ·rintro pre x W ⟨hi, hl, hd⟩ hk hlen
   have hlt : w.heap.size + 1 < W.heap.size := (Array.getElem?_eq_some_iff.1 hl).1
   have hy := run_yield (P := P) (args := encs x) hl (by rw [hrec]; exact hps x)
   rw [hrec] at hy
   refine ⟨fn, _, assign, body, hy, roundIn_of_wpIn hfn (hassign _ pre x W hi hk hlt _ (fun a' Wa hia hka hax hba => ?_))⟩
   have hla : Wa.heap[w.heap.size + 1]? = some (.loop (rec .ready)) := (hba.block _ hlt).trans hl
   have hda : Wa.heap[w.heap.size]? = some (.deferred (some [])) := (hba.block _ (by omega)).trans hd
   have hlta : w.heap.size + 1 < Wa.heap.size := (Array.getElem?_eq_some_iff.1 hla).1
   obtain ⟨Wb, hWb⟩ : ∃ Wb, Wa.putObj (w.heap.size + 1) (.loop (rec .busy)) = Wb := ⟨_, rfl⟩
   have hgb : Wa.grownBy Wb (some (w.heap.size + 1)) := by rw [← hWb]; exact grownBy_putObj' _ _ _
   have hlb : Wb.heap[w.heap.size + 1]? = some (.loop (rec .busy)) := by rw [← hWb]; exact World.putObj_heap_same hlta
   have hdb : Wb.heap[w.heap.size]? = some (.deferred (some [])) := by rw [← hWb]; exact (World.putObj_heap_other (by omega)).trans hda
   have hkb : Kp W Wb := hKt (hKw _ _ hba) (by rw [← hWb]; exact hKb Wa _ _ hla rfl)
   have hrow : rowIn [w.heap.size, w.heap.size + 1] (some (w.heap.size + 1)) := fun q e => by cases e; simp
   have hrow3 : rowIn [w.heap.size, w.heap.size + 1, w.heap.size + 2] (some (w.heap.size + 1)) := fun q e => by cases e; simp
   refine ⟨Wb, ?_, ?_⟩
   ·have := run_beginRound (P := P) hla (by rw [hrec])
    rw [hrec] at this
    rw [← hWb, hrec]
    exact this
   ·refine wpIn_mono (hbody _ pre x a' Wb (hI _ _ _ _ hia hgb hrow3) (hKn _ _ _ _ hka hgb hrow) (hAx _ _ _ _ _ hax hgb hrow) hlen) ?_
    rintro e a3 W3 ⟨rfl, hk3, hkp3, hi3⟩
    have hl3 := hk3.same _ _ hlb rfl
    have hd3 := hk3.same _ _ hdb rfl
    have hend := run_endRound (P := P) none hl3
    rw [hrec] at hend
    refine ⟨_, _, hend, rfl, ⟨hI _ _ _ _ hi3 (grownBy_putObj' _ _ _) hrow3, ?_, (World.putObj_heap_other (by omega)).trans hd3⟩, hKt (hKt hkb hkp3) (hKb _ _ _ hl3 rfl)⟩
    rw [hrec]
    exact World.putObj_heap_same (Array.getElem?_eq_some_iff.1 hl3).1
  ·rintro e W2 ⟨⟨v, rfl⟩, xs, hS, hi, hl, hd⟩
   have hend := run_endLoop (P := P) hl (by rw [hrec]; simp)
   rw [hrec] at hend
   exact ⟨none, _, hend, hdone xs _ hS (hI _ _ _ _ hi (grownBy_putObj' _ _ _) (fun q e => by cases e; simp)) ((World.putObj_heap_other (by omega)).trans hd)⟩
end
end Go.Dx
end

section
/- A loop in a fence, with a ghost count. No program in sight. -/
namespace Go.Dx
open Go.RowKit
theorem least_nat {p : Nat → Prop} : ∀ m, p m → ∃ k, p k ∧ ∀ j, p j → k ≤ j := by
 intro m
 induction m using Nat.strongRecOn with
 | _ m ih =>
  intro hm
  by_cases h : ∃ j, j < m ∧ p j
  ·obtain ⟨j, hj, hp⟩ := h
   exact ih j hj hp
  ·refine ⟨m, hm, fun j hj => ?_⟩
   by_cases hjm : m ≤ j
   ·exact hjm
   ·exact absurd ⟨j, by omega, hj⟩ h
open Classical in
noncomputable def leastN (p : Nat → Prop) : Nat := if h : ∃ k, p k ∧ ∀ j, p j → k ≤ j then Classical.choose h else 0
theorem leastN_spec {p : Nat → Prop} (h : ∃ m, p m) : p (leastN p) ∧ ∀ j, p j → leastN p ≤ j := by
 obtain ⟨m, hm⟩ := h
 have h2 := least_nat m hm
 unfold leastN
 rw [dif_pos h2]
 exact Classical.choose_spec h2
theorem wpIn_loopG {F : Fence} {n : Nat} {P : Program} {c : Code} {Q : Exit → Act → World → Prop} {a : Act} {w : World} (I : Nat → Act → World → Prop) (m0 : Nat) (h0 : I m0 a w)
  (round : ∀ m a w, I m a w → c.wpIn F n P (Exit.then (fun a' w' => ∃ m', m' < m ∧ I m' a' w') Q) a w) : (Code.loop c).wpIn F n P Q a w := by
 refine wpIn_loop (fun a w => ∃ m, I m a w) (fun a w => leastN fun m => I m a w) ⟨m0, h0⟩ fun a w h => ?_
 have hI := leastN_spec h
 refine wpIn_mono (round _ a w hI.1) ?_
 intro e a' w' q
 cases e with
 | normal =>
  obtain ⟨m', hm, hI'⟩ := q
  have hx := leastN_spec (p := fun m => I m a' w') ⟨m', hI'⟩
  exact ⟨⟨m', hI'⟩, Nat.lt_of_le_of_lt (hx.2 m' hI') hm⟩
 | exit id => exact q
 | goto l => exact q
 | ret => exact q
 | panic ch => exact q
 | outgrown => exact q
end Go.Dx
end

section
/- Chapter 08: the best path as an iterator. -/
namespace Go.Dx
open Go.RowKit
structure KpB (u8 i64 ct : TypeId) (g D : Nat) (W W' : World) : Prop where
 size : W.heap.size ≤ W'.heap.size
 os : W'.os = W.os
 tape : W'.tape = W.tape
 output : W'.output = W.output
 same : ∀ b, b < W.heap.size → (b < D ∧ b ≠ g ∨ ∃ C T z, W.heap[b]? = some (.cells C T z) ∧ T ≠ u8 ∧ T ≠ i64 ∧ T ≠ ct) → W'.heap[b]? = W.heap[b]?
theorem KpB.trans {u8 i64 ct : TypeId} {g D : Nat} {A B C : World} (h : KpB u8 i64 ct g D A B) (k : KpB u8 i64 ct g D B C) : KpB u8 i64 ct g D A C :=
 ⟨Nat.le_trans h.size k.size, k.os.trans h.os, k.tape.trans h.tape, k.output.trans h.output, fun b hb hc => by
  have h1 := h.same b hb hc
  refine (k.same b (Nat.lt_of_lt_of_le hb h.size) ?_).trans h1
  rcases hc with hc | ⟨C', T, z, hc, h2⟩
  ·exact .inl hc
  ·exact .inr ⟨C', T, z, h1.trans hc, h2⟩⟩
theorem KpB.put {u8 i64 ct : TypeId} {g D : Nat} (W : World) (o o' : Obj) (h : W.heap[D + 1]? = some o) (ho : o.isCells = false) : KpB u8 i64 ct g D W (W.putObj (D + 1) o') := by
 have hg := grownBy_putObj' W (D + 1) o'
 refine ⟨hg.size, hg.os, hg.tape, hg.output, fun b hb hc => hg.block b hb (fun e => ?_)⟩
 injection e with e
 subst e
 rcases hc with hc | ⟨C, T, z, hc, _⟩
 ·omega
 ·rw [h] at hc
  injection hc with hc
  subst hc
  cases ho
theorem KpB.below {u8 i64 ct : TypeId} {g D : Nat} {wg W W' : World} (h : KpB u8 i64 ct g D W W') (hb : Below g wg W) (hg : g ≤ wg.heap.size) (hD : g ≤ D) : Below g wg W' :=
 ⟨h.os.trans hb.os, h.tape.trans hb.tape, h.output.trans hb.output, Nat.le_trans hb.size h.size, fun k hk => (h.same k (Nat.lt_of_lt_of_le (Nat.lt_of_lt_of_le hk hg) hb.size) (.inl (by omega))).trans (hb.block k hk)⟩
theorem KpB.box {u8 i64 ct : TypeId} {g D : Nat} {W W' : World} (h : KpB u8 i64 ct g D W W') {b : Nat} {T : TypeId} {cs : List Value} (hx : Box W b T cs) (hc : b < D ∧ b ≠ g ∨ T ≠ u8 ∧ T ≠ i64 ∧ T ≠ ct) : Box W' b T cs := by
 have hx' : W.heap[b]? = some (.cells cs.toArray T (0, 0)) := hx
 show W'.heap[b]? = _
 rw [h.same b (Box.lt hx) (hc.imp id (fun q => ⟨_, _, _, hx', q⟩))]
 exact hx'
theorem KpB.cell {u8 i64 ct : TypeId} {g D : Nat} {W W' : World} (h : KpB u8 i64 ct g D W W') {p : Addr} {u : Value} (hx : W.cell? p = some u) {C : Array Value} {T : TypeId} {z : Nat × Nat} (hC : W.heap[p.block]? = some (.cells C T z)) (hc : T ≠ u8 ∧ T ≠ i64 ∧ T ≠ ct) : W'.cell? p = some u :=
 (World.cell?_of_block (h.same p.block (Array.getElem?_eq_some_iff.1 hC).1 (.inr ⟨C, T, z, hC, hc⟩))).trans hx
theorem cells_of_cellD {W : World} {p : Addr} {u : Value} (h : W.cell? p = some u) : ∃ C T z, W.heap[p.block]? = some (.cells C T z) := by
 unfold World.cell? at h
 split at h
 ·rename_i C T z hh
  exact ⟨_, _, _, hh⟩
 ·cases h
end Go.Dx
namespace Go.Proofs.Ytlpkicjijlcbfaa
open Go.RowKit Go.Dx Go.Al
def BST (bl bt ba : Nat) : Value := .func (.func 68) #[] #[.pointer (some ⟨bl, 0, none⟩), .pointer (some ⟨bt, 0, none⟩), .pointer (some ⟨ba, 0, none⟩)]
structure Pc where
 (at_ : Nat) (idx : Int) (p : SH)
def encP (x : Pc) : Array Value := #[.agg #[.int .i64 (x.at_ : Int), .int .i64 x.idx, .int .i64 x.p.1.dst.lang, .bool x.p.1.dst.num, .bool x.p.1.dst.wrd, .int .i64 x.p.1.len, .slice x.p.2.1 x.p.2.2.1 x.p.2.2.2, .int .i64 x.p.1.rule]]
structure KnP (D : Nat) (x : Pc) (W : World) : Prop where
 sl : Sl W 1 x.p.2.1 x.p.2.2.1 x.p.2.2.2 (x.p.1.cells.map B8)
 few : x.p.1.cells.length ≤ 12
 far : 0 < x.p.1.cells.length → ∀ q, x.p.2.1 = some q → q.block ≠ D ∧ q.block ≠ D + 1
 idx : 0 ≤ x.idx
structure Cap (W : World) (bl bt ba bA N : Nat) (H : TH) (aL : Option Addr) (nL cL : Nat) : Prop where
 xl : Box W bl 31 [.slice aL nL cL]
 xt : Box W bt 29 (tcells H)
 xa : Box W ba 90 [.slice (some ⟨bA, 0, none⟩) N N]
theorem Cap.below {W W' : World} {bl bt ba bA N : Nat} {H : TH} {aL : Option Addr} {nL cL : Nat} (h : Cap W bl bt ba bA N H aL nL cL) (hb : Below W.heap.size W W') : Cap W' bl bt ba bA N H aL nL cL := ⟨h.xl.under hb, h.xt.under hb, h.xa.under hb⟩
set_option maxRecDepth 100000 in
set_option maxHeartbeats 2000000 in
theorem con_best (H : TH) (aL : Option Addr) (nL cL bA N : Nat) (w : World) :
  Calls Try.prog 40 #[H.v, .slice aL nL cL, .slice (some ⟨bA, 0, none⟩) N N] w fun e w' => ∃ bl bt ba, e = .returned (BST bl bt ba) ∧ Cap w' bl bt ba bA N H aL nL cL ∧ w.heap.size ≤ bl ∧ w.heap.size ≤ bt ∧ w.heap.size ≤ ba ∧ Below w.heap.size w w' := by
 obtain ⟨⟨a0, n0, c0⟩, ⟨a1, n1, c1⟩, ps0, ps1, ⟨ad, nd, cd⟩, ⟨ac, nc, cc⟩, ⟨an, nn, cn⟩, ⟨af, nf, cf⟩, ⟨aw, nw, cw⟩⟩ := H
 unfold TH.v
 simp only [hdv]
 have X1 := ((Box.new w 29 #[.slice a0 n0 c0, .slice a1 n1 c1, .slice ad nd cd, .slice ac nc cc, .slice an nn cn, .slice af nf cf, .slice aw nw cw]).alloc (.cells #[.slice aL nL cL] 31)).alloc (.cells #[.slice (some ⟨bA, 0, none⟩) N N] 90)
 have X2 := (Box.new (w.alloc (.cells #[.slice a0 n0 c0, .slice a1 n1 c1, .slice ad nd cd, .slice ac nc cc, .slice an nn cn, .slice af nf cf, .slice aw nw cw] 29)) 31 #[.slice aL nL cL]).alloc (.cells #[.slice (some ⟨bA, 0, none⟩) N N] 90)
 have X3 := Box.new ((w.alloc (.cells #[.slice a0 n0 c0, .slice a1 n1 c1, .slice ad nd cd, .slice ac nc cc, .slice an nn cn, .slice af nf cf, .slice aw nw cw] 29)).alloc (.cells #[.slice aL nL cL] 31)) 90 #[.slice (some ⟨bA, 0, none⟩) N N]
 have hb := (((Below.refl w.heap.size w).alloc (Nat.le_refl _) (.cells #[.slice a0 n0 c0, .slice a1 n1 c1, .slice ad nd cd, .slice ac nc cc, .slice an nn cn, .slice af nf cf, .slice aw nw cw] 29)).alloc (by simp) (.cells #[.slice aL nL cL] 31)).alloc (by simp; omega) (.cells #[.slice (some ⟨bA, 0, none⟩) N N] 90)
 simp only [World.size_alloc] at X2 X3
 go_enter Try.func40, Try.ntmps40
 go_wp2_with fail
 go_ret
 exact ⟨_, _, _, rfl, ⟨X2, X1, X3⟩, by omega, by omega, by omega, hb⟩
end Go.Proofs.Ytlpkicjijlcbfaa
end

section
/- Chapter 08: the best path as an iterator, walked. -/
namespace Go.Dx
open Go.RowKit
theorem grown_of {w w' : World} (h : Below w.heap.size w w') : w.grownBy w' none := ⟨h.os, h.tape, h.output, h.size, fun k hk _ => h.block k hk⟩
theorem bd_num (t : Ta) (l : List Sy) (ht : validE t = 0) (h : l.length ≤ 2048) : BdN (numT t l) 1000000 := fun r hr v hv => by
 have := sufT_bd ht l l.length r hr v hv
 omega
theorem goP_len (t : Ta) (l : List Sy) (A : Nums) : ∀ (f i : Nat) (s : St), (goP t l A f i s).length ≤ f := fun f => by
 induction f with
 | zero => intro i s; exact Nat.le_refl _
 | succ f ih =>
  intro i s
  simp only [goP]
  split
  ·split
   ·rw [List.length_cons]; have := ih (i + (by assumption : Stp).len.toNat) (by assumption : Stp).dst; omega
   ·simp
  ·simp
theorem wpListIn_cut {P : Program} {ops : Array Oper} {Q : Exit → Act → World → Prop} {n : Nat} (k : Nat) (hQ : ¬ LetsOut Q) {l : List Oper} {a : Act} {w : World}
  (h : ∀ K : Act → World → Prop, (∀ a w, wpListIn Fence.wide n P ops Q (l.drop k) a w → K a w) → wpList P ops (Exit.then K Q) (l.take k) a w) : wpListIn Fence.wide n P ops Q l a w := by
 have := wpListIn_pre hQ (rest := l.drop k) (K := fun a w => wpListIn Fence.wide n P ops Q (l.drop k) a w) (fun _ _ h => h) (fun _ _ h => h) (l.take k) a w (h _ (fun _ _ h => h))
 rwa [List.take_append_drop] at this
section
variable {P : Program} {ops : Array Oper} {Q : Exit → Act → World → Prop} {rest : List Oper} {act : Act} {w : World} {ty : TypeId} {pos : String} {after : Array Edge}
theorem index_rowk (d : Nat) (t : TypeId) (x y : Operand) (e : TypeId) (ht : P.underlying t = some (.slice e)) (sz : Nat) (hsz : (P.info? e).map (·.size) = some sz)
  (b o n c : Nat) (hx : act.eval x = .slice (some ⟨b, o, none⟩) n c) (k : IntKind) (iv : Int) (i : Nat) (hy : act.eval y = .int k iv) (hiv : iv = (i : Int)) (hi : i < n)
  (hK : wpList P ops Q rest (act.put (some d) (.pointer (some ⟨b, o + i * sz, none⟩))) w) :
  wpList P ops Q ({ dst := some d, op := .indexAddr t x y, type := ty, pos := pos, after := after, guard := none } :: rest) act w := by
 refine wpList_plain rfl fun K hK' => ?_
 obtain ⟨i0, hi0, hs0⟩ := Option.map_eq_some_iff.1 hsz
 subst hiv
 have hrun : (Instr.indexAt t (.slice (some ⟨b, o, none⟩) n c) (.int k (i : Int))).run P w = .ok (.pointer (some ⟨b, o + i * sz, none⟩)) w := by
  simp [Instr.indexAt, asIntOf, run_underlying ht, sizeOf, typeInfo, hi0, hs0, hi, Addr.add_lit]
 unfold Oper.wp
 simp [execOp, hx, hy, hrun, Result.andThen]
 exact hK' _ _ hK
end
end Go.Dx
namespace Go.Proofs.Ytlpkicjijlcbfaa
open Go.RowKit Go.Dx Go.Al
def RelB (g D : Nat) (wg : World) (H : TH) (t : Ta) (l : List Sy) (aL : Option Addr) (nL cL bA N bl bt ba : Nat) (J : List Pc → World → Prop) (gh : Nat) (a : Act) (W : World) : Prop :=
 ∃ (i : Nat) (s : St) (xs : List Pc) (f : Nat) (U : Nat → Value), a = { tmps := #[.func (.yield (D + 1)) #[] #[], .pointer (some ⟨bl, 0, none⟩), .pointer (some ⟨bt, 0, none⟩), .pointer (some ⟨ba, 0, none⟩), U 4, .pointer (some ⟨D + 2, 0, none⟩), .int .i64 (i : Int), U 7, U 8, U 9, U 10, U 11, U 12, U 13, U 14, U 15, U 16, U 17, U 18, U 19, U 20, U 21, U 22, U 23, U 24, U 25, U 26, U 27, U 28, U 29, U 30, U 31, U 32, U 33, U 34, U 35, U 36, U 37, U 38, U 39, U 40, U 41, U 42, U 43, U 44, U 45, U 46, U 47, U 48, U 49, U 50, U 51, U 52], defers := [] } ∧ gh = measP l i s ∧ i ≤ l.length ∧ (s.lang = 0 ∨ s.lang = 1) ∧ Box W (D + 2) 63 (scells s) ∧ Cap W bl bt ba bA N H aL nL cL ∧ Below g wg W ∧ J xs W ∧ pathT t l = xs.map (fun x => (x.p.1, x.idx)) ++ goP t l (numT t l) f i s ∧ measP l i s ≤ f ∧ 0 ≤ valA (numT t l) i s
set_option maxRecDepth 100000 in
theorem RelB.intro {g D : Nat} {wg : World} {H : TH} {t : Ta} {l : List Sy} {aL : Option Addr} {nL cL bA N bl bt ba : Nat} {J : List Pc → World → Prop} {gh : Nat} {a : Act} {W : World} (i : Nat) (s : St) (xs : List Pc) (f : Nat)
  (ha : a = { tmps := #[.func (.yield (D + 1)) #[] #[], .pointer (some ⟨bl, 0, none⟩), .pointer (some ⟨bt, 0, none⟩), .pointer (some ⟨ba, 0, none⟩), a.tmps.getD 4 undef, .pointer (some ⟨D + 2, 0, none⟩), .int .i64 (i : Int), a.tmps.getD 7 undef, a.tmps.getD 8 undef, a.tmps.getD 9 undef, a.tmps.getD 10 undef, a.tmps.getD 11 undef, a.tmps.getD 12 undef, a.tmps.getD 13 undef, a.tmps.getD 14 undef, a.tmps.getD 15 undef, a.tmps.getD 16 undef, a.tmps.getD 17 undef, a.tmps.getD 18 undef, a.tmps.getD 19 undef, a.tmps.getD 20 undef, a.tmps.getD 21 undef, a.tmps.getD 22 undef, a.tmps.getD 23 undef, a.tmps.getD 24 undef, a.tmps.getD 25 undef, a.tmps.getD 26 undef, a.tmps.getD 27 undef, a.tmps.getD 28 undef, a.tmps.getD 29 undef, a.tmps.getD 30 undef, a.tmps.getD 31 undef, a.tmps.getD 32 undef, a.tmps.getD 33 undef, a.tmps.getD 34 undef, a.tmps.getD 35 undef, a.tmps.getD 36 undef, a.tmps.getD 37 undef, a.tmps.getD 38 undef, a.tmps.getD 39 undef, a.tmps.getD 40 undef, a.tmps.getD 41 undef, a.tmps.getD 42 undef, a.tmps.getD 43 undef, a.tmps.getD 44 undef, a.tmps.getD 45 undef, a.tmps.getD 46 undef, a.tmps.getD 47 undef, a.tmps.getD 48 undef, a.tmps.getD 49 undef, a.tmps.getD 50 undef, a.tmps.getD 51 undef, a.tmps.getD 52 undef], defers := [] })
  (h1 : gh = measP l i s) (h2 : i ≤ l.length) (h3 : s.lang = 0 ∨ s.lang = 1) (h4 : Box W (D + 2) 63 (scells s)) (h5 : Cap W bl bt ba bA N H aL nL cL) (h6 : Below g wg W) (h7 : J xs W) (h8 : pathT t l = xs.map (fun x => (x.p.1, x.idx)) ++ goP t l (numT t l) f i s) (h9 : measP l i s ≤ f) (h10 : 0 ≤ valA (numT t l) i s) :
  RelB g D wg H t l aL nL cL bA N bl bt ba J gh a W := ⟨i, s, xs, f, fun k => a.tmps.getD k undef, ha, h1, h2, h3, h4, h5, h6, h7, h8, h9, h10⟩
set_option maxRecDepth 100000 in
set_option maxHeartbeats 4000000 in
theorem best_seq (m g D : Nat) (wg : World) (H : TH) (t : Ta) (l : List Sy) (aL : Option Addr) (nL cL bA N bl bt ba : Nat) (hgw : wg.heap.size = g) (hT : TaIs wg H t) (hs : Sl wg 2 aL nL cL (l.flatMap sc)) (hA : Box wg bA 93 ((numT t l).flatMap rowc))
  (hv : validE t = 0) (hg : goodS l = true) (h2048 : l.length ≤ 2048) (hN : N = l.length + 1) (hval : 0 ≤ numV t l) (hbl : g < bl ∧ bl < D) (hbt : g < bt ∧ bt < D) (hba : g < ba ∧ ba < D) (hgD : g < D)
  (J : List Pc → World → Prop) (hJ : ∀ pre A B row, J pre A → A.grownBy B row → rowIn [D + 2] row → J pre B) (w : World) (hDw : w.heap.size = D) (hBw : Below g wg w) (hCw : Cap w bl bt ba bA N H aL nL cL)
  (hJD : ∀ pre W, J pre W → notCells W D ∧ notCells W (D + 1))
  (hY : ∀ pre x W1, J pre W1 → KnP D x W1 → pre.length < 2 * l.length + 1 → YieldAt Fence.wide m Try.prog (D + 1) (encP x) W1 fun e W' => e = .returned (.bool true) ∧ J (pre ++ [x]) W' ∧ KpB 5 3 39 g D W1 W')
  (W : World) (hWs : W.heap.size = D + 2) (hWb : Below D w W) (hJ0 : J [] W) :
  CallsIn Fence.wide (m + 1) Try.prog 68 (#[.func (.yield (D + 1)) #[] #[]] ++ #[.pointer (some ⟨bl, 0, none⟩), .pointer (some ⟨bt, 0, none⟩), .pointer (some ⟨ba, 0, none⟩)]) W fun e W' => (∃ v, e = .returned v) ∧ ∃ xs, xs.map (fun x => (x.p.1, x.idx)) = pathT t l ∧ J xs W' := by
 have HGW := hide hgw
 have HNN := hide hN
 have HDW := hide hDw
 have HWS := hide hWs
 have HV := hide hv
 have HG := hide hg
 have HY := hide hY
 have HJ := hide hJ
 have HJD := hide hJD
 have HVAL := hide hval
 clear hgw hN hDw hWs hv hg hY hJ hJD hval
 refine callsIn_of_wp Try.func68 rfl trivial ?_ rfl
 simp only [Try.ntmps68, List.size_toArray, List.length_cons, List.length_nil, Nat.reduceAdd, Nat.reduceSub, Array.replicate_succ, Array.replicate_zero, List.push_toArray, List.append_toArray, List.nil_append, List.cons_append]
 refine wpIn_seq_k fun K0 hK0 => wpIn_wide.2 ?_
 go_wp2_with fail
 refine wpIn_seq_k fun K1 hK1 => wpIn_wide.2 ?_
 go_wp2_with fail
 refine wpIn_block ?_
 refine wpIn_loopG (RelB g D wg H t l aL nL cL bA N bl bt ba J) (measP l 0 s00) ?_ ?_
 ·have hsz : W.heap.size = D + 2 := HWS.out
  have hbW : Below g wg W := hBw.trans (hWb.mono (by omega))
  have hAl := blo W (.cells #[.int .i64 0, .bool false, .bool false] 63)
  have hBn := Box.new W 63 #[.int .i64 0, .bool false, .bool false]
  rw [hsz] at hBn hAl
  have hCW : Cap W bl bt ba bA N H aL nL cL := ⟨hCw.xl.under (by rw [HDW.out]; exact hWb), hCw.xt.under (by rw [HDW.out]; exact hWb), hCw.xa.under (by rw [HDW.out]; exact hWb)⟩
  rw [hsz]
  exact RelB.intro 0 s00 [] (2 * l.length + 1) rfl rfl (Nat.zero_le _) (.inl rfl) hBn (hCW.below (by rw [hsz]; exact hAl)) (hbW.trans (hAl.mono (by omega))) (HJ.out _ _ _ none hJ0 (World.grownBy_alloc _ _ _) (fun q e => by cases e)) rfl (by have := meas_le (l := l) (i := 0) (s := s00); omega) HVAL.out
 ·rintro gh a W1 ⟨i, s, xs, f, U, rfl, rfl, hi, hsl, hX, hCap, hbw, hJx, hxs, hf, hvl⟩
  have HJX := hide hJx
  have HXS := hide hxs
  have HF := hide hf
  have HVL := hide hvl
  clear hJx hxs hf hvl
  obtain ⟨nh, hnh⟩ : ∃ nh, Hid (l.length = nh) := ⟨_, hide rfl⟩
  have hnL : nL = l.length := hs.nf sc_len (by decide)
  rw [hnh.out] at hnL hi
  subst hnL
  have HX := hX
  have hcl : W1.cell? ⟨bl, 0, none⟩ = some (.slice aL nL cL) := hCap.xl.at_ rfl
  clear hX
  refine wpIn_seq_k fun K2 hK2 => wpIn_wide.2 ?_
  by_cases hin : i < nL
  ·have d1 : decide ((i : Int) < (nL : Int)) = true := decide_eq_true (by omega)
   have hgW : Below wg.heap.size wg W1 := by rw [HGW.out]; exact hbw
   have HT := hide (hT.below hgW)
   have HS := hide (hs.below hgW)
   have hsN := steps_ofT H t s l (i : Int) (L := stepsL t s l i) rfl aL nL cL (by omega) W1 HT.out HS.out
   obtain ⟨L, hL⟩ : ∃ L, Hid (stepsL t s l i = L) := ⟨_, hide rfl⟩
   rw [hL.out] at hsN
   have HSN := hide hsN
   clear hsN
   go_wp2_with fail
   refine wpIn_block ?_
   refine wpIn_seq_k fun K3 hK3 => wpIn_wide.2 ?_
   have hclt : Box W1 bt 29 (tcells H) := hCap.xt
   go_wp2_with (first
    | (with_reducible refine load_struct 14 29 _ 7 size_tables _ Try.underlying29 ⟨bt, 0, none⟩ rfl (tcells H) rfl (fun j u hj => by rw [Addr.add_lit, Nat.zero_add]; exact hclt.at_ hj) ?_)
    | (with_reducible refine load_struct 15 63 _ 3 size_state _ Try.underlying63 ⟨D + 2, 0, none⟩ rfl (scells s) rfl (fun j u hj => by rw [Addr.add_lit, Nat.zero_add]; exact HX.at_ hj) ?_)
    | (go_at_call 28; refine HSN.out.mono ?_; rintro e w2 ⟨a2, c2, ps2, rfl, hS2, hb2, hty⟩; refine hold ?_))
   refine hide ?_
   have hbg : g ≤ W1.heap.size := by have := hbw.size; have := HGW.out; omega
   have hb1 := hbw.trans (hb2.mono hbg)
   have HX2 := HX.under hb2
   have hC2 := hCap.below hb2
   have HJ2 := hide (HJ.out _ _ _ none HJX.out (grown_of hb2) (fun q e => by cases e))
   clear hclt HX hCap hcl hbw HJX
   obtain ⟨LN, hLN⟩ : ∃ LN, L.length = LN := ⟨_, rfl⟩
   rw [hLN] at hS2 ⊢
   have hLN6 : LN ≤ 1000000 := by rw [← hLN, ← hL.out]; exact steps_few HV.out s l i
   have HLN := hide hLN
   clear hLN
   go_wp2_with fail
   refine wpIn_seq_k fun K4 hK4 => wpIn_wide.2 ?_
   have hxa : w2.cell? ⟨ba, 0, none⟩ = some (.slice (some ⟨bA, 0, none⟩) N N) := hC2.xa.at_ rfl
   have hrc := hide (con_reach (.slice (some ⟨bA, 0, none⟩) N N) i N bA w2 rfl)
   go_wp2_with (go_at_call 54; refine hrc.out.mono ?_; rintro e w3 ⟨b1, b2, rfl, X1, X2, hb3⟩; refine hold ?_)
   refine hide ?_
   have hAN : Hid ((numT t l).length = N) := hide (by rw [numT_len]; exact HNN.out.symm)
   have hinl : i < l.length := by rw [hnh.out]; exact hin
   have hLk := hide (lkt_all HV.out HG.out hinl hsl (A := numT t l) (by rw [numT_len]) (bd_num t l HV.out h2048))
   rw [hL.out] at hLk
   have hbg2 : wg.heap.size ≤ w2.heap.size := hb1.size
   have hbw3 := hb1.trans (hb3.mono (by rw [← HGW.out]; exact hbg2))
   have hA3 : Box w3 bA 93 ((numT t l).flatMap rowc) := hA.under (by rw [HGW.out]; exact hbw3)
   have HX3 := HX2.under hb3
   have hC3 := hC2.below hb3
   have hS3 := hS2.below hb3
   have hty3 := hty.below hb3
   have HJ3 := hide (HJ.out _ _ _ none HJ2.out (grown_of hb3) (fun q e => by cases e))
   obtain ⟨⟨LI, LV⟩, hLI⟩ : ∃ q : Int × Int, Hid (leastF (lookA (numT t l) i) L = q) := ⟨_, hide rfl⟩
   have hls := hide (con_least (lookA (numT t l) i) ps2 L a2 LN c2 b1 b2 w3 hS3 hLN6 (fun p hp w4 hb4 => reach_1 p (numT t l) bA b1 b2 i w4 (RBx.below ⟨by rw [hAN.out]; exact X1, X2, hA3, sufT_rows t l _, by rw [numT_len]; omega⟩ hb4) (hLk.out p.1 (stl_mem hS3 p hp)) (stl_hdr hS3 p hp)))
   rw [hLI.out] at hls
   obtain ⟨x, hx0, hx1, hx2, hx3⟩ := best_step HV.out HG.out hinl hsl HVL.out
   rw [hL.out, hLI.out] at hx0 hx1
   simp only at hx0 hx1
   obtain ⟨k, hk⟩ : ∃ k : Nat, LI = (k : Int) := ⟨LI.toNat, by omega⟩
   subst hk
   have hpx : ∃ p, ps2[k]? = some p ∧ p.1 = x := by
    have h1 := hx1
    rw [← hS3.eq, List.getElem?_map] at h1
    cases h2 : ps2[(k : Int).toNat]? with
    | none => rw [h2] at h1; cases h1
    | some p => rw [h2] at h1; injection h1 with h1; exact ⟨p, h2, h1⟩
   obtain ⟨p, hpk, hpx⟩ := hpx
   have HPK := hide hpk
   have HPX := hide hpx
   have hxm := hide (List.mem_of_getElem? hx1)
   have HX1 := hide hx1
   have HX23 := hide (And.intro hx2 hx3)
   have HCK := hide hLk
   clear hx0 hx1 hx2 hx3 hpk hpx hLk hxa hrc hC2 HX2 hS2 hty HJ2 hb1 hbg2 X1 X2
   go_wp2_with (go_at_call 52; refine hls.out.mono ?_; rintro e w4 ⟨rfl, hb4⟩; refine hold ?_)
   refine hide ?_
   have hbw4 := hbw3.trans (hb4.mono (by have := hbw3.size; have := HGW.out; omega))
   have HX4 := HX3.under hb4
   have hC4 := hC3.below hb4
   have hS4 := hS3.below hb4
   have hty4 := hty3.below hb4
   have HJ4 := hide (HJ.out _ _ _ none HJ3.out (grown_of hb4) (fun q e => by cases e))
   clear HX3 hC3 hS3 hty3 HJ3 hbw3 hls hA3 HSN HCK
   have hkLN : k < LN := by
    have h1 := (List.getElem?_eq_some_iff.1 HX1.out).1
    have h2 := HLN.out
    omega
   go_wp2_with fail
   obtain ⟨b4, o4, hab, hb4', x0, x1, x2, x3, x4, x5⟩ := st_cells hS4 HPK.out
   subst hab
   have hsl4 := hS4.row p (List.mem_of_getElem? HPK.out)
   have hpn := hsl4.n_eq
   obtain ⟨⟨⟨sl, sn, si⟩, ln, cs, ru⟩, ⟨qa, qn, qc⟩⟩ := p
   simp only at x0 x1 x2 x3 x4 x5 hsl4 hpn
   have hpx := HPX.out
   clear HPX
   try simp only at hpx
   subst hpx
   have HSL4 := hide hsl4
   have HPN := hide hpn
   clear hsl4 hpn
   have hst := step_meas HV.out HG.out hinl hsl (x := ⟨⟨sl, sn, si⟩, ln, cs, ru⟩) (by rw [hL.out]; exact hxm.out)
   try simp only at hst
   obtain ⟨lk, rfl⟩ : ∃ lk : Nat, ln = (lk : Int) := ⟨ln.toNat, by have := hst.2.2.2; omega⟩
   have hcf : cs.length ≤ 12 := step_cells HV.out (s := s) (l := l) (i := i) (x := ⟨⟨sl, sn, si⟩, (lk : Int), cs, ru⟩) (by rw [hL.out]; exact hxm.out)
   have HCF := hide hcf
   have HST := hide hst
   have hil : i + lk ≤ l.length := by have := hst.2.1; simpa using this
   rw [hnh.out] at hil
   clear hst hcf
   have hldc : ∀ j u, ([.int .i64 sl, .bool sn, .bool si, .int .i64 (lk : Int), .slice qa qn qc, .int .i64 ru] : List Value)[j]? = some u → w4.cell? ((⟨b4, o4 + k * 6, none⟩ : Addr).add j) = some u := fun j u hj => by
    rw [Addr.add_lit]
    match j, hj with
    | 0, hj => cases hj; exact x0
    | 1, hj => cases hj; exact x1
    | 2, hj => cases hj; exact x2
    | 3, hj => cases hj; exact x3
    | 4, hj => cases hj; exact x4
    | 5, hj => cases hj; exact x5
    | j + 6, hj => cases hj
   have HLD := hide hldc
   have HTOP := hide hS4.top
   clear hldc x0 x1 x2 x3 x4 x5 hb4 hb3 hb2 hS4
   have dk : decide ((k : Int) < 0) = false := decide_eq_false (by omega)
   refine wpIn_seq_k fun K5 hK5 => ?_
   refine wpIn_seq_k fun K6 hK6 => ?_
   refine wpIn_region_lit ?_
   refine wpListIn_cut 11 (by rintro ⟨a, w, h⟩; exact absurd h (by rintro ⟨⟨v, hv⟩, _⟩; cases hv)) fun K7 hK7 => ?_
   simp only [List.take_succ_cons, List.take_zero]
   go_wp2_with (first
    | (refine unguard_any (by first | rfl | (simp [Region.wanted, yielded, Act.put]; done)) ?_; with_reducible refine index_rowk 35 64 _ _ 67 Try.underlying64 6 size_stp6 b4 o4 LN c2 rfl _ _ k rfl rfl hkLN ?_)
    | (refine unguard_any (by first | rfl | (simp [Region.wanted, yielded, Act.put]; done)) ?_; with_reducible refine load_struct 36 67 _ 6 size_stp6 _ Try.underlying67 ⟨b4, o4 + k * 6, none⟩ rfl [.int .i64 sl, .bool sn, .bool si, .int .i64 (lk : Int), .slice qa qn qc, .int .i64 ru] rfl HLD.out ?_))
   try simp only [List.drop_succ_cons, List.drop_zero]
   have hfar : ∀ q, 0 < cs.length → qa = some q → q.block ≠ D ∧ q.block ≠ D + 1 := fun q h0 hq => by
    obtain ⟨b, o, hab, _, hc⟩ := HSL4.out.ex (by rw [List.length_map]; exact h0)
    obtain ⟨C, T, z, hh⟩ := cells_of_cellD (hc 0 _ (List.getElem?_eq_getElem (by rw [List.length_map]; exact h0)))
    rw [hq] at hab
    injection hab with hab
    subst hab
    have hnc := HJD.out _ _ HJ4.out
    refine ⟨fun e => ?_, fun e => ?_⟩
    ·simp only at e; subst e; exact hnc.1 _ _ _ hh
    ·simp only at e; subst e; exact hnc.2 _ _ _ hh
   obtain ⟨f', rfl⟩ : ∃ f', f = f' + 1 := ⟨f - 1, by have h1 := meas_pos (l := l) (i := i) (s := s) hinl; have h2 := HF.out; omega⟩
   have hgo : goP t l (numT t l) (f' + 1) i s = (⟨⟨sl, sn, si⟩, (lk : Int), cs, ru⟩, (k : Int)) :: goP t l (numT t l) f' (i + lk) ⟨sl, sn, si⟩ := by
    have h1 := goP_step (t := t) (l := l) (A := numT t l) (f := f') (i := i) (s := s) (x := ⟨⟨sl, sn, si⟩, (lk : Int), cs, ru⟩) hinl (by rw [hL.out, hLI.out]; exact HX1.out)
    rw [hL.out, hLI.out] at h1
    simpa using h1
   have hxs1 := HXS.out
   rw [hgo] at hxs1
   have hlen : xs.length < 2 * l.length + 1 := by
    have h1 := congrArg List.length hxs1
    have h2 := goP_len t l (numT t l) (2 * l.length + 1) 0 s00
    rw [List.length_append, List.length_map, List.length_cons] at h1
    unfold pathT at h1
    omega
   have HXS1 := hide hxs1
   obtain ⟨fn, tmps, assign, body, hy, hR⟩ := HY.out xs ⟨i, (k : Int), (⟨⟨sl, sn, si⟩, (lk : Int), cs, ru⟩, (qa, qn, qc))⟩ w4 HJ4.out ⟨HSL4.out, HCF.out, fun h0 q hq => hfar q h0 hq, Int.natCast_nonneg k⟩ hlen
   clear hxs1 hgo hlen hfar HXS
   simp only [encP] at hy
   gi_wp2
   refine hR.mono ?_
   rintro e W5 ⟨rfl, hJ5, hk5⟩
   clear hy hR
   gi_wp2
   refine wpIn_wide.2 ?_
   have HX5 : Box W5 (D + 2) 63 (scells s) := hk5.box HX4 (.inr ⟨by decide, by decide, by decide⟩)
   have hC5 : Cap W5 bl bt ba bA N H aL nL cL := ⟨hk5.box hC4.xl (.inl ⟨hbl.2, by omega⟩), hk5.box hC4.xt (.inl ⟨hbt.2, by omega⟩), hk5.box hC4.xa (.inl ⟨hba.2, by omega⟩)⟩
   have hbw5 := hk5.below hbw4 (by rw [HGW.out]; exact Nat.le_refl _) (by omega)
   obtain ⟨CT, CZ, hCT⟩ := hty4 _ rfl
   have hld5 : ∀ j u, ([.int .i64 sl, .bool sn, .bool si, .int .i64 (lk : Int), .slice qa qn qc, .int .i64 ru] : List Value)[j]? = some u → W5.cell? ((⟨b4, o4 + k * 6, none⟩ : Addr).add j) = some u := fun j u hj => hk5.cell (HLD.out j u hj) (by rw [Addr.add_lit]; exact hCT) ⟨by decide, by decide, by decide⟩
   have hlc : W5.cell? ⟨b4, o4 + k * 6 + 3, none⟩ = some (.int .i64 (lk : Int)) := by have h := hld5 3 _ rfl; rw [Addr.add_lit] at h; exact h
   have HL5 := hide hld5
   have HJ5 := hide hJ5
   have hil2 : i + lk ≤ 2048 := by have := hnh.out; omega
   clear hld5 hJ5 hk5 hCT hty4 HLD HSL4 HX4 hC4 hbw4 HJ4 HTOP hb4'
   have st3_at6 : ∀ {j : Nat} {u : Value}, ([.int .i64 sl, .bool sn, .bool si] : List Value)[j]? = some u → ([.int .i64 sl, .bool sn, .bool si, .int .i64 (lk : Int), .slice qa qn qc, .int .i64 ru] : List Value)[j]? = some u := fun {j} {u} hj => by
    match j, hj with
    | 0, hj => exact hj
    | 1, hj => exact hj
    | 2, hj => exact hj
   refine wp_region_freeL 13 [⟨0, 41, [41], fun vs _ => vs = [.int .i64 (i : Int)]⟩, ⟨1, 42, [42], fun vs _ => vs = [.slice (some ⟨b4, o4, none⟩) LN c2]⟩, ⟨2, 43, [43], fun vs _ => vs = [.int .i64 (k : Int)]⟩, ⟨3, 44, [44], fun vs _ => vs = [.pointer (some ⟨b4, o4 + k * 6, none⟩)]⟩, ⟨4, 45, [45], fun vs _ => vs = [.pointer (some ⟨b4, o4 + k * 6 + 3, none⟩)]⟩, ⟨5, 46, [46], fun vs _ => vs = [.int .i64 (lk : Int)]⟩, ⟨6, 47, [47], fun vs _ => vs = [.int .i64 ((i + lk : Nat) : Int)]⟩, ⟨7, 48, [48], fun vs _ => vs = [.slice (some ⟨b4, o4, none⟩) LN c2]⟩, ⟨8, 49, [49], fun vs _ => vs = [.int .i64 (k : Int)]⟩, ⟨9, 50, [50], fun vs _ => vs = [.pointer (some ⟨b4, o4 + k * 6, none⟩)]⟩, ⟨10, 51, [51], fun vs _ => vs = [.pointer (some ⟨b4, o4 + k * 6, none⟩)]⟩, ⟨11, 52, [52], fun vs _ => vs = [.agg #[.int .i64 sl, .bool sn, .bool si]]⟩, ⟨12, 6, [6], fun vs _ => vs = [.int .i64 ((i + lk : Nat) : Int)]⟩] (by kernel_rfl) (by kernel_rfl) ?_ ?_ ?_
   ·simp only [All]
    refine ⟨fun _ _ _ _ h => h, fun _ _ _ _ h => h, fun _ _ _ _ h => h, fun _ _ _ _ h => h, fun _ _ _ _ h => h, fun _ _ _ _ h => h, fun _ _ _ _ h => h, fun _ _ _ _ h => h, fun _ _ _ _ h => h, fun _ _ _ _ h => h, fun _ _ _ _ h => h, fun _ _ _ _ h => h, fun _ _ _ _ h => h, trivial⟩
   ·simp only [All]
    refine ⟨?_, ?_, ?_, ?_, ?_, ?_, ?_, ?_, ?_, ?_, ?_, ?_, ?_, trivial⟩
    ·intro o ho a' w' hb hfr hdep hlt; obtain rfl := oj ho
     have g6 : a'.tmps[6]?.getD undef = .int .i64 (i : Int) := by have h := hlt 12 _ rfl (by kernel_rfl); simpa using h
     clear ho hfr hdep hlt; go_wp2_with fail; exact ⟨rfl, _, rfl, br, rfl⟩
    ·intro o ho a' w' hb hfr hdep hlt; obtain rfl := oj ho
     have g7 : a'.tmps[7]?.getD undef = .slice (some ⟨b4, o4, none⟩) LN c2 := by simpa using hfr 7 (by kernel_rfl)
     clear ho hfr hdep hlt; go_wp2_with fail; exact ⟨rfl, _, rfl, br, rfl⟩
    ·intro o ho a' w' hb hfr hdep hlt; obtain rfl := oj ho
     have g8 : a'.tmps[8]?.getD undef = .int .i64 (k : Int) := by simpa using hfr 8 (by kernel_rfl)
     clear ho hfr hdep hlt; go_wp2_with fail; exact ⟨rfl, _, rfl, br, rfl⟩
    ·intro o ho a' w' hb hfr hdep hlt; obtain rfl := oj ho
     have g42 : a'.tmps[42]?.getD undef = .slice (some ⟨b4, o4, none⟩) LN c2 := by simpa using hdep 1 _ rfl (by kernel_rfl)
     have g43 : a'.tmps[43]?.getD undef = .int .i64 (k : Int) := by simpa using hdep 2 _ rfl (by kernel_rfl)
     clear ho hfr hdep hlt; refine index_rowk 44 64 _ _ 67 Try.underlying64 6 size_stp6 b4 o4 LN c2 (by show a'.tmps.getD 42 undef = _; simpa using g42) _ _ k (by show a'.tmps.getD 43 undef = _; simpa using g43) rfl hkLN ?_
     exact ⟨rfl, _, rfl, br, rfl⟩
    ·intro o ho a' w' hb hfr hdep hlt; obtain rfl := oj ho
     have g44 : a'.tmps[44]?.getD undef = .pointer (some ⟨b4, o4 + k * 6, none⟩) := by simpa using hdep 3 _ rfl (by kernel_rfl)
     clear ho hfr hdep hlt; go_wp2_with fail; exact ⟨rfl, _, rfl, br, rfl⟩
    ·intro o ho a' w' hb hfr hdep hlt; obtain rfl := oj ho
     have g45 : a'.tmps[45]?.getD undef = .pointer (some ⟨b4, o4 + k * 6 + 3, none⟩) := by simpa using hdep 4 _ rfl (by kernel_rfl)
     clear ho hfr hdep hlt; have hcl := cell_below hlc hb
     go_wp2_with fail; exact ⟨rfl, _, rfl, br, rfl⟩
    ·intro o ho a' w' hb hfr hdep hlt; obtain rfl := oj ho
     have g41 : a'.tmps[41]?.getD undef = .int .i64 (i : Int) := by simpa using hdep 0 _ rfl (by kernel_rfl)
     have g46 : a'.tmps[46]?.getD undef = .int .i64 (lk : Int) := by simpa using hdep 5 _ rfl (by kernel_rfl)
     clear ho hfr hdep hlt; go_wp2_with fail; exact ⟨rfl, _, rfl, br, by simp⟩
    ·intro o ho a' w' hb hfr hdep hlt; obtain rfl := oj ho
     have g7 : a'.tmps[7]?.getD undef = .slice (some ⟨b4, o4, none⟩) LN c2 := by simpa using hfr 7 (by kernel_rfl)
     clear ho hfr hdep hlt; go_wp2_with fail; exact ⟨rfl, _, rfl, br, rfl⟩
    ·intro o ho a' w' hb hfr hdep hlt; obtain rfl := oj ho
     have g8 : a'.tmps[8]?.getD undef = .int .i64 (k : Int) := by simpa using hfr 8 (by kernel_rfl)
     clear ho hfr hdep hlt; go_wp2_with fail; exact ⟨rfl, _, rfl, br, rfl⟩
    ·intro o ho a' w' hb hfr hdep hlt; obtain rfl := oj ho
     have g48 : a'.tmps[48]?.getD undef = .slice (some ⟨b4, o4, none⟩) LN c2 := by simpa using hdep 7 _ rfl (by kernel_rfl)
     have g49 : a'.tmps[49]?.getD undef = .int .i64 (k : Int) := by simpa using hdep 8 _ rfl (by kernel_rfl)
     clear ho hfr hdep hlt; refine index_rowk 50 64 _ _ 67 Try.underlying64 6 size_stp6 b4 o4 LN c2 (by show a'.tmps.getD 48 undef = _; simpa using g48) _ _ k (by show a'.tmps.getD 49 undef = _; simpa using g49) rfl hkLN ?_
     exact ⟨rfl, _, rfl, br, rfl⟩
    ·intro o ho a' w' hb hfr hdep hlt; obtain rfl := oj ho
     have g50 : a'.tmps[50]?.getD undef = .pointer (some ⟨b4, o4 + k * 6, none⟩) := by simpa using hdep 9 _ rfl (by kernel_rfl)
     clear ho hfr hdep hlt; go_wp2_with fail; exact ⟨rfl, _, rfl, br, rfl⟩
    ·intro o ho a' w' hb hfr hdep hlt; obtain rfl := oj ho
     have g51 : a'.tmps[51]?.getD undef = .pointer (some ⟨b4, o4 + k * 6, none⟩) := by simpa using hdep 10 _ rfl (by kernel_rfl)
     clear ho hfr hdep hlt; refine load_struct 52 63 _ 3 size_state _ Try.underlying63 ⟨b4, o4 + k * 6, none⟩ (by show a'.tmps.getD 51 undef = _; simpa using g51) [.int .i64 sl, .bool sn, .bool si] rfl (fun j u hj => cell_below (HL5.out j u (st3_at6 hj)) hb) ?_
     exact ⟨rfl, _, rfl, br, rfl⟩
    ·intro o ho a' w' hb hfr hdep hlt; obtain rfl := oj ho
     have g47 : a'.tmps[47]?.getD undef = .int .i64 ((i + lk : Nat) : Int) := by simpa using hdep 6 _ rfl (by kernel_rfl)
     clear ho hfr hdep hlt; go_wp2_with fail; exact ⟨rfl, _, rfl, br, rfl⟩
   ·intro gg w6 hbl hp'
    have p6 := hp' 12 _ rfl
    have p52 := hp' 11 _ rfl
    clear hp'
    simp at p6 p52
    simp only [List.drop_succ_cons, List.drop_zero, List.map_cons, List.map_nil, putAll, Act.put, List.setIfInBounds_toArray, List.set_cons_succ, List.set_cons_zero, List.cons_append, List.nil_append, p6, p52]
    clear p6 p52
    have HX6 := HX5.under hbl
    have hC6 := hC5.below hbl
    have hbw6 := hbw5.trans (hbl.mono (by have := hbw5.size; have := HGW.out; omega))
    have HJ6 := hide (HJ.out _ _ _ none HJ5.out (grown_of hbl) (fun q e => by cases e))
    clear HX5 hC5 hbw5 HJ5 hbl hlc HL5
    go_wp2_with (with_reducible refine hold_store ?_)
    refine hide ?_
    refine store_all 63 _ _ 63 (D + 2) (scells s) [.int .i64 sl, .bool sn, .bool si] (.agg #[.int .i64 sl, .bool sn, .bool si]) size_state HX6 rfl rfl rfl rfl (by simp [Value.oneCell']) ?_; intro w7 HX7 gb7 zb7
    have hC7 : Cap w7 bl bt ba bA N H aL nL cL := ⟨hC6.xl.grown gb7 (by intro e; injection e with e; omega), hC6.xt.grown gb7 (by intro e; injection e with e; omega), hC6.xa.grown gb7 (by intro e; injection e with e; omega)⟩
    have hbw7 := hbw6.grown gb7 (by have := hbw6.size; have := HGW.out; omega) (fun q hq => by cases hq; omega)
    have HJ7 := hide (HJ.out _ _ _ _ HJ6.out gb7 (fun q e => by cases e; simp))
    go_wp2_with fail
    have hst := HST.out
    simp only [Int.toNat_natCast] at hst
    have hv23 := HX23.out
    simp only [Int.toNat_natCast] at hv23
    rw [show ((i : Int) + (lk : Int)) = ((i + lk : Nat) : Int) by omega]
    exact ⟨measP l (i + lk) ⟨sl, sn, si⟩, hst.1, RelB.intro (i + lk) ⟨sl, sn, si⟩ (xs ++ [⟨i, (k : Int), (⟨⟨sl, sn, si⟩, (lk : Int), cs, ru⟩, (qa, qn, qc))⟩]) f' rfl rfl hst.2.1 hst.2.2.1 HX7 hC7 hbw7 HJ7.out (by rw [HXS1.out, List.map_append, List.append_assoc]; rfl) (by have := HF.out; have := hst.1; omega) hv23.2⟩

  ·have d1 : decide ((i : Int) < (nL : Int)) = false := decide_eq_false (by omega)
   go_wp2_with fail
   go_end0
   have hlast : goP t l (numT t l) f i s = [] := goP_end (by have := hnh.out; omega)
   exact ⟨⟨_, rfl⟩, xs, by rw [HXS.out, hlast, List.append_nil], HJX.out⟩
end Go.Proofs.Ytlpkicjijlcbfaa
end

section
/- Chapter 08: what the round of Translate's loop keeps. -/
namespace Go.Dx
open Go.RowKit
theorem own_lt {W : World} {B : Nat} {T : TypeId} {sz : Nat} {a : Option Addr} {n c : Nat} {cs : List Value} (ho : Own W B T sz a n c cs) {k : Nat} (hk : k < B) : some k ≠ a.map (·.block) := by
 cases a with
 | none => simp
 | some q => have := ho.base.1; simp; omega
theorem own_box {W : World} {B : Nat} {T T' : TypeId} {sz : Nat} {a : Option Addr} {n c : Nat} {cs cs' : List Value} {b : Nat} (ho : Own W B T sz a n c cs) (hb : Box W b T' cs') (hne : T ≠ T') : some b ≠ a.map (·.block) := by
 cases a with
 | none => simp
 | some q =>
  obtain ⟨C, z, hC⟩ := ho.typ q rfl
  intro e
  injection e with e
  subst e
  have hb' : W.heap[q.block]? = some (.cells cs'.toArray T' (0, 0)) := hb
  rw [hC] at hb'
  injection hb' with hb'
  injection hb' with _ h _
  exact hne h
theorem KpB.app {u8 i64 ct T : TypeId} {g D : Nat} {W W' : World} {sz : Nat} {a : Option Addr} {n c : Nat} {cs : List Value} (hg : W.grownBy W' (a.map (·.block))) (ho : Own W (D + 3) T sz a n c cs) (hT : T = u8 ∨ T = i64) : KpB u8 i64 ct g D W W' := by
 refine ⟨hg.size, hg.os, hg.tape, hg.output, fun b hb hc => hg.block b hb ?_⟩
 rcases hc with hc | ⟨C, T', z, hC, h1, h2, _⟩
 ·exact own_lt ho (by omega)
 ·cases a with
  | none => simp
  | some q =>
   obtain ⟨C', z', hC'⟩ := ho.typ q rfl
   intro e
   injection e with e
   subst e
   rw [hC'] at hC
   injection hC with hC
   injection hC with _ h _
   subst h
   rcases hT with rfl | rfl
   ·exact h1 rfl
   ·exact h2 rfl
theorem KpB.putg {u8 i64 ct : TypeId} {g D : Nat} {W W' : World} {cs : List Value} (hg : W.grownBy W' (some g)) (hB : Box W g ct cs) : KpB u8 i64 ct g D W W' := by
 refine ⟨hg.size, hg.os, hg.tape, hg.output, fun b hb hc => hg.block b hb ?_⟩
 intro e
 injection e with e
 subst e
 rcases hc with hc | ⟨C, T', z, hC, _, _, h3⟩
 ·exact hc.2 rfl
 ·have hb' : W.heap[b]? = some (.cells cs.toArray ct (0, 0)) := hB
  rw [hb'] at hC
  injection hC with hC
  injection hC with _ h _
  exact h3 h.symm
theorem KpB.of_below {u8 i64 ct : TypeId} {g D : Nat} {W W' : World} (h : Below W.heap.size W W') : KpB u8 i64 ct g D W W' := ⟨h.size, h.os, h.tape, h.output, fun b hb _ => h.block b hb⟩
theorem ko_app {W W' : World} {B : Nat} {T : TypeId} {sz : Nat} {a : Option Addr} {n c : Nat} {cs : List Value} (hg : W.grownBy W' (a.map (·.block))) (ho : Own W B T sz a n c cs) : KeepsOthers W W' :=
 KeepsOthers.of_grownBy hg (fun j o hj h => by
  cases a with
  | none => cases hj
  | some q =>
   injection hj with hj
   subst hj
   obtain ⟨C, z, hC⟩ := ho.typ q rfl
   rw [hC] at h
   injection h with h
   subst h
   rfl)
theorem ko_put {W W' : World} {g : Nat} {T : TypeId} {cs : List Value} (hg : W.grownBy W' (some g)) (hB : Box W g T cs) : KeepsOthers W W' :=
 KeepsOthers.of_grownBy hg (fun j o hj h => by
  injection hj with hj
  subst hj
  have hb' : W.heap[g]? = some (.cells cs.toArray T (0, 0)) := hB
  rw [hb'] at h
  injection h with h
  subst h
  rfl)
section
variable {P : Program} {ops : Array Oper} {Q : Exit → Act → World → Prop} {rest : List Oper} {act : Act} {w : World} {ty : TypeId} {pos : String} {after : Array Edge}
theorem load_arr (d : Nat) (t : TypeId) (x : Operand) (sz : Nat) (hsz : (P.info? t).map (·.size) = some sz) (m : Nat) (e : TypeId) (hag : P.underlying t = some (.array m e))
  (p : Addr) (hx : act.eval x = .pointer (some p)) (cs : List Value) (hl : cs.length = sz) (hc : ∀ j u, cs[j]? = some u → w.cell? (p.add j) = some u)
  (hK : wpList P ops Q rest (act.put (some d) (.agg cs.toArray)) w) :
  wpList P ops Q ({ dst := some d, op := .load t x, type := ty, pos := pos, after := after, guard := none } :: rest) act w := by
 refine wpList_plain rfl fun K hK' => ?_
 obtain ⟨i, hi, hs0⟩ := Option.map_eq_some_iff.1 hsz
 subst hs0
 have hrun : (Instr.loadAt t (.pointer (some p))).run P w = .ok (.agg cs.toArray) w := by
  have hl2 := run_loadCells_list (P := P) w p cs hc
  rw [hl] at hl2
  simp [Instr.loadAt, Instr.sureAddr, loadVar, isAgg, run_underlying hag, sizeOf, typeInfo, hi, hl2]
 unfold Oper.wp
 simp [execOp, hx, hrun, Result.andThen]
 exact hK' _ _ hK
end
structure Ng (w : World) (a : Option Addr) (n c : Nat) (hs : List (Option Addr × Nat × Nat)) (A : Nums) : Prop where
 top : Sl w 1 a n c (hs.map hdv)
 len : hs.length = A.length
 row : ∀ (i : Nat) (h : Option Addr × Nat × Nat) (r : List Int), hs[i]? = some h → A[i]? = some r → Sl w 1 h.1 h.2.1 h.2.2 (r.map I64)
theorem Ng.below {w w' : World} {a : Option Addr} {n c : Nat} {hs : List (Option Addr × Nat × Nat)} {A : Nums} (h : Ng w a n c hs A) (hb : Below w.heap.size w w') : Ng w' a n c hs A :=
 ⟨h.top.below hb, h.len, fun i x r hx hr => (h.row i x r hx hr).below hb⟩
theorem Ng.n_eq {w : World} {a : Option Addr} {n c : Nat} {hs : List (Option Addr × Nat × Nat)} {A : Nums} (h : Ng w a n c hs A) : n = A.length := by rw [← h.len]; exact h.top.n_eq
end Go.Dx
namespace Go.Proofs.Ytlpkicjijlcbfaa
open Go.RowKit Go.Dx Go.Al
def cellsX (xs : List Pc) : List UInt8 := xs.flatMap fun x => x.p.1.cells
def idxX (xs : List Pc) : List Int := xs.map (·.idx)
structure TrI (wg : World) (g D : Nat) (xs : List Pc) (W : World) : Prop where
 ex : ∃ a1 n1 c1 a2 n2 c2, Box W g 39 [.slice a1 n1 c1, .slice a2 n2 c2, .slice none 0 0] ∧ Go.Dx.Own W (D + 3) 5 1 a1 n1 c1 ((cellsX xs).map B8) ∧ Go.Dx.Own W (D + 3) 3 1 a2 n2 c2 ((idxX xs).map I64)
 bel : Below g wg W
 few : ∀ x ∈ xs, x.p.1.cells.length ≤ 12
theorem TrI.grown {wg : World} {g D : Nat} {xs : List Pc} {A B : World} {row : Option Nat} (h : TrI wg g D xs A) (hgw : wg.heap.size = g) (hgD : g < D) (hg : A.grownBy B row) (hr : rowIn [D, D + 1, D + 2] row) : TrI wg g D xs B := by
 obtain ⟨⟨a1, n1, c1, a2, n2, c2, h1, h2, h3⟩, h4, h5⟩ := h
 have key : ∀ k, k < D ∨ D + 3 ≤ k → some k ≠ row := fun k hk e => by
  have := hr k e.symm
  simp at this
  omega
 refine ⟨⟨a1, n1, c1, a2, n2, c2, h1.grown hg (key _ (.inl hgD)), h2.kept hg (fun p hp => ?_), h3.kept hg (fun p hp => ?_)⟩, h4.grown hg (by have := h4.size; omega) (fun k hk => ?_), h5⟩
 ·subst hp; exact key _ (.inr h2.base.1)
 ·subst hp; exact key _ (.inr h3.base.1)
 ·have := hr k hk
  simp at this
  omega
theorem cellsX_len {xs : List Pc} (h : ∀ x ∈ xs, x.p.1.cells.length ≤ 12) : (cellsX xs).length ≤ 12 * xs.length := by
 induction xs with
 | nil => simp [cellsX]
 | cons x xs ih =>
  have h1 := h x (by simp)
  have h2 := ih (fun y hy => h y (by simp [hy]))
  unfold cellsX at h2 ⊢
  rw [List.flatMap_cons, List.length_append, List.length_cons]
  omega
theorem cellsX_snoc (xs : List Pc) (x : Pc) : cellsX (xs ++ [x]) = cellsX xs ++ x.p.1.cells := by simp [cellsX]
theorem idxX_snoc (xs : List Pc) (x : Pc) : idxX (xs ++ [x]) = idxX xs ++ [x.idx] := by simp [idxX]
theorem size_pace : (Try.prog.info? 98).map (·.size) = some 8 := by kernel_rfl
def pcC (x : Pc) : List Value := [.int .i64 (x.at_ : Int), .int .i64 x.idx, .int .i64 x.p.1.dst.lang, .bool x.p.1.dst.num, .bool x.p.1.dst.wrd, .int .i64 x.p.1.len, .slice x.p.2.1 x.p.2.2.1 x.p.2.2.2, .int .i64 x.p.1.rule]
theorem pcC_len (x : Pc) : (pcC x).length = 8 := rfl
theorem pcC_cells (x : Pc) : (Value.agg (pcC x).toArray).cells = (pcC x).toArray := rfl
theorem pcC_one (x : Pc) : ∀ u ∈ pcC x, u.oneCell' = true := by simp [pcC, Value.oneCell']
theorem fold_pc (A : Array Value) (x : Pc) : ((#[32] : Array Tmp).zip (encP x)).foldl (fun t (p, v) => t.setIfInBounds p v) A = A.setIfInBounds 32 (.agg (pcC x).toArray) := by simp [encP, pcC]
def hdB (b : Nat) : Value := .slice (some ⟨b, 0, none⟩) 8 8
structure RwI (W : World) (B : Nat) (bs : List Nat) (A : Nums) (a3 : Option Addr) (c3 : Nat) : Prop where
 top : Go.Dx.Own W B 22 1 a3 bs.length c3 (bs.map hdB)
 row : ∀ (i : Nat) (b : Nat) (r : List Int), bs[i]? = some b → A[i]? = some r → Box W b 93 (rowc r)
 fresh : ∀ b ∈ bs, B ≤ b
theorem RwI.nil (W : World) (B : Nat) (A : Nums) : RwI W B [] A none 0 := ⟨Go.Dx.Own.nil _ _ _ _, fun i b r h => (by cases h), fun b h => (by cases h)⟩
theorem RwI.below {W W' : World} {B : Nat} {bs : List Nat} {A : Nums} {a3 : Option Addr} {c3 : Nat} (h : RwI W B bs A a3 c3) (hb : Below W.heap.size W W') : RwI W' B bs A a3 c3 :=
 ⟨h.top.below hb, fun i b r hi hr => (h.row i b r hi hr).under hb, h.fresh⟩
theorem RwI.push {W W' : World} {B : Nat} {bs : List Nat} {A : Nums} {a3 a3' : Option Addr} {c3 c3' : Nat} {b : Nat} {r : List Int} (h : RwI W B bs A a3 c3) (hA : A[bs.length]? = some r) (hx : Box W b 93 (rowc r)) (hB : B ≤ b)
  (ht : Go.Dx.Own W' B 22 1 a3' (bs.length + 1) c3' (bs.map hdB ++ [hdB b])) (hg : W.grownBy W' (a3.map (·.block))) : RwI W' B (bs ++ [b]) A a3' c3' := by
 refine ⟨by rw [List.length_append, List.map_append]; exact ht, fun i y q hi hq => ?_, fun y hy => ?_⟩
 ·rcases Nat.lt_or_ge i bs.length with hlt | hge
  ·rw [List.getElem?_append_left hlt] at hi
   have h1 := h.row i y q hi hq
   exact h1.grown hg (own_box h.top h1 (by decide))
  ·have e : i = bs.length := by
    have := (List.getElem?_eq_some_iff.1 hi).1
    rw [List.length_append, List.length_singleton] at this
    omega
   subst e
   rw [List.getElem?_append_right (Nat.le_refl _), Nat.sub_self] at hi
   injection hi with hi
   subst hi
   rw [hA] at hq
   injection hq with hq
   subst hq
   exact hx.grown hg (own_box h.top hx (by decide))
 ·rcases List.mem_append.1 hy with hy | hy
  ·exact h.fresh y hy
  ·rw [List.mem_singleton] at hy; subst hy; exact hB
structure Kg (g S : Nat) (W W' : World) : Prop where
 size : W.heap.size ≤ W'.heap.size
 os : W'.os = W.os
 tape : W'.tape = W.tape
 output : W'.output = W.output
 same : ∀ b, b < S → b ≠ g → W'.heap[b]? = W.heap[b]?
theorem Kg.refl (g S : Nat) (W : World) : Kg g S W W := ⟨Nat.le_refl _, rfl, rfl, rfl, fun _ _ _ => rfl⟩
theorem Kg.step {g S : Nat} {W w w' : World} {row : Option Nat} (h : Kg g S W w) (hg : w.grownBy w' row) (hS : S ≤ W.heap.size) (hr : ∀ k, row = some k → k = g ∨ S ≤ k) : Kg g S W w' :=
 ⟨Nat.le_trans h.size hg.size, hg.os.trans h.os, hg.tape.trans h.tape, hg.output.trans h.output, fun b hb hbg => (hg.block b (Nat.lt_of_lt_of_le hb (Nat.le_trans hS h.size)) (fun e => by rcases hr b e.symm with h1 | h1 <;> omega)).trans (h.same b hb hbg)⟩
theorem own_ge {W : World} {B : Nat} {T : TypeId} {sz : Nat} {a : Option Addr} {n c : Nat} {cs : List Value} (ho : Go.Dx.Own W B T sz a n c cs) : ∀ k, a.map (·.block) = some k → B ≤ k := fun k hk => by
 cases a with
 | none => cases hk
 | some r =>
  have h : r.block = k := by simpa using hk
  have := ho.base.1
  omega
def HdF (b : Nat) (vs : List Value) (w : World) : Prop := ∃ q, vs = [.slice (some ⟨q, 0, none⟩) 1 1] ∧ Sl w 1 (some ⟨q, 0, none⟩) 1 1 [hdB b]
theorem HdF.below {b : Nat} {vs : List Value} {w w' : World} (h : HdF b vs w) (hb : Below w.heap.size w w') : HdF b vs w' := by obtain ⟨q, h1, h2⟩ := h; exact ⟨q, h1, h2.below hb⟩
theorem info_hd : (Try.prog.info? 22).map (fun i => (i.zero, i.size, i.bytes)) = some (some (.slice none 0 0), 1, 24) := by kernel_rfl
theorem RwI.far {W W' : World} {g B : Nat} {bs : List Nat} {A : Nums} {a3 : Option Addr} {c3 : Nat} (h : RwI W B bs A a3 c3) (hg : W.grownBy W' (some g)) (hgB : g < B) : RwI W' B bs A a3 c3 :=
 ⟨h.top.kept hg (fun p hp => by subst hp; intro e; injection e with e; have := h.top.base.1; omega), fun i b r hi hr => (h.row i b r hi hr).grown hg (by intro e; injection e with e; have := h.fresh b (List.mem_of_getElem? hi); omega), h.fresh⟩
theorem Kg.grown {g S : Nat} {W w' : World} (h : Kg g S W w') (hS : W.heap.size = S) : W.grownBy w' (some g) := ⟨h.os, h.tape, h.output, h.size, fun k hk e => h.same k (by omega) (fun h2 => e (by rw [h2]))⟩
theorem cellsX_path {xs : List Pc} {p : List (Stp × Int)} (h : xs.map (fun x => (x.p.1, x.idx)) = p) : cellsX xs = cellsP p ∧ idxX xs = takenP p := by
 subst h
 constructor
 ·unfold cellsX cellsP; rw [List.flatMap_map]
 ·unfold idxX takenP; rw [List.map_map]; rfl
end Go.Proofs.Ytlpkicjijlcbfaa
end

section
/- Chapter 08: Translate. -/
namespace Go.Dx
open Go.RowKit
def Ce (w : World) (v : Value) (cells : List UInt8) (taken : List Int) (A : Nums) : Prop :=
 ∃ a1 n1 c1 a2 n2 c2 a3 n3 c3 hs, v = .agg #[.slice a1 n1 c1, .slice a2 n2 c2, .slice a3 n3 c3] ∧ Sl w 1 a1 n1 c1 (cells.map B8) ∧ Sl w 1 a2 n2 c2 (taken.map I64) ∧ Ng w a3 n3 c3 hs A
theorem Ce.below {w w' : World} {v : Value} {cells : List UInt8} {taken : List Int} {A : Nums} (h : Ce w v cells taken A) (hb : Below w.heap.size w w') : Ce w' v cells taken A := by
 obtain ⟨a1, n1, c1, a2, n2, c2, a3, n3, c3, hs, h1, h2, h3, h4⟩ := h
 exact ⟨a1, n1, c1, a2, n2, c2, a3, n3, c3, hs, h1, h2.below hb, h3.below hb, h4.below hb⟩
def KeepsX (ct : TypeId) (w w' : World) : Prop := ∀ (k : Nat) (C : Array Value) (T : TypeId) (z : Nat × Nat), w.heap[k]? = some (.cells C T z) → T ≠ ct → w'.heap[k]? = some (.cells C T z)
theorem KeepsX.refl (ct : TypeId) (w : World) : KeepsX ct w w := fun _ _ _ _ h _ => h
theorem KeepsX.of {ct : TypeId} {w w' : World} (h : Below w.heap.size w w') : KeepsX ct w w' := fun k C T z hk _ => (h.block k (Array.getElem?_eq_some_iff.1 hk).1).trans hk
theorem KeepsX.trans {ct : TypeId} {a b c : World} (h : KeepsX ct a b) (k : KeepsX ct b c) : KeepsX ct a c := fun j C T z hj hT => k j C T z (h j C T z hj hT) hT
theorem KeepsX.put {ct : TypeId} {w w' : World} {b : Nat} {cs : List Value} (hx : Box w b ct cs) (hg : w.grownBy w' (some b)) : KeepsX ct w w' := fun k C T z hk hT => by
 refine (hg.block k (Array.getElem?_eq_some_iff.1 hk).1 (fun e => ?_)).trans hk
 injection e with e
 subst e
 have hx' : w.heap[k]? = some (.cells cs.toArray ct (0, 0)) := hx
 rw [hk] at hx'
 injection hx' with hx'
 injection hx' with _ h _
 exact hT h
theorem Sl.keepX {ct T : TypeId} {w w' : World} {sz : Nat} {a : Option Addr} {n c : Nat} {cs : List Value} (h : Sl w sz a n c cs) (ht : TypAt w T a) (hk : KeepsX ct w w') (hne : T ≠ ct) : Sl w' sz a n c cs :=
 ⟨h.len, h.le, h.cap, h.nil, fun p hp j u hj => by
  obtain ⟨C, z, hC⟩ := ht p hp
  have e : (p.add j).block = p.block := by unfold Addr.add; split <;> rfl
  rw [World.cell?_of_block (w := w) (by rw [e, hk _ _ _ _ hC hne, hC])]
  exact h.cell p hp j u hj⟩
def CeT (ct : TypeId) (w : World) (v : Value) (cells : List UInt8) (taken : List Int) (A : Nums) : Prop := ∀ w', KeepsX ct w w' → Ce w' v cells taken A
theorem CeT.ce {ct : TypeId} {w : World} {v : Value} {cells : List UInt8} {taken : List Int} {A : Nums} (h : CeT ct w v cells taken A) : Ce w v cells taken A := h w (KeepsX.refl _ _)
theorem CeT.keep {ct : TypeId} {w w' : World} {v : Value} {cells : List UInt8} {taken : List Int} {A : Nums} (h : CeT ct w v cells taken A) (hk : KeepsX ct w w') : CeT ct w' v cells taken A := fun w2 h2 => h w2 (hk.trans h2)
theorem CeT.below {ct : TypeId} {w w' : World} {v : Value} {cells : List UInt8} {taken : List Int} {A : Nums} (h : CeT ct w v cells taken A) (hb : Below w.heap.size w w') : CeT ct w' v cells taken A := h.keep (KeepsX.of hb)
theorem CeT.nil (ct : TypeId) (w : World) : CeT ct w (.agg #[.slice none 0 0, .slice none 0 0, .slice none 0 0]) [] [] [] := fun w' _ => ⟨none, 0, 0, none, 0, 0, none, 0, 0, [], rfl, Sl.empty _ _, Sl.empty _ _, Sl.empty _ _, rfl, fun i x r hx => by cases hx⟩
def GivesTr (ct : TypeId) (t : Ta) (l : List Sy) (e : Ending) (w : World) : Prop :=
 ∃ v, e = .returned (.tuple #[v, .int .i64 (trE t l)]) ∧ CeT ct w v (if trE t l = 0 then cellsP (pathT t l) else []) (if trE t l = 0 then takenP (pathT t l) else []) (if trE t l = 0 then numT t l else [])
end Go.Dx
namespace Go.Proofs.Ytlpkicjijlcbfaa
open Go.RowKit Go.Dx Go.Al
theorem num_cell0 (t : Ta) (l : List Sy) : ((numT t l).flatMap rowc)[0]? = some (I64 (numV t l)) := by
 have hl := numT_len t l
 obtain ⟨r, hr⟩ : ∃ r, (numT t l)[0]? = some r := ⟨_, List.getElem?_eq_getElem (by omega)⟩
 have h8 := sufT_rows t l l.length r (List.mem_of_getElem? hr)
 obtain ⟨v, hv⟩ : ∃ v, r[0]? = some v := ⟨_, List.getElem?_eq_getElem (by omega)⟩
 have h := nf_get (numT t l) (sufT_rows t l _) hr hv
 have e : numV t l = v := by
  have e1 : (numT t l).getD 0 [] = r := by rw [List.getD_eq_getElem?_getD, hr]; rfl
  show ((numT t l).getD 0 []).getD 0 0 = v
  rw [e1, List.getD_eq_getElem?_getD, hv]
  rfl
 rw [e]
 exact h
theorem res_cell2 {P : Program} {fn : Func} {p u : Tmp} {ty : TypeId} (h : fn.results = #[.cell p ty, .tmp u]) (tmps : Array Value) (w : World) (g : Nat) (t : TypeId) (cs : Array Value) (fr : Nat × Nat) (d : TypeDesc)
  (hp : tmps.getD p undef = .pointer (some ⟨g, 0, none⟩)) (hg : w.heap[g]? = some (.cells cs t fr))
  (hu : P.underlying ty = some d) (hd : (match d with | .struct _ | .array _ _ => true | _ => false) = true) (hi : (P.info? ty).map (·.size) = some cs.size) :
  (results fn tmps).run P w = .ok (.tuple #[.agg cs, tmps.getD u undef]) w := by
 have hp' : tmps[p]?.getD undef = .pointer (some ⟨g, 0, none⟩) := by simpa using hp
 simp [results, h, hp', asAddr, run_loadVar_row w g t ty cs fr d hg hu hd hi]
theorem size_cert : (Try.prog.info? 39).map (·.size) = some 3 := by kernel_rfl
theorem leave_cert {fn : Func} (hfn : fn.results = #[.cell 4 39, .tmp 5]) {tm : Array Value} {W : World} {g : Nat} {vs : List Value} {F : Fence} {n : Nat} {R : Ending → World → Prop} (hp : tm.getD 4 undef = .pointer (some ⟨g, 0, none⟩)) (hg : Box W g 39 vs) (hl : vs.length = 3)
  (hR : R (.returned (.tuple #[.agg vs.toArray, tm.getD 5 undef])) W) : LeavesInM F n Try.prog fn tm R [] .returning W :=
 ⟨_, res_cell2 hfn tm W g _ vs.toArray _ _ hp hg Try.underlying39 rfl (by rw [size_cert]; simp [hl]), hR⟩
theorem RwI.ngX {ct : TypeId} {W W' : World} {B : Nat} {bs : List Nat} {A : Nums} {a3 : Option Addr} {c3 : Nat} (h : RwI W B bs A a3 c3) (hk : KeepsX ct W W') (h1 : 22 ≠ ct) (h2 : 93 ≠ ct) (hl : bs.length = A.length) (h8 : ∀ r ∈ A, r.length = 8) : Ng W' a3 bs.length c3 (bs.map fun b => (some ⟨b, 0, none⟩, 8, 8)) A := by
 refine ⟨?_, by rw [List.length_map, hl], fun i x r hx hr => ?_⟩
 ·have h3 := Sl.keepX h.top.sl h.top.typ hk h1
  rw [List.map_map]
  exact h3
 ·rw [List.getElem?_map] at hx
  cases hb : bs[i]? with
  | none => rw [hb] at hx; cases hx
  | some b =>
   rw [hb] at hx
   injection hx with hx
   subst hx
   have h3 : Box W' b 93 (rowc r) := hk _ _ _ _ (h.row i b r hb hr) h2
   have h4 := h8 r (List.mem_of_getElem? hr)
   exact ⟨by simp [h4], Nat.le_refl _, by unfold maxLen; show 8 ≤ _; decide, fun e => (by cases e), fun p hp j u hj => by
    injection hp with hp
    subst hp
    rw [Addr.add_lit, Nat.zero_add]
    exact h3.at_ hj⟩
set_option maxRecDepth 100000 in
set_option maxHeartbeats 4000000 in
theorem con_Translate (H : TH) (t : Ta) (l : List Sy) (a : Option Addr) (n c : Nat) (w : World) (hT : TaIs w H t) (hs : Sl w 2 a n c (l.flatMap sc)) :
  Calls Try.prog 13 #[H.v, .slice a n c] w fun e w' => GivesTr 39 t l e w' ∧ Below w.heap.size w w' := by
 have Hm := hide hT
 have Hs := hide hs
 clear hT hs
 obtain ⟨⟨a0, n0, c0⟩, ⟨a1, n1, c1⟩, ps0, ps1, ⟨ad, nd, cd⟩, ⟨ac, nc, cc⟩, ⟨an, nn, cn⟩, ⟨af, nf, cf⟩, ⟨aw, nw, cw⟩⟩ := H
 unfold TH.v
 simp only [hdv]
 have Y1 := (Box.new w 29 #[.slice a0 n0 c0, .slice a1 n1 c1, .slice ad nd cd, .slice ac nc cc, .slice an nn cn, .slice af nf cf, .slice aw nw cw]).alloc (.cells #[.slice none 0 0, .slice none 0 0, .slice none 0 0] 39)
 have Y2 := Box.new (w.alloc (.cells #[.slice a0 n0 c0, .slice a1 n1 c1, .slice ad nd cd, .slice ac nc cc, .slice an nn cn, .slice af nf cf, .slice aw nw cw] 29)) 39 #[.slice none 0 0, .slice none 0 0, .slice none 0 0]
 have hba := ((Below.refl w.heap.size w).alloc (Nat.le_refl _) (.cells #[.slice a0 n0 c0, .slice a1 n1 c1, .slice ad nd cd, .slice ac nc cc, .slice an nn cn, .slice af nf cf, .slice aw nw cw] 29)).alloc (by simp) (.cells #[.slice none 0 0, .slice none 0 0, .slice none 0 0] 39)
 simp only [World.size_alloc] at Y2
 refine (callsIn_wide (n := 3)).1 ?_
 refine callsIn_of_wp_marks Try.func13 rfl trivial ?_ rfl
 simp only [Try.ntmps13, List.size_toArray, List.length_cons, List.length_nil, Nat.reduceAdd, Nat.reduceSub, Array.replicate_succ, Array.replicate_zero, List.push_toArray, List.append_toArray, List.nil_append, List.cons_append]
 refine wpIn_seq_k fun K0 hK0 => wpIn_wide.2 ?_
 go_wp2_with fail
 generalize (w.alloc (.cells _ 29)).alloc (.cells _ 39) = wa at *
 obtain ⟨H, hH⟩ : ∃ H : TH, H = ⟨(a0, n0, c0), (a1, n1, c1), ps0, ps1, (ad, nd, cd), (ac, nc, cc), (an, nn, cn), (af, nf, cf), (aw, nw, cw)⟩ := ⟨_, rfl⟩
 have HXa : Box wa w.heap.size 29 (tcells H) := by rw [hH]; exact Y1
 have HCa : Box wa (w.heap.size + 1) 39 [.slice none 0 0, .slice none 0 0, .slice none 0 0] := Y2
 have HTa : TaIs wa H t := by rw [hH]; exact Hm.out.below hba
 have HSa := Hs.out.below hba
 clear hH Hm Hs Y1 Y2
 obtain ⟨gT, hgT⟩ : ∃ gT, Hid (w.heap.size = gT) := ⟨_, hide rfl⟩
 obtain ⟨gR, hgR⟩ : ∃ gR, Hid (w.heap.size + 1 = gR) := ⟨_, hide rfl⟩
 rw [hgR.out] at HCa ⊢
 rw [hgT.out] at HXa ⊢
 have hfit := hide (con_fits H t l a n c wa HTa HSa)
 obtain ⟨FE, hFE⟩ : ∃ FE, Hid (fitsE t l = FE) := ⟨_, hide rfl⟩
 rw [hFE.out] at hfit
 refine wpIn_seq_k fun K1 hK1 => wpIn_wide.2 ?_
 by_cases hfe : FE = 0
 ·subst hfe
  obtain ⟨hv, hg, h2048⟩ := fitsE_ok hFE.out
  have HV := hide hv
  have HG := hide hg
  have H2 := hide h2048
  clear hv hg h2048
  go_wp2_with (first
   | (with_reducible refine load_struct 12 29 _ 7 size_tables _ Try.underlying29 ⟨gT, 0, none⟩ rfl (tcells H) rfl (fun j u hj => by rw [Addr.add_lit, Nat.zero_add]; exact HXa.at_ hj) ?_)
   | (go_at_call 38; refine hfit.out.mono ?_; rintro e w2 ⟨rfl, hb2⟩; refine hold ?_))
  refine hide ?_
  have HC2 := HCa.under hb2
  have HX2 := HXa.under hb2
  have HT2 := HTa.below hb2
  have HS2 := HSa.below hb2
  have hbl2 := hba.trans (hb2.mono hba.size)
  have hnum := hide (con_numbers H t l a n c w2 HT2 HS2 HV.out HG.out H2.out)
  clear HCa HXa HTa HSa hba hb2 hfit
  go_wp2_with fail
  refine wpIn_seq_k fun K4 hK4 => wpIn_wide.2 ?_
  go_wp2_with (first
   | (with_reducible refine load_struct 19 29 _ 7 size_tables _ Try.underlying29 ⟨gT, 0, none⟩ rfl (tcells H) rfl (fun j u hj => by rw [Addr.add_lit, Nat.zero_add]; exact HX2.at_ hj) ?_)
   | (go_at_call 39; refine hnum.out.mono ?_; rintro e w3 ⟨bA, rfl, HA3, hbA, hb3⟩; refine hold ?_))
  refine hide ?_
  have HC3 := HC2.under hb3
  have HX3 := HX2.under hb3
  have HT3 := HT2.below hb3
  have HS3 := HS2.below hb3
  have hbl3 := hbl2.trans (hb3.mono hbl2.size)
  have hbA2 : Hid (w2.heap.size ≤ bA) := hide hbA
  have hsz2 := hbl2.size
  clear HC2 HX2 HT2 HS2 hb3 hnum hbl2 hbA
  obtain ⟨N, hN⟩ : ∃ N, Hid (n + 1 = N) := ⟨_, hide rfl⟩
  rw [hN.out]
  have hnl : n = l.length := HS3.nf sc_len (by decide)
  have hNl : N = l.length + 1 := by rw [← hN.out, hnl]
  have HNL := hide hNl
  have hN0 : 0 < N := by omega
  have HNn := hide hnl
  clear hnl hNl
  obtain ⟨NV, hNV⟩ : ∃ NV, Hid (numV t l = NV) := ⟨_, hide rfl⟩
  have hc0 : w3.cell? ⟨bA, 0, none⟩ = some (.int .i64 NV) := by
   have h := HA3.at_ (j := 0) (num_cell0 t l)
   rw [hNV.out] at h
   exact h
  go_wp2_with fail
  refine wpIn_seq_k fun K5 hK5 => wpIn_wide.2 ?_
  by_cases hnv : NV < 0
  ·have d1 : decide (NV < 0) = true := decide_eq_true hnv
   go_wp2_with (first
    | (with_reducible refine index_knownN 23 90 _ _ 93 Try.underlying90 8 size_row8 bA N N rfl _ _ 0 rfl rfl hN0 ?_)
    | (with_reducible refine index_arrp 24 93 _ _ 3 8 Try.underlying93 size_int bA (0 * 8) rfl _ _ 0 rfl rfl (by decide) ?_)
    | (with_reducible refine hold_store ?_))
   refine hide ?_
   refine store_all 39 _ _ 39 gR [.slice none 0 0, .slice none 0 0, .slice none 0 0] [.slice none 0 0, .slice none 0 0, .slice none 0 0] _ size_cert HC3 rfl rfl rfl rfl (by simp [Value.oneCell']) ?_; intro w4 HC4 gb4 zb4
   go_wp2_with fail
   refine leave_cert rfl rfl HC4 rfl ?_
   have e1 : trE t l = 6 := by unfold trE; rw [hFE.out, if_neg (by simp), hNV.out, if_pos hnv]
   refine ⟨⟨_, by rw [e1]; rfl, by rw [e1, if_neg (by decide), if_neg (by decide), if_neg (by decide)]; exact CeT.nil _ _⟩, by rw [← hgT.out]; exact hbl3.grown gb4 hbl3.size (fun q hq => by cases hq; rw [← hgR.out]; omega)⟩
  ·have d1 : decide (NV < 0) = false := decide_eq_false hnv
   go_wp2_with (first
    | (with_reducible refine index_knownN 23 90 _ _ 93 Try.underlying90 8 size_row8 bA N N rfl _ _ 0 rfl rfl hN0 ?_)
    | (with_reducible refine index_arrp 24 93 _ _ 3 8 Try.underlying93 size_int bA (0 * 8) rfl _ _ 0 rfl rfl (by decide) ?_))
   refine wpIn_seq_k fun K7 hK7 => wpIn_wide.2 ?_
   have hgc : Hid (w3.heap.size = w3.heap.size) := hide rfl
   have HB3 := Box.new w3 39 #[.slice none 0 0, .slice none 0 0, .slice none 0 0]
   have hbB := blo w3 (.cells #[.slice none 0 0, .slice none 0 0, .slice none 0 0] 39)
   have hsB : (w3.alloc (.cells #[.slice none 0 0, .slice none 0 0, .slice none 0 0] 39)).heap.size = w3.heap.size + 1 := by simp
   go_wp2_with fail
   generalize w3.alloc (.cells _ 39) = w4 at *
   obtain ⟨g, hgg⟩ : ∃ g, Hid (w3.heap.size = g) := ⟨_, hide rfl⟩
   have HC4 := HC3.under hbB
   have HX4 := HX3.under hbB
   have HA4 := HA3.under hbB
   have HT4 := HT3.below hbB
   have HS4 := HS3.below hbB
   have hbl4 := hbl3.trans (hbB.mono hbl3.size)
   rw [hgg.out] at HB3 hsB ⊢
   have hbAg : Hid (bA < g) := hide (by rw [← hgg.out]; exact HA3.lt)
   have hgRg : Hid (gR < g) := hide (by rw [← hgg.out]; exact HC3.lt)
   clear HX3 hc0 hgc
   refine wpIn_seq_k fun K8 hK8 => ?_
   refine wpIn_seq_k fun K9 hK9 => wpIn_wide.2 ?_
   have hbest := hide (con_best H a n c bA N w4)
   go_wp2_with (first
    | (with_reducible refine load_struct 28 29 _ 7 size_tables _ Try.underlying29 ⟨gT, 0, none⟩ rfl (tcells H) rfl (fun j u hj => by rw [Addr.add_lit, Nat.zero_add]; exact HX4.at_ hj) ?_)
    | (go_at_call 40; refine hbest.out.mono ?_; rintro e w5 ⟨bl, bt, ba, rfl, hCap, hbl', hbt', hba', hb5⟩; refine hold ?_))
   refine hide ?_
   have HC5 := HC4.under hb5
   have HX5 := HX4.under hb5
   have HA5 := HA4.under hb5
   have HT5 := HT4.below hb5
   have HS5 := HS4.below hb5
   have HB5 := HB3.under hb5
   have hbl5 := hbl4.trans (hb5.mono hbl4.size)
   go_wp2_with fail
   refine wpIn_block ?_
   obtain ⟨D, hD⟩ : ∃ D, Hid (w5.heap.size = D) := ⟨_, hide rfl⟩
   have hsz5 := hb5.size
   have hgD : g < D := by rw [← hD.out]; omega
   have hTr0 : TrI w3 g D [] w5 := ⟨⟨none, 0, 0, none, 0, 0, HB5, Go.Dx.Own.nil _ _ _ _, Go.Dx.Own.nil _ _ _ _⟩, by rw [← hgg.out]; exact hbB.trans (hb5.mono hbB.size), fun x hx => by cases hx⟩
   have hblD : g < bl ∧ bl < D := ⟨by omega, by rw [← hD.out]; exact hCap.xl.lt⟩
   have hbtD : g < bt ∧ bt < D := ⟨by omega, by rw [← hD.out]; exact hCap.xt.lt⟩
   have hbaD : g < ba ∧ ba < D := ⟨by omega, by rw [← hD.out]; exact hCap.xa.lt⟩
   refine range_go (gf := 68) (lb := #[.pointer (some ⟨bl, 0, none⟩), .pointer (some ⟨bt, 0, none⟩), .pointer (some ⟨ba, 0, none⟩)]) rfl (enters_of Try.func68 (by kernel_rfl) rfl) encP (fun _ => rfl)
    (KnP D) (KpB 5 3 39 g D) (fun xs => xs.map (fun x => (x.p.1, x.idx)) = pathT t l) (2 * l.length + 1) (TrI w3 g D)
    ?hI ?hKn (fun h k => h.trans k) ?hKb (fun _ _ h => KpB.of_below h) hTr0
    (fun x a' W => ∃ B, D + 2 ≤ B ∧ Box W B 98 (pcC x) ∧ a' = { tmps := #[.agg #[.slice a0 n0 c0, .slice a1 n1 c1, .slice ad nd cd, .slice ac nc cc, .slice an nn cn, .slice af nf cf, .slice aw nw cw], .slice a n c, .pointer (some ⟨gT, 0, none⟩), undef, .pointer (some ⟨gR, 0, none⟩), .int .i64 0, .int .i64 0, .slice (some ⟨bA, 0, none⟩) N N, .pointer (some ⟨g, 0, none⟩), .pointer (some ⟨B, 0, none⟩), undef, undef, .agg (tcells H).toArray, .slice a n c, .int .i64 0, .int .i64 0, .bool false, undef, undef, .agg (tcells H).toArray, .slice a n c, .slice (some ⟨bA, 0, none⟩) N N, .slice (some ⟨bA, 0, none⟩) N N, .pointer (some ⟨bA, 0, none⟩), .pointer (some ⟨bA, 0, none⟩), .int .i64 NV, .bool false, undef, .agg (tcells H).toArray, .slice a n c, .slice (some ⟨bA, 0, none⟩) N N, BST bl bt ba, .agg (pcC x).toArray, undef, undef, undef, undef, undef, undef, undef, undef, undef, undef, undef, undef, undef, undef, undef, undef, undef, undef, undef, undef, undef, undef, undef, undef, undef, undef, undef, undef], defers := [] }) ?hAx ?hassign ?hbody ?hseq ?hdone
   case hI =>
    intro pre A B row h hg hr
    rw [hD.out] at hr
    exact h.grown hgg.out hgD hg hr
   case hKn =>
    intro x A B row h hg hr
    rw [hD.out] at hr
    refine ⟨?_, h.few, h.far, h.idx⟩
    by_cases h0 : 0 < x.p.1.cells.length
    ·refine h.sl.grown hg (fun q hq e => ?_)
     have h1 := h.far h0 q hq
     have h2 := hr q.block e.symm
     simp at h2
     omega
    ·have e0 : x.p.1.cells = [] := List.length_eq_zero_iff.1 (by omega)
     have h1 := h.sl
     rw [e0] at h1 ⊢
     exact ⟨h1.len, h1.le, h1.cap, h1.nil, fun q hq j u hj => by simp at hj⟩
   case hKb =>
    intro W o o' h ho
    rw [hD.out] at h ⊢
    exact KpB.put W o o' h ho
   case hAx =>
    rintro x a' A B row ⟨b, h1, h2, h3⟩ hg hr
    rw [hD.out] at hr
    refine ⟨b, h1, h2.grown hg (fun e => ?_), h3⟩
    have := hr b e.symm
    simp at this
    omega
   case hassign =>
    intro L pre x W hI hK hlt K hKK
    rw [fold_pc]
    refine region_in (by rintro ⟨_, _, h⟩; exact h) (by simp) ?_
    simp only [List.setIfInBounds_toArray, List.set_cons_succ, List.set_cons_zero]
    have hzz := Box.new W 98 (pcC x).toArray
    have hbz := blo W (.cells (pcC x).toArray 98)
    go_wp2_with (with_reducible refine store_fresh 98 98 _ _ 8 size_pace _ rfl (.agg (pcC x).toArray) (pcC x) rfl (pcC_cells x) (pcC_len x) rfl (pcC_one x) ?_; refine hold ?_)
    refine hide ?_
    go_wp2_with fail
    refine hKK _ _ (hI.grown hgg.out hgD (World.grownBy_alloc _ _ none) (fun q e => by cases e)) ⟨hK.sl.below hbz, hK.few, hK.far, hK.idx⟩ ⟨W.heap.size, by rw [hD.out] at hlt; omega, hzz, rfl⟩ hbz
   case hbody =>
    rintro L pre x a' W hI hK ⟨B, hB, hBx, rfl⟩ hlen
    obtain ⟨⟨p1, m1, q1, p2, m2, q2, hC, hO1, hO2⟩, hbel, hfew⟩ := hI
    have hD3 : D + 3 ≤ W.heap.size := by have := hBx.lt; omega
    have hgw := hgg.out
    have hcl := cellsX_len hfew
    have hl1 := hO1.len
    have hl2 := hO2.len
    simp only [List.length_map, Nat.mul_one] at hl1 hl2
    have hi2 : (idxX pre).length = pre.length := by simp [idxX]
    have h20 := H2.out
    have hsl := hK.sl
    have hfx := hK.few
    have hqn := hsl.n_eq
    have hpre : pre.length ≤ 4096 := by omega
    have hm1 : m1 ≤ 50000 := by omega
    have hm2 : m2 ≤ 50000 := by omega
    have hqn2 : x.p.2.2.1 ≤ 12 := by omega
    have hbel0 : g ≤ W.heap.size := by omega
    clear hcl hl1 hl2 hi2 h20 hqn hgw
    obtain ⟨xat, xi, ⟨⟨⟨sl, sn, si⟩, ln, cs, ru⟩, ⟨qa, qn, qc⟩⟩⟩ := x
    simp only [pcC] at hBx hsl hfx hqn2 ⊢
    have cg0 : W.cell? ⟨g, 0, none⟩ = some (.slice p1 m1 q1) := hC.at_ rfl
    have cB6 : W.cell? ⟨B, 6, none⟩ = some (.slice qa qn qc) := hBx.at_ rfl
    refine wpIn_block ?_
    refine wpIn_seq_k fun K10 hK10 => region_in (by rintro ⟨_, _, h⟩; exact absurd h.1 (by intro e; cases e)) (by simp) ?_
    go_wp2_with (at_builtin; refine app_bs rfl _ _ rfl W (D + 3) p1 m1 q1 _ rfl hO1 qa qn qc cs rfl hsl (by omega) hD3 (Below.refl _ _) ?_; intro p1' q1' w6 hO1' gb6 hb6; refine hold ?_)
    refine hide ?_
    have hC6 := hC.grown gb6 (own_lt hO1 (by omega))
    have hB6 := hBx.grown gb6 (own_box hO1 hBx (by decide))
    have hO26 := hO2.kept gb6 (fun p hp => by subst hp; exact far_map hO2 hO1 (by decide))
    have hbel6 := hbel.grown gb6 hbel0 (fun k hk => by
     cases p1 with
     | none => cases hk
     | some r =>
      have hk' : r.block = k := by simpa using hk
      have := hO1.base.1
      omega)
    go_wp2_with (with_reducible refine hold_store ?_)
    refine hide ?_
    refine store_cell 27 _ _ 39 g 0 _ (.slice p1' (m1 + qn) q1') (by kernel_rfl) hC6 rfl rfl rfl rfl (by simp) ?_; intro w7 hC7 gb7 zb7
    have hB7 := hB6.grown gb7 (by intro e; injection e with e; omega)
    have hO17 := hO1'.kept gb7 (fun p hp => by subst hp; intro e; injection e with e; have := hO1'.base.1; omega)
    have hO27 := hO26.kept gb7 (fun p hp => by subst hp; intro e; injection e with e; have := hO26.base.1; omega)
    have hbel7 := hbel6.grown gb7 (Nat.le_trans hbel0 gb6.size) (fun k hk => by injection hk with hk; omega)
    have hkp7 : KpB 5 3 39 g D W w7 := (KpB.app gb6 hO1 (.inl rfl)).trans (KpB.putg gb7 hC6)
    have hko7 : KeepsOthers W w7 := (ko_app gb6 hO1).trans (ko_put gb7 hC6)
    have hD7 : D + 3 ≤ w7.heap.size := Nat.le_trans hD3 (Nat.le_trans gb6.size gb7.size)
    clear cg0 cB6 hB6 hO26 hbel6 gb7 zb7 hC6 gb6 hb6 hO1' hC hBx hO1 hO2
    have hC7' : Box w7 g 39 [.slice p1' (m1 + qn) q1', .slice p2 m2 q2, .slice none 0 0] := hC7
    have cg1 : w7.cell? ⟨g, 1, none⟩ = some (.slice p2 m2 q2) := hC7'.at_ rfl
    have cB1 : w7.cell? ⟨B, 1, none⟩ = some (.int .i64 xi) := hB7.at_ rfl
    go_wp2_with fail
    refine region_in (by rintro ⟨_, _, h⟩; exact absurd h.1 (by intro e; cases e)) (by simp) ?_
    go_wp2_with (at_builtin; refine app_i rfl _ _ rfl w7 (D + 3) p2 m2 q2 _ rfl hO27 xi rfl (by omega) hD7 (Below.refl _ _) ?_; intro p2' q2' w8 hO2' gb8 hb8; refine hold ?_)
    refine hide ?_
    have hC8 := hC7'.grown gb8 (own_lt hO27 (by omega))
    have hO18 := hO17.kept gb8 (fun p hp => by subst hp; exact far_map hO17 hO27 (by decide))
    have hbel8 := hbel7.grown gb8 (by omega) (fun k hk => by
     cases p2 with
     | none => cases hk
     | some r =>
      have hk' : r.block = k := by simpa using hk
      have := hO27.base.1
      omega)
    go_wp2_with (with_reducible refine hold_store ?_)
    refine hide ?_
    refine store_cell 22 _ _ 39 g 1 _ (.slice p2' (m2 + 1) q2') (by kernel_rfl) hC8 rfl rfl rfl rfl (by simp) ?_; intro w9 hC9 gb9 zb9
    have hO19 := hO18.kept gb9 (fun p hp => by subst hp; intro e; injection e with e; have := hO18.base.1; omega)
    have hO29 := hO2'.kept gb9 (fun p hp => by subst hp; intro e; injection e with e; have := hO2'.base.1; omega)
    have hbel9 := hbel8.grown gb9 (by have := gb8.size; omega) (fun k hk => by injection hk with hk; omega)
    have hkp9 := hkp7.trans ((KpB.app (u8 := 5) (i64 := 3) (ct := 39) (g := g) gb8 hO27 (.inr rfl)).trans (KpB.putg gb9 hC8))
    have hko9 := hko7.trans ((ko_app gb8 hO27).trans (ko_put gb9 hC8))
    go_wp2_with fail
    exact ⟨trivial, hko9, hkp9, ⟨⟨p1', m1 + qn, q1', p2', m2 + 1, q2', hC9, by rw [cellsX_snoc, List.map_append]; exact hO19, by rw [idxX_snoc, List.map_append]; exact hO29⟩, hbel9, fun y hy => by
     rcases List.mem_append.1 hy with hy | hy
     ·exact hfew y hy
     ·rw [List.mem_singleton] at hy; subst hy; exact hfx⟩⟩
   case hseq =>
    intro J hJ hY hJD W hWs hWb hJ0
    rw [hD.out] at hJ hY hJD hWs ⊢
    have hbw : Below g w3 w5 := by rw [← hgg.out]; exact hbB.trans (hb5.mono hbB.size)
    have hWb' : Below D w5 W := by rw [← hD.out]; exact hWb
    have hval : 0 ≤ numV t l := by rw [hNV.out]; omega
    have hY' : ∀ pre x W1, J pre W1 → KnP D x W1 → pre.length < 2 * l.length + 1 → YieldAt Fence.wide 1 Try.prog (D + 1) (encP x) W1 fun e W' => e = .returned (.bool true) ∧ J (pre ++ [x]) W' ∧ KpB 5 3 39 g D W1 W' := hY
    have hq := best_seq 1 g D w3 H t l a n c bA N bl bt ba hgg.out HT3 HS3 HA3 HV.out HG.out H2.out HNL.out hval hblD hbtD hbaD hgD J hJ w5 hD.out hbw hCap hJD hY' W hWs hWb' hJ0
    exact hq
   case hdone =>
    intro xs W hS hI hdf
    rw [hD.out] at hdf ⊢
    refine hK8 _ _ (wpIn_wide.2 ?_)
    obtain ⟨⟨p1, m1, q1, p2, m2, q2, hC, hO1, hO2⟩, hbel, hfew⟩ := hI
    have HSX := hide hS
    have hAW : Box W bA 93 ((numT t l).flatMap rowc) := HA3.under (by rw [hgg.out]; exact hbel)
    obtain ⟨SW, hSW⟩ : ∃ SW, Hid (W.heap.size = SW) := ⟨_, hide rfl⟩
    have hDS : D < SW := by rw [← hSW.out]; exact (Array.getElem?_eq_some_iff.1 hdf).1
    have hN9 : N ≤ 2049 := by have h1 := HNL.out; have h2 := H2.out; omega
    clear hS hCap hb5 hbest HT3 HS3 HA3 HX4 HA4 HT4 HS4 HX5 HA5 HT5 HS5 HB5 HB3 HC5 hTr0 hbl4
    go_wp2_with fail
    go_loopg [49] N (fun gh v w' => ∃ (i : Nat) (bs : List Nat) (a3 : Option Addr) (c3 : Nat), i ≤ N ∧ gh = N - i ∧ v = .int .i64 (i : Int) ∧ bs.length = i ∧ RwI w' SW bs (numT t l) a3 c3 ∧ Box w' g 39 [.slice p1 m1 q1, .slice p2 m2 q2, .slice a3 i c3] ∧ Box w' bA 93 ((numT t l).flatMap rowc) ∧ Kg g SW W w')
    case atStart => exact ⟨0, [], none, 0, Nat.zero_le _, rfl, rfl, rfl, RwI.nil _ _ _, hC, hAW, Kg.refl _ _ _⟩
    case round =>
     clear hC hAW
     obtain ⟨i, bs, a3, c3, hi, rfl, rfl, hbs, hR, hC, hAW, hkp⟩ := hrel
     by_cases hin : i < N
     ·have d2 : decide ((i : Int) < (N : Int)) = true := decide_eq_true (by omega)
      have hAl : (numT t l).length = N := by rw [numT_len]; exact HNL.out.symm
      obtain ⟨r, hr⟩ : ∃ r, (numT t l)[i]? = some r := ⟨_, List.getElem?_eq_getElem (by omega)⟩
      have hr8 := sufT_rows t l l.length r (List.mem_of_getElem? hr)
      have hrl : (rowc r).length = 8 := by unfold rowc; rw [List.length_map]; exact hr8
      have hrc : ∀ (j : Nat) (u : Value), (rowc r)[j]? = some u → wr.cell? ((⟨bA, i * 8, none⟩ : Addr).add j) = some u := fun j u hj => by
       rw [Addr.add_lit]
       obtain ⟨v, hv, rfl⟩ : ∃ v, r[j]? = some v ∧ I64 v = u := by unfold rowc at hj; rw [List.getElem?_map] at hj; cases h : r[j]? with
        | none => rw [h] at hj; cases hj
        | some v => rw [h] at hj; injection hj with hj; exact ⟨v, rfl, hj⟩
       exact hAW.at_ (nf_get (numT t l) (sufT_rows t l _) hr hv)
      have hr1 : ∀ u ∈ rowc r, u.oneCell' = true := by unfold rowc; intro u hu; obtain ⟨v, _, rfl⟩ := List.mem_map.1 hu; rfl
      have HR := hide hr
      clear hr hr8 hAl
      go_wp2_with (first
       | (with_reducible refine index_knownN 51 90 _ _ 93 Try.underlying90 8 size_row8 bA N N rfl _ _ i rfl rfl hin ?_)
       | (with_reducible refine load_arr 52 93 _ 8 size_row8 8 3 Try.underlying93 ⟨bA, i * 8, none⟩ rfl (rowc r) hrl hrc ?_)
       | (with_reducible refine store_fresh 93 93 _ _ 8 size_row8 _ rfl (.agg (rowc r).toArray) (rowc r) rfl rfl hrl rfl hr1 ?_; refine hold ?_))
      refine hide ?_
      have HN1 : Box (wr.alloc (.cells (rowc r).toArray 93)) wr.heap.size 93 (rowc r) := Box.new wr 93 (rowc r).toArray
      have hbn := blo wr (.cells (rowc r).toArray 93)
      have hR1 := hR.below hbn
      have hC1 := hC.under hbn
      have hA1 := hAW.under hbn
      have hkp1 := hkp.step (grown_of hbn) (by rw [hSW.out]; exact Nat.le_refl _) (fun k hk => by cases hk)
      have hW1 : SW ≤ wr.heap.size := by rw [← hSW.out]; exact hkp.size
      clear hrc hrl hr1 hR hC hAW hkp
      generalize wr.alloc (.cells (rowc r).toArray 93) = w1 at *
      obtain ⟨b1, hb1⟩ : ∃ b1, Hid (wr.heap.size = b1) := ⟨_, hide rfl⟩
      rw [hb1.out] at HN1 hW1 ⊢
      clear hbn
      go_wp2_with fail
      have cg2 : w1.cell? ⟨g, 2, none⟩ = some (.slice a3 i c3) := hC1.at_ rfl
      have hS1 : b1 < w1.heap.size := HN1.lt
      refine wp_region_free 4 [⟨0, 53, [53], fun vs _ => vs = [.pointer (some ⟨g, 2, none⟩)]⟩, ⟨1, 54, [54], fun vs _ => vs = [.slice a3 i c3]⟩, ⟨2, 55, [55], fun vs _ => vs = [hdB b1]⟩, ⟨3, 56, [56], HdF b1⟩] (by kernel_rfl) (by kernel_rfl) ?_ ?_ ?_
      ·simp only [All]
       refine ⟨fun _ _ _ _ h => h, fun _ _ _ _ h => h, fun _ _ _ _ h => h, ?_, trivial⟩
       ·exact fun vs w1 w2 hb h => h.below hb
      ·simp only [All]
       refine ⟨?_, ?_, ?_, ?_, trivial⟩
       ·intro o ho a' w' hb hfr hdep; obtain rfl := oj ho
        have g8 : a'.tmps[8]?.getD undef = .pointer (some ⟨g, 0, none⟩) := by simpa using hfr 8 (by kernel_rfl)
        clear ho hfr hdep; go_wp2_with fail; exact ⟨rfl, _, rfl, br, rfl⟩
       ·intro o ho a' w' hb hfr hdep; obtain rfl := oj ho
        have g53 : a'.tmps[53]?.getD undef = .pointer (some ⟨g, 2, none⟩) := by simpa using hdep 0 _ rfl (by kernel_rfl)
        clear ho hfr hdep; have hcl := cell_below cg2 hb
        go_wp2_with fail; exact ⟨rfl, _, rfl, br, rfl⟩
       ·intro o ho a' w' hb hfr hdep; obtain rfl := oj ho
        have g11 : a'.tmps[11]?.getD undef = .pointer (some ⟨b1, 0, none⟩) := by simpa using hfr 11 (by kernel_rfl)
        clear ho hfr hdep; go_wp2_with fail; exact ⟨rfl, _, rfl, br, rfl⟩
       ·intro o ho a' w' hb hfr hdep; obtain rfl := oj ho
        have g55 : a'.tmps[55]?.getD undef = hdB b1 := by simpa using hdep 2 _ rfl (by kernel_rfl)
        clear ho hfr hdep; unfold hdB at g55
        go_wp2_with fail
        exact ⟨rfl, _, rfl, blo _ _, _, rfl, Sl.fresh w' 22 1 1 [hdB b1] rfl (by decide)⟩
      ·intro gg w5 hbl hp'
       have p54 := hp' 1 _ rfl
       have p56 := hp' 3 _ rfl
       clear hp'
       obtain ⟨q, p56, hq⟩ := p56
       simp at p54 p56
       simp only [List.drop_succ_cons, List.drop_zero, List.map_cons, List.map_nil, putAll, Act.put, List.setIfInBounds_toArray, List.set_cons_succ, List.set_cons_zero, List.cons_append, List.nil_append, p54, p56]
       clear p54 p56
       have hR5 := hR1.below hbl
       have hC5 := hC1.under hbl
       have hA5 := hA1.under hbl
       have hN5 := HN1.under hbl
       have hkp5 := hkp1.step (grown_of hbl) (by rw [hSW.out]; exact Nat.le_refl _) (fun k hk => by cases hk)
       have ht5 := hR5.top
       rw [hbs] at ht5
       have hS5 : SW ≤ w5.heap.size := by have := hN5.lt; omega
       have hgS : g < SW := by omega
       have hbAS : bA < SW := by have := hbAg.out; omega
       clear hbl hR1 hC1 hA1 HN1 hkp1 cg2
       go_wp2_with (at_builtin; refine append_own rfl _ _ 37 rfl 22 (.slice none 0 0) 1 24 Try.underlying37 info_hd rfl w5 SW a3 i c3 _ rfl ht5 (some ⟨q, 0, none⟩) 1 1 [hdB b1] rfl hq (by simp [hdB, Value.oneCell']) (by omega) (by unfold maxLen; omega) hS5 (Below.refl _ _) ?_; intro a3' c3' w6 ht6 gb6 hb6; refine hold ?_)
       refine hide ?_
       have hC6 := hC5.grown gb6 (own_lt ht5 hgS)
       have hA6 := hA5.grown gb6 (own_lt ht5 hbAS)
       have hR6 := hR5.push (by rw [hbs]; exact HR.out) hN5 hW1 (by rw [hbs]; exact ht6) gb6
       have hkp6 := hkp5.step gb6 (by rw [hSW.out]; exact Nat.le_refl _) (fun k hk => .inr (own_ge ht5 k hk))
       clear hR5 hC5 hA5 hN5 hkp5 ht5 gb6 hb6 ht6 hq
       go_wp2_with (with_reducible refine hold_store ?_)
       refine hide ?_
       refine store_cell 37 _ _ 39 g 2 _ (.slice a3' (i + 1) c3') (by kernel_rfl) hC6 rfl rfl rfl rfl (by simp) ?_; intro w7 hC7 gb7 zb7
       have hA7 := hA6.grown gb7 (by intro e; injection e with e; have := hbAg.out; omega)
       have hR7 := hR6.far gb7 hgS
       have hkp7 := hkp6.step gb7 (by rw [hSW.out]; exact Nat.le_refl _) (fun k hk => .inl (by injection hk with hk; exact hk.symm))
       clear hC6 hA6 hR6 hkp6 gb7 zb7
       go_wp2_with fail
       go_roundg (N - (i + 1))
       case measure => omega
       case rel => exact ⟨i + 1, bs ++ [b1], a3', c3', by omega, rfl, by go_num, by rw [List.length_append, hbs]; rfl, hR7, hC7, hA7, hkp7⟩

     ·have d2 : decide ((i : Int) < (N : Int)) = false := decide_eq_false (by omega)
      obtain rfl : i = N := by omega
      have hgr := hkp.grown hSW.out
      have HCW : Box W gR 39 [.slice none 0 0, .slice none 0 0, .slice none 0 0] := HC3.under (by rw [hgg.out]; exact hbel)
      have HCr := HCW.grown hgr (by intro e; injection e with e; have := hgRg.out; omega)
      go_wp2_with (first
       | (with_reducible refine load_struct 60 39 _ 3 size_cert _ Try.underlying39 ⟨g, 0, none⟩ rfl [.slice p1 m1 q1, .slice p2 m2 q2, .slice a3 i c3] rfl (fun j u hj => by rw [Addr.add_lit, Nat.zero_add]; exact hC.at_ hj) ?_)
       | (with_reducible refine hold_store ?_))
      refine hide ?_
      refine store_all 39 _ _ 39 gR [.slice none 0 0, .slice none 0 0, .slice none 0 0] [.slice p1 m1 q1, .slice p2 m2 q2, .slice a3 i c3] _ size_cert HCr rfl rfl rfl rfl (by simp [Value.oneCell']) ?_; intro w9 HC9 gb9 zb9
      go_wp2_with fail
      have hgRg' := hgRg.out
      have hdr := (hgr.block D (by rw [hSW.out]; exact hDS) (by intro e; injection e with e; omega)).trans hdf
      have hd9 := (gb9.block D (Array.getElem?_eq_some_iff.1 hdr).1 (by intro e; injection e with e; omega)).trans hdr
      refine ⟨by simp, .inl ⟨_, _, rfl, run_takeDeferred hd9, ?_⟩⟩
      have gP := grownBy_putObj' w9 D (.deferred none)
      refine leave_cert rfl rfl (HC9.grown gP (by intro e; injection e with e; omega)) rfl ?_
      have e1 : trE t l = 0 := by unfold trE; rw [hFE.out, if_neg (by simp), hNV.out, if_neg (by omega)]
      obtain ⟨hcx, hix⟩ := cellsX_path HSX.out
      have o1 := ((hO1.kept hgr (fun p hp => by subst hp; intro e; injection e with e; have := hO1.base.1; omega)).kept gb9 (fun p hp => by subst hp; intro e; injection e with e; have := hO1.base.1; omega)).kept gP (fun p hp => by subst hp; intro e; injection e with e; have := hO1.base.1; omega)
      have o2 := ((hO2.kept hgr (fun p hp => by subst hp; intro e; injection e with e; have := hO2.base.1; omega)).kept gb9 (fun p hp => by subst hp; intro e; injection e with e; have := hO2.base.1; omega)).kept gP (fun p hp => by subst hp; intro e; injection e with e; have := hO2.base.1; omega)
      have r3 := (hR.far gb9 (by omega)).far gP (by omega)
      have hwg : w.heap.size ≤ g := by rw [← hgg.out]; exact hbl3.size
      have hwR : w.heap.size ≤ gR := by rw [← hgR.out]; omega
      have hx := hbl3.trans (hbel.mono hwg)
      have hx1 := hx.grown hgr hx.size (fun k hk => by injection hk with hk; omega)
      have hx2 := hx1.grown gb9 hx1.size (fun k hk => by injection hk with hk; omega)
      have hx3 := hx2.grown gP hx2.size (fun k hk => by injection hk with hk; omega)
      refine ⟨⟨_, by rw [e1]; rfl, fun w' hkx => ⟨p1, m1, q1, p2, m2, q2, a3, i, c3, bs.map fun b => ((some ⟨b, 0, none⟩ : Option Addr), 8, 8), rfl, ?_, ?_, ?_⟩⟩, by rw [← hgT.out]; exact hx3⟩
      ·rw [if_pos e1, ← hcx]; exact Sl.keepX o1.sl o1.typ hkx (by decide)
      ·rw [if_pos e1, ← hix]; exact Sl.keepX o2.sl o2.typ hkx (by decide)
      ·rw [if_pos e1]
       have h := r3.ngX hkx (by decide) (by decide) (by rw [hbs, numT_len]; exact HNL.out) (sufT_rows t l _)
       rw [hbs] at h
       exact h
 ·have d0 : (FE == 0) = false := by simp [hfe]
  go_wp2_with (first
   | (with_reducible refine load_struct 12 29 _ 7 size_tables _ Try.underlying29 ⟨gT, 0, none⟩ rfl (tcells H) rfl (fun j u hj => by rw [Addr.add_lit, Nat.zero_add]; exact HXa.at_ hj) ?_)
   | (go_at_call 38; refine hfit.out.mono ?_; rintro e w2 ⟨rfl, hb2⟩; refine hold ?_))
  refine hide ?_
  have HC2 := HCa.under hb2
  go_wp2_with (with_reducible refine hold_store ?_)
  refine hide ?_
  refine store_all 39 _ _ 39 gR [.slice none 0 0, .slice none 0 0, .slice none 0 0] [.slice none 0 0, .slice none 0 0, .slice none 0 0] _ size_cert HC2 rfl rfl rfl rfl (by simp [Value.oneCell']) ?_; intro w3 HC3 gb3 zb3
  go_wp2_with fail
  refine leave_cert rfl rfl HC3 rfl ?_
  have e1 : trE t l = FE := by unfold trE; rw [hFE.out, if_pos hfe]
  have hbl := hba.trans (hb2.mono hba.size)
  refine ⟨⟨_, by rw [e1]; rfl, by rw [e1, if_neg hfe, if_neg hfe, if_neg hfe]; exact CeT.nil _ _⟩, by rw [← hgT.out]; exact hbl.grown gb3 hbl.size (fun q hq => by cases hq; rw [← hgR.out]; omega)⟩
end Go.Proofs.Ytlpkicjijlcbfaa
end

section
/- Chapter 08: the reference's Fits. -/
namespace Go.Dx
open Go.RowKit
theorem symOk_iff (g : Int) (c : UInt8) : symOk ⟨g, c⟩ = true ↔ (¬ g < 0 ∧ ¬ 1 < g ∧ ¬ c.toNat < 32 ∧ ¬ 126 < c.toNat) := by
 unfold symOk isW
 simp only [Bool.and_eq_true, Bool.or_eq_true, decide_eq_true_eq]
 omega
end Go.Dx
namespace Go.Proofs.Ytlpkicjijlcbfaa
open Go.RowKit Go.Dx Go.Al
set_option maxRecDepth 100000 in
set_option maxHeartbeats 4000000 in
theorem ref8_Fits (H : TH) (t : Ta) (l : List Sy) (a : Option Addr) (n c : Nat) (w : World) (hT : TaIs w H t) (hs : Sl w 2 a n c (l.flatMap sc)) :
  Calls Try.prog 41 #[H.v, .slice a n c] w fun e w' => e = .returned (.int .i64 (fitsE t l)) ∧ Below w.heap.size w w' := by
 have hnl : n = l.length := hs.nf sc_len (by decide)
 have HNL := hide hnl
 obtain ⟨FE, hFE⟩ : ∃ FE, Hid (fitsE t l = FE) := ⟨_, hide rfl⟩
 rw [hFE.out]
 have hcap := Nat.le_trans hs.le hs.cap
 unfold maxLen at hcap
 have Hm := hide hT
 have Hs := hide hs
 clear hT hs hnl
 obtain ⟨⟨a0, n0, c0⟩, ⟨a1, n1, c1⟩, ps0, ps1, ⟨ad, nd, cd⟩, ⟨ac, nc, cc⟩, ⟨an, nn, cn⟩, ⟨af, nf, cf⟩, ⟨aw, nw, cw⟩⟩ := H
 unfold TH.v
 simp only [hdv]
 have Y1 := Box.new w 29 #[.slice a0 n0 c0, .slice a1 n1 c1, .slice ad nd cd, .slice ac nc cc, .slice an nn cn, .slice af nf cf, .slice aw nw cw]
 have hba := blo w (.cells #[.slice a0 n0 c0, .slice a1 n1 c1, .slice ad nd cd, .slice ac nc cc, .slice an nn cn, .slice af nf cf, .slice aw nw cw] 29)
 have hTv := hide (ref6_Valid ⟨(a0, n0, c0), (a1, n1, c1), ps0, ps1, (ad, nd, cd), (ac, nc, cc), (an, nn, cn), (af, nf, cf), (aw, nw, cw)⟩ t (w.alloc (.cells #[.slice a0 n0 c0, .slice a1 n1 c1, .slice ad nd cd, .slice ac nc cc, .slice an nn cn, .slice af nf cf, .slice aw nw cw] 29)) (Hm.out.below hba))
 go_enter Try.func41, Try.ntmps41
 go_wp2_with (first
  | (with_reducible refine load_struct 7 29 _ 7 size_tables _ Try.underlying29 ⟨w.heap.size, 0, none⟩ rfl [.slice a0 n0 c0, .slice a1 n1 c1, .slice ad nd cd, .slice ac nc cc, .slice an nn cn, .slice af nf cf, .slice aw nw cw] rfl (fun j u hj => by rw [Addr.add_lit, Nat.zero_add]; exact Y1.at_ hj) ?_)
  | (go_at_call 69; refine hTv.out.mono ?_; rintro e w2 ⟨rfl, hb2⟩; refine hold ?_))
 refine hide ?_
 have hbw := hba.trans (hb2.mono hba.size)
 have HS2 := Hs.out.below hbw
 clear hTv hba hb2 Y1 Hm Hs
 obtain ⟨V, hV⟩ : ∃ V, Hid (validE t = V) := ⟨_, hide rfl⟩
 rw [hV.out]
 generalize w.alloc (.cells _ 29) = w1 at *
 by_cases hv : V = 0
 ·subst hv
  go_wp2_with fail
  go_loopg [6] n (fun gh v w' => ∃ i : Nat, i ≤ n ∧ gh = n - i ∧ v = .int .i64 (i : Int) ∧ w2 = w' ∧ ∀ x ∈ l.take i, symOk x = true)
  case atStart => exact ⟨0, Nat.zero_le _, rfl, rfl, rfl, fun x hx => by simp at hx⟩
  case round =>
   obtain ⟨i, hi, rfl, rfl, rfl, hall⟩ := hrel
   have HALL := hide hall
   clear hall
   by_cases hin : i < n
   ·have d0 : decide ((i : Int) < (n : Int)) = true := decide_eq_true (by omega)
    obtain ⟨x, hx⟩ : ∃ x, l[i]? = some x := ⟨_, List.getElem?_eq_getElem (by have := HNL.out; omega)⟩
    obtain ⟨b, o, hab, hb, e0, e1⟩ := sy_cells HS2 hx
    subst hab
    obtain ⟨g, ch⟩ := x
    simp only at e0 e1
    have HX := hide hx
    have hbad : symOk ⟨g, ch⟩ = false → FE = 1 := fun h => by
     rw [← hFE.out]
     unfold fitsE
     rw [hV.out, if_neg (by simp), if_pos]
     cases hg : goodS l
     ·rfl
     ·unfold goodS at hg
      rw [List.all_eq_true] at hg
      have := hg _ (List.mem_of_getElem? HX.out)
      rw [h] at this
      cases this
    have HBAD := hide hbad
    have hch := ch.toNat_lt
    clear hx hbad
    by_cases h1 : g < 0
    ·have d1 : decide (g < 0) = true := decide_eq_true h1
     obtain rfl : FE = 1 := HBAD.out (by cases h : symOk ⟨g, ch⟩; rfl; exact absurd h1 ((symOk_iff g ch).1 h).1)
     go_wp2_with (with_reducible refine index_rowk 20 31 _ _ 88 Try.underlying31 2 size_sym b o n c rfl _ _ i rfl rfl hin ?_)
     go_ret
     exact ⟨rfl, hbw⟩
    ·have d1 : decide (g < 0) = false := decide_eq_false h1
     by_cases h2 : 1 < g
     ·have d2 : decide (1 < g) = true := decide_eq_true h2
      obtain rfl : FE = 1 := HBAD.out (by cases h : symOk ⟨g, ch⟩; rfl; exact absurd h2 ((symOk_iff g ch).1 h).2.1)
      go_wp2_with (first
       | (with_reducible refine index_rowk 20 31 _ _ 88 Try.underlying31 2 size_sym b o n c rfl _ _ i rfl rfl hin ?_)
       | (refine unguard_any (by first | rfl | (simp [Region.wanted, yielded, Act.put]; done)) ?_; with_reducible refine index_rowk _ 31 _ _ 88 Try.underlying31 2 size_sym b o n c rfl _ _ i rfl rfl hin ?_))
      go_ret
      exact ⟨rfl, hbw⟩
     ·have d2 : decide (1 < g) = false := decide_eq_false h2
      by_cases h3 : ch.toNat < 32
      ·have d3 : decide ((ch.toNat : Int) < 32) = true := decide_eq_true (by omega)
       have d3' : decide (ch.toNat < 32) = true := decide_eq_true h3
       obtain rfl : FE = 1 := HBAD.out (by cases h : symOk ⟨g, ch⟩; rfl; exact absurd h3 ((symOk_iff g ch).1 h).2.2.1)
       go_wp2_with (first
        | (with_reducible refine index_rowk 20 31 _ _ 88 Try.underlying31 2 size_sym b o n c rfl _ _ i rfl rfl hin ?_)
        | (refine unguard_any (by first | rfl | (simp [Region.wanted, yielded, Act.put]; done)) ?_; with_reducible refine index_rowk _ 31 _ _ 88 Try.underlying31 2 size_sym b o n c rfl _ _ i rfl rfl hin ?_))
       go_ret
       exact ⟨rfl, hbw⟩
      ·have d3 : decide ((ch.toNat : Int) < 32) = false := decide_eq_false (by omega)
       have d3' : decide (ch.toNat < 32) = false := decide_eq_false h3
       by_cases h4 : 126 < ch.toNat
       ·have d4 : decide ((126 : Int) < (ch.toNat : Int)) = true := decide_eq_true (by omega)
        have d4' : decide (126 < ch.toNat) = true := decide_eq_true h4
        obtain rfl : FE = 1 := HBAD.out (by cases h : symOk ⟨g, ch⟩; rfl; exact absurd h4 ((symOk_iff g ch).1 h).2.2.2)
        go_wp2_with (first
         | (with_reducible refine index_rowk 20 31 _ _ 88 Try.underlying31 2 size_sym b o n c rfl _ _ i rfl rfl hin ?_)
         | (refine unguard_any (by first | rfl | (simp [Region.wanted, yielded, Act.put]; done)) ?_; with_reducible refine index_rowk _ 31 _ _ 88 Try.underlying31 2 size_sym b o n c rfl _ _ i rfl rfl hin ?_))
        go_ret
        exact ⟨rfl, hbw⟩
       ·have d4 : decide ((126 : Int) < (ch.toNat : Int)) = false := decide_eq_false (by omega)
        have d4' : decide (126 < ch.toNat) = false := decide_eq_false h4
        have hok : symOk ⟨g, ch⟩ = true := (symOk_iff g ch).2 ⟨h1, h2, h3, h4⟩
        have HAL2 : Hid (∀ x ∈ l.take (i + 1), symOk x = true) := hide (fun x hx => by
         rw [List.take_add_one, HX.out] at hx
         rcases List.mem_append.1 hx with hx | hx
         ·exact HALL.out x hx
         ·simp at hx; subst hx; exact hok)
        clear hok
        go_wp2_with (first
         | (with_reducible refine index_rowk 20 31 _ _ 88 Try.underlying31 2 size_sym b o n c rfl _ _ i rfl rfl hin ?_)
         | (refine unguard_any (by first | rfl | (simp [Region.wanted, yielded, Act.put]; done)) ?_; with_reducible refine index_rowk _ 31 _ _ 88 Try.underlying31 2 size_sym b o n c rfl _ _ i rfl rfl hin ?_))
        go_roundg (n - (i + 1))
        case measure => omega
        case rel => exact ⟨i + 1, by omega, rfl, by go_num, rfl, HAL2.out⟩
   ·obtain rfl : i = n := by omega
    have d0 : decide ((i : Int) < (i : Int)) = false := decide_eq_false (by omega)
    have hgood : goodS l = true := by
     unfold goodS
     rw [List.all_eq_true]
     have h := HALL.out
     rw [List.take_of_length_le (by have := HNL.out; omega)] at h
     exact h
    have hFE2 : FE = if 2048 < i then 4 else 0 := by
     rw [← hFE.out]
     unfold fitsE
     rw [hV.out, if_neg (by simp), hgood, if_neg (by simp), ← HNL.out]
    have HF2 := hide hFE2
    clear hgood hFE2 HALL
    by_cases h2 : 2048 < i
    ·have d1 : decide ((2048 : Int) < (i : Int)) = true := decide_eq_true (by omega)
     have d1' : decide (2048 < i) = true := decide_eq_true h2
     obtain rfl : FE = 4 := by rw [HF2.out, if_pos h2]
     go_wp2_with fail
     go_ret
     exact ⟨rfl, hbw⟩
    ·have d1 : decide ((2048 : Int) < (i : Int)) = false := decide_eq_false (by omega)
     have d1' : decide (2048 < i) = false := decide_eq_false h2
     obtain rfl : FE = 0 := by rw [HF2.out, if_neg h2]
     go_wp2_with fail
     go_ret
     exact ⟨rfl, hbw⟩
 ·have d0 : (V == 0) = false := by simp [hv]
  obtain rfl : V = FE := by rw [← hFE.out]; unfold fitsE; rw [hV.out, if_pos hv]
  go_wp2_with fail
  go_ret
  exact ⟨rfl, hbw⟩
end Go.Proofs.Ytlpkicjijlcbfaa
end

section
/- Chapter 08: the length of follow's loops; the contract of Spans rests on it. NOT BEGUN: follow f55, Spans f34. -/
namespace Go.Dx
open Go.RowKit
end Go.Dx
end

section
/- Chapter 08: does a step use a rule of a single character (Plain$1). -/
namespace Go.Dx
theorem plainOk_at {t : Ta} {s : St} {x : Stp} (h0 : ¬ x.rule < 0) (h1 : x.len = 1) {v : Int} (hv : ((langOf t s.lang)[x.rule.toNat]?).map (·.whr) = some v) : plainOk t s x = (v == 0) := by
 have e : plainOk t s x = (decide (x.rule < 0) || (decide (x.len = 1) && decide (((langOf t s.lang)[x.rule.toNat]?).map (·.whr) = some 0))) := rfl
 rw [e, decide_eq_false h0, decide_eq_true h1, Bool.false_or, Bool.true_and]
 by_cases hz : v = 0
 ·rw [decide_eq_true (by rw [hv, hz])]; simp [hz]
 ·rw [decide_eq_false (by rw [hv]; simpa using hz)]; simp [hz]
end Go.Dx
namespace Go.Proofs.Ytlpkicjijlcbfaa
open Go.RowKit Go.Dx Go.Al
set_option maxRecDepth 100000 in
set_option maxHeartbeats 4000000 in
theorem plain_1 (p : SH) (H : TH) (t : Ta) (s : St) (b1 b2 : Nat) (w : World) (hT : TaIs w H t) (hX1 : Box w b1 29 (tcells H)) (hX2 : Box w b2 63 (scells s)) (hs : s.lang = 0 ∨ s.lang = 1)
  (hr : 0 ≤ p.1.rule → p.1.len = 1 → p.1.rule.toNat < (langOf t s.lang).length) :
  Calls Try.prog 48 #[spv p, .pointer (some ⟨b1, 0, none⟩), .pointer (some ⟨b2, 0, none⟩)] w fun e w' => e = .returned (.bool (plainOk t s p.1)) ∧ Below w.heap.size w w' := by
 obtain ⟨PO, hPO⟩ : ∃ PO, Hid (plainOk t s p.1 = PO) := ⟨_, hide rfl⟩
 rw [hPO.out]
 obtain ⟨⟨⟨sl, sn, si⟩, ln, cs, ru⟩, ⟨pa, pn, pc⟩⟩ := p
 simp only at hr
 have hY := Box.new w 67 #[.int .i64 sl, .bool sn, .bool si, .int .i64 ln, .slice pa pn pc, .int .i64 ru]
 have hb := blo w (.cells #[.int .i64 sl, .bool sn, .bool si, .int .i64 ln, .slice pa pn pc, .int .i64 ru] 67)
 have hX1' := hX1.under hb
 have hX2' := hX2.under hb
 have hT' := hT.below hb
 have HR := hide hr
 clear hX1 hX2 hT hr
 unfold spv stc hdv
 simp only
 go_enter Try.func48, Try.ntmps48
 go_wp2_with fail
 generalize w.alloc (.cells #[.int .i64 sl, .bool sn, .bool si, .int .i64 ln, .slice pa pn pc, .int .i64 ru] 67) = w2 at *
 obtain ⟨g, hg⟩ : ∃ g, Hid (w.heap.size = g) := ⟨_, hide rfl⟩
 rw [hg.out] at hY ⊢
 have c5 : w2.cell? ⟨g, 5, none⟩ = some (.int .i64 ru) := hY.at_ rfl
 have c3 : w2.cell? ⟨g, 3, none⟩ = some (.int .i64 ln) := hY.at_ rfl
 have HB := hide hb
 clear hb
 by_cases h0 : ru < 0
 ·have d0 : decide (ru < 0) = true := decide_eq_true h0
  have e : PO = true := by rw [← hPO.out]; unfold plainOk; simp [h0]
  subst e
  clear hPO
  go_quiet (fail)
  go_wp2_with fail
  go_ret
  exact ⟨rfl, hg.out ▸ HB.out.trans ((Still.below _ : Below w2.heap.size w2 (w2.drewN nq)).mono HB.out.size)⟩
 ·have d0 : decide (ru < 0) = false := decide_eq_false h0
  by_cases h1 : ln = 1
  ·subst h1
   have hlt := HR.out (by omega) rfl
   obtain ⟨lg, nm, wd⟩ := s
   simp only at hs hlt
   obtain ⟨k, rfl⟩ : ∃ k : Nat, ru = (k : Int) := ⟨ru.toNat, by omega⟩
   obtain ⟨lk, hlk, rfl⟩ : ∃ lk : Nat, lk < 2 ∧ lg = (lk : Int) := by rcases hs with rfl | rfl; exact ⟨0, by decide, rfl⟩; exact ⟨1, by decide, rfl⟩
   obtain ⟨ra, rn, rc', ps, e1, hRu, e2⟩ := sel_lang hT' lk hlk
   have hlo : langOf t (lk : Int) = langK t lk := by
    have : lk = 0 ∨ lk = 1 := by omega
    rcases this with rfl | rfl <;> rfl
   rw [hlo, ← e2] at hlt
   simp only [Int.toNat_natCast, rus, List.length_map] at hlt
   obtain ⟨q, hq⟩ : ∃ q, ps[k]? = some q := ⟨_, List.getElem?_eq_getElem hlt⟩
   have hkn : k < rn := by rw [hRu.n_eq]; exact hlt
   have cL : w2.cell? ⟨b2, 0, none⟩ = some (.int .i64 (lk : Int)) := hX2'.at_ rfl
   have cT : w2.cell? ⟨b1, lk, none⟩ = some (.slice ra rn rc') := hX1'.at_ (by
    have : lk = 0 ∨ lk = 1 := by omega
    rcases this with rfl | rfl
    ·exact e1
    ·exact e1)
   obtain ⟨rb, ro, hab, hrb, hcell⟩ := hRu.top.ex (by rw [flat_len rc_len]; omega)
   subst hab
   have cW : w2.cell? ⟨rb, ro + k * 3 + 1, none⟩ = some (.int .i64 q.1.whr) := by
    have h := hcell (k * 3 + 1) (.int .i64 q.1.whr) (by rw [flat_get rc_len hq (by decide : 1 < 3)]; rfl)
    rw [← Nat.add_assoc] at h
    exact h
   have e : PO = (q.1.whr == 0) := by
    rw [← hPO.out]
    have hq2 : ((langOf t (lk : Int))[k]?).map (·.whr) = some q.1.whr := by rw [hlo, ← e2]; simp [rus, hq]
    exact plainOk_at (by omega) rfl (by simpa using hq2)
   obtain ⟨wv, hwv⟩ : ∃ wv, q.1.whr = wv := ⟨_, rfl⟩
   rw [hwv] at cW e
   have HE := hide e
   clear e hwv
   have hlk2 : decide (lk < 2) = true := decide_eq_true hlk
   have hkn2 : decide (k < rn) = true := decide_eq_true hkn
   clear hPO hRu hq e1 e2 hlo hT' hX1' hX2' hcell hlt
   go_quiet (fail)
   go_wp2_with fail
   go_ret
   exact ⟨by rw [HE.out]; rfl, hg.out ▸ HB.out.trans ((Still.below _ : Below w2.heap.size w2 (w2.drewN nq)).mono HB.out.size)⟩
  ·have d1 : (ln == 1) = false := by simp [h1]
   have e : PO = false := by rw [← hPO.out]; unfold plainOk; simp [h0, h1]
   subst e
   clear hPO
   go_quiet (fail)
   go_wp2_with fail
   go_ret
   exact ⟨rfl, hg.out ▸ HB.out.trans ((Still.below _ : Below w2.heap.size w2 (w2.drewN nq)).mono HB.out.size)⟩
end Go.Proofs.Ytlpkicjijlcbfaa
end

section
/- Chapter 08: the first step that Plain takes (slices.IndexFunc on steps). -/
namespace Go.Dx
theorem find_take {α : Type} {f : α → Bool} {L : List α} {k : Nat} {x : α} (hx : L[k]? = some x) (h : (L.take k).find? f = none) : (L.take (k + 1)).find? f = if f x = true then some x else none := by
 have e : L.take (k + 1) = L.take k ++ [x] := by rw [List.take_add_one, hx]; rfl
 rw [e, List.find?_append, h]
 cases hf : f x <;> simp [List.find?, hf]
theorem find_of_take {α : Type} {f : α → Bool} {L : List α} {k : Nat} {x : α} (h : (L.take k).find? f = some x) : L.find? f = some x := by
 rw [← List.take_append_drop k L, List.find?_append, h]
 rfl
end Go.Dx
namespace Go.Proofs.Ytlpkicjijlcbfaa
open Go.RowKit Go.Dx Go.Al
def PLN (b1 b2 : Nat) : Value := .func (.func 48) #[] #[.pointer (some ⟨b1, 0, none⟩), .pointer (some ⟨b2, 0, none⟩)]
set_option maxRecDepth 100000 in
set_option maxHeartbeats 4000000 in
theorem con_index (f : Stp → Bool) (ps : List SH) (L : List Stp) (a : Option Addr) (n c : Nat) (b1 b2 : Nat) (w : World) (hS : Stl w a n c ps L) (hn : n ≤ 1000000)
  (hf : ∀ p ∈ ps, ∀ w', Below w.heap.size w w' → Calls Try.prog 48 #[spv p, .pointer (some ⟨b1, 0, none⟩), .pointer (some ⟨b2, 0, none⟩)] w' fun e w2 => e = .returned (.bool (f p.1)) ∧ Below w'.heap.size w' w2) :
  Calls Try.prog 47 #[.slice a n c, PLN b1 b2] w fun e w' => ∃ i : Int, e = .returned (.int .i64 i) ∧ ((∃ (k : Nat) (x : Stp), i = (k : Int) ∧ L[k]? = some x ∧ L.find? f = some x) ∨ (i = -1 ∧ L.find? f = none)) ∧ Below w.heap.size w w' := by
 have hpl : n = ps.length := hS.top.nf stc_len (by decide)
 have HPL := hide hpl
 have HL := hide hS.eq
 have HS := hide hS
 have HF := hide hf
 clear hpl hS hf
 unfold PLN
 go_enter Try.func47, Try.ntmps47
 go_wp2_with fail
 go_loopg [8] n (fun g i w' => ∃ (k : Nat), k ≤ n ∧ g = n - k ∧ (L.take k).find? f = none ∧ i = .int .i64 k ∧ Below w.heap.size w w')
 case atStart => exact ⟨0, by omega, by omega, rfl, rfl, Below.refl _ _⟩
 case round =>
  obtain ⟨k, hk, hg, ht, rfl, hb⟩ := hrel
  have HG := hide hg
  have HT := hide ht
  clear hg ht
  by_cases hkl : k < n
  ·obtain ⟨p, hp⟩ : ∃ p, ps[k]? = some p := ⟨_, List.getElem?_eq_getElem (by have := HPL.out; omega)⟩
   have hLk : L[k]? = some p.1 := by rw [← HL.out, List.getElem?_map, hp]; rfl
   have HF2 := hide (find_take hLk HT.out)
   have HLK := hide hLk
   have hSr := HS.out.below hb
   obtain ⟨b4, o4, hab, hb4, x0, x1, x2, x3, x4, x5⟩ := st_cells hSr hp
   subst hab
   have HP := hide (List.mem_of_getElem? hp)
   have hcf := HF.out p HP.out wr hb
   clear hp hSr hLk
   have dk : decide ((k : Int) < (n : Int)) = true := decide_eq_true (by omega)
   obtain ⟨⟨⟨sl, sn, si⟩, ln, cs, ru⟩, ⟨qa, qn, qc⟩⟩ := p
   simp only at x0 x1 x2 x3 x4 x5 HF2
   unfold spv stc hdv at hcf
   simp only at hcf
   have hldc : ∀ j u, ([.int .i64 sl, .bool sn, .bool si, .int .i64 ln, .slice qa qn qc, .int .i64 ru] : List Value)[j]? = some u → wr.cell? ((⟨b4, o4 + k * 6, none⟩ : Addr).add j) = some u := fun j u hj => by
    rw [Addr.add_lit]
    match j, hj with
    | 0, hj => cases hj; exact x0
    | 1, hj => cases hj; exact x1
    | 2, hj => cases hj; exact x2
    | 3, hj => cases hj; exact x3
    | 4, hj => cases hj; exact x4
    | 5, hj => cases hj; exact x5
    | j + 6, hj => cases hj
   have HLD := hide hldc
   clear hldc x0 x1 x2 x3 x4 x5
   obtain ⟨fv, hfv⟩ : ∃ fv, Hid (f ⟨⟨sl, sn, si⟩, ln, cs, ru⟩ = fv) := ⟨_, hide rfl⟩
   rw [hfv.out] at HF2 hcf
   cases fv with
   | true =>
    rw [if_pos rfl] at HF2
    go_wp2_with (first
     | (with_reducible refine index_rowk 14 64 _ _ 67 Try.underlying64 6 size_stp6 b4 o4 n c rfl _ _ k rfl rfl hkl ?_)
     | (with_reducible refine load_struct 15 67 _ 6 size_stp6 _ Try.underlying67 ⟨b4, o4 + k * 6, none⟩ rfl [.int .i64 sl, .bool sn, .bool si, .int .i64 ln, .slice qa qn qc, .int .i64 ru] rfl HLD.out ?_)
     | (refine hcf.mono ?_; rintro e w2 ⟨rfl, hb2⟩))
    go_ret
    exact ⟨_, rfl, .inl ⟨k, _, rfl, HLK.out, find_of_take HF2.out⟩, hb.trans (hb2.mono hb.size)⟩
   | false =>
    rw [if_neg (by simp)] at HF2
    go_wp2_with (first
     | (with_reducible refine index_rowk 14 64 _ _ 67 Try.underlying64 6 size_stp6 b4 o4 n c rfl _ _ k rfl rfl hkl ?_)
     | (with_reducible refine load_struct 15 67 _ 6 size_stp6 _ Try.underlying67 ⟨b4, o4 + k * 6, none⟩ rfl [.int .i64 sl, .bool sn, .bool si, .int .i64 ln, .slice qa qn qc, .int .i64 ru] rfl HLD.out ?_)
     | (refine hcf.mono ?_; rintro e w2 ⟨rfl, hb2⟩))
    have hb3 := hb.trans (hb2.mono hb.size)
    go_roundg (n - (k + 1))
    case measure => have := HG.out; omega
    case rel => exact ⟨k + 1, by omega, rfl, HF2.out, by go_num, hb3⟩
  ·obtain rfl : k = n := by omega
   have dk : decide ((k : Int) < (k : Int)) = false := decide_eq_false (by omega)
   have e := HT.out
   rw [List.take_of_length_le (by have := HPL.out; have := HL.out; rw [← this, List.length_map]; omega)] at e
   have HE := hide e
   clear e HT
   go_wp2_with fail
   go_ret
   exact ⟨_, rfl, .inr ⟨rfl, HE.out⟩, hb⟩
end Go.Proofs.Ytlpkicjijlcbfaa
end

section
/- Chapter 08: Plain. -/
namespace Go.Dx
open Go.RowKit
theorem own_blk {W : World} {B : Nat} {T T' : TypeId} {sz : Nat} {a : Option Addr} {n c : Nat} {cs : List Value} {b : Nat} {C : Array Value} {z : Nat × Nat} (ho : Go.Dx.Own W B T sz a n c cs) (hb : W.heap[b]? = some (.cells C T' z)) (hne : T ≠ T') : some b ≠ a.map (·.block) := by
 cases a with
 | none => simp
 | some q =>
  obtain ⟨C', z', hC⟩ := ho.typ q rfl
  intro e
  injection e with e
  subst e
  rw [hC] at hb
  injection hb with hb
  injection hb with _ h _
  exact hne h
def plE (t : Ta) (l : List Sy) : Int := if fitsE t l ≠ 0 then fitsE t l else if plainT t l = none then 6 else 0
def plC (t : Ta) (l : List Sy) : List UInt8 := if fitsE t l ≠ 0 then [] else (plainT t l).getD []
theorem plE_eq (t : Ta) (l : List Sy) : plE t l = trE t l := by
 unfold plE trE
 by_cases h1 : fitsE t l ≠ 0
 ·rw [if_pos h1, if_pos h1]
 ·obtain ⟨hv, hg, _⟩ := fitsE_ok (Classical.byContradiction h1)
  rw [if_neg h1, if_neg h1]
  by_cases h2 : plainT t l = none
  ·rw [if_pos h2, if_pos (show numV t l < 0 from (plain_law hv hg).1.1 h2)]
  ·rw [if_neg h2, if_neg (show ¬ numV t l < 0 from fun h => h2 ((plain_law hv hg).1.2 h))]
def GivesPl (t : Ta) (l : List Sy) (e : Ending) (w : World) : Prop :=
 ∃ a n c, e = .returned (.tuple #[.slice a n c, .int .i64 (plE t l)]) ∧ Sl w 1 a n c ((plC t l).map B8)
theorem goQ_step {t : Ta} {l : List Sy} {f i : Nat} {s : St} {x : Stp} (hi : i < l.length) (hx : (stepsL t s l i).find? (plainOk t s) = some x) : goQ t l (f + 1) i s = (goQ t l f (i + x.len.toNat) x.dst).map (x.cells ++ ·) := by
 simp only [goQ]
 rw [if_pos hi, hx]
theorem goQ_stuck {t : Ta} {l : List Sy} {f i : Nat} {s : St} (hi : i < l.length) (hx : (stepsL t s l i).find? (plainOk t s) = none) : goQ t l (f + 1) i s = none := by
 simp only [goQ]
 rw [if_pos hi, hx]
theorem goQ_end {t : Ta} {l : List Sy} {f i : Nat} {s : St} (hi : l.length ≤ i) : goQ t l f i s = some [] := by
 cases f with
 | zero => rfl
 | succ f => simp only [goQ]; rw [if_neg (by omega)]
theorem rule_mem3 {t : Ta} {s : St} {x : Sy} {l : List Sy} {i : Nat} : ∀ (rs : List Ru) (k : Nat), ∀ st ∈ ruleSteps t s x l i k rs, (k : Int) ≤ st.rule ∧ st.rule < ((k + rs.length : Nat) : Int)
 | [], k, st, h => by cases h
 | r :: rs, k, st, h => by
  simp only [ruleSteps] at h
  rcases List.mem_append.1 h with h | h
  ·split at h
   ·rw [List.mem_singleton] at h; subst h; rw [List.length_cons]; simp only; omega
   ·cases h
  ·have := rule_mem3 rs (k + 1) st h
   rw [List.length_cons]
   omega
theorem step_rule {t : Ta} (ht : validE t = 0) {l : List Sy} (hg : goodS l = true) {i : Nat} (hi : i < l.length) {s : St} (hs : s.lang = 0 ∨ s.lang = 1) {x : Stp} (hx : x ∈ stepsL t s l i) (h0 : 0 ≤ x.rule) : x.rule.toNat < (langOf t s.lang).length := by
 obtain ⟨y, hy⟩ : ∃ y, l[i]? = some y := ⟨l[i], by simp [hi]⟩
 rw [steps_at ht hs hg hy] at hx
 unfold nextL at hx
 split at hx
 ·rw [List.mem_singleton] at hx; subst hx; simp at h0
 ·rename_i h1
  have h1 : y.lang = s.lang := Classical.byContradiction h1
  split at hx
  ·rw [List.mem_singleton] at hx; subst hx; simp at h0
  ·have := rule_mem3 _ _ x hx
   rw [← h1]
   omega
end Go.Dx
namespace Go.Proofs.Ytlpkicjijlcbfaa
open Go.RowKit Go.Dx Go.Al
set_option maxRecDepth 100000 in
set_option maxHeartbeats 8000000 in
theorem con_Plain (H : TH) (t : Ta) (l : List Sy) (a : Option Addr) (n c : Nat) (w : World) (hT : TaIs w H t) (hs : Sl w 2 a n c (l.flatMap sc)) :
  Calls Try.prog 18 #[H.v, .slice a n c] w fun e w' => GivesPl t l e w' ∧ Below w.heap.size w w' := by
 have Hm := hide hT
 have Hs := hide hs
 clear hT hs
 obtain ⟨⟨a0, n0, c0⟩, ⟨a1, n1, c1⟩, ps0, ps1, ⟨ad, nd, cd⟩, ⟨ac, nc, cc⟩, ⟨an, nn, cn⟩, ⟨af, nf, cf⟩, ⟨aw, nw, cw⟩⟩ := H
 unfold TH.v
 simp only [hdv]
 have Y1 := Box.new w 29 #[.slice a0 n0 c0, .slice a1 n1 c1, .slice ad nd cd, .slice ac nc cc, .slice an nn cn, .slice af nf cf, .slice aw nw cw]
 have hba := blo w (.cells #[.slice a0 n0 c0, .slice a1 n1 c1, .slice ad nd cd, .slice ac nc cc, .slice an nn cn, .slice af nf cf, .slice aw nw cw] 29)
 go_enter Try.func18, Try.ntmps18
 go_upto_region 1 with fail
 generalize w.alloc (.cells _ 29) = wa at *
 obtain ⟨H, hH⟩ : ∃ H : TH, H = ⟨(a0, n0, c0), (a1, n1, c1), ps0, ps1, (ad, nd, cd), (ac, nc, cc), (an, nn, cn), (af, nf, cf), (aw, nw, cw)⟩ := ⟨_, rfl⟩
 have HXa : Box wa w.heap.size 29 (tcells H) := by rw [hH]; exact Y1
 have HTa : TaIs wa H t := by rw [hH]; exact Hm.out.below hba
 have HSa := Hs.out.below hba
 clear hH Hm Hs Y1
 obtain ⟨gT, hgT⟩ : ∃ gT, Hid (w.heap.size = gT) := ⟨_, hide rfl⟩
 rw [hgT.out] at HXa ⊢
 have hfit := hide (con_fits H t l a n c wa HTa HSa)
 obtain ⟨FE, hFE⟩ : ∃ FE, Hid (fitsE t l = FE) := ⟨_, hide rfl⟩
 rw [hFE.out] at hfit
 go_wp2_with (first
  | (with_reducible refine load_struct 12 29 _ 7 size_tables _ Try.underlying29 ⟨gT, 0, none⟩ rfl (tcells H) rfl (fun j u hj => by rw [Addr.add_lit, Nat.zero_add]; exact HXa.at_ hj) ?_)
  | (go_at_call 38; refine hfit.out.mono ?_; rintro e w2 ⟨rfl, hb2⟩; refine hold ?_))
 refine hide ?_
 have HX2 := HXa.under hb2
 have HT2 := HTa.below hb2
 have HS2 := HSa.below hb2
 have hbl2 := hba.trans (hb2.mono hba.size)
 clear HXa HTa HSa hba hb2 hfit
 by_cases hfe : FE = 0
 ·subst hfe
  obtain ⟨hv, hg, h2048⟩ := fitsE_ok hFE.out
  have HV := hide hv
  have HG := hide hg
  have H2 := hide h2048
  clear hv hg h2048
  have HBs := Box.new w2 63 #[.int .i64 0, .bool false, .bool false]
  have hbB := blo w2 (.cells #[.int .i64 0, .bool false, .bool false] 63)
  have hsz := hbB.size
  go_upto_region 6 with fail
  generalize hw3 : w2.alloc (.cells _ 63) = w3 at *
  have hs3 : w3.heap.size = w2.heap.size + 1 := by rw [← hw3]; simp
  obtain ⟨gS, hgS⟩ : ∃ gS, Hid (w2.heap.size = gS) := ⟨_, hide rfl⟩
  rw [hgS.out] at HBs hbB hs3 ⊢
  have hgTS : gT < gS := by rw [← hgS.out]; exact HX2.lt
  have hgwS : w.heap.size ≤ gS := by rw [← hgS.out]; exact hbl2.size
  have HS3 := hide hs3
  clear hw3 hsz hs3
  have hnl : n = l.length := HS2.nf sc_len (by decide)
  have HNL := hide hnl
  clear hnl
  have hn20 : n ≤ 2048 := by have := H2.out; have := HNL.out; omega
  go_wp2_with fail
  go_loopg [7, 9] (measP l 0 s00) (fun gh v7 v9 w' => ∃ (i : Nat) (s : St) (o3 : Option Addr) (n3 c3 : Nat) (out : List UInt8) (f : Nat), gh = measP l i s ∧ v9 = .int .i64 (i : Int) ∧ v7 = .slice o3 n3 c3 ∧ i ≤ n ∧ (s.lang = 0 ∨ s.lang = 1) ∧ Go.Dx.Own w' (gS + 1) 5 1 o3 n3 c3 (out.map B8) ∧ Box w' gS 63 (scells s) ∧ Below gS w2 w' ∧ gS + 1 ≤ w'.heap.size ∧ n3 + 12 * measP l i s ≤ 12 * (2 * n + 1) ∧ measP l i s ≤ f ∧ plainT t l = (goQ t l f i s).map (out ++ ·))
  case atStart => exact ⟨0, s00, none, 0, 0, [], 2 * l.length + 1, rfl, rfl, rfl, Nat.zero_le _, .inl rfl, Go.Dx.Own.nil _ _ _ _, HBs, hbB, by rw [HS3.out]; exact Nat.le_refl _, by have := meas_le (l := l) (i := 0) (s := s00); have := HNL.out; omega, by have := meas_le (l := l) (i := 0) (s := s00); omega, by unfold plainT; simp⟩
  case round =>
   clear HBs hbB
   obtain ⟨i, s, o3, n3, c3, out, f, hgh, rfl, rfl, hi, hsl, hO, hX, hb, hBw, hbd, hf, hpl⟩ := hrel
   have HGH := hide hgh
   have HBD := hide hbd
   have HF := hide hf
   have HPL := hide hpl
   clear hgh hbd hf hpl
   by_cases hin : i < n
   ·have d1 : decide ((i : Int) < (n : Int)) = true := decide_eq_true (by omega)
    have hb' : Below w2.heap.size w2 wr := by rw [hgS.out]; exact hb
    have HXr : Box wr gT 29 (tcells H) := HX2.below hb hgTS
    have HTr := HT2.below hb'
    have HSr := HS2.below hb'
    have hinl : i < l.length := by have := HNL.out; omega
    have hsN := steps_ofT H t s l (i : Int) (L := stepsL t s l i) rfl a n c (by have := H2.out; omega) wr HTr HSr
    obtain ⟨L, hL⟩ : ∃ L, Hid (stepsL t s l i = L) := ⟨_, hide rfl⟩
    rw [hL.out] at hsN
    have HSN := hide hsN
    clear hsN
    go_wp2_with (first
     | (with_reducible refine load_struct 22 29 _ 7 size_tables _ Try.underlying29 ⟨gT, 0, none⟩ rfl (tcells H) rfl (fun j u hj => by rw [Addr.add_lit, Nat.zero_add]; exact HXr.at_ hj) ?_)
     | (with_reducible refine load_struct 23 63 _ 3 size_state _ Try.underlying63 ⟨gS, 0, none⟩ rfl (scells s) rfl (fun j u hj => by rw [Addr.add_lit, Nat.zero_add]; exact hX.at_ hj) ?_)
     | (go_at_call 28; refine HSN.out.mono ?_; rintro e w4 ⟨a2, c2, ps2, rfl, hS2, hb4, hty⟩; refine hold ?_))
    refine hide ?_
    have hX4 := hX.under hb4
    have hO4 := hO.below hb4
    have HT4 := HTr.below hb4
    have HXt4 := HXr.under hb4
    have hb24 := hb.trans (hb4.mono (by omega))
    have hB4 : gS + 1 ≤ w4.heap.size := Nat.le_trans hBw hb4.size
    clear HXr HTr HSr HSN hX hO hb hb' hBw hb4
    obtain ⟨LN, hLN⟩ : ∃ LN, L.length = LN := ⟨_, rfl⟩
    rw [hLN] at hS2 ⊢
    have hLN6 : LN ≤ 1000000 := by rw [← hLN, ← hL.out]; exact steps_few HV.out s l i
    have HLN := hide hLN
    clear hLN
    have hix := hide (con_index (plainOk t s) ps2 L a2 LN c2 gT gS w4 hS2 hLN6 (fun p hp w5 hb5 => plain_1 p H t s gT gS w5 (HT4.below hb5) (HXt4.under hb5) (hX4.under hb5) hsl (fun h0 _ => step_rule HV.out HG.out hinl hsl (by rw [hL.out]; exact stl_mem hS2 p hp) h0)))
    unfold PLN at hix
    go_wp2_with (go_at_call 47; refine hix.out.mono ?_; rintro e w5 ⟨ix, rfl, hor, hb5⟩; refine hold ?_)
    refine hide ?_
    have hX5 := hX4.under hb5
    have hO5 := hO4.below hb5
    have hS5 := hS2.below hb5
    have hty5 := hty.below hb5
    have hb25 := hb24.trans (hb5.mono (by omega))
    have hB5 : gS + 1 ≤ w5.heap.size := Nat.le_trans hB4 hb5.size
    clear hix hX4 hO4 hS2 hty HT4 HXt4 hb24 hB4 hb5
    obtain ⟨f', rfl⟩ : ∃ f', f = f' + 1 := ⟨f - 1, by have h1 := meas_pos (l := l) (i := i) (s := s) hinl; have h2 := HF.out; omega⟩
    rcases hor with ⟨k, x, rfl, hkx, hfx⟩ | ⟨rfl, hfn⟩
    ·have dk : decide ((k : Int) < 0) = false := decide_eq_false (by omega)
     have hkx' := hkx
     rw [← hS5.eq, List.getElem?_map] at hkx'
     obtain ⟨p, hpk, hpx⟩ : ∃ p, ps2[k]? = some p ∧ p.1 = x := by
      cases h2 : ps2[k]? with
      | none => rw [h2] at hkx'; cases hkx'
      | some p => rw [h2] at hkx'; injection hkx' with h1; exact ⟨p, rfl, h1⟩
     have hxm : x ∈ stepsL t s l i := by rw [hL.out]; exact List.mem_of_getElem? hkx
     have hkLN : k < LN := by
      have h1 := (List.getElem?_eq_some_iff.1 hkx).1
      have h2 := HLN.out
      omega
     have hst := step_meas HV.out HG.out hinl hsl hxm
     have hcf := step_cells HV.out hxm
     have hgo := goQ_step (f := f') hinl (by rw [hL.out]; exact hfx)
     clear hkx hkx' hfx hxm
     obtain ⟨b4, o4, hab, hb4', x0, x1, x2, x3, x4, x5⟩ := st_cells hS5 hpk
     subst hab
     have hslc := hS5.row p (List.mem_of_getElem? hpk)
     have hpn := hslc.n_eq
     obtain ⟨⟨⟨sl, sn, si⟩, ln, cs, ru⟩, ⟨qa, qn, qc⟩⟩ := p
     simp only at x0 x1 x2 x3 x4 x5 hslc hpn
     subst hpx
     simp only at hst hcf hgo
     obtain ⟨lk, rfl⟩ : ∃ lk : Nat, ln = (lk : Int) := ⟨ln.toNat, by have := hst.2.2.2; omega⟩
     simp only [Int.toNat_natCast] at hst hgo
     have hqn12 : qn ≤ 12 := by omega
     have hil : i + lk ≤ n := by have := HNL.out; omega
     have HPN := hide hpn
     have HCF := hide hcf
     have HST := hide hst
     have HGO := hide hgo
     have hn3 : n3 ≤ 50000 := by have := HBD.out; omega
     clear hpn hcf hst hgo hpk
     obtain ⟨CT, CZ, hCT⟩ := hty5 _ rfl
     have hne : some b4 ≠ o3.map (·.block) := own_blk hO5 hCT (by decide)
     have hldc : ∀ j u, ([.int .i64 sl, .bool sn, .bool si, .int .i64 (lk : Int), .slice qa qn qc, .int .i64 ru] : List Value)[j]? = some u → w5.cell? ((⟨b4, o4 + k * 6, none⟩ : Addr).add j) = some u := fun j u hj => by
      rw [Addr.add_lit]
      match j, hj with
      | 0, hj => cases hj; exact x0
      | 1, hj => cases hj; exact x1
      | 2, hj => cases hj; exact x2
      | 3, hj => cases hj; exact x3
      | 4, hj => cases hj; exact x4
      | 5, hj => cases hj; exact x5
      | j + 6, hj => cases hj
     have HLD := hide hldc
     clear hldc x0 x1 x2 x3 x5 hS5 hty5
     go_wp2_with (first
      | (with_reducible refine index_rowk 35 64 _ _ 67 Try.underlying64 6 size_stp6 b4 o4 LN c2 rfl _ _ k rfl rfl hkLN ?_)
      | (at_builtin; refine app_bs rfl _ _ rfl w5 (gS + 1) o3 n3 c3 _ rfl hO5 qa qn qc cs rfl hslc (by omega) hB5 (Below.refl _ _) ?_; intro o6 c6 w6 hO6 gb6 hb6; refine hold ?_))
     refine hide ?_
     have hX6 := hX5.grown gb6 (own_lt hO5 (Nat.lt_succ_self _))
     have hb26 := hb25.grown gb6 (by omega) (fun q hq => by have := own_ge hO5 q hq; omega)
     have hB6 : gS + 1 ≤ w6.heap.size := Nat.le_trans hB5 gb6.size
     have hC6 := (gb6.block b4 (Array.getElem?_eq_some_iff.1 hCT).1 hne).trans hCT
     have hld6 : ∀ j u, ([.int .i64 sl, .bool sn, .bool si, .int .i64 (lk : Int), .slice qa qn qc, .int .i64 ru] : List Value)[j]? = some u → w6.cell? ((⟨b4, o4 + k * 6, none⟩ : Addr).add j) = some u := fun j u hj => by
      rw [World.cell?_of_block (w := w5) (gb6.block _ (World.block_lt_of_cell? w5 _ (HLD.out j u hj)) (by rw [Addr.add_lit]; exact hne))]
      exact HLD.out j u hj
     have HL6 := hide hld6
     have hlc : w6.cell? ⟨b4, o4 + k * 6 + 3, none⟩ = some (.int .i64 (lk : Int)) := by have h := hld6 3 _ rfl; rw [Addr.add_lit] at h; exact h
     have hO6' : Go.Dx.Own w6 (gS + 1) 5 1 o6 (n3 + qn) c6 ((out ++ cs).map B8) := by rw [List.map_append]; exact hO6
     clear hX5 hO5 hb25 hB5 hCT hne hslc x4 HLD hld6 hO6 gb6 hb6 hC6
     go_wp2_with fail
     have st3_at6 : ∀ {j : Nat} {u : Value}, ([.int .i64 sl, .bool sn, .bool si] : List Value)[j]? = some u → ([.int .i64 sl, .bool sn, .bool si, .int .i64 (lk : Int), .slice qa qn qc, .int .i64 ru] : List Value)[j]? = some u := fun {j} {u} hj => by
      match j, hj with
      | 0, hj => exact hj
      | 1, hj => exact hj
      | 2, hj => exact hj
     refine wp_region_freeL 13 [⟨0, 39, [39], fun vs _ => vs = [.int .i64 (i : Int)]⟩, ⟨1, 40, [40], fun vs _ => vs = [.slice (some ⟨b4, o4, none⟩) LN c2]⟩, ⟨2, 41, [41], fun vs _ => vs = [.int .i64 (k : Int)]⟩, ⟨3, 42, [42], fun vs _ => vs = [.pointer (some ⟨b4, o4 + k * 6, none⟩)]⟩, ⟨4, 43, [43], fun vs _ => vs = [.pointer (some ⟨b4, o4 + k * 6 + 3, none⟩)]⟩, ⟨5, 44, [44], fun vs _ => vs = [.int .i64 (lk : Int)]⟩, ⟨6, 45, [45], fun vs _ => vs = [.int .i64 ((i + lk : Nat) : Int)]⟩, ⟨7, 46, [46], fun vs _ => vs = [.slice (some ⟨b4, o4, none⟩) LN c2]⟩, ⟨8, 47, [47], fun vs _ => vs = [.int .i64 (k : Int)]⟩, ⟨9, 48, [48], fun vs _ => vs = [.pointer (some ⟨b4, o4 + k * 6, none⟩)]⟩, ⟨10, 49, [49], fun vs _ => vs = [.pointer (some ⟨b4, o4 + k * 6, none⟩)]⟩, ⟨11, 50, [50], fun vs _ => vs = [.agg #[.int .i64 sl, .bool sn, .bool si]]⟩, ⟨12, 9, [9], fun vs _ => vs = [.int .i64 ((i + lk : Nat) : Int)]⟩] (by kernel_rfl) (by kernel_rfl) ?_ ?_ ?_
     ·simp only [All]
      refine ⟨fun _ _ _ _ h => h, fun _ _ _ _ h => h, fun _ _ _ _ h => h, fun _ _ _ _ h => h, fun _ _ _ _ h => h, fun _ _ _ _ h => h, fun _ _ _ _ h => h, fun _ _ _ _ h => h, fun _ _ _ _ h => h, fun _ _ _ _ h => h, fun _ _ _ _ h => h, fun _ _ _ _ h => h, fun _ _ _ _ h => h, trivial⟩
     ·simp only [All]
      refine ⟨?_, ?_, ?_, ?_, ?_, ?_, ?_, ?_, ?_, ?_, ?_, ?_, ?_, trivial⟩
      ·intro o ho a' w' hb hfr hdep hlt; obtain rfl := oj ho
       have g9 : a'.tmps[9]?.getD undef = .int .i64 (i : Int) := by have h := hlt 12 _ rfl (by kernel_rfl); simpa using h
       clear ho hfr hdep hlt; go_wp2_with fail; exact ⟨rfl, _, rfl, br, rfl⟩
      ·intro o ho a' w' hb hfr hdep hlt; obtain rfl := oj ho
       have g10 : a'.tmps[10]?.getD undef = .slice (some ⟨b4, o4, none⟩) LN c2 := by simpa using hfr 10 (by kernel_rfl)
       clear ho hfr hdep hlt; go_wp2_with fail; exact ⟨rfl, _, rfl, br, rfl⟩
      ·intro o ho a' w' hb hfr hdep hlt; obtain rfl := oj ho
       have g11 : a'.tmps[11]?.getD undef = .int .i64 (k : Int) := by simpa using hfr 11 (by kernel_rfl)
       clear ho hfr hdep hlt; go_wp2_with fail; exact ⟨rfl, _, rfl, br, rfl⟩
      ·intro o ho a' w' hb hfr hdep hlt; obtain rfl := oj ho
       have g40 : a'.tmps[40]?.getD undef = .slice (some ⟨b4, o4, none⟩) LN c2 := by simpa using hdep 1 _ rfl (by kernel_rfl)
       have g41 : a'.tmps[41]?.getD undef = .int .i64 (k : Int) := by simpa using hdep 2 _ rfl (by kernel_rfl)
       clear ho hfr hdep hlt; refine index_rowk 42 64 _ _ 67 Try.underlying64 6 size_stp6 b4 o4 LN c2 (by show a'.tmps.getD 40 undef = _; simpa using g40) _ _ k (by show a'.tmps.getD 41 undef = _; simpa using g41) rfl hkLN ?_
       exact ⟨rfl, _, rfl, br, rfl⟩
      ·intro o ho a' w' hb hfr hdep hlt; obtain rfl := oj ho
       have g42 : a'.tmps[42]?.getD undef = .pointer (some ⟨b4, o4 + k * 6, none⟩) := by simpa using hdep 3 _ rfl (by kernel_rfl)
       clear ho hfr hdep hlt; go_wp2_with fail; exact ⟨rfl, _, rfl, br, rfl⟩
      ·intro o ho a' w' hb hfr hdep hlt; obtain rfl := oj ho
       have g43 : a'.tmps[43]?.getD undef = .pointer (some ⟨b4, o4 + k * 6 + 3, none⟩) := by simpa using hdep 4 _ rfl (by kernel_rfl)
       clear ho hfr hdep hlt; have hcl := cell_below hlc hb
       go_wp2_with fail; exact ⟨rfl, _, rfl, br, rfl⟩
      ·intro o ho a' w' hb hfr hdep hlt; obtain rfl := oj ho
       have g39 : a'.tmps[39]?.getD undef = .int .i64 (i : Int) := by simpa using hdep 0 _ rfl (by kernel_rfl)
       have g44 : a'.tmps[44]?.getD undef = .int .i64 (lk : Int) := by simpa using hdep 5 _ rfl (by kernel_rfl)
       clear ho hfr hdep hlt; go_wp2_with fail; exact ⟨rfl, _, rfl, br, by simp⟩
      ·intro o ho a' w' hb hfr hdep hlt; obtain rfl := oj ho
       have g10 : a'.tmps[10]?.getD undef = .slice (some ⟨b4, o4, none⟩) LN c2 := by simpa using hfr 10 (by kernel_rfl)
       clear ho hfr hdep hlt; go_wp2_with fail; exact ⟨rfl, _, rfl, br, rfl⟩
      ·intro o ho a' w' hb hfr hdep hlt; obtain rfl := oj ho
       have g11 : a'.tmps[11]?.getD undef = .int .i64 (k : Int) := by simpa using hfr 11 (by kernel_rfl)
       clear ho hfr hdep hlt; go_wp2_with fail; exact ⟨rfl, _, rfl, br, rfl⟩
      ·intro o ho a' w' hb hfr hdep hlt; obtain rfl := oj ho
       have g46 : a'.tmps[46]?.getD undef = .slice (some ⟨b4, o4, none⟩) LN c2 := by simpa using hdep 7 _ rfl (by kernel_rfl)
       have g47 : a'.tmps[47]?.getD undef = .int .i64 (k : Int) := by simpa using hdep 8 _ rfl (by kernel_rfl)
       clear ho hfr hdep hlt; refine index_rowk 48 64 _ _ 67 Try.underlying64 6 size_stp6 b4 o4 LN c2 (by show a'.tmps.getD 46 undef = _; simpa using g46) _ _ k (by show a'.tmps.getD 47 undef = _; simpa using g47) rfl hkLN ?_
       exact ⟨rfl, _, rfl, br, rfl⟩
      ·intro o ho a' w' hb hfr hdep hlt; obtain rfl := oj ho
       have g48 : a'.tmps[48]?.getD undef = .pointer (some ⟨b4, o4 + k * 6, none⟩) := by simpa using hdep 9 _ rfl (by kernel_rfl)
       clear ho hfr hdep hlt; go_wp2_with fail; exact ⟨rfl, _, rfl, br, rfl⟩
      ·intro o ho a' w' hb hfr hdep hlt; obtain rfl := oj ho
       have g49 : a'.tmps[49]?.getD undef = .pointer (some ⟨b4, o4 + k * 6, none⟩) := by simpa using hdep 10 _ rfl (by kernel_rfl)
       clear ho hfr hdep hlt; refine load_struct 50 63 _ 3 size_state _ Try.underlying63 ⟨b4, o4 + k * 6, none⟩ (by show a'.tmps.getD 49 undef = _; simpa using g49) [.int .i64 sl, .bool sn, .bool si] rfl (fun j u hj => cell_below (HL6.out j u (st3_at6 hj)) hb) ?_
       exact ⟨rfl, _, rfl, br, rfl⟩
      ·intro o ho a' w' hb hfr hdep hlt; obtain rfl := oj ho
       have g45 : a'.tmps[45]?.getD undef = .int .i64 ((i + lk : Nat) : Int) := by simpa using hdep 6 _ rfl (by kernel_rfl)
       clear ho hfr hdep hlt; go_wp2_with fail; exact ⟨rfl, _, rfl, br, rfl⟩
     ·intro gg w7 hbl hp'
      have p9 := hp' 12 _ rfl
      have p50 := hp' 11 _ rfl
      clear hp'
      simp at p9 p50
      simp only [List.drop_succ_cons, List.drop_zero, List.map_cons, List.map_nil, putAll, Act.put, List.setIfInBounds_toArray, List.set_cons_succ, List.set_cons_zero, List.cons_append, List.nil_append, p9, p50]
      clear p9 p50
      have hX7 := hX6.under hbl
      have hO7 := hO6'.below hbl
      have hb27 := hb26.trans (hbl.mono (by omega))
      have hB7 : gS + 1 ≤ w7.heap.size := Nat.le_trans hB6 hbl.size
      clear hX6 hO6' hb26 hB6 hbl hlc HL6
      go_wp2_with (with_reducible refine hold_store ?_)
      refine hide ?_
      refine store_all 63 _ _ 63 gS (scells s) [.int .i64 sl, .bool sn, .bool si] (.agg #[.int .i64 sl, .bool sn, .bool si]) size_state hX7 rfl rfl rfl rfl (by simp [Value.oneCell']) ?_; intro w8 hX8 gb8 zb8
      have hO8 := hO7.kept gb8 (fun p hp => by subst hp; intro e; injection e with e; have := hO7.base.1; omega)
      have hb28 := hb27.grown gb8 (by omega) (fun q hq => by cases hq; exact Nat.le_refl _)
      have hB8 : gS + 1 ≤ w8.heap.size := Nat.le_trans hB7 gb8.size
      go_wp2_with fail
      go_roundg (measP l (i + lk) ⟨sl, sn, si⟩)
      case measure => have := HGH.out; have := HST.out; omega
      case rel => exact ⟨i + lk, ⟨sl, sn, si⟩, o6, n3 + qn, c6, out ++ cs, f', rfl, by go_num, rfl, hil, HST.out.2.2.1, hO8, hX8, hb28, hB8, by have := HST.out; have := HBD.out; omega, by have := HST.out; have := HF.out; omega, by rw [HPL.out, HGO.out, Option.map_map]; congr 1; funext z; simp⟩

    ·have hgo := goQ_stuck (f := f') hinl (by rw [hL.out]; exact hfn)
     have e1 := HPL.out
     rw [hgo] at e1
     have e2 : plainT t l = none := e1
     have HE2 := hide e2
     clear hgo e1 e2 hS5 hty5 hfn
     go_wp2_with fail
     go_ret2
     exact ⟨⟨none, 0, 0, by unfold plE; rw [hFE.out, if_neg (by simp), if_pos HE2.out]; rfl, by unfold plC; rw [hFE.out, if_neg (by simp), HE2.out]; exact Sl.empty _ _⟩, hbl2.trans (hb25.mono hgwS)⟩
   ·have d1 : decide ((i : Int) < (n : Int)) = false := decide_eq_false (by omega)
    have e1 := HPL.out
    rw [goQ_end (by have := HNL.out; omega)] at e1
    simp only [Option.map_some, List.append_nil] at e1
    have HE1 := hide e1
    clear e1
    go_wp2_with fail
    go_ret2
    exact ⟨⟨o3, n3, c3, by unfold plE; rw [hFE.out, if_neg (by simp), HE1.out, if_neg (by simp)]; rfl, by unfold plC; rw [hFE.out, if_neg (by simp), HE1.out]; exact hO.sl⟩, hbl2.trans (hb.mono hgwS)⟩
 ·have d1 : (FE == 0) = false := by simp [hfe]
  go_wp2_with fail
  go_ret2
  exact ⟨⟨none, 0, 0, by unfold plE; rw [hFE.out, if_pos hfe]; rfl, by unfold plC; rw [hFE.out, if_pos hfe]; exact Sl.empty _ _⟩, hbl2⟩
end Go.Proofs.Ytlpkicjijlcbfaa
end

section
/- Chapter 08: rows of another length (Check$1), slices.Grow and slices.Concat of ints. -/
namespace Go.Dx
open Go.RowKit
def sumZ (L : List (List Int)) (k : Nat) : Nat := ((L.take k).map List.length).sum
def catZ (L : List (List Int)) (k : Nat) : List Int := (L.take k).flatten
theorem sumZ_step {L : List (List Int)} {l : List Int} {k : Nat} (h : L[k]? = some l) : sumZ L (k + 1) = sumZ L k + l.length := by
 unfold sumZ; rw [List.take_add_one, h, List.map_append, List.sum_append]; simp
theorem catZ_step {L : List (List Int)} {l : List Int} {k : Nat} (h : L[k]? = some l) : catZ L (k + 1) = catZ L k ++ l := by
 unfold catZ; rw [List.take_add_one, h, List.flatten_append]; simp
end Go.Dx
namespace Go.Proofs.Ytlpkicjijlcbfaa
open Go.RowKit Go.Dx Go.Al
theorem size_hd : (Try.prog.info? 22).map (·.size) = some 1 := by kernel_rfl
section
variable {w : World} {ops : Array Oper} {rest : List Oper} {o : Oper} {act : Act} {Q : Exit → Act → World → Prop} {ty : TypeId} {pos : String} {after : Array Edge}
theorem app_zi (hg : o.guard = none) (s x : Operand) (hop : o.op = Op.call { callee := Callee.builtin Builtin.append, args := #[s, x], argTypes := #[22, 3] })
  (w0 : World) (B : Nat) (a : Option Addr) (n c : Nat) (xs : List Value) (hs : act.eval s = .slice a n c) (hown : Go.Dx.Own w B 3 1 a n c xs)
  (m : Nat) (iv : Int) (hx : act.eval x = .int .i64 iv) (hiv : iv = (m : Int)) (h0 : 0 < m) (hn : n + m ≤ 1000000000) (hB : B ≤ w.heap.size) (hbel : Below B w0 w)
  (hK : ∀ a' c' w', Go.Dx.Own w' B 3 1 a' (n + m) c' (xs ++ List.replicate m (.int .i64 0)) → w.grownBy w' (a.map (·.block)) → Below B w0 w' → wpList Try.prog ops Q rest (act.put o.dst (.slice a' (n + m) c')) w') :
  wpList Try.prog ops Q (o :: rest) act w :=
 append_zeros hg s x 22 3 hop 3 (.int .i64 0) 8 .i64 .i64 Try.underlying22 Try.underlying3 info_int rfl rfl w0 B a n c _ hs hown m iv hx hiv h0 (by omega) (by unfold maxLen; omega) hB hbel hK
theorem app_is (hg : o.guard = none) (s x : Operand) (hop : o.op = Op.call { callee := Callee.builtin Builtin.append, args := #[s, x], argTypes := #[22, 22] })
  (w0 : World) (B : Nat) (a : Option Addr) (n c : Nat) (xs : List Value) (hs : act.eval s = .slice a n c) (hown : Go.Dx.Own w B 3 1 a n c xs)
  (a2 : Option Addr) (m c2 : Nat) (ys : List Int) (hx : act.eval x = .slice a2 m c2) (hy : Sl w 1 a2 m c2 (ys.map I64))
  (hn : n + m ≤ 1000000000) (hB : B ≤ w.heap.size) (hbel : Below B w0 w)
  (hK : ∀ a' c' w', Go.Dx.Own w' B 3 1 a' (n + m) c' (xs ++ ys.map I64) → w.grownBy w' (a.map (·.block)) → Below B w0 w' → wpList Try.prog ops Q rest (act.put o.dst (.slice a' (n + m) c')) w') :
  wpList Try.prog ops Q (o :: rest) act w :=
 append_own hg s x 22 hop 3 (.int .i64 0) 1 8 Try.underlying22 info_int rfl w0 B a n c xs hs hown a2 m c2 (ys.map I64) hx hy (one_map _ (fun _ => rfl) _) (by omega) (by unfold maxLen; omega) hB hbel hK
theorem idx_ii (d : Nat) (x y : Operand) (a : Option Addr) (n c : Nat) (cs : List Value) (hx : act.eval x = .slice a n c) (hs : Sl w 1 a n c cs) (k : IntKind) (iv : Int) (i : Nat) (hy : act.eval y = .int k iv) (hiv : iv = (i : Int))
  (u : Value) (hu : cs[i]? = some u)
  (hK : ∀ b o, w.cell? ⟨b, o, none⟩ = some u → b < w.heap.size → wpList Try.prog ops Q rest (act.put (some d) (.pointer (some ⟨b, o, none⟩))) w) :
  wpList Try.prog ops Q ({ dst := some d, op := .indexAddr 37 x y, type := ty, pos := pos, after := after, guard := none } :: rest) act w :=
 index_sl d 37 x y 22 Try.underlying37 size_hd a n c _ hx hs k iv i hy hiv _ hu hK
end
set_option maxHeartbeats 400000 in
theorem check_1 (a : Option Addr) (n c : Nat) (w : World) :
  Calls Try.prog 51 #[.slice a n c] w fun e w' => e = .returned (.bool ((n : Int) != 8)) ∧ Below w.heap.size w w' := by
 go_enter Try.func51, Try.ntmps51
 go_wp2_with fail
 go_ret
 exact ⟨rfl, Below.refl _ _⟩
def CH1 : Value := .func (.func 51) #[] #[]
set_option maxRecDepth 100000 in
set_option maxHeartbeats 1000000 in
theorem index_bad (A : Nums) (hs : List (Option Addr × Nat × Nat)) (a : Option Addr) (n c : Nat) (w : World) (hN : Ng w a n c hs A) :
  Calls Try.prog 74 #[.slice a n c, CH1] w fun e w' => ∃ i : Int, e = .returned (.int .i64 i) ∧ (0 ≤ i ↔ ∃ r ∈ A, r.length ≠ 8) ∧ Below w.heap.size w w' := by
 have hn := hN.n_eq
 have HN := hide hn
 have HA := hide hN
 have hm := Nat.le_trans hN.top.le hN.top.cap
 unfold maxLen at hm
 clear hn hN
 unfold CH1
 go_enter Try.func74, Try.ntmps74
 go_wp2_with fail
 go_loopg [8] n (fun g i w' => ∃ (k : Nat), k ≤ n ∧ g = n - k ∧ (∀ r ∈ A.take k, r.length = 8) ∧ i = .int .i64 k ∧ Below w.heap.size w w')
 case atStart => exact ⟨0, by omega, by omega, fun r hr => by simp at hr, rfl, Below.refl _ _⟩
 case round =>
  obtain ⟨k, hk, hg, ht, rfl, hb⟩ := hrel
  have HG := hide hg
  have HT := hide ht
  clear hg ht
  by_cases hkl : k < n
  ·have dk : decide ((k : Int) < (n : Int)) = true := decide_eq_true (by omega)
   obtain ⟨r, hr⟩ : ∃ r, A[k]? = some r := ⟨_, List.getElem?_eq_getElem (by have := HN.out; omega)⟩
   obtain ⟨⟨ha, hn_, hc⟩, hh⟩ : ∃ h, hs[k]? = some h := ⟨_, List.getElem?_eq_getElem (by have := HN.out; have := HA.out.len; omega)⟩
   have hrl : hn_ = r.length := (HA.out.row k _ r hh hr).n_eq
   have htop := HA.out.top.below hb
   have hcs : (hs.map hdv)[k]? = some (.slice ha hn_ hc) := by rw [List.getElem?_map, hh]; rfl
   have HR := hide hr
   have HRL := hide hrl
   clear hr hrl hh
   by_cases h8 : hn_ = 8
   ·subst h8
    have hc1 : Hid (Calls Try.prog 51 #[.slice ha 8 hc] wr fun e w' => e = .returned (.bool false) ∧ Below wr.heap.size wr w') := hide (check_1 ha 8 hc wr)
    go_wp2_with (first
     | (with_reducible refine idx_ii 14 _ _ a n c _ rfl htop _ _ k rfl rfl _ hcs ?_; intro b o hcell hbo)
     | (refine hc1.out.mono ?_; rintro e w2 ⟨rfl, hb2⟩))
    have hb3 := hb.trans (hb2.mono hb.size)
    go_roundg (n - (k + 1))
    case measure => have := HG.out; omega
    case rel => exact ⟨k + 1, by omega, rfl, fun q hq => by
     rw [List.take_add_one, HR.out] at hq
     rcases List.mem_append.1 hq with hq | hq
     ·exact HT.out q hq
     ·simp at hq; subst hq; have := HRL.out; omega, by go_num, hb3⟩
   ·have d8 : ((hn_ : Int) != 8) = true := by simp; omega
    have hc1 := hide (check_1 ha hn_ hc wr)
    rw [d8] at hc1
    go_wp2_with (first
     | (with_reducible refine idx_ii 14 _ _ a n c _ rfl htop _ _ k rfl rfl _ hcs ?_; intro b o hcell hbo)
     | (refine hc1.out.mono ?_; rintro e w2 ⟨rfl, hb2⟩))
    go_ret
    exact ⟨_, rfl, ⟨fun _ => ⟨r, List.mem_of_getElem? HR.out, by have := HRL.out; omega⟩, fun _ => by omega⟩, hb.trans (hb2.mono hb.size)⟩
  ·obtain rfl : k = n := by omega
   have dk : decide ((k : Int) < (k : Int)) = false := decide_eq_false (by omega)
   have HE : Hid (∀ r ∈ A, r.length = 8) := hide (by
    have := HT.out
    rw [List.take_of_length_le (by have := HN.out; omega)] at this
    exact this)
   clear HT
   go_wp2_with fail
   go_ret
   exact ⟨_, rfl, ⟨fun h => by omega, fun ⟨r, hr, h⟩ => absurd (HE.out r hr) h⟩, hb⟩
set_option maxHeartbeats 400000 in
theorem con_bad (A : Nums) (hs : List (Option Addr × Nat × Nat)) (a : Option Addr) (n c : Nat) (w : World) (hN : Ng w a n c hs A) (b : Bool) (hb : b = true ↔ ∃ r ∈ A, r.length ≠ 8) :
  Calls Try.prog 50 #[.slice a n c, CH1] w fun e w' => e = .returned (.bool b) ∧ Below w.heap.size w w' := by
 have hi := hide (index_bad A hs a n c w hN)
 have HB := hide hb
 clear hN hb
 unfold CH1 at hi ⊢
 go_enter Try.func50, Try.ntmps50
 go_wp2_with (go_at_call 74; refine hi.out.mono ?_; rintro e w2 ⟨i, rfl, hiff, hb2⟩; refine hold ?_)
 refine hide ?_
 have HI := hide (hiff.trans HB.out.symm)
 clear hi hiff HB
 obtain ⟨d, hd⟩ : ∃ d, decide (i ≥ 0) = d := ⟨_, rfl⟩
 have hd' : decide (0 ≤ i) = d := hd
 have HD : Hid (d = b) := hide (by
  rw [← hd]
  have := HI.out
  cases b
  ·simp at this ⊢; omega
  ·simp at this ⊢; omega)
 clear HI
 go_wp2_with fail
 go_ret
 exact ⟨by rw [HD.out]; rfl, hb2⟩
set_option maxHeartbeats 400000 in
theorem growi (N : Nat) (hN : N ≤ 2000000) (w : World) :
  Calls Try.prog 73 #[.slice none 0 0, .int .i64 (N : Int)] w fun e w' => ∃ a' c', e = .returned (.slice a' 0 c') ∧ Go.Dx.Own w' w.heap.size 3 1 a' 0 c' [] ∧ Below w.heap.size w w' := by
 by_cases h0 : 0 < N
 ·have d0 : decide ((N : Int) < 0) = false := decide_eq_false (by omega)
  have d1 : decide (0 < N) = true := decide_eq_true h0
  have d2 : decide ((0 : Int) < (N : Int)) = true := decide_eq_true (by omega)
  have hn0 := Go.Dx.Own.nil w w.heap.size 3 1
  go_enter Try.func73, Try.ntmps73
  go_wp2_with (first
   | (at_builtin; refine app_zi rfl _ _ rfl w w.heap.size _ 0 0 _ rfl hn0 N _ rfl rfl h0 (by omega) (Nat.le_refl _) (Below.refl _ _) ?_; intro a' c' w' ho' hgr' hb'; rw [Nat.zero_add] at ho' ⊢; have hs' := ho'.sl)
   | (with_reducible refine cut_hi 25 22 _ _ 3 Try.underlying22 1 size_int a' N c' _ rfl hs' _ _ 0 rfl rfl (Nat.zero_le _) ?_; intro hz))
  go_ret
  exact ⟨a', c', rfl, ho'.cut0, hb'⟩
 ·obtain rfl : N = 0 := by omega
  go_enter Try.func73, Try.ntmps73
  go_wp2_with fail
  go_ret
  exact ⟨none, 0, rfl, Go.Dx.Own.nil _ _ _ _, Below.refl _ _⟩
set_option maxRecDepth 100000 in
set_option maxHeartbeats 1000000 in
theorem concati (L : List (List Int)) (hs : List (Option Addr × Nat × Nat)) (pa : Option Addr) (N pc : Nat) (w : World) (hp : Ng w pa N pc hs L) (hN : N ≤ 10) (hl : ∀ l ∈ L, l.length ≤ 10000) :
  Calls Try.prog 49 #[.slice pa N pc] w fun e w' => ∃ a' c', e = .returned (.slice a' L.flatten.length c') ∧ Go.Dx.Own w' w.heap.size 3 1 a' L.flatten.length c' (L.flatten.map I64) ∧ Below w.heap.size w w' := by
 have hNL := hp.n_eq
 have HROW : Hid (∀ k, k < N → ∃ l a c, (hs.map hdv)[k]? = some (.slice a l.length c) ∧ L[k]? = some l ∧ Sl w 1 a l.length c (l.map I64) ∧ l.length ≤ 10000) := hide (fun k hk => by
  obtain ⟨r, hr⟩ : ∃ r, L[k]? = some r := ⟨_, List.getElem?_eq_getElem (by omega)⟩
  obtain ⟨⟨ha, hn_, hc⟩, hh⟩ : ∃ h, hs[k]? = some h := ⟨_, List.getElem?_eq_getElem (by rw [hp.len]; omega)⟩
  have h1 := hp.row k _ r hh hr
  have h2 : hn_ = r.length := h1.n_eq
  subst h2
  exact ⟨r, ha, hc, by rw [List.getElem?_map, hh]; rfl, hr, h1, hl r (List.mem_of_getElem? hr)⟩)
 have HNL := hide hNL
 have htop := hp.top
 clear hNL hl hp
 go_enter Try.func49, Try.ntmps49
 go_wp2_with fail
 go_loopg [3, 11] N (fun gh s v w' => ∃ k S : Nat, k ≤ N ∧ gh = N - k ∧ S ≤ k * 10000 ∧ Hid (sumZ L k = S) ∧ s = .int .i64 (S : Int) ∧ v = .int .i64 (k : Int) ∧ w = w')
 case atStart => exact ⟨0, 0, by omega, by omega, by omega, hide rfl, rfl, rfl, rfl⟩
 case round =>
  obtain ⟨k, S, hk, hg, hS, HS, rfl, rfl, rfl⟩ := hrel
  have HG := hide hg
  clear hg
  by_cases hkl : k < N
  ·have dk : decide ((k : Int) < (N : Int)) = true := decide_eq_true (by omega)
   obtain ⟨l, a, c, hck, hrk, hsl, hll⟩ := HROW.out k hkl
   have HCK := hide hck
   have HS2 : Hid (sumZ L (k + 1) = S + l.length) := hide (by rw [sumZ_step hrk, HS.out])
   have d0 : decide ((S : Int) + (l.length : Int) < 0) = false := decide_eq_false (by omega)
   clear hck hrk
   go_wp2_with (with_reducible refine idx_ii 13 _ _ _ _ _ _ rfl htop _ _ k rfl rfl _ HCK.out ?_; intro b o hcell hbo)
   go_roundg (N - (k + 1))
   case measure => have := HG.out; omega
   case rel => exact ⟨k + 1, S + l.length, by omega, rfl, by omega, HS2, by go_num, by go_num, rfl⟩
  ·obtain rfl : k = N := by omega
   have dk : decide ((k : Int) < (k : Int)) = false := decide_eq_false (by omega)
   have hgr := growi S (by omega) w
   go_wp2_with (go_at_call 73; refine hgr.mono ?_; rintro e w1 ⟨a0, c0, rfl, ho, hb⟩)
   clear hgr hkl hk HG HS dk
   go_loopg [6, 27] k (fun gh s v w' => ∃ (j : Nat) (F : List Int) (a : Option Addr) (c : Nat), j ≤ k ∧ gh = k - j ∧ F.length ≤ j * 10000 ∧ Hid (catZ L j = F) ∧ s = .slice a F.length c ∧ v = .int .i64 (j : Int) ∧ Go.Dx.Own w' w.heap.size 3 1 a F.length c (F.map I64) ∧ Below w.heap.size w w')
   case atStart => exact ⟨0, [], a0, c0, by omega, by omega, by simp, hide rfl, rfl, rfl, ho, hb⟩
   case round =>
    clear ho hb
    obtain ⟨j, F, a, c, hk, hg, hF, HF, rfl, rfl, ho, hb⟩ := hrel
    have HG := hide hg
    clear hg
    by_cases hkl : j < k
    ·have dk : decide ((j : Int) < (k : Int)) = true := decide_eq_true (by omega)
     obtain ⟨l, a3, c3, hck, hrk, hsl, hll⟩ := HROW.out j hkl
     have HCK := hide hck
     have HF2 : Hid (catZ L (j + 1) = F ++ l) := hide (by rw [catZ_step hrk, HF.out])
     have hpr := htop.below hb
     have hsr := hsl.below hb
     clear hck hrk
     go_wp2_with (first
      | (with_reducible refine idx_ii 29 _ _ _ _ _ _ rfl hpr _ _ j rfl rfl _ HCK.out ?_; intro b o hcell hbo)
      | (at_builtin; refine app_is rfl _ _ rfl w w.heap.size _ _ _ _ rfl ho _ _ _ l rfl hsr (by omega) hb.size hb ?_; intro a' c' w' ho' hgr' hb'))
     go_roundg (k - (j + 1))
     case measure => have := HG.out; omega
     case rel => exact ⟨j + 1, F ++ l, a', c', by omega, rfl, by rw [List.length_append]; omega, HF2, by rw [List.length_append], by go_num, by rw [List.length_append, List.map_append]; exact ho', hb'⟩
    ·obtain rfl : j = k := by omega
     have dk : decide ((j : Int) < (j : Int)) = false := decide_eq_false (by omega)
     have hF2 := HF.out
     have HE : Hid (F = L.flatten) := hide (by
      rw [← hF2]
      unfold catZ
      rw [List.take_of_length_le (by have := HNL.out; omega)])
     clear hF2 HF
     go_wp2_with fail
     go_ret
     rw [HE.out] at ho
     exact ⟨a, c, by rw [← HE.out]; rfl, ho, hb⟩
end Go.Proofs.Ytlpkicjijlcbfaa
end

section
/- Chapter 08: the reference's best. -/
namespace Go.Dx
open Go.RowKit
theorem least_step1 {f : Stp → Int} {L : List Stp} {k : Nat} {x : Stp} (h : L[k]? = some x) {I W : Int} (hW : leastF f (L.take k) = (I, W)) : leastF f (L.take (k + 1)) = if 0 ≤ f x ∧ (I < 0 ∨ f x + x.cells.length < W) then ((k : Int), f x + x.cells.length) else (I, W) := by
 rw [leastF_take h, hW]
 rfl
end Go.Dx
namespace Go.Proofs.Ytlpkicjijlcbfaa
open Go.RowKit Go.Dx Go.Al
theorem size_rf6 : (Try.prog.info? 103).map (·.size) = some 6 := by kernel_rfl
theorem rsteps_of8 (H : TH) (t : Ta) (s : St) (l : List Sy) (i : Int) {L : List Stp} (hL : stepsL t s l i = L) (a : Option Addr) (n c : Nat) (hll : l.length ≤ 1000000) (w : World) (hT : TaIs w H t) (hs : Sl w 2 a n c (l.flatMap sc)) :
  Calls Try.prog 44 #[H.v, sv s, .slice a n c, .int .i64 i] w fun e w' => ∃ a' c' ps, e = .returned (.slice a' L.length c') ∧ Stl w' a' L.length c' ps L ∧ Below w.heap.size w w' := by
 have := ref6_Steps H t s l a n c i hll w hT hs
 rw [hL] at this
 exact this
set_option maxRecDepth 100000 in
set_option maxHeartbeats 4000000 in
theorem ref8_best (H : TH) (t : Ta) (l : List Sy) (a : Option Addr) (n c : Nat) (s : St) (A : Nums) (hsA : List (Option Addr × Nat × Nat)) (la : Option Addr) (ln_ lc : Nat) (i : Nat) (w : World) (hT : TaIs w H t) (hs : Sl w 2 a n c (l.flatMap sc)) (hL : Ng w la ln_ lc hsA A)
  (hi : i < l.length) (hv : validE t = 0) (hg : goodS l = true) (h2 : l.length ≤ 2048) (hsl : s.lang = 0 ∨ s.lang = 1) (hA : A.length = l.length + 1) (h8 : R8 A) (hB : BdN A 1000000) :
  Calls Try.prog 43 #[H.v, .slice a n c, .int .i64 (i : Int), sv s, .slice la ln_ lc] w fun e w' => e = .returned (.tuple #[.int .i64 (leastF (lookA A i) (stepsL t s l i)).1, .int .i64 (leastF (lookA A i) (stepsL t s l i)).2]) ∧ Below w.heap.size w w' := by
 obtain ⟨L, hLe⟩ : ∃ L, Hid (stepsL t s l i = L) := ⟨_, hide rfl⟩
 rw [hLe.out]
 have hLk := hide (lkt_all hv hg hi hsl hA hB)
 rw [hLe.out] at hLk
 have hLC : Hid (∀ x ∈ L, x.cells.length ≤ 12) := hide (fun x hx => step_cells hv (by rw [hLe.out]; exact hx))
 have hLN6 : L.length ≤ 1000000 := by rw [← hLe.out]; exact steps_few hv s l i
 have HI := hide hi
 have HA := hide hA
 have H8 := hide h8
 have H2 := hide h2
 have Hm := hide hT
 have Hs := hide hs
 have Hl := hide hL
 have hlnA : Hid (ln_ = A.length) := hide hL.n_eq
 clear hT hs hL hv hg hi hA h8 hB h2
 obtain ⟨⟨a0, n0, c0⟩, ⟨a1, n1, c1⟩, ps0, ps1, ⟨ad, nd, cd⟩, ⟨ac, nc, cc⟩, ⟨an, nn, cn⟩, ⟨af, nf, cf⟩, ⟨aw, nw, cw⟩⟩ := H
 unfold TH.v sv
 simp only [hdv]
 have Y1 := (Box.new w 29 #[.slice a0 n0 c0, .slice a1 n1 c1, .slice ad nd cd, .slice ac nc cc, .slice an nn cn, .slice af nf cf, .slice aw nw cw]).alloc (.cells #[.int .i64 s.lang, .bool s.num, .bool s.wrd] 70)
 have Y2 := Box.new (w.alloc (.cells #[.slice a0 n0 c0, .slice a1 n1 c1, .slice ad nd cd, .slice ac nc cc, .slice an nn cn, .slice af nf cf, .slice aw nw cw] 29)) 70 #[.int .i64 s.lang, .bool s.num, .bool s.wrd]
 have hba := ((Below.refl w.heap.size w).alloc (Nat.le_refl _) (.cells #[.slice a0 n0 c0, .slice a1 n1 c1, .slice ad nd cd, .slice ac nc cc, .slice an nn cn, .slice af nf cf, .slice aw nw cw] 29)).alloc (by simp) (.cells #[.int .i64 s.lang, .bool s.num, .bool s.wrd] 70)
 simp only [World.size_alloc] at Y2
 go_enter Try.func43, Try.ntmps43
 go_upto_region 1 with fail
 generalize (w.alloc (.cells _ 29)).alloc (.cells _ 70) = w2 at *
 obtain ⟨H, hH⟩ : ∃ H : TH, H = ⟨(a0, n0, c0), (a1, n1, c1), ps0, ps1, (ad, nd, cd), (ac, nc, cc), (an, nn, cn), (af, nf, cf), (aw, nw, cw)⟩ := ⟨_, rfl⟩
 have HX2 : Box w2 w.heap.size 29 (tcells H) := by rw [hH]; exact Y1
 have HT2 : TaIs w2 H t := by rw [hH]; exact Hm.out.below hba
 have HS2 := Hs.out.below hba
 have HL2 := Hl.out.below hba
 have HZ2 : Box w2 (w.heap.size + 1) 70 (scells s) := Y2
 clear hH Hm Hs Hl Y1 Y2
 obtain ⟨gT, hgT⟩ : ∃ gT, Hid (w.heap.size = gT) := ⟨_, hide rfl⟩
 obtain ⟨gZ, hgZ⟩ : ∃ gZ, Hid (w.heap.size + 1 = gZ) := ⟨_, hide rfl⟩
 rw [hgZ.out] at HZ2 ⊢
 rw [hgT.out] at HX2 ⊢
 have hst := hide (rsteps_of8 H t s l (i : Int) hLe.out a n c (by have := H2.out; omega) w2 HT2 HS2)
 obtain ⟨LN, hLN⟩ : ∃ LN, L.length = LN := ⟨_, rfl⟩
 rw [hLN] at hst hLN6
 have HLN := hide hLN
 clear hLN
 go_wp2_with (first
  | (with_reducible refine load_struct 18 29 _ 7 size_tables _ Try.underlying29 ⟨gT, 0, none⟩ rfl (tcells H) rfl (fun j u hj => by rw [Addr.add_lit, Nat.zero_add]; exact HX2.at_ hj) ?_)
  | (with_reducible refine load_struct 19 70 _ 3 size_rst _ Try.underlying70 ⟨gZ, 0, none⟩ rfl (scells s) rfl (fun j u hj => by rw [Addr.add_lit, Nat.zero_add]; exact HZ2.at_ hj) ?_)
  | (go_at_call 44; refine hst.out.mono ?_; rintro e w3 ⟨a2, c2, ps2, rfl, hS3, hb3⟩; refine hold ?_))
 refine hide ?_
 have HL3 := HL2.below hb3
 have hbl3 := hba.trans (hb3.mono hba.size)
 clear HX2 HT2 HS2 HZ2 HL2 hba hb3 hst
 go_wp2_with fail
 go_loopg [13, 14, 15] LN (fun gh v13 v14 v15 w' => ∃ (k : Nat) (I W : Int), k ≤ LN ∧ gh = LN - k ∧ v15 = .int .i64 (k : Int) ∧ v13 = .int .i64 I ∧ v14 = .int .i64 W ∧ Below w3.heap.size w3 w' ∧ leastF (lookA A i) (L.take k) = (I, W) ∧ W ≤ 1000012)
 case atStart => exact ⟨0, -1, -1, Nat.zero_le _, rfl, rfl, rfl, rfl, Below.refl _ _, rfl, by decide⟩
 case round =>
  obtain ⟨k, I, W, hk, rfl, rfl, rfl, rfl, hb, hIW, hWb⟩ := hrel
  have HIW := hide hIW
  clear hIW
  by_cases hkn : k < LN
  ·have d0 : decide ((k : Int) < (LN : Int)) = true := decide_eq_true (by omega)
   have hSr := hS3.below hb
   have HLr := HL3.below hb
   obtain ⟨p, hpk⟩ : ∃ p, ps2[k]? = some p := ⟨_, List.getElem?_eq_getElem (by have := congrArg List.length hSr.eq; rw [List.length_map] at this; have := HLN.out; omega)⟩
   have hkx : L[k]? = some p.1 := by rw [← hSr.eq, List.getElem?_map, hpk]; rfl
   have hlk := hLk.out p.1 (List.mem_of_getElem? hkx)
   have hcf := hLC.out p.1 (List.mem_of_getElem? hkx)
   have hls := least_step1 hkx HIW.out
   obtain ⟨b4, o4, hab, hb4', x0, x1, x2, x3, x4, x5⟩ := st_cells hSr hpk
   subst hab
   have hpn := (hSr.row p (List.mem_of_getElem? hpk)).n_eq
   obtain ⟨⟨⟨sl, sn, si⟩, lnn, cs, ru⟩, ⟨qa, qn, qc⟩⟩ := p
   simp only at x0 x1 x2 x3 x4 x5 hpn hcf hls
   have hl0 := hlk.len
   have hlt := hlk.lt
   have hlang := hlk.lang
   have hlo := hlk.lo
   have hhi := hlk.hi
   simp only at hl0 hlt hlang
   obtain ⟨lk, rfl⟩ : ∃ lk : Nat, lnn = (lk : Int) := ⟨lnn.toNat, by omega⟩
   simp only [Int.toNat_natCast] at hlt
   have hqn12 : qn ≤ 12 := by omega
   obtain ⟨tn8, htn8⟩ : ∃ z, Hid (numS ⟨sl, sn, si⟩ = z) := ⟨_, hide rfl⟩
   have htn : tn8 < 8 := by rw [← htn8.out]; exact numS_lt hlang
   have hsl8 := hide hlang
   obtain ⟨RR, hRRe⟩ : ∃ r, A[i + lk]? = some r := ⟨_, List.getElem?_eq_getElem hlt⟩
   have hRR8 := H8.out RR (List.mem_of_getElem? hRRe)
   obtain ⟨⟨ra, rn8, rc⟩, hh⟩ : ∃ h, hsA[i + lk]? = some h := ⟨_, List.getElem?_eq_getElem (by rw [HLr.len]; exact hlt)⟩
   have hrr := HLr.row (i + lk) _ RR hh hRRe
   obtain rfl : rn8 = 8 := by rw [← hRR8]; exact hrr.n_eq
   have hra : (hsA.map hdv)[i + lk]? = some (.slice ra 8 rc) := by rw [List.getElem?_map, hh]; rfl
   obtain ⟨rv, hrvv⟩ : ∃ v, RR[tn8]? = some v := ⟨_, List.getElem?_eq_getElem (by rw [hRR8]; exact htn)⟩
   have hlook : lookA A i ⟨⟨sl, sn, si⟩, (lk : Int), cs, ru⟩ = rv := by
    unfold lookA
    simp only [Int.toNat_natCast]
    have e1 : A.getD (i + lk) [] = RR := by rw [List.getD_eq_getElem?_getD, hRRe]; rfl
    rw [e1, htn8.out, List.getD_eq_getElem?_getD, hrvv]
    rfl
   rw [hlook, ← hpn] at hls
   rw [hlook] at hlo hhi
   have HLS := hide hls
   have hrw := hide hra
   have hRR := hide hrr
   have hrv := hide hrvv
   have htop := HLr.top
   have hi20 : i ≤ 2048 := by have := HI.out; have := H2.out; omega
   have hil : i + lk ≤ 2049 := by have := HA.out; have := H2.out; omega
   clear hpn hcf hkx hlk hls hlook hra hRRe hRR8 hrr hrvv hpk x5 hl0 hlt hlang hh HLr hSr
   have hldS : ∀ j u, ([.int .i64 sl, .bool sn, .bool si] : List Value)[j]? = some u → wr.cell? ((⟨b4, o4 + k * 6, none⟩ : Addr).add j) = some u := fun j u hj => by
    rw [Addr.add_lit]
    match j, hj with
    | 0, hj => cases hj; exact x0
    | 1, hj => cases hj; exact x1
    | 2, hj => cases hj; exact x2
    | j + 3, hj => cases hj
   have HLD := hide hldS
   clear hldS x0 x1 x2
   go_wp2_with fail
   refine wp_region_free 18 [⟨0, 29, [29], fun vs _ => vs = [.slice la ln_ lc]⟩, ⟨1, 30, [30], fun vs _ => vs = [.int .i64 (i : Int)]⟩, ⟨2, 31, [31], fun vs _ => vs = [.slice (some ⟨b4, o4, none⟩) LN c2]⟩, ⟨3, 32, [32], fun vs _ => vs = [.int .i64 (k : Int)]⟩, ⟨4, 33, [33], fun vs _ => vs = [.pointer (some ⟨b4, o4 + k * 6, none⟩)]⟩, ⟨5, 34, [34], fun vs _ => vs = [.pointer (some ⟨b4, o4 + k * 6 + 3, none⟩)]⟩, ⟨6, 35, [35], fun vs _ => vs = [.int .i64 (lk : Int)]⟩, ⟨7, 36, [36], fun vs _ => vs = [.int .i64 ((i + lk : Nat) : Int)]⟩, ⟨8, 37, [37], PtL (.slice ra 8 rc)⟩, ⟨9, 38, [38], fun vs _ => vs = [.slice ra 8 rc]⟩, ⟨10, 39, [39], fun vs _ => vs = [.slice (some ⟨b4, o4, none⟩) LN c2]⟩, ⟨11, 40, [40], fun vs _ => vs = [.int .i64 (k : Int)]⟩, ⟨12, 41, [41], fun vs _ => vs = [.pointer (some ⟨b4, o4 + k * 6, none⟩)]⟩, ⟨13, 42, [42], fun vs _ => vs = [.pointer (some ⟨b4, o4 + k * 6, none⟩)]⟩, ⟨14, 43, [43], fun vs _ => vs = [.agg #[.int .i64 sl, .bool sn, .bool si]]⟩, ⟨15, 44, [44], fun vs _ => vs = [.int .i64 (tn8 : Int)]⟩, ⟨16, 45, [45], PtL (.int .i64 rv)⟩, ⟨17, 46, [46], fun vs _ => vs = [.int .i64 rv]⟩] (by kernel_rfl) (by kernel_rfl) ?_ ?_ ?_
   ·simp only [All]
    refine ⟨fun _ _ _ _ h => h, fun _ _ _ _ h => h, fun _ _ _ _ h => h, fun _ _ _ _ h => h, fun _ _ _ _ h => h, fun _ _ _ _ h => h, fun _ _ _ _ h => h, fun _ _ _ _ h => h, ?_, fun _ _ _ _ h => h, fun _ _ _ _ h => h, fun _ _ _ _ h => h, fun _ _ _ _ h => h, fun _ _ _ _ h => h, fun _ _ _ _ h => h, fun _ _ _ _ h => h, ?_, fun _ _ _ _ h => h, trivial⟩
    ·rintro vs w1 w2 hb ⟨b, o, h1, h2⟩
     exact ⟨b, o, h1, cell_blw8 h2 hb⟩
    ·rintro vs w1 w2 hb ⟨b, o, h1, h2⟩
     exact ⟨b, o, h1, cell_blw8 h2 hb⟩
   ·simp only [All]
    refine ⟨?_, ?_, ?_, ?_, ?_, ?_, ?_, ?_, ?_, ?_, ?_, ?_, ?_, ?_, ?_, ?_, ?_, ?_, trivial⟩
    ·intro o ho a' w' hb hfr hdep; obtain rfl := oj ho
     have g4 : a'.tmps[4]?.getD undef = .slice la ln_ lc := by simpa using hfr 4 (by kernel_rfl)
     clear ho hfr hdep; go_wp2_with fail; exact ⟨rfl, _, rfl, br, rfl⟩
    ·intro o ho a' w' hb hfr hdep; obtain rfl := oj ho
     have g2 : a'.tmps[2]?.getD undef = .int .i64 (i : Int) := by simpa using hfr 2 (by kernel_rfl)
     clear ho hfr hdep; go_wp2_with fail; exact ⟨rfl, _, rfl, br, rfl⟩
    ·intro o ho a' w' hb hfr hdep; obtain rfl := oj ho
     have g12 : a'.tmps[12]?.getD undef = .slice (some ⟨b4, o4, none⟩) LN c2 := by simpa using hfr 12 (by kernel_rfl)
     clear ho hfr hdep; go_wp2_with fail; exact ⟨rfl, _, rfl, br, rfl⟩
    ·intro o ho a' w' hb hfr hdep; obtain rfl := oj ho
     have g15 : a'.tmps[15]?.getD undef = .int .i64 (k : Int) := by simpa using hfr 15 (by kernel_rfl)
     clear ho hfr hdep; go_wp2_with fail; exact ⟨rfl, _, rfl, br, rfl⟩
    ·intro o ho a' w' hb hfr hdep; obtain rfl := oj ho
     have g31 : a'.tmps[31]?.getD undef = .slice (some ⟨b4, o4, none⟩) LN c2 := by simpa using hdep 2 _ rfl (by kernel_rfl)
     have g32 : a'.tmps[32]?.getD undef = .int .i64 (k : Int) := by simpa using hdep 3 _ rfl (by kernel_rfl)
     clear ho hfr hdep; refine index_rowk 33 104 _ _ 103 Try.underlying104 6 size_rf6 b4 o4 LN c2 (by show a'.tmps.getD 31 undef = _; simpa using g31) _ _ k (by show a'.tmps.getD 32 undef = _; simpa using g32) rfl hkn ?_
     exact ⟨rfl, _, rfl, br, rfl⟩
    ·intro o ho a' w' hb hfr hdep; obtain rfl := oj ho
     have g33 : a'.tmps[33]?.getD undef = .pointer (some ⟨b4, o4 + k * 6, none⟩) := by simpa using hdep 4 _ rfl (by kernel_rfl)
     clear ho hfr hdep; go_wp2_with fail; exact ⟨rfl, _, rfl, br, rfl⟩
    ·intro o ho a' w' hb hfr hdep; obtain rfl := oj ho
     have g34 : a'.tmps[34]?.getD undef = .pointer (some ⟨b4, o4 + k * 6 + 3, none⟩) := by simpa using hdep 5 _ rfl (by kernel_rfl)
     clear ho hfr hdep; have hcl := cell_below x3 hb
     go_wp2_with fail; exact ⟨rfl, _, rfl, br, rfl⟩
    ·intro o ho a' w' hb hfr hdep; obtain rfl := oj ho
     have g30 : a'.tmps[30]?.getD undef = .int .i64 (i : Int) := by simpa using hdep 1 _ rfl (by kernel_rfl)
     have g35 : a'.tmps[35]?.getD undef = .int .i64 (lk : Int) := by simpa using hdep 6 _ rfl (by kernel_rfl)
     clear ho hfr hdep; go_wp2_with fail; exact ⟨rfl, _, rfl, br, by simp⟩
    ·intro o ho a' w' hb hfr hdep; obtain rfl := oj ho
     have g29 : a'.tmps[29]?.getD undef = .slice la ln_ lc := by simpa using hdep 0 _ rfl (by kernel_rfl)
     have g36 : a'.tmps[36]?.getD undef = .int .i64 ((i + lk : Nat) : Int) := by simpa using hdep 7 _ rfl (by kernel_rfl)
     clear ho hfr hdep; refine idx_ii 37 _ _ la ln_ lc _ (by show a'.tmps.getD 29 undef = _; simpa using g29) (htop.below hb) .i64 _ (i + lk) (by show a'.tmps.getD 36 undef = _; simpa using g36) rfl _ hrw.out ?_
     intro b o hcell hbo
     exact ⟨rfl, _, rfl, br, b, o, rfl, hcell⟩
    ·intro o ho a' w' hb hfr hdep; obtain rfl := oj ho
     obtain ⟨b37, o37, g37, c37⟩ := hdep 8 _ rfl (by kernel_rfl)
     simp at g37
     clear ho hfr hdep; have hcl := c37
     go_wp2_with fail; exact ⟨rfl, _, rfl, br, rfl⟩
    ·intro o ho a' w' hb hfr hdep; obtain rfl := oj ho
     have g12 : a'.tmps[12]?.getD undef = .slice (some ⟨b4, o4, none⟩) LN c2 := by simpa using hfr 12 (by kernel_rfl)
     clear ho hfr hdep; go_wp2_with fail; exact ⟨rfl, _, rfl, br, rfl⟩
    ·intro o ho a' w' hb hfr hdep; obtain rfl := oj ho
     have g15 : a'.tmps[15]?.getD undef = .int .i64 (k : Int) := by simpa using hfr 15 (by kernel_rfl)
     clear ho hfr hdep; go_wp2_with fail; exact ⟨rfl, _, rfl, br, rfl⟩
    ·intro o ho a' w' hb hfr hdep; obtain rfl := oj ho
     have g39 : a'.tmps[39]?.getD undef = .slice (some ⟨b4, o4, none⟩) LN c2 := by simpa using hdep 10 _ rfl (by kernel_rfl)
     have g40 : a'.tmps[40]?.getD undef = .int .i64 (k : Int) := by simpa using hdep 11 _ rfl (by kernel_rfl)
     clear ho hfr hdep; refine index_rowk 41 104 _ _ 103 Try.underlying104 6 size_rf6 b4 o4 LN c2 (by show a'.tmps.getD 39 undef = _; simpa using g39) _ _ k (by show a'.tmps.getD 40 undef = _; simpa using g40) rfl hkn ?_
     exact ⟨rfl, _, rfl, br, rfl⟩
    ·intro o ho a' w' hb hfr hdep; obtain rfl := oj ho
     have g41 : a'.tmps[41]?.getD undef = .pointer (some ⟨b4, o4 + k * 6, none⟩) := by simpa using hdep 12 _ rfl (by kernel_rfl)
     clear ho hfr hdep; go_wp2_with fail; exact ⟨rfl, _, rfl, br, rfl⟩
    ·intro o ho a' w' hb hfr hdep; obtain rfl := oj ho
     have g42 : a'.tmps[42]?.getD undef = .pointer (some ⟨b4, o4 + k * 6, none⟩) := by simpa using hdep 13 _ rfl (by kernel_rfl)
     clear ho hfr hdep; refine load_struct 43 70 _ 3 size_rst _ Try.underlying70 ⟨b4, o4 + k * 6, none⟩ (by show a'.tmps.getD 42 undef = _; simpa using g42) [.int .i64 sl, .bool sn, .bool si] rfl (fun j u hj => cell_below (HLD.out j u hj) hb) ?_
     exact ⟨rfl, _, rfl, br, rfl⟩
    ·intro o ho a' w' hb hfr hdep; obtain rfl := oj ho
     have g43 : a'.tmps[43]?.getD undef = .agg #[.int .i64 sl, .bool sn, .bool si] := by simpa using hdep 14 _ rfl (by kernel_rfl)
     clear ho hfr hdep; have hnm := hide (r8_Number ⟨sl, sn, si⟩ hsl8.out w')
     rw [htn8.out] at hnm
     go_wp2_with (go_at_call 29; refine hnm.out.mono ?_; rintro e w2 ⟨rfl, h2⟩)
     exact ⟨rfl, _, rfl, h2, rfl⟩
    ·intro o ho a' w' hb hfr hdep; obtain rfl := oj ho
     have g38 : a'.tmps[38]?.getD undef = .slice ra 8 rc := by simpa using hdep 9 _ rfl (by kernel_rfl)
     have g44 : a'.tmps[44]?.getD undef = .int .i64 (tn8 : Int) := by simpa using hdep 15 _ rfl (by kernel_rfl)
     clear ho hfr hdep; refine idx_i 45 _ _ ra 8 rc RR (by show a'.tmps.getD 38 undef = _; simpa using g38) (hRR.out.below hb) .i64 _ tn8 (by show a'.tmps.getD 44 undef = _; simpa using g44) rfl _ hrv.out ?_
     intro b o hcell hbo
     exact ⟨rfl, _, rfl, br, b, o, rfl, hcell⟩
    ·intro o ho a' w' hb hfr hdep; obtain rfl := oj ho
     obtain ⟨b45, o45, g45, c45⟩ := hdep 16 _ rfl (by kernel_rfl)
     simp at g45
     clear ho hfr hdep; have hcl := c45
     go_wp2_with fail; exact ⟨rfl, _, rfl, br, rfl⟩
   ·intro gg w10 hbl hp'
    have p46 := hp' 17 _ rfl
    clear hp'
    simp at p46
    simp only [List.drop_succ_cons, List.drop_zero, List.map_cons, List.map_nil, putAll, Act.put, List.setIfInBounds_toArray, List.set_cons_succ, List.set_cons_zero, List.cons_append, List.nil_append, p46]
    clear p46
    have hb10 := hb.trans (hbl.mono hb.size)
    have z4 := cell_below x4 hbl
    clear x3 x4 hb hbl HLD htop
    by_cases hr0 : rv < 0
    ·have d6 : decide (rv < 0) = true := decide_eq_true hr0
     have HW2 : Hid (leastF (lookA A i) (L.take (k + 1)) = (I, W)) := hide (by rw [HLS.out, if_neg (by omega)])
     go_wp2_with fail
     go_roundg (LN - (k + 1))
     case measure => omega
     case rel => exact ⟨k + 1, I, W, by omega, rfl, by go_num, rfl, rfl, hb10, HW2.out, hWb⟩
    ·have d6 : decide (rv < 0) = false := decide_eq_false hr0
     by_cases hI : I < 0
     ·have d7 : decide (I < 0) = true := decide_eq_true hI
      have HW2 : Hid (leastF (lookA A i) (L.take (k + 1)) = ((k : Int), rv + (qn : Int))) := hide (by rw [HLS.out, if_pos ⟨by omega, .inl hI⟩])
      go_wp2_with (with_reducible refine index_rowk 52 104 _ _ 103 Try.underlying104 6 size_rf6 b4 o4 LN c2 rfl _ _ k rfl rfl hkn ?_)
      go_roundg (LN - (k + 1))
      case measure => omega
      case rel => exact ⟨k + 1, (k : Int), rv + (qn : Int), by omega, rfl, by go_num, rfl, rfl, hb10, HW2.out, by omega⟩
     ·have d7 : decide (I < 0) = false := decide_eq_false hI
      by_cases hlt : rv + (qn : Int) < W
      ·have d8 : decide (rv + (qn : Int) < W) = true := decide_eq_true hlt
       have HW2 : Hid (leastF (lookA A i) (L.take (k + 1)) = ((k : Int), rv + (qn : Int))) := hide (by rw [HLS.out, if_pos ⟨by omega, .inr hlt⟩])
       go_wp2_with (with_reducible refine index_rowk 52 104 _ _ 103 Try.underlying104 6 size_rf6 b4 o4 LN c2 rfl _ _ k rfl rfl hkn ?_)
       go_roundg (LN - (k + 1))
       case measure => omega
       case rel => exact ⟨k + 1, (k : Int), rv + (qn : Int), by omega, rfl, by go_num, rfl, rfl, hb10, HW2.out, by omega⟩
      ·have d8 : decide (rv + (qn : Int) < W) = false := decide_eq_false hlt
       have HW2 : Hid (leastF (lookA A i) (L.take (k + 1)) = (I, W)) := hide (by rw [HLS.out, if_neg (fun h => h.2.elim hI hlt)])
       go_wp2_with (with_reducible refine index_rowk 52 104 _ _ 103 Try.underlying104 6 size_rf6 b4 o4 LN c2 rfl _ _ k rfl rfl hkn ?_)
       go_roundg (LN - (k + 1))
       case measure => omega
       case rel => exact ⟨k + 1, I, W, by omega, rfl, by go_num, rfl, rfl, hb10, HW2.out, by omega⟩
  ·obtain rfl : k = LN := by omega
   have d0 : decide ((k : Int) < (k : Int)) = false := decide_eq_false (by omega)
   have e1 := HIW.out
   rw [List.take_of_length_le (by rw [HLN.out]; exact Nat.le_refl _)] at e1
   have HE := hide e1
   clear e1 HIW
   go_wp2_with fail
   go_ret2
   exact ⟨by rw [HE.out]; rfl, hbl3.trans (hb.mono hbl3.size)⟩
end Go.Proofs.Ytlpkicjijlcbfaa
end
