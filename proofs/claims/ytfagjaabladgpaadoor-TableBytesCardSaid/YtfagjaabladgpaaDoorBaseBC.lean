/- The contracts of the functions that the law reaches, joined into one text. -/
import Derived.Test.YtfagjaabladgpaaDoorBaseBB
import Derived.Lib.Strings
set_option linter.unusedVariables false
set_option linter.unusedSimpArgs false

section
/- More laws on blocks that are known whole: a copy from a string, whole loads in drawn regions. No program in sight. -/
namespace Go.Dx
open Go.RowKit
section
variable {P : Program} {w : World} {ops : Array Oper} {rest : List Oper} {o : Oper} {act : Act} {Q : Exit → Act → World → Prop}
theorem copy_str (hgd : o.guard = none) (d s : Operand) (dT sT : TypeId) (hop : o.op = .call { callee := .builtin .copy, args := #[d, s], argTypes := #[dT, sT] }) (elem : TypeId) (hu : P.underlying dT = some (.slice elem)) (hsz : (P.info? elem).map (·.size) = some 1)
  (g off dLen dCap : Nat) (t : TypeId) (old : List Value) (hb : Box w g t old) (hd : act.eval d = .slice (some ⟨g, off, none⟩) dLen dCap) (x : ByteArray) (hs : act.eval s = .string x) (k : Nat) (hk : k = min x.size dLen) (hfit : off + k ≤ old.length)
  (hK : ∀ w', Box w' g t (old.take off ++ (x.data.toList.take k).map B8 ++ old.drop (off + k)) → w.grownBy w' (some g) → w'.heap.size = w.heap.size → wpList P ops Q rest (act.put o.dst (.int .i64 (k : Int))) w') :
  wpList P ops Q (o :: rest) act w := by
 refine wpList_plain hgd fun K hK' => ?_
 have hxl : x.data.toList.length = x.size := Array.length_toList
 have hcl : ((x.data.toList.take k).map B8).length = k := by rw [List.length_map, List.length_take]; omega
 have hst := run_storeCells_at P g off t ((x.data.toList.take k).map B8) 0 old.toArray w hb (by rw [hcl]; simpa using hfit) (one_map _ (fun _ => rfl) _)
 rw [hcl] at hst
 simp only [Nat.add_zero, List.toList_toArray] at hst
 have hmin : Nat.min x.size dLen = k := hk.symm
 have hrun : (Builtin.copy_ #[dT, sT] o.type #[.slice (some ⟨g, off, none⟩) dLen dCap, .string x]).run P w = .ok (.int .i64 (k : Int)) (w.setRow g (old.take off ++ (x.data.toList.take k).map B8 ++ old.drop (off + k)).toArray) := by
  obtain ⟨i, hq, hi⟩ := Option.map_eq_some_iff.1 hsz
  simp [Builtin.copy_, run_underlying hu, Builtin.lenOf, Builtin.firstCells, sizeOf, typeInfo, hq, hmin]
  have e : List.take k (List.map (fun b : UInt8 => Value.int IntKind.u8 (b.toNat : Int)) x.data.toList) = (x.data.toList.take k).map B8 := by rw [List.map_take]
  rw [e, hst]
  simp [Result.andThen]
  rfl
 unfold Oper.wp
 simp [execOp, hop, resolve, invoke, builtin, hd, hs, hrun, Result.andThen]
 refine hK' _ _ (hK _ ?_ ⟨rfl, rfl, rfl, by simp [World.setRow], fun k _ hk => setRow_other w g k _ (fun e => hk (by rw [e]))⟩ (by simp [World.setRow]))
 have := setRow_heap w g old.toArray (old.take off ++ (x.data.toList.take k).map B8 ++ old.drop (off + k)).toArray t (0, 0) hb
 simpa [Box] using this
theorem run_cut_var {P : Program} {w : World} (t e : TypeId) (n : Nat) (ht : P.underlying t = some (.array n e)) (hsz : (P.info? e).map (·.size) = some 1) (g off l u : Nat) (lo hi : Option Value)
  (hl : lo = none ∧ l = 0 ∨ ∃ k, lo = some (.int k (l : Int))) (hu : hi = none ∧ u = n ∨ ∃ k, hi = some (.int k (u : Int))) (hlu : l ≤ u) (hun : u ≤ n) (hln : l < n) :
  (Instr.sliceAt t (.pointer (some ⟨g, off, none⟩)) lo hi none).run P w = .ok (.slice (some ⟨g, off + l, none⟩) (u - l) (n - l)) w := by
 obtain ⟨i0, hi0, hs0⟩ := Option.map_eq_some_iff.1 hsz
 have h2 : (0 : Int) ≤ l ∧ (l : Int) ≤ u := by omega
 have h3 : (0 : Int) ≤ u ∧ (u : Int) ≤ n := by omega
 have hne : ¬ n = l := by omega
 rcases hl with ⟨rfl, rfl⟩ | ⟨k1, rfl⟩ <;> rcases hu with ⟨rfl, rfl⟩ | ⟨k2, rfl⟩ <;>
  simp [Instr.sliceAt, Instr.sureAddr, Instr.sliceBounds, Instr.sliceBound, asIntOf, run_underlying ht, sizeOf, typeInfo, hi0, hs0, h2, h3, Addr.add_lit, hlu, hun, hne]
theorem cut_var {ty : TypeId} {pos : String} {after : Array Edge} (d : Nat) (t e : TypeId) (n : Nat) (x : Operand) (lo hi : Option Operand) (ht : P.underlying t = some (.array n e)) (hsz : (P.info? e).map (·.size) = some 1)
  (g off : Nat) (hx : act.eval x = .pointer (some ⟨g, off, none⟩)) (l u : Nat)
  (hl : lo.map act.eval = none ∧ l = 0 ∨ ∃ k, lo.map act.eval = some (.int k (l : Int))) (hu : hi.map act.eval = none ∧ u = n ∨ ∃ k, hi.map act.eval = some (.int k (u : Int))) (hlu : l ≤ u) (hun : u ≤ n) (hln : l < n)
  (hK : wpList P ops Q rest (act.put (some d) (.slice (some ⟨g, off + l, none⟩) (u - l) (n - l))) w) :
  wpList P ops Q ({ dst := some d, op := .slice t x lo hi none, type := ty, pos := pos, after := after, guard := none } :: rest) act w := by
 refine wpList_plain rfl fun K hK' => ?_
 have hrun := run_cut_var (P := P) (w := w) t e n ht hsz g off l u (lo.map act.eval) (hi.map act.eval) hl hu hlu hun hln
 unfold Oper.wp
 simp only [execOp, Option.map_none, hx, Sem.run_bind, hrun, Result.andThen, Sem.run_pure]
 exact hK' _ _ hK
end
theorem hold_copy {P : Program} {w : World} {ops : Array Oper} {rest : List Oper} {act : Act} {Q : Exit → Act → World → Prop} {dst : Option Tmp} {ty : TypeId} {as_ : Array Operand} {ts : Array TypeId} {pos : String} {after : Array Edge} {g : Option (Nat × Bool)}
  (h : Hid (wpList P ops Q ({ dst := dst, op := .call { callee := .builtin .copy, args := as_, argTypes := ts }, type := ty, pos := pos, after := after, guard := g } :: rest) act w)) :
  wpList P ops Q ({ dst := dst, op := .call { callee := .builtin .copy, args := as_, argTypes := ts }, type := ty, pos := pos, after := after, guard := g } :: rest) act w := h
section quiet
variable {P : Program} {w : World} {ops : Array Oper} {rest : List Oper} {act : Act} {Q : Act → Prop} {C : World → Prop} {ty : TypeId} {pos : String} {after : Array Edge}
theorem quiet_in {o : Oper} (v : Value) (hw : Region.wanted o (yielded ops act.tmps) = true) (h : ∀ w', C w' → (execOp act.eval o).run P w' = .ok (.value v) w') (hK : wpQuiet P ops C Q rest (act.put o.dst v)) : wpQuiet P ops C Q (o :: rest) act := by
 refine wpQuiet_step fun K hK' => ?_
 rw [if_pos hw]
 refine ⟨v, ?_, hK' _ hK⟩
 intro w' hC
 unfold Oper.quietAt
 rw [h w' hC]
 exact ⟨rfl, rfl⟩
theorem quiet_load_box (d : Nat) (t : TypeId) (x : Operand) (e : TypeId) (g off : Nat) (old cs : List Value) (hag : IsAgg P t) (hsz : (P.info? t).map (·.size) = some cs.length) (hb : ∀ w', C w' → Box w' g e old) (hx : act.eval x = .pointer (some ⟨g, off, none⟩))
  (hc : ∀ j u, cs[j]? = some u → old[off + j]? = some u) (hK : wpQuiet P ops C Q rest (act.put (some d) (.agg cs.toArray))) :
  wpQuiet P ops C Q ({ dst := some d, op := .load t x, type := ty, pos := pos, after := after, guard := none } :: rest) act := by
 refine quiet_in _ (by simp [Region.wanted]) (fun w' hC => ?_) hK
 simp [execOp, hx, Instr.loadAt, Instr.sureAddr, run_loadVar_box hag hsz (hb w' hC) hc]
theorem quiet_cut_var (d : Nat) (t e : TypeId) (n : Nat) (x : Operand) (lo hi : Option Operand) (ht : P.underlying t = some (.array n e)) (hsz : (P.info? e).map (·.size) = some 1)
  (g off : Nat) (hx : act.eval x = .pointer (some ⟨g, off, none⟩)) (l u : Nat)
  (hl : lo.map act.eval = none ∧ l = 0 ∨ ∃ k, lo.map act.eval = some (.int k (l : Int))) (hu : hi.map act.eval = none ∧ u = n ∨ ∃ k, hi.map act.eval = some (.int k (u : Int))) (hlu : l ≤ u) (hun : u ≤ n) (hln : l < n)
  (hK : wpQuiet P ops C Q rest (act.put (some d) (.slice (some ⟨g, off + l, none⟩) (u - l) (n - l)))) :
  wpQuiet P ops C Q ({ dst := some d, op := .slice t x lo hi none, type := ty, pos := pos, after := after, guard := none } :: rest) act := by
 refine quiet_in _ (by simp [Region.wanted]) (fun w' hC => ?_) hK
 have hrun := run_cut_var (P := P) (w := w') t e n ht hsz g off l u (lo.map act.eval) (hi.map act.eval) hl hu hlu hun hln
 simp only [execOp, Option.map_none, hx, Sem.run_bind, hrun, Result.andThen, Sem.run_pure]
end quiet
section quiet2
variable {P : Program} {w : World} {ops : Array Oper} {rest : List Oper} {act : Act} {Q : Act → Prop} {C : World → Prop} {ty : TypeId} {pos : String} {after : Array Edge}
end quiet2
section guarded
variable {P : Program} {w : World} {ops : Array Oper} {rest : List Oper} {act : Act} {Q : Exit → Act → World → Prop} {ty : TypeId} {pos : String} {after : Array Edge} {g : Option (Nat × Bool)}
theorem unguard_any {dst : Option Nat} {op : Op} (hw : Region.wanted { dst := dst, op := op, type := ty, pos := pos, after := after, guard := g } (yielded ops act.tmps) = true)
  (h : wpList P ops Q ({ dst := dst, op := op, type := ty, pos := pos, after := after, guard := none } :: rest) act w) :
  wpList P ops Q ({ dst := dst, op := op, type := ty, pos := pos, after := after, guard := g } :: rest) act w := by
 have h2 : Region.wanted { dst := dst, op := op, type := ty, pos := pos, after := after, guard := none } (yielded ops act.tmps) = true := rfl
 unfold wpList at h ⊢
 rw [if_pos h2] at h
 rw [if_pos hw]
 exact h
end guarded
theorem str_none {y : ByteArray} (h : y.size = 0) : y.toList.isEmpty = true := by
 rw [Lib.toList_data, List.isEmpty_iff, ← List.length_eq_zero_iff]; exact h
theorem str_some {y : ByteArray} (h : y.size ≠ 0) : y.toList.isEmpty = false := by
 rw [Lib.toList_data, Bool.eq_false_iff, ne_eq, List.isEmpty_iff, ← List.length_eq_zero_iff]; exact h
theorem ext_list (y : ByteArray) (k : Nat) : (y.extract k y.size).data.toList = y.data.toList.drop k := by
 rw [Lib.extract_data]
 apply List.take_of_length_le
 rw [List.length_drop]
 exact Nat.le_of_eq rfl
end Go.Dx
end

section
/- Chapter 06: the word at a place: bounds; inWord. -/
namespace Go.Proofs.YtfagjaabladgpaaDoor
open Go.RowKit Go.Dx

theorem quiet_left {P : Program} {f : FuncId} {args : Array Value} {w : World} {n : Nat} {v : Value} (h : Calls P f args (w.drewN n) fun e w' => e = .returned v ∧ w.drewN n = w') :
  Calls P f args (w.drewN n) fun e w'' => e = .returned v ∧ ∃ m, w'' = w.drewN m := h.mono fun _ _ ⟨he, hm⟩ => ⟨he, n, hm.symm⟩
theorem inAt_neg {l : List Sy} {g i : Int} (h : i < 0) : inAt l g i = false := by unfold inAt; rw [decide_eq_false (by omega)]; rfl
theorem inAt_out {l : List Sy} {g : Int} {k : Nat} (h : l.length ≤ k) : inAt l g (k : Int) = false := by rw [inAt_nat, List.getElem?_eq_none h]
theorem inAt_get {l : List Sy} {g : Int} {k : Nat} {y : Sy} (h : l[k]? = some y) : inAt l g (k : Int) = (decide (y.lang = g) && isL y.c) := by rw [inAt_nat, h]

set_option maxHeartbeats 1000000 in
theorem bounds_1 (l : List Sy) (a : Option Addr) (n c g1 g2 : Nat) (i : Int) (p : Nat) (x : Sy) (w : World) (hs : Sl w 2 a n c (l.flatMap sc)) (hx : l[p]? = some x) (h1 : w.cell? ⟨g1, 0, none⟩ = some (.slice a n c)) (h2 : w.cell? ⟨g2, 0, none⟩ = some (.int .i64 (p : Int))) :
  Calls Tryd.prog 74 #[.int .i64 i, .pointer (some ⟨g1, 0, none⟩), .pointer (some ⟨g2, 0, none⟩)] w fun e w' => e = .returned (.bool (inAt l x.lang i)) ∧ Below w.heap.size w w' := by
 obtain rfl := hs.nf sc_len (by decide)
 have hm1 := Nat.le_trans hs.le hs.cap
 unfold maxLen at hm1
 obtain ⟨r, HR⟩ : ∃ r, Hid (inAt l x.lang i = r) := ⟨_, hide rfl⟩
 rw [HR.out]
 have hp := (List.getElem?_eq_some_iff.1 hx).1
 by_cases h0 : 0 ≤ i
 case neg =>
  have d0 : decide (0 ≤ i) = false := decide_eq_false h0
  have HE : Hid (r = false) := hide (by rw [← HR.out]; exact inAt_neg (by omega))
  clear h0
  go_enter Tryd.func74, Tryd.ntmps74
  go_wp2
  go_quiet (fail)
  go_wp2
  go_ret
  exact ⟨by rw [HE.out]; rfl, belowN (Below.refl _ _) _⟩
 obtain ⟨k, rfl⟩ : ∃ k : Nat, i = (k : Int) := ⟨i.toNat, by omega⟩
 clear h0
 by_cases hk : k < l.length
 case neg =>
  have d1 : decide (k < l.length) = false := decide_eq_false hk
  have HE : Hid (r = false) := hide (by rw [← HR.out]; exact inAt_out (by omega))
  clear hk
  go_enter Tryd.func74, Tryd.ntmps74
  go_wp2
  go_quiet (fail)
  go_wp2
  go_ret
  exact ⟨by rw [HE.out]; rfl, belowN (Below.refl _ _) _⟩
 have d1 : decide (k < l.length) = true := decide_eq_true hk
 obtain ⟨y, hy⟩ : ∃ y, l[k]? = some y := ⟨l[k], by simp [hk]⟩
 obtain ⟨b, o, hab, hbw, c0, c1⟩ := sy_cells hs hy
 obtain ⟨b', o', hab', _, e0, _⟩ := sy_cells hs hx
 subst hab
 cases hab'
 have hr := inAt_get (g := x.lang) hy
 rw [HR.out] at hr
 obtain ⟨gy, cy⟩ := y
 obtain ⟨gx, cx⟩ := x
 have c0 : w.cell? ⟨b, o + k * 2, none⟩ = some (.int .i64 gy) := c0
 have c1 : w.cell? ⟨b, o + k * 2 + 1, none⟩ = some (.int .u8 (cy.toNat : Int)) := c1
 have e0 : w.cell? ⟨b, o + p * 2, none⟩ = some (.int .i64 gx) := e0
 have hr : r = (decide (gy = gx) && isL cy) := hr
 have HRR := hide hr
 clear hr hy hx HR
 have hl := fun w' => tab_letter cy w'
 by_cases hg : gy = gx
 ·subst hg
  have HE : Hid (r = isL cy) := hide (by rw [HRR.out]; simp)
  generalize isL cy = v at hl HE
  clear HRR
  go_enter Tryd.func74, Tryd.ntmps74
  go_wp2
  go_quiet ((go_at_call 73; exact quiet_left (hl _)))
  go_wp2
  go_ret
  exact ⟨by rw [HE.out]; rfl, belowN (Below.refl _ _) _⟩
 ·have dg : (gy == gx) = false := beq_eq_false_iff_ne.2 hg
  have HE : Hid (r = false) := hide (by rw [HRR.out]; simp [hg])
  clear HRR hg hl
  go_enter Tryd.func74, Tryd.ntmps74
  go_wp2
  go_quiet (fail)
  go_wp2
  go_ret
  exact ⟨by rw [HE.out]; rfl, belowN (Below.refl _ _) _⟩
end Go.Proofs.YtfagjaabladgpaaDoor
end

section
/- Chapter 06: the word at a place: bounds. -/
namespace Go.Dx
open Go.RowKit
theorem cell_below {w w' : World} {p : Addr} {u : Value} (h : w.cell? p = some u) (hb : Below w.heap.size w w') : w'.cell? p = some u := by
 rw [hb.cell (World.block_lt_of_cell? w _ h)]; exact h
theorem lo_stay {l : List Sy} {g : Int} {p A : Nat} (h : ∀ j : Int, (A : Int) ≤ j → j < p → inAt l g j = true) (hA : inAt l g ((A : Int) - 1) = true) : 1 ≤ A ∧ ∀ j : Int, ((A - 1 : Nat) : Int) ≤ j → j < p → inAt l g j = true := by
 have h1 : 1 ≤ A := by
  by_cases e : A = 0
  ·subst e; rw [show ((0 : Nat) : Int) - 1 = -1 from rfl, show inAt l g (-1) = false from rfl] at hA; cases hA
  ·omega
 refine ⟨h1, fun j hj hp => ?_⟩
 by_cases e : j = (A : Int) - 1
 ·rw [e]; exact hA
 ·exact h j (by omega) hp
theorem hi_stay {l : List Sy} {g : Int} {p B : Nat} (h : ∀ j : Int, (p : Int) ≤ j → j < B → inAt l g j = true) (hB : inAt l g (B : Int) = true) : B < l.length ∧ ∀ j : Int, (p : Int) ≤ j → j < ((B + 1 : Nat) : Int) → inAt l g j = true := by
 refine ⟨?_, fun j hj hp => ?_⟩
 ·rw [inAt_nat] at hB
  cases hb : l[B]? with
  | none => rw [hb] at hB; cases hB
  | some y => exact (List.getElem?_eq_some_iff.1 hb).1
 ·by_cases e : j = (B : Int)
  ·rw [e]; exact hB
  ·exact h j hj (by omega)
end Go.Dx
namespace Go.Proofs.YtfagjaabladgpaaDoor
open Go.RowKit Go.Dx

set_option maxHeartbeats 1000000 in
theorem tab_bounds (l : List Sy) (a : Option Addr) (n c : Nat) (p : Nat) (x : Sy) (w : World) (hs : Sl w 2 a n c (l.flatMap sc)) (hx : l[p]? = some x) :
  Calls Tryd.prog 65 #[.slice a n c, .int .i64 (p : Int)] w fun e w' => ∃ A B : Nat, e = .returned (.tuple #[.int .i64 (A : Int), .int .i64 (B : Int)]) ∧ A ≤ p ∧ B ≤ l.length ∧ IsLo l x.lang p A ∧ IsHi l x.lang p B ∧ Below w.heap.size w w' := by
 obtain rfl := hs.nf sc_len (by decide)
 have hm1 := Nat.le_trans hs.le hs.cap
 unfold maxLen at hm1
 have hp := (List.getElem?_eq_some_iff.1 hx).1
 have HX := hide hx
 clear hx
 obtain ⟨g, HGG⟩ : ∃ g, Hid (x.lang = g) := ⟨_, hide rfl⟩
 rw [HGG.out]
 have b1 : ∀ m, ((((w.alloc (.cells #[.slice a l.length c] 46)).alloc (.cells #[.int .i64 (p : Int)] 3)).drewN m).cell? ⟨w.heap.size, 0, none⟩ = some (.slice a l.length c)) := fun m => (((Box.new w 46 #[.slice a l.length c]).alloc _).drewN m).at_ rfl
 have b2 : ∀ m, ((((w.alloc (.cells #[.slice a l.length c] 46)).alloc (.cells #[.int .i64 (p : Int)] 3)).drewN m).cell? ⟨w.heap.size + 1, 0, none⟩ = some (.int .i64 (p : Int))) := fun m => by
  have := ((Box.new (w.alloc (.cells #[.slice a l.length c] 46)) 3 #[.int .i64 (p : Int)]).drewN m).at_ (j := 0) (u := .int .i64 (p : Int)) rfl
  rwa [show (w.alloc (.cells #[.slice a l.length c] 46)).heap.size = w.heap.size + 1 by simp] at this
 have b3 : ∀ m, Below w.heap.size w (((w.alloc (.cells #[.slice a l.length c] 46)).alloc (.cells #[.int .i64 (p : Int)] 3)).drewN m) := fun m => belowN (((blo w _)).trans ((blo _ _).mono (by simp))) m
 have HB : Hid ((∀ m, ((((w.alloc (.cells #[.slice a l.length c] 46)).alloc (.cells #[.int .i64 (p : Int)] 3)).drewN m).cell? ⟨w.heap.size, 0, none⟩ = some (.slice a l.length c))) ∧ (∀ m, ((((w.alloc (.cells #[.slice a l.length c] 46)).alloc (.cells #[.int .i64 (p : Int)] 3)).drewN m).cell? ⟨w.heap.size + 1, 0, none⟩ = some (.int .i64 (p : Int)))) ∧ ∀ m, Below w.heap.size w (((w.alloc (.cells #[.slice a l.length c] 46)).alloc (.cells #[.int .i64 (p : Int)] 3)).drewN m)) := hide ⟨b1, b2, b3⟩
 clear b1 b2 b3
 go_enter Tryd.func65, Tryd.ntmps65
 go_wp2
 go_quiet (fail)
 go_wp2_with fail
 go_loopg [6] p (fun gh i w' => ∃ (A : Nat), A ≤ p ∧ gh = A ∧ Hid (∀ j : Int, (A : Int) ≤ j → j < p → inAt l g j = true) ∧ i = .int .i64 (A : Int) ∧ w'.cell? ⟨w.heap.size, 0, none⟩ = some (.slice a l.length c) ∧ w'.cell? ⟨w.heap.size + 1, 0, none⟩ = some (.int .i64 (p : Int)) ∧ Below w.heap.size w w')
 case atStart => exact ⟨p, Nat.le_refl _, rfl, hide (fun j h1 h2 => by omega), rfl, HB.out.1 _, HB.out.2.1 _, HB.out.2.2 _⟩
 case round =>
  obtain ⟨A, hA, hg, HALL, rfl, k1, k2, hb⟩ := hrel
  have HG := hide hg
  clear hg
  have hc := bounds_1 l a _ c w.heap.size (w.heap.size + 1) ((A : Int) - 1) p x wr (hs.below hb) HX.out k1 k2
  rw [HGG.out] at hc
  cases hq : inAt l g ((A : Int) - 1)
  ·have HLO : Hid (IsLo l g p A) := hide ⟨by omega, HALL.out, hq⟩
   rw [hq] at hc
   clear hq HALL
   go_wp2_with (go_at_call 74; refine hc.mono ?_; rintro e w2 ⟨rfl, hb2⟩)
   have hb3 := hb.trans (hb2.mono hb.size)
   have k3 := cell_below k1 hb2
   have k4 := cell_below k2 hb2
   clear k1 k2 hb2 hb hc
   go_loopg [7] (l.length - p) (fun gh i w' => ∃ (B : Nat), p ≤ B ∧ B ≤ l.length ∧ gh = l.length - B ∧ Hid (∀ j : Int, (p : Int) ≤ j → j < B → inAt l g j = true) ∧ i = .int .i64 (B : Int) ∧ w'.cell? ⟨w.heap.size, 0, none⟩ = some (.slice a l.length c) ∧ w'.cell? ⟨w.heap.size + 1, 0, none⟩ = some (.int .i64 (p : Int)) ∧ Below w.heap.size w w')
   case atStart => exact ⟨p, Nat.le_refl _, by omega, rfl, hide (fun j h1 h2 => by omega), rfl, k3, k4, hb3⟩
   case round =>
    clear k3 k4 hb3
    obtain ⟨B, hB1, hB2, hg2, HALL, rfl, k1, k2, hb⟩ := hrel
    have HG2 := hide hg2
    clear hg2
    have hc := bounds_1 l a _ c w.heap.size (w.heap.size + 1) (B : Int) p x wr (hs.below hb) HX.out k1 k2
    rw [HGG.out] at hc
    cases hq : inAt l g (B : Int)
    ·have HHI : Hid (IsHi l g p B) := hide ⟨by omega, HALL.out, hq⟩
     rw [hq] at hc
     clear hq HALL
     go_wp2_with (go_at_call 74; refine hc.mono ?_; rintro e w2 ⟨rfl, hb2⟩)
     go_ret2
     exact ⟨A, B, rfl, hA, hB2, HLO.out, HHI.out, hb.trans (hb2.mono hb.size)⟩
    ·obtain ⟨hB3, hall⟩ := hi_stay HALL.out hq
     have HAL2 := hide hall
     rw [hq] at hc
     clear hq HALL hall
     go_wp2_with (go_at_call 74; refine hc.mono ?_; rintro e w2 ⟨rfl, hb2⟩)
     have hb3 := hb.trans (hb2.mono hb.size)
     have k3 := cell_below k1 hb2
     have k4 := cell_below k2 hb2
     go_roundg (l.length - (B + 1))
     case measure => have := HG2.out; omega
     case rel => exact ⟨B + 1, by omega, hB3, rfl, HAL2, by go_num, k3, k4, hb3⟩
  ·obtain ⟨hA1, hall⟩ := lo_stay HALL.out hq
   have HAL2 := hide hall
   obtain ⟨A', rfl⟩ : ∃ A', A = A' + 1 := ⟨A - 1, by omega⟩
   rw [hq, show (((A' + 1 : Nat) : Int) - 1) = (A' : Int) by omega] at hc
   clear hq HALL hall
   go_wp2_with (go_at_call 74; refine hc.mono ?_; rintro e w2 ⟨rfl, hb2⟩)
   have hb3 := hb.trans (hb2.mono hb.size)
   have k3 := cell_below k1 hb2
   have k4 := cell_below k2 hb2
   go_roundg A'
   case measure => have := HG.out; omega
   case rel => exact ⟨A', by omega, rfl, HAL2, by go_num, k3, k4, hb3⟩
end Go.Proofs.YtfagjaabladgpaaDoor
end

section
/- Chapter 06: the reference's inWord. -/
namespace Go.Proofs.YtfagjaabladgpaaDoor
open Go.RowKit Go.Dx
end Go.Proofs.YtfagjaabladgpaaDoor
end

section
/- Chapter 06: whether a rule fits at a place: fits, of the program. -/
namespace Go.Dx
open Go.RowKit
theorem sameAt_step {g : Int} : ∀ (s : List UInt8) (b : Bool) (L : List Sy) (k : Nat) (u : UInt8) (y : Sy), s[k]? = some u → L[k]? = some y →
  sameAt g b (s.take (k + 1)) L = (sameAt g b (s.take k) L && (decide (low y.c = u) && decide (y.lang = g) && (b && decide (k = 0) || !isC y.c))) := by
 intro s
 induction s with
 | nil => intro b L k u y h; simp at h
 | cons v s ih =>
  intro b L k u y hs hL
  cases L with
  | nil => simp at hL
  | cons x L =>
   cases k with
   | zero =>
    simp only [List.getElem?_cons_zero, Option.some.injEq] at hs hL
    subst hs; subst hL
    simp [sameAt]
   | succ k =>
    simp only [List.getElem?_cons_succ] at hs hL
    have := ih false L k u y hs hL
    simp only [List.take_succ_cons, sameAt, this, Bool.false_and, Bool.false_or, Nat.add_eq_zero_iff, Nat.one_ne_zero, and_false, decide_false, Bool.and_false]
    simp only [Bool.and_assoc]
theorem sameAt_take {g : Int} : ∀ (s : List UInt8) (b : Bool) (L : List Sy) (k : Nat), sameAt g b (s.take k) L = false → sameAt g b s L = false := by
 intro s
 induction s with
 | nil => intro b L k h; simpa using h
 | cons v s ih =>
  intro b L k h
  cases k with
  | zero => simp [sameAt] at h
  | succ k =>
   cases L with
   | nil => rfl
   | cons x L =>
    simp only [List.take_succ_cons, sameAt] at h ⊢
    cases hq : sameAt g false s L
    ·simp
    ·cases hq2 : sameAt g false (s.take k) L
     ·rw [ih _ _ _ hq2] at hq; cases hq
     ·rw [hq2] at h; exact h
theorem fits_no {r : Ru} {l : List Sy} {i : Nat} (hi : i < l.length) (h : l.length < i + r.text.size) : fitsB r l i = false := by
 cases hq : fitsB r l i
 ·rfl
 ·have := fits_len hi hq; omega
theorem fits_at {r : Ru} {l : List Sy} {i : Nat} {x : Sy} (hx : l[i]? = some x) : fitsB r l i = (sameAt x.lang true (chars r.text) (l.drop i) && placeOk r l i) := by
 unfold fitsB; rw [hx]
theorem place_any {r : Ru} {l : List Sy} {i : Nat} (h : small r.text = false) : placeOk r l i = true := by unfold placeOk; rw [h]; rfl
theorem place_small {r : Ru} {l : List Sy} {i : Nat} (h : small r.text = true) : placeOk r l i = (if r.whr = 1 then !inWord l i && !inWord l (i + r.text.size) else if r.whr = 2 then !inWord l i && inWord l (i + r.text.size) else if r.whr = 3 then inWord l i else true) := by
 unfold placeOk; rw [h]; rfl
end Go.Dx
namespace Go.Proofs.YtfagjaabladgpaaDoor
open Go.RowKit Go.Dx
theorem hold {p : Prop} (h : Hid p) : p := h.out
section
variable {w : World} {ops : Array Oper} {rest : List Oper} {act : Act} {Q : Exit → Act → World → Prop} {ty : TypeId} {pos : String} {after : Array Edge}
theorem cut_y (d : Nat) (x lo hi : Operand) (a : Option Addr) (n c : Nat) (L : List Sy) (hx : act.eval x = .slice a n c) (hs : Sl w 2 a n c (L.flatMap sc)) (kl ku : IntKind) (lv uv : Int) (l m : Nat) (hl : act.eval lo = .int kl lv) (hu : act.eval hi = .int ku uv)
  (hlv : lv = (l : Int)) (huv : uv = ((l + m : Nat) : Int)) (hun : l + m ≤ n)
  (hK : ∀ a', Sl w 2 a' m (c - l) (((L.drop l).take m).flatMap sc) → wpList Tryd.prog ops Q rest (act.put (some d) (.slice a' m (c - l))) w) :
  wpList Tryd.prog ops Q ({ dst := some d, op := .slice 46 x (some lo) (some hi) none, type := ty, pos := pos, after := after, guard := none } :: rest) act w := by
 refine cut_sl d 46 x lo hi 83 Tryd.underlying46 2 size_sym a n c _ hx hs kl ku lv uv l (l + m) hl hu hlv huv (by omega) hun ?_
 intro a' h _
 rw [Nat.add_sub_cancel_left, flat_drop sc_len, flat_take sc_len] at h
 rw [Nat.add_sub_cancel_left]
 exact hK a' h
end
theorem step_yes {g : Int} {s : List UInt8} {L : List Sy} {k : Nat} {u : UInt8} {y : Sy} (hs : s[k]? = some u) (hL : L[k]? = some y) (h0 : sameAt g true (s.take k) L = true) (h1 : low y.c = u) (h2 : y.lang = g) (h3 : k = 0 ∨ isC y.c = false) : sameAt g true (s.take (k + 1)) L = true := by
 rw [sameAt_step s true L k u y hs hL, h0, decide_eq_true h1, decide_eq_true h2]
 rcases h3 with h3 | h3 <;> simp [h3]
theorem step_no {g : Int} {s : List UInt8} {L : List Sy} {k : Nat} {u : UInt8} {y : Sy} (hs : s[k]? = some u) (hL : L[k]? = some y) (h : low y.c ≠ u ∨ y.lang ≠ g ∨ (0 < k ∧ isC y.c = true)) : sameAt g true s L = false := by
 refine sameAt_take s true L (k + 1) ?_
 rw [sameAt_step s true L k u y hs hL]
 rcases h with h | h | ⟨h, h2⟩
 ·simp [h]
 ·simp [h]
 ·have : k ≠ 0 := by omega
  simp [this, h2]

set_option maxHeartbeats 4000000 in
theorem tab_fits (s : ByteArray) (wh : Int) (cl : List UInt8) (ha : Option Addr) (hn hcap : Nat) (l : List Sy) (a : Option Addr) (n c : Nat) (v : Int) (i : Nat) (hv : v = (i : Int)) (x : Sy) (hx : l[i]? = some x) (h1 : 1 ≤ s.size) (h8 : s.size ≤ 8) (hll : l.length ≤ 1000000) (w : World) (hs : Sl w 2 a n c (l.flatMap sc)) :
  Calls Tryd.prog 46 #[.agg #[.string s, .int .i64 wh, .slice ha hn hcap], .slice a n c, .int .i64 v] w fun e w' => e = .returned (.bool (fitsB ⟨s, wh, cl⟩ l i)) ∧ Below w.heap.size w w' := by
 subst hv
 obtain rfl := hs.nf sc_len (by decide)
 have hm1 := Nat.le_trans hs.le hs.cap
 unfold maxLen at hm1
 have hi := (List.getElem?_eq_some_iff.1 hx).1
 obtain ⟨r, HR⟩ : ∃ r, Hid (fitsB ⟨s, wh, cl⟩ l i = r) := ⟨_, hide rfl⟩
 rw [HR.out]
 by_cases hlen : i + s.size ≤ l.length
 case neg =>
  have d1 : decide (l.length < i + s.size) = true := decide_eq_true (by omega)
  have d2 : decide ((l.length : Int) < (i : Int) + (s.size : Int)) = true := decide_eq_true (by omega)
  have HE : Hid (r = false) := hide (by rw [← HR.out]; exact fits_no hi (by show l.length < i + s.size; omega))
  clear hlen hx
  go_enter Tryd.func46, Tryd.ntmps46
  go_wp2_with fail
  go_ret
  exact ⟨by rw [HE.out]; rfl, blo w _⟩
 have d1 : decide (l.length < i + s.size) = false := decide_eq_false (by omega)
 have d2 : decide ((l.length : Int) < (i : Int) + (s.size : Int)) = false := decide_eq_false (by omega)
 have HF := hide (fits_at (r := ⟨s, wh, cl⟩) hx)
 have HX := hide hx
 obtain ⟨gx, cx⟩ := x
 obtain ⟨b, o, hab, hbw, e0, _⟩ := sy_cells hs hx
 subst hab
 have e0 : w.cell? ⟨b, o + i * 2, none⟩ = some (.int .i64 gx) := e0
 clear hx
 have hsw := hs.alloc (.cells #[.string s, .int .i64 wh, .slice ha hn hcap] 45)
 have k0 : (w.alloc (.cells #[.string s, .int .i64 wh, .slice ha hn hcap] 45)).cell? ⟨w.heap.size, 0, none⟩ = some (.string s) := (Box.new w _ _).at_ rfl
 have k1 : (w.alloc (.cells #[.string s, .int .i64 wh, .slice ha hn hcap] 45)).cell? ⟨w.heap.size, 1, none⟩ = some (.int .i64 wh) := (Box.new w _ _).at_ rfl
 have hb0 := blo w (.cells #[.string s, .int .i64 wh, .slice ha hn hcap] 45)
 have hchars : ∀ k (hk : k < s.size), (chars s)[k]? = some s[k] := fun k hk => chars_get hk
 have HCH := hide hchars
 have HLEN : Hid ((chars s).length = s.size) := hide (size_chars s).symm
 clear hchars
 have HD2 := hide d2
 go_enter Tryd.func46, Tryd.ntmps46
 go_wp2_with (with_reducible refine cut_y 29 _ _ _ _ _ _ _ rfl hsw _ _ _ _ i s.size rfl rfl rfl (by omega) hlen ?_; intro a' hs')
 generalize w.alloc (.cells #[.string s, .int .i64 wh, .slice ha hn hcap] 45) = w1 at *
 go_loopg [31] s.size (fun gh t w' => ∃ (k : Nat), k ≤ s.size ∧ gh = s.size - k ∧ Hid (sameAt gx true ((chars s).take k) (l.drop i) = true) ∧ t = .int .i64 (k : Int) ∧ Below w1.heap.size w1 w')
 case atStart => exact ⟨0, by omega, by omega, hide rfl, rfl, Below.refl _ _⟩
 case round =>
  obtain ⟨k, hk, hg, HS, rfl, hb⟩ := hrel
  have HG := hide hg
  clear hg
  have q0 := cell_below k0 hb
  have q1 := cell_below k1 hb
  have hsr := hsw.below hb
  have hsr' := hs'.below hb
  have f0 : wr.cell? ⟨b, o + i * 2, none⟩ = some (.int .i64 gx) := cell_below (cell_below e0 hb0) hb
  have hbr : b < wr.heap.size := World.block_lt_of_cell? _ _ f0
  have hwb : w.heap.size < wr.heap.size := World.block_lt_of_cell? _ _ q0
  by_cases hkl : k < s.size
  ·obtain ⟨y, hy⟩ : ∃ y, l[i + k]? = some y := ⟨l[i + k]'(by omega), List.getElem?_eq_getElem _⟩
   have hy' : ((l.drop i).take s.size)[k]? = some y := by rw [List.getElem?_take, if_pos hkl, List.getElem?_drop]; exact hy
   have hyd : (l.drop i)[k]? = some y := by rw [List.getElem?_drop]; exact hy
   have HY := hide hy'
   have HYD := hide hyd
   clear hy hy' hyd
   obtain ⟨gy, cy⟩ := y
   have hL := fun w' => tab_Letter cy w'
   unfold LetterR at hL
   have HSK := hide (HCH.out k hkl)
   by_cases t1 : low cy = s[k]
   case neg =>
    have c1 : (((low cy).toNat : Int) != ((s[k]).toNat : Int)) = true := bne_iff_ne.2 (fun e => t1 (UInt8.toNat_inj.1 (by omega)))
    have HE : Hid (r = false) := hide (by rw [← HR.out, HF.out, step_no HSK.out HYD.out (.inl t1)]; rfl)
    clear t1
    go_wp2_with (first
     | (with_reducible refine idx_y 34 _ _ _ _ _ _ rfl hsr' _ _ k rfl rfl _ HY.out ?_; intro bb oo hcell hcell2 hbo)
     | (go_at_call 45; refine (hL _).mono ?_; rintro e w2 ⟨rfl, rfl⟩))
    go_quiet (fail)
    go_wp2
    go_ret
    exact ⟨by rw [HE.out]; rfl, hb0.trans ((hb.trans (belowN ((blo _ _).mono hb.size) _)).mono hb0.size)⟩
   have c1 : (((low cy).toNat : Int) != ((s[k]).toNat : Int)) = false := by rw [t1]; simp
   by_cases t2 : gy = gx
   case neg =>
    have c2 : (gy != gx) = true := bne_iff_ne.2 t2
    have HE : Hid (r = false) := hide (by rw [← HR.out, HF.out, step_no HSK.out HYD.out (.inr (.inl t2))]; rfl)
    clear t1 t2
    go_wp2_with (first
     | (with_reducible refine idx_y 34 _ _ _ _ _ _ rfl hsr' _ _ k rfl rfl _ HY.out ?_; intro bb oo hcell hcell2 hbo)
     | (go_at_call 45; refine (hL _).mono ?_; rintro e w2 ⟨rfl, rfl⟩))
    go_quiet (fail)
    go_wp2
    go_ret
    exact ⟨by rw [HE.out]; rfl, hb0.trans ((hb.trans (belowN ((blo _ _).mono hb.size) _)).mono hb0.size)⟩
   subst t2
   have c2 : (gy != gy) = false := by simp
   cases t3 : isC cy
   ·have HS2 := hide (step_yes HSK.out HYD.out HS.out t1 rfl (.inr t3))
    rw [t3] at hL
    clear t1 t3
    go_wp2_with (first
     | (with_reducible refine idx_y 34 _ _ _ _ _ _ rfl hsr' _ _ k rfl rfl _ HY.out ?_; intro bb oo hcell hcell2 hbo)
     | (go_at_call 45; refine (hL _).mono ?_; rintro e w2 ⟨rfl, rfl⟩))
    go_quiet (fail)
    go_wp2
    have hb3 : ∀ o m, Below w1.heap.size w1 ((wr.alloc o).drewN m) := fun o m => hb.trans (belowN ((blo wr o).mono hb.size) m)
    go_roundg (s.size - (k + 1))
    case measure => have := HG.out; omega
    case rel => exact ⟨k + 1, by omega, rfl, HS2, by go_num, hb3 _ _⟩
   ·by_cases t4 : k = 0
    ·have HS2 := hide (step_yes HSK.out HYD.out HS.out t1 rfl (.inl t4))
     subst t4
     rw [t3] at hL
     clear t1 t3
     go_wp2_with (first
      | (with_reducible refine idx_y 34 _ _ _ _ _ _ rfl hsr' _ _ 0 rfl rfl _ HY.out ?_; intro bb oo hcell hcell2 hbo)
      | (go_at_call 45; refine (hL _).mono ?_; rintro e w2 ⟨rfl, rfl⟩))
     go_quiet (fail)
     go_wp2
     have hb3 : ∀ o m, Below w1.heap.size w1 ((wr.alloc o).drewN m) := fun o m => hb.trans (belowN ((blo wr o).mono hb.size) m)
     go_roundg (s.size - (0 + 1))
     case measure => have := HG.out; omega
     case rel => exact ⟨0 + 1, by omega, rfl, HS2, by go_num, hb3 _ _⟩
    ·have d5 : decide (0 < k) = true := decide_eq_true (by omega)
     have d6 : decide ((0 : Int) < (k : Int)) = true := decide_eq_true (by omega)
     have HE : Hid (r = false) := hide (by rw [← HR.out, HF.out, step_no HSK.out HYD.out (.inr (.inr ⟨by omega, t3⟩))]; rfl)
     rw [t3] at hL
     clear t1 t3 t4
     go_wp2_with (first
      | (with_reducible refine idx_y 34 _ _ _ _ _ _ rfl hsr' _ _ k rfl rfl _ HY.out ?_; intro bb oo hcell hcell2 hbo)
      | (go_at_call 45; refine (hL _).mono ?_; rintro e w2 ⟨rfl, rfl⟩))
     go_quiet (fail)
     go_wp2
     go_ret
     exact ⟨by rw [HE.out]; rfl, hb0.trans ((hb.trans (belowN ((blo _ _).mono hb.size) _)).mono hb0.size)⟩
  ·obtain rfl : k = s.size := by omega
   have hst := HS.out
   rw [← HLEN.out, List.take_length] at hst
   have HST : Hid (r = placeOk ⟨s, wh, cl⟩ l i) := hide (by rw [← HR.out, HF.out, hst]; rfl)
   have hW := fun w' => tab_word s (by omega) w'
   cases hsm : small s
   ·have HE : Hid (r = true) := hide (by rw [HST.out]; exact place_any hsm)
    rw [hsm] at hW
    clear hsm hst
    go_wp2_with (go_at_call 64; refine (hW _).mono ?_; rintro e w2 ⟨rfl, rfl⟩)
    go_ret
    exact ⟨by rw [HE.out]; rfl, hb0.trans (hb.mono hb0.size)⟩
   rw [hsm] at hW
   have hB := tab_bounds l _ _ c i ⟨gx, cx⟩ wr hsr HX.out
   have HPL : Hid (∀ A B : Int, IsLo l gx i A → IsHi l gx i B → inWord l i = decide (A < (i : Int)) ∧ (i : Int) + s.size ≤ B ∧ inWord l (i + s.size) = decide ((i : Int) + s.size < B)) := hide (fun A B u v => place_eq (r := ⟨s, wh, cl⟩) HX.out hst hsm h1 u v)
   have HST2 : Hid (r = (if wh = 1 then !inWord l i && !inWord l (i + s.size) else if wh = 2 then !inWord l i && inWord l (i + s.size) else if wh = 3 then inWord l i else true)) := hide (by rw [HST.out]; exact place_small hsm)
   clear hsm hst
   go_wp2_with (first
    | (go_at_call 64; refine (hW _).mono ?_; rintro e w2 ⟨rfl, rfl⟩)
    | (go_at_call 65; refine hB.mono ?_; rintro e w2 ⟨A, B, rfl, hA, hB2, hlo, hhi, hb2⟩; refine hold ?_))
   refine hide ?_
   have q2 := cell_below q1 hb2
   have hbe := hb0.trans ((hb.trans (hb2.mono hb.size)).mono hb0.size)
   obtain ⟨p1, p2, p3⟩ := HPL.out A B hlo hhi
   have hAi : (A : Int) ≤ i := by omega
   have P1 := hide p1
   have P3 := hide p3
   clear p1 p3 hlo hhi HPL hb2 hb q0 q1 hB hW
   by_cases w1' : wh = 1
   ·subst w1'
    by_cases hAe : A = i
    ·have HI : Hid (inWord l i = false) := hide (by rw [P1.out]; exact decide_eq_false (by omega))
     subst hAe
     by_cases hBe : (B : Int) = (A : Int) + s.size
     ·have c1 : ((B : Int) == (A : Int) + (s.size : Int)) = true := beq_iff_eq.2 hBe
      have HE : Hid (r = true) := hide (by rw [HST2.out, if_pos rfl, HI.out, P3.out, decide_eq_false (by omega)]; rfl)
      clear hBe p2
      go_wp2
      go_ret
      exact ⟨by rw [HE.out]; rfl, hbe⟩
     ·have c1 : ((B : Int) == (A : Int) + (s.size : Int)) = false := beq_eq_false_iff_ne.2 hBe
      have HE : Hid (r = false) := hide (by rw [HST2.out, if_pos rfl, HI.out, P3.out, decide_eq_true (by omega)]; rfl)
      clear hBe p2
      go_wp2
      go_ret
      exact ⟨by rw [HE.out]; rfl, hbe⟩
    ·have c1 : ((A : Int) == (i : Int)) = false := beq_eq_false_iff_ne.2 (by omega)
     have c2 : (A == i) = false := beq_eq_false_iff_ne.2 hAe
     have HE : Hid (r = false) := hide (by rw [HST2.out, if_pos rfl, P1.out, decide_eq_true (by omega)]; rfl)
     clear hAe p2
     go_wp2
     go_ret
     exact ⟨by rw [HE.out]; rfl, hbe⟩
   have e1 : (wh == 1) = false := beq_eq_false_iff_ne.2 w1'
   by_cases w2' : wh = 2
   ·subst w2'
    by_cases hAe : A = i
    ·have HI : Hid (inWord l i = false) := hide (by rw [P1.out]; exact decide_eq_false (by omega))
     subst hAe
     by_cases hBe : (A : Int) + s.size < (B : Int)
     ·have c1 : decide ((A : Int) + (s.size : Int) < (B : Int)) = true := decide_eq_true hBe
      have c2 : decide (A + s.size < B) = true := decide_eq_true (by omega)
      have HE : Hid (r = true) := hide (by rw [HST2.out, if_neg (by decide), if_pos rfl, HI.out, P3.out, decide_eq_true hBe]; rfl)
      clear hBe p2
      go_wp2
      go_ret
      exact ⟨by rw [HE.out]; rfl, hbe⟩
     ·have c1 : decide ((A : Int) + (s.size : Int) < (B : Int)) = false := decide_eq_false hBe
      have c2 : decide (A + s.size < B) = false := decide_eq_false (by omega)
      have HE : Hid (r = false) := hide (by rw [HST2.out, if_neg (by decide), if_pos rfl, HI.out, P3.out, decide_eq_false hBe]; rfl)
      clear hBe p2
      go_wp2
      go_ret
      exact ⟨by rw [HE.out]; rfl, hbe⟩
    ·have c1 : ((A : Int) == (i : Int)) = false := beq_eq_false_iff_ne.2 (by omega)
     have c2 : (A == i) = false := beq_eq_false_iff_ne.2 hAe
     have HE : Hid (r = false) := hide (by rw [HST2.out, if_neg (by decide), if_pos rfl, P1.out, decide_eq_true (by omega)]; rfl)
     clear hAe p2
     go_wp2
     go_ret
     exact ⟨by rw [HE.out]; rfl, hbe⟩
   have e2 : (wh == 2) = false := beq_eq_false_iff_ne.2 w2'
   by_cases w3' : wh = 3
   ·subst w3'
    by_cases hAe : A < i
    ·have c1 : decide ((A : Int) < (i : Int)) = true := decide_eq_true (by omega)
     have c2 : decide (A < i) = true := decide_eq_true hAe
     have HE : Hid (r = true) := hide (by rw [HST2.out, if_neg (by decide), if_neg (by decide), if_pos rfl, P1.out]; exact c1)
     clear hAe p2
     go_wp2
     go_ret
     exact ⟨by rw [HE.out]; rfl, hbe⟩
    ·have c1 : decide ((A : Int) < (i : Int)) = false := decide_eq_false (by omega)
     have c2 : decide (A < i) = false := decide_eq_false hAe
     have HE : Hid (r = false) := hide (by rw [HST2.out, if_neg (by decide), if_neg (by decide), if_pos rfl, P1.out]; exact c1)
     clear hAe p2
     go_wp2
     go_ret
     exact ⟨by rw [HE.out]; rfl, hbe⟩
   have e3 : (wh == 3) = false := beq_eq_false_iff_ne.2 w3'
   have HE : Hid (r = true) := hide (by rw [HST2.out, if_neg w1', if_neg w2', if_neg w3'])
   clear w1' w2' w3'
   go_wp2
   go_ret
   exact ⟨by rw [HE.out]; rfl, hbe⟩
end Go.Proofs.YtfagjaabladgpaaDoor
end

section
/- Chapter 06: whether a rule fits at a place: Fits, of the reference. -/
namespace Go.Proofs.YtfagjaabladgpaaDoor
open Go.RowKit Go.Dx

end Go.Proofs.YtfagjaabladgpaaDoor
end

section
/- Chapter 06: the error of tables, in parts; tables in a box. -/
namespace Go.Dx
open Go.RowKit
def langK (t : Ta) (k : Nat) : List Ru := if k = 0 then t.l0 else t.l1
theorem two_cases {p : Nat → Prop} (h0 : p 0) (h1 : p 1) : ∀ k, k < 2 → p k := by
 intro k hk
 rcases k with _ | _ | k
 ·exact h0
 ·exact h1
 ·omega
theorem ve_lim {t : Ta} {k : Nat} (h : 96 < (langK t k).length) : validE t = 4 := by
 unfold validE
 rw [if_pos]
 unfold langK at h
 split at h
 ·exact .inl h
 ·exact .inr h
theorem ve_len {t : Ta} (h : ∀ k, k < 2 → (langK t k).length ≤ 96) : ¬ (96 < t.l0.length ∨ 96 < t.l1.length) := by
 have h0 := h 0 (by omega)
 have h1 := h 1 (by omega)
 simp [langK] at h0 h1
 omega
theorem ve_bad {t : Ta} (h : ∀ k, k < 2 → (langK t k).length ≤ 96) (hg : goodT t = false) : validE t = 1 := by
 unfold validE
 rw [if_neg (ve_len h), hg]; rfl
theorem ve_dup {t : Ta} (h : ∀ k, k < 2 → (langK t k).length ≤ 96) (hg : goodT t = true) {k : Nat} (hd : dupB (langK t k) = true) : validE t = 7 := by
 unfold validE
 rw [if_neg (ve_len h), hg, if_neg (by simp), if_pos]
 unfold langK at hd
 split at hd <;> simp [hd]
theorem ve_miss {t : Ta} (h : ∀ k, k < 2 → (langK t k).length ≤ 96) (hg : goodT t = true) (hd : ∀ k, k < 2 → dupB (langK t k) = false) {k : Nat} (hm : missB (langK t k) = true) : validE t = 6 := by
 have h0 := hd 0 (by omega)
 have h1 := hd 1 (by omega)
 simp [langK] at h0 h1
 unfold validE
 rw [if_neg (ve_len h), hg, if_neg (by simp), h0, h1, if_neg (by simp), if_pos]
 unfold langK at hm
 split at hm <;> simp [hm]
theorem ve_ok {t : Ta} (h : ∀ k, k < 2 → (langK t k).length ≤ 96) (hg : goodT t = true) (hd : ∀ k, k < 2 → dupB (langK t k) = false) (hm : ∀ k, k < 2 → missB (langK t k) = false) : validE t = 0 := by
 have h0 := hd 0 (by omega)
 have h1 := hd 1 (by omega)
 have m0 := hm 0 (by omega)
 have m1 := hm 1 (by omega)
 simp [langK] at h0 h1 m0 m1
 unfold validE
 rw [if_neg (ve_len h), hg, if_neg (by simp), h0, h1, m0, m1]; rfl
theorem isIn_step {l : List Ru} {j : Nat} {y : Ru} (h : l[j]? = some y) (n : ByteArray × Int) : isIn ((l.take (j + 1)).map nmOf) n = (isIn ((l.take j).map nmOf) n || (n.1.toList == y.text.toList && n.2 == y.whr)) := by
 rw [take_succ_get h, List.map_append]
 unfold isIn
 rw [List.any_append]; simp
theorem rus_get {ps : List RH} {i : Nat} {x : RH} (h : ps[i]? = some x) : (rus ps)[i]? = some x.1 := by unfold rus; rw [List.getElem?_map, h]; rfl
theorem sel_lang {w : World} {H : TH} {t : Ta} (hT : TaIs w H t) : ∀ k, k < 2 → ∃ a n c ps, [hdv H.r0, hdv H.r1][k]? = some (.slice a n c) ∧ Rul w a n c ps ∧ rus ps = langK t k := by
 refine two_cases ⟨_, _, _, _, rfl, hT.l0, ?_⟩ ⟨_, _, _, _, rfl, hT.l1, ?_⟩
 ·rw [hT.e0]; rfl
 ·rw [hT.e1]; rfl
structure TBox (w : World) (g : Nat) (H : TH) (t : Ta) : Prop where
 ok : TaIs w H t
 rules : ∀ k, k < 2 → ∃ a n c ps, w.cell? ⟨g, k, none⟩ = some (.slice a n c) ∧ Rul w a n c ps ∧ rus ps = langK t k
 d : w.cell? ⟨g, 2, none⟩ = some (hdv H.d)
 c : w.cell? ⟨g, 3, none⟩ = some (hdv H.c)
 n : w.cell? ⟨g, 4, none⟩ = some (hdv H.n)
 f : w.cell? ⟨g, 5, none⟩ = some (hdv H.f)
 s : w.cell? ⟨g, 6, none⟩ = some (hdv H.s)
def tcells (H : TH) : List Value := [hdv H.r0, hdv H.r1, hdv H.d, hdv H.c, hdv H.n, hdv H.f, hdv H.s]
theorem TBox.new {w : World} {H : TH} {t : Ta} (hT : TaIs w H t) (ty : TypeId) : TBox (w.alloc (.cells (tcells H).toArray ty)) w.heap.size H t := by
 have hx := Box.new w ty (tcells H).toArray
 have hb : Below w.heap.size w (w.alloc (.cells (tcells H).toArray ty)) := (Below.refl _ w).alloc (Nat.le_refl _) _
 refine ⟨hT.below hb, ?_, hx.at_ rfl, hx.at_ rfl, hx.at_ rfl, hx.at_ rfl, hx.at_ rfl⟩
 intro k hk
 obtain ⟨a, n, c, ps, h1, h2, h3⟩ := sel_lang hT k hk
 refine ⟨a, n, c, ps, hx.at_ ?_, h2.below hb, h3⟩
 rcases k with _ | _ | k
 ·exact h1
 ·exact h1
 ·omega
theorem TBox.below {w w' : World} {g : Nat} {H : TH} {t : Ta} (h : TBox w g H t) (hb : Below w.heap.size w w') : TBox w' g H t := by
 have key : ∀ {p : Addr} {u : Value}, w.cell? p = some u → w'.cell? p = some u := fun hc => by rw [hb.cell (World.block_lt_of_cell? w _ hc)]; exact hc
 refine ⟨h.ok.below hb, ?_, key h.d, key h.c, key h.n, key h.f, key h.s⟩
 intro k hk
 obtain ⟨a, n, c, ps, h1, h2, h3⟩ := h.rules k hk
 exact ⟨a, n, c, ps, key h1, h2.below hb, h3⟩
end Go.Dx
namespace Go.Proofs.YtfagjaabladgpaaDoor
open Go.RowKit Go.Dx
end Go.Proofs.YtfagjaabladgpaaDoor
end

section
/- A slice literal, as a law of the walk that hands on an unnamed world. No program in sight. -/
namespace Go.Dx
open Go.RowKit
section
variable {P : Program} {w : World} {ops : Array Oper} {rest : List Oper} {act : Act} {Q : Exit → Act → World → Prop} {ty : TypeId} {pos : String} {after : Array Edge}
theorem build_own (d : Nat) (t : TypeId) (n : Nat) (ps : Array (Nat × Operand)) (e : TypeId) (ht : P.underlying t = some (.slice e)) (z : Value) (bytes : Nat) (hi : (P.info? e).map (fun i => (i.zero, i.size, i.bytes)) = some (some z, 1, bytes))
  (us : List Value) (hn : us.length = n) (h0 : 1 ≤ n) (hm : n ≤ 1000)
  (hf : Instr.fill (fun i => some (i * 1, 1)) ((Array.range (n * 1)).map (z.cells[· % z.cells.size]!)) ((ps.map fun (i, x) => (i, act.eval x)).toList) = some us.toArray)
  (hK : ∀ w', Own w' w.heap.size e 1 (some ⟨w.heap.size, 0, none⟩) n n us → Below w.heap.size w w' → w'.heap.size = w.heap.size + 1 → wpList P ops Q rest (act.put (some d) (.slice (some ⟨w.heap.size, 0, none⟩) n n)) w') :
  wpList P ops Q ({ dst := some d, op := .buildSlice t n ps, type := ty, pos := pos, after := after, guard := none } :: rest) act w := by
 refine wpList_plain rfl fun K hK' => ?_
 obtain ⟨i, hi0, hz0, hz1, hz2⟩ := info_parts hi
 have hrun : (Instr.buildSlice t n (ps.map fun (i, x) => (i, act.eval x))).run P w = .ok (.slice (some ⟨w.heap.size, 0, none⟩) n n) (w.alloc (.cells us.toArray e)) := by
  have h1 : ¬ (n * i.size > 16777216) := by rw [hz1]; omega
  have h2 : n * i.size ≠ 0 := by rw [hz1]; omega
  have h3 : n ≠ 0 := by omega
  have h4 : ¬ (n > 16777216) := by omega
  have h5 : ¬ (16777216 < n) := by omega
  simp only [Nat.mul_one] at hf
  simp [Instr.buildSlice, run_underlying ht, sizeOf, typeInfo, hi0, hz1, h3, h4, h5, zeroValue, hz0, newRow]
  simp at hf
  rw [hf]
  simp [newRow]
 unfold Oper.wp
 simp only [execOp, Sem.run_bind, hrun, Result.andThen, Sem.run_pure]
 refine hK' _ _ (hK _ ?_ ((Below.refl _ _).alloc (Nat.le_refl _) _) (by simp))
 have := Own.built w w.heap.size e 1 n us.toArray (Nat.le_refl _) (by simpa using hn) (by unfold maxLen; omega)
 simpa using this
end
end Go.Dx
end

section
/- Chapter 06: the reference's Encode. -/
namespace Go.Dx
open Go.RowKit
section
variable {P : Program} {w : World} {ops : Array Oper} {rest : List Oper} {act : Act} {Q : Exit → Act → World → Prop} {ty : TypeId} {pos : String} {after : Array Edge}
theorem index_arrF (d : Nat) (t : TypeId) (x y : Operand) (e : TypeId) (m : Nat) (ht : P.underlying t = some (.array m e)) (hsz : (P.info? e).map (·.size) = some 1)
  (b o : Nat) (hx : act.eval x = .pointer (some ⟨b, o, none⟩)) (k : IntKind) (iv : Int) (i : Nat) (hy : act.eval y = .int k iv) (hiv : iv = (i : Int)) (hi : i < m)
  (hK : wpList P ops Q rest (act.put (some d) (.pointer (some ⟨b, o + i, none⟩))) w) :
  wpList P ops Q ({ dst := some d, op := .indexAddr t x y, type := ty, pos := pos, after := after, guard := none } :: rest) act w := by
 refine wpList_plain rfl fun K hK' => ?_
 obtain ⟨i0, hi0, hs0⟩ := Option.map_eq_some_iff.1 hsz
 subst hiv
 have hrun : (Instr.indexAt t (.pointer (some ⟨b, o, none⟩)) (.int k (i : Int))).run P w = .ok (.pointer (some ⟨b, o + i, none⟩)) w := by
  simp [Instr.indexAt, Instr.sureAddr, asIntOf, run_underlying ht, sizeOf, typeInfo, hi0, hs0, hi, Addr.add_lit]
 unfold Oper.wp
 simp [execOp, hx, hy, hrun, Result.andThen]
 exact hK' _ _ hK
theorem index_rowF (d : Nat) (t : TypeId) (x y : Operand) (e : TypeId) (ht : P.underlying t = some (.slice e)) (sz : Nat) (hsz : (P.info? e).map (·.size) = some sz)
  (b o n c : Nat) (hx : act.eval x = .slice (some ⟨b, o, none⟩) n c) (k : IntKind) (iv : Int) (i : Nat) (hy : act.eval y = .int k iv) (hiv : iv = (i : Int)) (hi : i < n)
  (hK : wpList P ops Q rest (act.put (some d) (.pointer (some ⟨b, o + i * sz, none⟩))) w) :
  wpList P ops Q ({ dst := some d, op := .indexAddr t x y, type := ty, pos := pos, after := after, guard := none } :: rest) act w := by
 refine wpList_plain rfl fun K hK' => ?_
 obtain ⟨i0, hi0, hs0⟩ := Option.map_eq_some_iff.1 hsz
 subst hiv
 have hrun : (Instr.indexAt t (.slice (some ⟨b, o, none⟩) n c) (.int k (i : Int))).run P w = .ok (.pointer (some ⟨b, o + i * sz, none⟩)) w := by
  simp [Instr.indexAt, asIntOf, run_underlying ht, sizeOf, typeInfo, hi0, hs0, hi, Addr.add_lit]
 unfold Oper.wp
 simp [execOp, hx, hy, hrun, Result.andThen]
 exact hK' _ _ hK
end
structure RuE (w : World) (a : Option Addr) (n c : Nat) (ps : List RH) : Prop where
 top : Sl w 3 a n c (ps.flatMap rc)
 row : ∀ p ∈ ps, Sl w 1 p.2.1 p.2.2.1 p.2.2.2 (p.1.cells.map B8)
theorem RuE.below {w w' : World} {a : Option Addr} {n c : Nat} {ps : List RH} (h : RuE w a n c ps) (hb : Below w.heap.size w w') : RuE w' a n c ps := ⟨h.top.below hb, fun p hp => (h.row p hp).below hb⟩
structure TaE (w : World) (H : TH) (t : Ta) : Prop where
 l0 : RuE w H.r0.1 H.r0.2.1 H.r0.2.2 H.p0
 l1 : RuE w H.r1.1 H.r1.2.1 H.r1.2.2 H.p1
 e0 : rus H.p0 = t.l0
 e1 : rus H.p1 = t.l1
 d : Sl w 1 H.d.1 H.d.2.1 H.d.2.2 (t.dig.map B8)
 c : Sl w 1 H.c.1 H.c.2.1 H.c.2.2 (t.cap.map B8)
 n : Sl w 1 H.n.1 H.n.2.1 H.n.2.2 (t.num.map B8)
 f : Sl w 1 H.f.1 H.f.2.1 H.f.2.2 (t.fin.map B8)
 s : Sl w 1 H.s.1 H.s.2.1 H.s.2.2 (t.sw.map B8)
theorem TaE.below {w w' : World} {H : TH} {t : Ta} (h : TaE w H t) (hb : Below w.heap.size w w') : TaE w' H t :=
 ⟨h.l0.below hb, h.l1.below hb, h.e0, h.e1, h.d.below hb, h.c.below hb, h.n.below hb, h.f.below hb, h.s.below hb⟩
theorem TaIs.e {w : World} {H : TH} {t : Ta} (h : TaIs w H t) : TaE w H t :=
 ⟨⟨h.l0.top, fun p hp => (h.l0.row p hp).1⟩, ⟨h.l1.top, fun p hp => (h.l1.row p hp).1⟩, h.e0, h.e1, h.d, h.c, h.n, h.f, h.s⟩
def WhB (t : Ta) : Prop := ∀ r, r ∈ t.l0 ∨ r ∈ t.l1 → -9223372036854775808 ≤ r.whr ∧ r.whr ≤ 9223372036854775807
def encK (t : Ta) (k : Nat) : List UInt8 := ([t.l0, t.l1].take k).flatMap (encMany encRu)
def langE (t : Ta) (k : Nat) : List Ru := if k = 0 then t.l0 else t.l1
theorem encK_step (t : Ta) {k : Nat} (hk : k < 2) : encK t (k + 1) = encK t k ++ encMany encRu (langE t k) := by
 rcases k with _ | _ | k
 ·simp [encK, langE]
 ·simp [encK, langE]
 ·omega
theorem encTa_K (t : Ta) : encTa t = encK t 2 ++ encStrs [S8 t.dig, S8 t.cap, S8 t.num, S8 t.fin, S8 t.sw] := by simp [encTa, encK]
theorem encK_le (t : Ta) {k : Nat} (hk : k ≤ 2) : (encK t k).length ≤ (encTa t).length := by
 rw [encTa_K, List.length_append]
 have h2 : (encK t k).length ≤ (encK t 2).length := by
  rcases k with _ | _ | _ | k
  ·simp [encK]
  ·have e := encK_step t (by decide : 1 < 2)
   have e2 : (encK t 2).length = (encK t 1 ++ encMany encRu (langE t 1)).length := congrArg List.length e
   rw [List.length_append] at e2
   show (encK t 1).length ≤ _
   omega
  ·exact Nat.le_refl _
  ·omega
 omega
theorem encMany_take {l : List Ru} {i : Nat} : (encInt (l.length : Int) ++ (l.take i).flatMap encRu).length ≤ (encMany encRu l).length := by
 unfold encMany
 rw [List.length_append, List.length_append]
 have h : (l.flatMap encRu).length = ((l.take i).flatMap encRu).length + ((l.drop i).flatMap encRu).length := by
  conv => lhs; rw [← List.take_append_drop i l]
  rw [List.flatMap_append, List.length_append]
 omega
theorem take_enc1 {l : List Ru} {i : Nat} {r : Ru} (hr : l[i]? = some r) : (l.take (i + 1)).flatMap encRu = (l.take i).flatMap encRu ++ encRu r := by
 rw [List.take_add_one, hr, List.flatMap_append]
 simp
theorem selE {w : World} {H : TH} {t : Ta} (h : TaE w H t) {k : Nat} (hk : k < 2) : ∃ (a : Option Addr) (n c : Nat) (ps : List RH), (tcells H)[k]? = some (.slice a n c) ∧ RuE w a n c ps ∧ rus ps = langE t k := by
 rcases k with _ | _ | k
 ·exact ⟨_, _, _, _, rfl, h.l0, h.e0⟩
 ·exact ⟨_, _, _, _, rfl, h.l1, h.e1⟩
 ·omega
end Go.Dx
namespace Go.Proofs.YtfagjaabladgpaaDoor
open Go.RowKit Go.Dx
theorem size_tab6 : (Tryd.prog.info? 26).map (·.size) = some 1 := by kernel_rfl
theorem hold_b6 {P : Program} {w : World} {ops : Array Oper} {rest : List Oper} {act : Act} {Q : Exit → Act → World → Prop} {dst : Option Tmp} {t ty : TypeId} {n : Nat} {ps : Array (Nat × Operand)} {pos : String} {after : Array Edge} {g : Option (Nat × Bool)}
  (h : Hid (wpList P ops Q ({ dst := dst, op := .buildSlice t n ps, type := ty, pos := pos, after := after, guard := g } :: rest) act w)) : wpList P ops Q ({ dst := dst, op := .buildSlice t n ps, type := ty, pos := pos, after := after, guard := g } :: rest) act w := h
theorem build_5s {w : World} {ops : Array Oper} {rest : List Oper} {act : Act} {Q : Exit → Act → World → Prop} {ty : TypeId} {pos : String} {after : Array Edge} (d : Nat) (ps : Array (Nat × Operand)) (us : List Value) (hn : us.length = 5)
  (hf : Instr.fill (fun i => some (i * 1, 1)) ((Array.range (5 * 1)).map ((Value.string ⟨#[]⟩).cells[· % (Value.string ⟨#[]⟩).cells.size]!)) ((ps.map fun (i, x) => (i, act.eval x)).toList) = some us.toArray)
  (hK : ∀ w', Own w' w.heap.size 9 1 (some ⟨w.heap.size, 0, none⟩) 5 5 us → Below w.heap.size w w' → wpList Tryd.prog ops Q rest (act.put (some d) (.slice (some ⟨w.heap.size, 0, none⟩) 5 5)) w') :
  wpList Tryd.prog ops Q ({ dst := some d, op := .buildSlice 57 5 ps, type := ty, pos := pos, after := after, guard := none } :: rest) act w :=
 build_own d 57 5 ps 9 Tryd.underlying57 (.string ⟨#[]⟩) 16 info_str us hn (by decide) (by decide) hf (fun w' h1 h2 _ => hK w' h1 h2)
set_option maxRecDepth 100000 in
set_option maxHeartbeats 4000000 in
theorem ref6_Encode (H : TH) (t : Ta) (w : World) (hT : TaE w H t) (hW : WhB t) (hl : (encTa t).length ≤ 1000000000) :
  Calls Tryd.prog 8 #[H.v] w (Gives 5 1 (encTa t).length ((encTa t).map B8) w) := by
 have HW := hide hW
 have HL := hide hl
 have Hm := hide hT
 clear hW hl hT
 obtain ⟨⟨a0, n0, c0⟩, ⟨a1, n1, c1⟩, ps0, ps1, ⟨ad, nd, cd⟩, ⟨ac, nc, cc⟩, ⟨an, nn, cn⟩, ⟨af, nf, cf⟩, ⟨aw, nw, cw⟩⟩ := H
 unfold TH.v
 simp only [hdv]
 have Y1 := Box.new w 29 #[.slice a0 n0 c0, .slice a1 n1 c1, .slice ad nd cd, .slice ac nc cc, .slice an nn cn, .slice af nf cf, .slice aw nw cw]
 have hba := blo w (.cells #[.slice a0 n0 c0, .slice a1 n1 c1, .slice ad nd cd, .slice ac nc cc, .slice an nn cn, .slice af nf cf, .slice aw nw cw] 29)
 go_enter Tryd.func8, Tryd.ntmps8
 go_upto_region 1 with fail
 generalize w.alloc (.cells _ 29) = w2 at *
 obtain ⟨H, hH⟩ : ∃ H : TH, H = ⟨(a0, n0, c0), (a1, n1, c1), ps0, ps1, (ad, nd, cd), (ac, nc, cc), (an, nn, cn), (af, nf, cf), (aw, nw, cw)⟩ := ⟨_, rfl⟩
 have HX2 : Box w2 w.heap.size 29 (tcells H) := by rw [hH]; exact Y1
 have HT2 : TaE w2 H t := by rw [hH]; exact Hm.out.below hba
 have HX5 : Hid (Box w2 w.heap.size 29 [.slice a0 n0 c0, .slice a1 n1 c1, .slice ad nd cd, .slice ac nc cc, .slice an nn cn, .slice af nf cf, .slice aw nw cw]) := hide Y1
 have HHH := hide hH
 clear hH Hm Y1
 obtain ⟨gT, hgT⟩ : ∃ gT, Hid (w.heap.size = gT) := ⟨_, hide rfl⟩
 rw [hgT.out] at HX2 HX5 ⊢
 have HBA := hide hba
 clear hba
 obtain ⟨B, hB⟩ : ∃ B, Hid (w2.heap.size = B) := ⟨_, hide rfl⟩
 have hb22 : Below B w2 w2 := Below.refl _ _
 go_wp2_with fail
 go_loopg [3, 4] 2 (fun gh v3 v4 w' => ∃ (k : Nat) (o : Option Addr) (n c : Nat), k ≤ 2 ∧ gh = 2 - k ∧ v4 = .int .i64 (k : Int) ∧ v3 = .slice o n c ∧ Own w' B 5 1 o n c ((encK t k).map B8) ∧ Below B w2 w')
 case atStart => exact ⟨0, none, 0, 0, Nat.zero_le _, rfl, rfl, rfl, Own.nil _ _ _ _, hb22⟩
 case round =>
  clear hb22
  obtain ⟨k, o, n, c, hk, rfl, rfl, rfl, hO, hb⟩ := hrel
  have hb' : Below w2.heap.size w2 wr := by rw [hB.out]; exact hb
  have hBw : B ≤ wr.heap.size := by rw [← hB.out]; exact hb'.size
  have hnE : n = (encK t k).length := hO.sl.n_eq
  have hn9 : n ≤ 1000000000 := by rw [hnE]; exact Nat.le_trans (encK_le t hk) HL.out
  by_cases hk2 : k < 2
  ·have d0 : decide ((k : Int) < 2) = true := decide_eq_true (by omega)
   obtain ⟨ar, nr, cr, ps, hck, hR2, hen⟩ := selE HT2 hk2
   have hRr := hR2.below hb'
   have cK : wr.cell? ⟨gT, k, none⟩ = some (.slice ar nr cr) := cell_below (HX2.at_ hck) hb'
   have hnr : nr = ps.length := hRr.top.nf rc_len (by decide)
   have hpl : ps.length = (langE t k).length := by rw [← hen]; unfold rus; rw [List.length_map]
   have HPL := hide hpl
   have HEN := hide hen
   have htot : (encK t k).length + (encMany encRu (langE t k)).length ≤ 1000000000 := by
    have h1 := encK_le t (k := k + 1) (by omega)
    rw [encK_step t hk2, List.length_append] at h1
    exact Nat.le_trans h1 HL.out
   have HTOT := hide htot
   have hnr9 : nr ≤ 1000000000 := by
    have h2 : (langE t k).length ≤ ((langE t k).flatMap encRu).length := flatMap_ge (fun r _ => by unfold encRu encBytes; rw [List.length_append, List.length_append]; have := encInt_pos (r.text.data.toList.length : Int); omega)
    unfold encMany at htot
    rw [List.length_append] at htot
    omega
   have HNE := hide hnE
   have HR2 := hide hR2
   clear hck hen hpl htot hR2 hnE
   subst hnr
   have hIn := hide (ref_Int (ps.length : Int) (by omega) (by omega) wr)
   go_wp2_with (first
    | (with_reducible refine index_arrF 13 27 _ _ 26 2 Tryd.underlying27 size_tab6 gT 0 rfl _ _ k rfl rfl hk2 ?_; rw [Nat.zero_add])
    | (go_at_call 26; refine hIn.out.mono ?_; rintro e w5 ⟨a5, c5, rfl, hO5, hb5⟩; refine hold ?_))
   refine hide ?_
   have hO1 := hO.below hb5
   have hRr5 := hRr.below hb5
   have hb25 := hb.trans (hb5.mono hBw)
   have hB5 : B ≤ w5.heap.size := Nat.le_trans hBw hb5.size
   have hi9 := encInt_le (ps.length : Int)
   clear hO hRr hb hb' hBw cK hb5 hIn
   go_wp2_with (at_builtin; refine app_bs rfl _ _ rfl w5 B o n c _ rfl hO1 a5 _ c5 (encInt (ps.length : Int)) rfl hO5.sl (by omega) hB5 (Below.refl _ _) ?_; intro a6 c6 w6 hO6 gb6 hb6; refine hold ?_)
   refine hide ?_
   have hb26 := hb25.trans hb6
   have hB6 : B ≤ w6.heap.size := Nat.le_trans hB5 hb6.size
   have hO66 : Own w6 B 5 1 a6 (n + (encInt (ps.length : Int)).length) c6 ((encK t k ++ (encInt (ps.length : Int) ++ ((langE t k).take 0).flatMap encRu)).map B8) := by
    rw [List.map_append]
    simpa using hO6
   clear hO1 hRr5 hb25 hB5 hO5 gb6 hb6 hO6 hi9
   go_wp2_with fail
   go_loopg [3, 6] ps.length (fun gh v3 v6 w' => ∃ (i : Nat) (o : Option Addr) (n c : Nat), i ≤ ps.length ∧ gh = ps.length - i ∧ v6 = .int .i64 (i : Int) ∧ v3 = .slice o n c ∧ Own w' B 5 1 o n c ((encK t k ++ (encInt (ps.length : Int) ++ ((langE t k).take i).flatMap encRu)).map B8) ∧ Below B w2 w')
   case atStart => exact ⟨0, a6, _, c6, Nat.zero_le _, rfl, rfl, rfl, hO66, hb26⟩
   case round =>
    clear hO66 hb26 hB6
    obtain ⟨i, o, n, c, hi, rfl, rfl, rfl, hO, hb⟩ := hrel
    have hb' : Below w2.heap.size w2 wr := by rw [hB.out]; exact hb
    have hBw : B ≤ wr.heap.size := by rw [← hB.out]; exact hb'.size
    have hnE := hide hO.sl.n_eq
    by_cases hin : i < ps.length
    ·have d1 : decide ((i : Int) < (ps.length : Int)) = true := decide_eq_true (by omega)
     have d1n : decide (i < ps.length) = true := decide_eq_true hin
     obtain ⟨p, hp⟩ : ∃ p, ps[i]? = some p := ⟨_, List.getElem?_eq_getElem hin⟩
     obtain ⟨b, o0, hab, hbb, z0, z1, z2⟩ := ru_cells HR2.out.top hp
     subst hab
     have hrow := HR2.out.row p (List.mem_of_getElem? hp)
     have hr : (langE t k)[i]? = some p.1 := by rw [← HEN.out]; unfold rus; rw [List.getElem?_map, hp]; rfl
     have hwh := HW.out p.1 (by have hm := List.mem_of_getElem? hr; unfold langE at hm; split at hm; exact .inl hm; exact .inr hm)
     have hnx := take_enc1 hr
     have hle : (encK t k).length + (encInt (ps.length : Int) ++ ((langE t k).take i).flatMap encRu ++ encRu p.1).length ≤ 1000000000 := by
      have h1 := encMany_take (l := langE t k) (i := i + 1)
      rw [hnx, ← HPL.out, ← List.append_assoc] at h1
      have h2 := HTOT.out
      omega
     have hnn : n + (encRu p.1).length ≤ 1000000000 := by
      have h3 := hnE.out
      rw [List.length_append] at h3
      rw [List.length_append] at hle
      omega
     obtain ⟨⟨tx, wh, cs⟩, ⟨qa, qn, qc⟩⟩ := p
     simp only at z0 z1 z2 hrow hwh hnx hnn
     have he : (encRu ⟨tx, wh, cs⟩).length = (encBytes tx.data.toList).length + ((encInt wh).length + (encBytes cs).length) := by unfold encRu; rw [List.length_append, List.length_append]
     have htx : tx.size ≤ (encBytes tx.data.toList).length := by have := encBytes_len tx.data.toList; have e : tx.data.toList.length = tx.size := Array.length_toList; omega
     have hcx := encBytes_len cs
     have HNX := hide hnx
     have HCL : Hid (∀ w' : World, Below B w2 w' → w'.cell? ⟨b, o0 + i * 3, none⟩ = some (.string tx) ∧ w'.cell? ⟨b, o0 + i * 3 + 1, none⟩ = some (.int .i64 wh) ∧ w'.cell? ⟨b, o0 + i * 3 + 2, none⟩ = some (.slice qa qn qc) ∧ Sl w' 1 qa qn qc (cs.map B8)) := hide (fun w' h => by
      have h' : Below w2.heap.size w2 w' := by rw [hB.out]; exact h
      exact ⟨cell_below z0 h', cell_below z1 h', cell_below z2 h', hrow.below h'⟩)
     obtain ⟨e1, he1⟩ : ∃ x, Hid ((encBytes tx.data.toList).length = x) := ⟨_, hide rfl⟩
     obtain ⟨e2, he2⟩ : ∃ x, Hid ((encInt wh).length = x) := ⟨_, hide rfl⟩
     obtain ⟨e3, he3⟩ : ∃ x, Hid ((encBytes cs).length = x) := ⟨_, hide rfl⟩
     rw [he1.out, he2.out, he3.out] at he
     rw [he] at hnn
     rw [he1.out] at htx
     rw [he3.out] at hcx
     clear hp hr hle hnx hb' z0 z1 z2 hrow he hbb
     have x0 := (HCL.out wr hb).1
     have hB1 := ref_Bytes tx (by omega) wr
     rw [he1.out] at hB1
     have HB1 := hide hB1
     clear hB1
     go_wp2_with (first
      | (with_reducible refine index_rowF 30 24 _ _ 45 Tryd.underlying24 3 size_rule b o0 ps.length cr rfl _ _ i rfl rfl hin ?_)
      | (go_at_call 27; refine HB1.out.mono ?_; rintro e w5 ⟨a5, c5, rfl, hO5, hb5⟩; refine hold ?_))
     refine hide ?_
     have hO1 := hO.below hb5
     have hb25 := hb.trans (hb5.mono hBw)
     have hB5 : B ≤ w5.heap.size := Nat.le_trans hBw hb5.size
     have hs5 := hO5.sl
     clear hO hb hBw hb5 hO5 HB1 x0
     go_wp2_with (at_builtin; refine app_bs rfl _ _ rfl w5 B o n c _ rfl hO1 a5 e1 c5 (encBytes tx.data.toList) rfl hs5 (by omega) hB5 (Below.refl _ _) ?_; intro a6 c6 w6 hO6 gb6 hb6; refine hold ?_)
     refine hide ?_
     have hb26 := hb25.trans hb6
     have hB6 : B ≤ w6.heap.size := Nat.le_trans hB5 hb6.size
     have x1 := (HCL.out w6 hb26).2.1
     clear hO1 hb25 hB5 hs5 gb6 hb6
     have hI1 := ref_Int wh hwh.1 hwh.2 w6
     rw [he2.out] at hI1
     have HI1 := hide hI1
     clear hI1
     go_wp2_with (first
      | (with_reducible refine index_rowF 38 24 _ _ 45 Tryd.underlying24 3 size_rule b o0 ps.length cr rfl _ _ i rfl rfl hin ?_)
      | (go_at_call 26; refine HI1.out.mono ?_; rintro e w7 ⟨a7, c7, rfl, hO7, hb7⟩; refine hold ?_))
     refine hide ?_
     have hO67 := hO6.below hb7
     have hb27 := hb26.trans (hb7.mono hB6)
     have hB7 : B ≤ w7.heap.size := Nat.le_trans hB6 hb7.size
     have hs7 := hO7.sl
     clear hO6 hb26 hB6 hb7 hO7 HI1 x1
     go_wp2_with (at_builtin; refine app_bs rfl _ _ rfl w7 B a6 (n + e1) c6 _ rfl hO67 a7 e2 c7 (encInt wh) rfl hs7 (by omega) hB7 (Below.refl _ _) ?_; intro a8 c8 w8 hO8 gb8 hb8; refine hold ?_)
     refine hide ?_
     have hb28 := hb27.trans hb8
     have hB8 : B ≤ w8.heap.size := Nat.le_trans hB7 hb8.size
     have x2 := (HCL.out w8 hb28).2.2.1
     have hsc := (HCL.out w8 hb28).2.2.2
     clear hO67 hb27 hB7 hs7 gb8 hb8
     have hB3 := ref_Bytes (S8 cs) (by rw [S8_size]; omega) w8
     rw [S8_list, he3.out] at hB3
     have HB3 := hide hB3
     clear hB3
     go_wp2_with (first
      | (with_reducible refine index_rowF 46 24 _ _ 45 Tryd.underlying24 3 size_rule b o0 ps.length cr rfl _ _ i rfl rfl hin ?_)
      | (with_reducible refine to_str 49 _ qa qn qc cs rfl hsc ?_)
      | (go_at_call 27; refine HB3.out.mono ?_; rintro e w9 ⟨a9, c9, rfl, hO9, hb9⟩; refine hold ?_))
     refine hide ?_
     have hO89 := hO8.below hb9
     have hb29 := hb28.trans (hb9.mono hB8)
     have hB9 : B ≤ w9.heap.size := Nat.le_trans hB8 hb9.size
     have hs9 := hO9.sl
     clear hO8 hb28 hB8 hb9 hO9 HB3 x2 hsc
     go_wp2_with (at_builtin; refine app_bs rfl _ _ rfl w9 B a8 (n + e1 + e2) c8 _ rfl hO89 a9 e3 c9 (encBytes cs) rfl hs9 (by omega) hB9 (Below.refl _ _) ?_; intro a10 c10 w10 hO10 gb10 hb10; refine hold ?_)
     refine hide ?_
     have hb210 := hb29.trans hb10
     have hfin : Own w10 B 5 1 a10 (n + e1 + e2 + e3) c10 ((encK t k ++ (encInt (ps.length : Int) ++ ((langE t k).take (i + 1)).flatMap encRu)).map B8) := by
      rw [HNX.out]
      unfold encRu at hO10 ⊢
      simpa [List.map_append, List.append_assoc] using hO10
     clear hO89 hb29 hB9 hs9 gb10 hb10 hO10
     go_wp2_with fail
     go_roundg (ps.length - (i + 1))
     case measure => omega
     case rel => exact ⟨i + 1, a10, _, c10, by omega, rfl, by go_num, rfl, hfin, hb210⟩
    ·obtain rfl : i = ps.length := by omega
     have d1 : decide ((ps.length : Int) < (ps.length : Int)) = false := by simp
     have hfin : Own wr B 5 1 o n c ((encK t (k + 1)).map B8) := by
      have e : (langE t k).take ps.length = langE t k := List.take_of_length_le (by rw [HPL.out]; exact Nat.le_refl _)
      rw [e, HPL.out] at hO
      rw [encK_step t hk2]
      exact hO
     clear hO
     go_wp2_with fail
     go_roundg (2 - (k + 1))
     case measure => omega
     case rel => exact ⟨k + 1, o, n, c, by omega, rfl, by go_num, rfl, hfin, hb⟩
  ·obtain rfl : k = 2 := by omega
   have d0 : decide (((2 : Nat) : Int) < 2) = false := by decide
   have HT9 := HT2.below hb'
   obtain ⟨E5, hE5⟩ : ∃ x, Hid ((encStrs [S8 t.dig, S8 t.cap, S8 t.num, S8 t.fin, S8 t.sw]) = x) := ⟨_, hide rfl⟩
   have hlen : n + E5.length ≤ 1000000000 := by
    have h := HL.out
    rw [encTa_K, List.length_append, hE5.out] at h
    omega
   have hsz : ∀ s ∈ ([S8 t.dig, S8 t.cap, S8 t.num, S8 t.fin, S8 t.sw] : List ByteArray), s.size ≤ 1000000000 := fun s hs => by
    have h1 : s.size ≤ (encStrs [S8 t.dig, S8 t.cap, S8 t.num, S8 t.fin, S8 t.sw]).length := by
     have h2 := mem_flatMap_len (fun s : ByteArray => encBytes s.data.toList) _ s hs
     have h3 := encBytes_len s.data.toList
     have e : s.data.toList.length = s.size := Array.length_toList
     unfold encStrs
     rw [List.length_append]
     omega
    rw [hE5.out] at h1
    omega
   have HSZ := hide hsz
   clear hsz
   have sd : Sl wr 1 ad nd cd (t.dig.map B8) := by have h := HT9.d; rw [HHH.out] at h; exact h
   have sc : Sl wr 1 ac nc cc (t.cap.map B8) := by have h := HT9.c; rw [HHH.out] at h; exact h
   have sn : Sl wr 1 an nn cn (t.num.map B8) := by have h := HT9.n; rw [HHH.out] at h; exact h
   have sf : Sl wr 1 af nf cf (t.fin.map B8) := by have h := HT9.f; rw [HHH.out] at h; exact h
   have sw : Sl wr 1 aw nw cw (t.sw.map B8) := by have h := HT9.s; rw [HHH.out] at h; exact h
   have q2 : wr.cell? ⟨gT, 2, none⟩ = some (.slice ad nd cd) := cell_below (HX5.out.at_ (j := 2) rfl) hb'
   have q3 : wr.cell? ⟨gT, 3, none⟩ = some (.slice ac nc cc) := cell_below (HX5.out.at_ (j := 3) rfl) hb'
   have q4 : wr.cell? ⟨gT, 4, none⟩ = some (.slice an nn cn) := cell_below (HX5.out.at_ (j := 4) rfl) hb'
   have q5 : wr.cell? ⟨gT, 5, none⟩ = some (.slice af nf cf) := cell_below (HX5.out.at_ (j := 5) rfl) hb'
   have q6 : wr.cell? ⟨gT, 6, none⟩ = some (.slice aw nw cw) := cell_below (HX5.out.at_ (j := 6) rfl) hb'
   have hcall := hide (fun (w' : World) (a : Option Addr) (h : Sl w' 1 a 5 5 ([S8 t.dig, S8 t.cap, S8 t.num, S8 t.fin, S8 t.sw].map Value.string)) => ref_Strings [S8 t.dig, S8 t.cap, S8 t.num, S8 t.fin, S8 t.sw] (fun x hx => by have := HSZ.out x hx; omega) (by rw [hE5.out]; omega) (by show 5 ≤ 140737488355000; decide) a 5 5 w' h)
   rw [hE5.out] at hcall
   have hK2 : (encTa t) = encK t 2 ++ E5 := by rw [encTa_K, hE5.out]
   have HK2 := hide hK2
   have HNE := hide hnE
   clear hK2 HT9 hnE
   go_wp2_with (first
    | (with_reducible refine to_str 55 _ ad nd cd t.dig rfl sd ?_)
    | (with_reducible refine to_str 58 _ ac nc cc t.cap rfl sc ?_)
    | (with_reducible refine to_str 61 _ an nn cn t.num rfl sn ?_)
    | (with_reducible refine to_str 64 _ af nf cf t.fin rfl sf ?_)
    | (with_reducible refine to_str 67 _ aw nw cw t.sw rfl sw ?_)
    | (with_reducible refine hold_b6 ?_))
   refine hide ?_
   refine build_5s 68 _ [.string (S8 t.dig), .string (S8 t.cap), .string (S8 t.num), .string (S8 t.fin), .string (S8 t.sw)] rfl (by simp [Instr.fill, go_sem, S8]) ?_
   intro w5 hO5 hb5
   have hO1 := hO.below hb5
   have hB5 : B ≤ w5.heap.size := Nat.le_trans hBw hb5.size
   have hb25 := hb.trans (hb5.mono hBw)
   have hs5 := hO5.sl
   clear hO hb hb' hBw hb5 hO5 sd sc sn sf sw q2 q3 q4 q5 q6
   go_wp2_with (go_at_call 28; refine (hcall.out w5 _ hs5).mono ?_; rintro e w6 ⟨a6, c6, rfl, hO6, hb6⟩; refine hold ?_)
   refine hide ?_
   have hO2 := hO1.below hb6
   have hB6 : B ≤ w6.heap.size := Nat.le_trans hB5 hb6.size
   have hb26 := hb25.trans (hb6.mono hB5)
   have hs6 := hO6.sl
   clear hO1 hB5 hb25 hs5 hO6 hb6 hcall
   go_wp2_with (at_builtin; refine app_bs rfl _ _ rfl w6 B o n c _ rfl hO2 a6 E5.length c6 E5 rfl hs6 (by omega) hB6 (Below.refl _ _) ?_; intro a8 c8 w8 hO8 gb8 hb8; refine hold ?_)
   refine hide ?_
   have hb28 := hb26.trans hb8
   go_wp2_with fail
   go_ret
   have eL : (encTa t).length = n + E5.length := by rw [HK2.out, List.length_append, HNE.out]
   rw [eL, HK2.out, List.map_append]
   exact ⟨a8, c8, rfl, hO8.mono (by rw [← hB.out]; exact HBA.out.size), HBA.out.trans (by have h := hb28.mono (show w.heap.size ≤ B by rw [← hB.out]; exact HBA.out.size); exact h)⟩
end Go.Proofs.YtfagjaabladgpaaDoor
end

section
/- Chapter 06: the reference's Valid. -/
namespace Go.Proofs.YtfagjaabladgpaaDoor
open Go.RowKit Go.Dx

end Go.Proofs.YtfagjaabladgpaaDoor
end

section
/- Chapter 06: laws of the walk for Valid: an array of tables, a look-up in a set, a letter as a text. -/
namespace Go.Dx
open Go.RowKit
theorem run_look {P : Program} {w : World} {K : TypeId} (hK0 : NameKey P K) {t e : TypeId} (ht : P.underlying t = some (.map K e)) (hz : ∀ w, (zeroValue e).run P w = .ok (.bool false) w) {b : Nat} {ns : List (ByteArray × Int)} (hown : NSet w b ns) (n : ByteArray × Int) :
  (Instr.lookup t (.map (some b)) (nameV n) false).run P w = .ok (.bool (isIn ns n)) w := by
 obtain ⟨es, clock, hb, he⟩ := hown.ex
 obtain ⟨r, hr, hr2⟩ := find_key hK0 w n es.toList ns he
 have hck := name_key hK0 w es.isEmpty n
 cases r with
 | none =>
  cases hi : isIn ns n
  ·simp [Instr.lookup, run_underlying ht, MapKept.run_getObj_map hb, hck, hr, hz]
  ·rw [hi] at hr2; cases hr2
 | some q =>
  cases hi : isIn ns n
  ·rw [hi] at hr2; cases hr2
  ·rw [hi] at hr2
   have : q.2 = .bool true := by simpa using hr2
   obtain ⟨q1, q2⟩ := q
   subst this
   simp [Instr.lookup, run_underlying ht, MapKept.run_getObj_map hb, hck, hr]
theorem NSet.drewN {w : World} {b : Nat} {ns : List (ByteArray × Int)} (h : NSet w b ns) (n : Nat) : NSet (w.drewN n) b ns := ⟨h.ex⟩
theorem NSet.drew {w : World} {b : Nat} {ns : List (ByteArray × Int)} (h : NSet w b ns) : NSet w.drew b ns := ⟨h.ex⟩
theorem quiet_look {P : Program} {w : World} {ops : Array Oper} {rest : List Oper} {o : Oper} {a : Act} {Q : Act → Prop} {K : TypeId} (hK0 : NameKey P K) (m x : Operand) (t e : TypeId) (hop : o.op = Op.lookup t m x false) (ht : P.underlying t = some (.map K e))
  (hz : ∀ w, (zeroValue e).run P w = .ok (.bool false) w) (b : Nat) (ns : List (ByteArray × Int)) (hm : a.eval m = .map (some b)) (hown : NSet w b ns) (n : ByteArray × Int) (hx : a.eval x = nameV n) (hw : Region.wanted o (yielded ops a.tmps) = true)
  (hK : wpQuiet P ops (fun w' => ∃ n, w' = w.drewN n) Q rest (a.put o.dst (.bool (isIn ns n)))) : wpQuiet P ops (fun w' => ∃ n, w' = w.drewN n) Q (o :: rest) a := by
 refine quiet_in (.bool (isIn ns n)) hw ?_ hK
 rintro w' ⟨k, rfl⟩
 have hrun := run_look hK0 ht hz (hown.drewN k) n
 simp [execOp, hop, hm, hx, hrun, Result.andThen]
theorem encode_chr : ∀ u : Nat, u < 128 → chars (Utf8.encode (u : Int)) = [UInt8.ofNat u] := by decide +kernel
section
variable {P : Program} {w : World} {ops : Array Oper} {rest : List Oper} {act : Act} {Q : Exit → Act → World → Prop} {ty : TypeId} {pos : String} {after : Array Edge}
theorem index_wrap (d : Nat) (t e n : TypeId) (x y : Operand) (ht : P.underlying t = some (.array n e)) (hsz : (P.info? e).map (·.size) = some 1) (hag : IsAgg P e) (cs : List Value) (hx : act.eval x = .agg cs.toArray) (k : IntKind) (i : Nat) (hy : act.eval y = .int k (i : Int)) (hi : i < n)
  (u : Value) (hu : cs[i]? = some u) (hK : wpList P ops Q rest (act.put (some d) (.agg #[u])) w) :
  wpList P ops Q ({ dst := some d, op := .index t x y, type := ty, pos := pos, after := after, guard := none } :: rest) act w := by
 refine wpList_plain rfl fun K hK' => ?_
 obtain ⟨i0, hi0, hs0⟩ := Option.map_eq_some_iff.1 hsz
 have h3 : (0 : Int) ≤ i ∧ (i : Int) < n := by omega
 have hil := (List.getElem?_eq_some_iff.1 hu).1
 have hex : List.take 1 (List.drop i cs) = [u] := by
  rw [List.drop_eq_getElem_cons hil, List.take_succ_cons, List.take_zero, (List.getElem?_eq_some_iff.1 hu).2]
 have hrun : (Instr.index t (.agg cs.toArray) (.int k (i : Int))).run P w = .ok (.agg #[u]) w := by
  simp [Instr.index, asIntOf, run_underlying ht, sizeOf, typeInfo, hi0, hs0, h3, part, run_isAgg hag, hex, hi]
 unfold Oper.wp
 simp [execOp, hx, hy, hrun, Result.andThen]
 exact hK' _ _ hK
end
theorem four_cases {p : Nat → Prop} (h0 : p 0) (h1 : p 1) (h2 : p 2) (h3 : p 3) : ∀ k, k < 4 → p k := by
 intro k hk
 rcases k with _ | _ | _ | _ | k
 ·exact h0
 ·exact h1
 ·exact h2
 ·exact h3
 ·omega
def inds (t : Ta) : List (List UInt8) := [t.cap, t.num, t.fin, t.sw]
def gI (t : Ta) (k : Nat) : Bool := (decide (t.dig.length = 10) && okCells t.dig) && ((inds t).take k).all indic
theorem gI_step {t : Ta} {k : Nat} {l : List UInt8} (h : (inds t)[k]? = some l) : gI t (k + 1) = (gI t k && indic l) := by
 unfold gI
 rw [take_succ_get h, List.all_append]
 simp [Bool.and_assoc]
def gR (t : Ta) (k : Nat) : Bool := gI t 4 && (List.range k).all fun j => (langK t j).all ruOk
theorem gR_step {t : Ta} {k : Nat} : gR t (k + 1) = (gR t k && (langK t k).all ruOk) := by
 unfold gR
 rw [List.range_succ, List.all_append]
 simp [Bool.and_assoc]
theorem good_R (t : Ta) : goodT t = gR t 2 := by
 unfold goodT gR gI inds
 simp [List.range_succ, langK, Bool.and_assoc]
def HasSet (w : World) (v : Value) (bk lim : Nat) (l : List Ru) : Prop := ∃ b, v = .map (some b) ∧ b ≠ bk ∧ b < lim ∧ NSet w b (l.map nmOf)
theorem HasSet.below {w w' : World} {v : Value} {bk lim : Nat} {l : List Ru} (h : HasSet w v bk lim l) (hb : Below w.heap.size w w') : HasSet w' v bk lim l := by
 obtain ⟨b, h1, h2, h3, h4⟩ := h
 exact ⟨b, h1, h2, h3, h4.below hb⟩
theorem HasSet.grown {w w' : World} {v : Value} {bk lim g : Nat} {l : List Ru} (h : HasSet w v bk lim l) (hg : w.grownBy w' (some g)) (hne : g = bk ∨ lim ≤ g) : HasSet w' v bk lim l := by
 obtain ⟨b, h1, h2, h3, h4⟩ := h
 refine ⟨b, h1, h2, h3, h4.kept hg fun e => ?_⟩
 cases e
 omega
theorem HasSet.now {w : World} {v : Value} {bk lim : Nat} {l : List Ru} (h : HasSet w v bk lim l) : HasSet w v bk w.heap.size l := by
 obtain ⟨b, h1, h2, h3, h4⟩ := h
 exact ⟨b, h1, h2, h4.lt, h4⟩
end Go.Dx
namespace Go.Proofs.YtfagjaabladgpaaDoor
open Go.RowKit Go.Dx
theorem nameKey : NameKey Tryd.prog 112 := ⟨⟨_, _, Tryd.underlying112, by decide, by decide, rfl, rfl, Tryd.underlying9, Tryd.underlying3⟩, by kernel_rfl⟩
theorem zero_bool (w : World) : (zeroValue 4).run Tryd.prog w = .ok (.bool false) w := by kernel_rfl
theorem size_table : (Tryd.prog.info? 26).map (·.size) = some 1 := by kernel_rfl
theorem size_map : (Tryd.prog.info? 109).map (·.size) = some 1 := by kernel_rfl
theorem size_row : (Tryd.prog.info? 23).map (·.size) = some 1 := by kernel_rfl
theorem agg_table : IsAgg Tryd.prog 26 := .inr ⟨_, Tryd.underlying26⟩
section
variable {w : World} {ops : Array Oper} {rest : List Oper} {o : Oper} {act : Act} {Q : Exit → Act → World → Prop} {ty : TypeId} {pos : String} {after : Array Edge}
theorem idx_tab (d : Nat) (x y : Operand) (cs : List Value) (hx : act.eval x = .agg cs.toArray) (k : IntKind) (i : Nat) (hy : act.eval y = .int k (i : Int)) (hi : i < 2)
  (u : Value) (hu : cs[i]? = some u) (hK : wpList Tryd.prog ops Q rest (act.put (some d) (.agg #[u])) w) :
  wpList Tryd.prog ops Q ({ dst := some d, op := .index 27 x y, type := ty, pos := pos, after := after, guard := none } :: rest) act w :=
 index_wrap d 27 26 2 x y Tryd.underlying27 size_table agg_table cs hx k i hy hi u hu hK
theorem idx_bb (d : Nat) (x y : Operand) (a : Option Addr) (n c : Nat) (cs : List Value) (hx : act.eval x = .slice a n c) (ht : Sl w 1 a n c cs) (k : IntKind) (iv : Int) (i : Nat) (hy : act.eval y = .int k iv) (hiv : iv = (i : Int))
  (u : Value) (hu : cs[i]? = some u)
  (hK : ∀ b o, w.cell? ⟨b, o, none⟩ = some u → b < w.heap.size → wpList Tryd.prog ops Q rest (act.put (some d) (.pointer (some ⟨b, o, none⟩))) w) :
  wpList Tryd.prog ops Q ({ dst := some d, op := .indexAddr 40 x y, type := ty, pos := pos, after := after, guard := none } :: rest) act w :=
 index_sl d 40 x y 23 Tryd.underlying40 size_row a n c _ hx ht k iv i hy hiv u hu hK
theorem look_nm (hg : o.guard = none) (m x : Operand) (hop : o.op = Op.lookup 109 m x false) (b : Nat) (ns : List (ByteArray × Int)) (hm : act.eval m = .map (some b)) (hown : NSet w b ns) (n : ByteArray × Int) (hx : act.eval x = nameV n) (bv : Bool) (hbv : isIn ns n = bv)
  (hK : wpList Tryd.prog ops Q rest (act.put o.dst (.bool bv)) w) : wpList Tryd.prog ops Q (o :: rest) act w := by
 subst hbv
 exact look_name nameKey hg m x 109 4 hop Tryd.underlying109 zero_bool b ns hm hown n hx hK
theorem qlook_nm {Q : Act → Prop} (m x : Operand) (hop : o.op = Op.lookup 109 m x false) (b : Nat) (ns : List (ByteArray × Int)) (hm : act.eval m = .map (some b)) (hown : NSet w b ns) (n : ByteArray × Int) (hx : act.eval x = nameV n) (hw : Region.wanted o (yielded ops act.tmps) = true) (bv : Bool) (hbv : isIn ns n = bv)
  (hK : wpQuiet Tryd.prog ops (fun w' => ∃ n, w' = w.drewN n) Q rest (act.put o.dst (.bool bv))) : wpQuiet Tryd.prog ops (fun w' => ∃ n, w' = w.drewN n) Q (o :: rest) act := by
 subst hbv
 exact quiet_look nameKey m x 109 4 hop Tryd.underlying109 zero_bool b ns hm hown n hx hw hK
theorem qidx_arr {Q : Act → Prop} (d : Nat) (x y : Operand) (b i : Nat) (hx : act.eval x = .pointer (some ⟨b, 0, none⟩)) (hy : act.eval y = .int .i64 (i : Int)) (hi : i < 2)
  (hK : wpQuiet Tryd.prog ops (fun w' => ∃ n, w' = w.drewN n) Q rest (act.put (some d) (.pointer (some ⟨b, i, none⟩)))) :
  wpQuiet Tryd.prog ops (fun w' => ∃ n, w' = w.drewN n) Q ({ dst := some d, op := .indexAddr 110 x y, type := ty, pos := pos, after := after, guard := none } :: rest) act := by
 refine quiet_in _ rfl ?_ hK
 intro w' _
 have h2 : (0 : Int) ≤ i ∧ (i : Int) < 2 := by omega
 obtain ⟨i0, hi0, hs0⟩ := Option.map_eq_some_iff.1 size_map
 have hrun : (Instr.indexAt 110 (.pointer (some ⟨b, 0, none⟩)) (.int .i64 (i : Int))).run Tryd.prog w' = .ok (.pointer (some ⟨b, i, none⟩)) w' := by
  simp [Instr.indexAt, asIntOf, run_underlying Tryd.underlying110, sizeOf, typeInfo, hi0, hs0, h2, hi, Addr.add_lit, Instr.sureAddr]
 simp [execOp, hx, hy, hrun, Result.andThen]
theorem sidx_arr {Q : Act → Prop} (d : Nat) (x y : Operand) (b i : Nat) (hx : act.eval x = .pointer (some ⟨b, 0, none⟩)) (hy : act.eval y = .int .i64 (i : Int)) (hi : i < 2)
  (hK : wpStill Tryd.prog ops w Q rest (act.put (some d) (.pointer (some ⟨b, i, none⟩)))) :
  wpStill Tryd.prog ops w Q ({ dst := some d, op := .indexAddr 110 x y, type := ty, pos := pos, after := after, guard := none } :: rest) act := by
 refine still_at _ rfl ?_ hK
 have h2 : (0 : Int) ≤ i ∧ (i : Int) < 2 := by omega
 obtain ⟨i0, hi0, hs0⟩ := Option.map_eq_some_iff.1 size_map
 have hrun : (Instr.indexAt 110 (.pointer (some ⟨b, 0, none⟩)) (.int .i64 (i : Int))).run Tryd.prog w = .ok (.pointer (some ⟨b, i, none⟩)) w := by
  simp [Instr.indexAt, asIntOf, run_underlying Tryd.underlying110, sizeOf, typeInfo, hi0, hs0, h2, hi, Addr.add_lit, Instr.sureAddr]
 simp [execOp, hx, hy, hrun, Result.andThen]
theorem put_nm (hg : o.guard = none) (m x v : Operand) (hop : o.op = Op.mapUpdate 109 m x v) (b : Nat) (ns : List (ByteArray × Int)) (hm : act.eval m = .map (some b)) (hown : NSet w b ns) (n : ByteArray × Int) (hx : act.eval x = nameV n) (hv : act.eval v = .bool true) (hnew : isIn ns n = false)
  (hK : ∀ w', NSet w' b (ns ++ [n]) → w.grownBy w' (some b) → w'.heap.size = w.heap.size → wpList Tryd.prog ops Q rest (act.put o.dst undef) w') : wpList Tryd.prog ops Q (o :: rest) act w :=
 put_name nameKey hg m x v 109 4 hop Tryd.underlying109 b ns hm hown n hx hv hnew hK
end
end Go.Proofs.YtfagjaabladgpaaDoor
end

section
/- A region that draws its order and whose operations make memory: shown operation by operation, whatever the order. Each operation of the head leaves a value in its slot and a fact on it that stays true when memory grows; the tail waits for the whole head. No program in sight. -/
namespace Go.Dx
open Go.RowKit

theorem wp_both {P : Program} {o : Oper} {a : Act} {w : World} {K K' : Act → World → Prop} {Q Q' : Exit → Act → World → Prop} (h : ∀ a w, K a w → K' a w) (hp : ∀ e a w, e ≠ .normal → Q e a w → Q' e a w)
  (hh : o.wp P a w K Q) : o.wp P a w K' Q' := by
 unfold Oper.wp at *
 generalize (execOp a.eval o).run P w = r at *
 cases r with
 | ok n w' =>
  cases n <;> simp only [Oper.upon] at hh ⊢ <;>
   first
    | exact h _ _ hh
    | exact Calls.mono hh (fun e w'' he => by
      cases e <;> first
       | exact h _ _ he
       | exact hp _ _ _ (by simp) he
       | (obtain ⟨a1, w1, h1⟩ := he; exact ⟨a1, w1, hp _ _ _ (by simp) h1⟩))
    | exact Rows.mono hh (fun _ _ he => h _ _ he)
 | halt x w' => cases x <;> simp only [Oper.upon] at hh ⊢ <;> first | exact hp _ _ _ (by simp) hh | exact hh

theorem opt_bool {x : Option Value} {b : Bool} (h : x.getD undef = .bool b) : x = some (.bool b) := by
 cases x with
 | none => simp [undef] at h
 | some v => rw [← h]; rfl
structure HOp where
 i : Nat
 d : Nat
 s : List Nat
 p : List Value → World → Prop

def HOp.fact (t : HOp) (a : Act) (w : World) : Prop := t.p (t.s.map fun k => a.tmps.getD k undef) w
def OneDone (d : Nat) (a : Act) (w : World) (R : Value → World → Prop) (e : Exit) (a' : Act) (w' : World) : Prop := e = .normal ∧ ∃ v, a' = a.put (some d) v ∧ Below w.heap.size w w' ∧ R v w'

section
variable {P : Program}

def putAll (a : Act) : List (Nat × Value) → Act
 | [] => a
 | (d, v) :: l => putAll (a.put (some d) v) l
theorem putAll_defers (a : Act) : ∀ l, (putAll a l).defers = a.defers := by
 intro l
 induction l generalizing a with
 | nil => rfl
 | cons x l ih => obtain ⟨d, v⟩ := x; rw [putAll, ih]; rfl
theorem putAll_size (a : Act) : ∀ l, (putAll a l).tmps.size = a.tmps.size := by
 intro l
 induction l generalizing a with
 | nil => rfl
 | cons x l ih => obtain ⟨d, v⟩ := x; rw [putAll, ih]; simp [Act.put]
theorem put_get (a : Act) (d k : Nat) (v : Value) : (a.put (some d) v).tmps.getD k undef = if d = k ∧ d < a.tmps.size then v else a.tmps.getD k undef := by
 unfold Act.put
 simp only [Array.getD_eq_getD_getElem?, Array.getElem?_setIfInBounds]
 by_cases h : d = k
 ·subst h
  by_cases h2 : d < a.tmps.size
  ·simp [h2]
  ·simp [h2]
 ·simp [h]
theorem putAll_get (g : Nat → Value) : ∀ (L : List Nat) (a : Act) (k : Nat), (∀ d ∈ L, d < a.tmps.size) → (putAll a (L.map fun d => (d, g d))).tmps.getD k undef = if k ∈ L then g k else a.tmps.getD k undef := by
 intro L
 induction L with
 | nil => intro a k _; simp [putAll]
 | cons d L ih =>
  intro a k hs
  have hd := hs d List.mem_cons_self
  rw [List.map_cons, putAll, ih _ _ (fun e he => by simp [Act.put]; exact hs e (List.mem_cons_of_mem _ he)), put_get]
  by_cases h1 : k ∈ L
  ·rw [if_pos h1, if_pos (List.mem_cons_of_mem _ h1)]
  ·rw [if_neg h1]
   by_cases h2 : d = k
   ·subst h2; rw [if_pos ⟨rfl, hd⟩, if_pos List.mem_cons_self]
   ·rw [if_neg (fun h => h2 h.1), if_neg (fun h => by rcases List.mem_cons.1 h with h | h; exact h2 h.symm; exact h1 h)]
theorem act_ext {a b : Act} (h1 : a.defers = b.defers) (h2 : a.tmps.size = b.tmps.size) (h3 : ∀ k, a.tmps.getD k undef = b.tmps.getD k undef) : a = b := by
 obtain ⟨x, d⟩ := a
 obtain ⟨y, e⟩ := b
 simp only at h1 h2 h3
 subst h1
 congr 1
 apply Array.ext h2
 intro k hk1 hk2
 have := h3 k
 simpa [Array.getD, hk1, hk2] using this

theorem inj_nodup {α : Type} (f : α → Nat) : ∀ (T : List α), (T.map f).Nodup → ∀ t ∈ T, ∀ u ∈ T, f t = f u → t = u := by
 intro T
 induction T with
 | nil => intro _ t ht; cases ht
 | cons x T ih =>
  intro h t ht u hu e
  rw [List.map_cons, List.nodup_cons] at h
  rcases List.mem_cons.1 ht with h1 | h1 <;> rcases List.mem_cons.1 hu with h2 | h2
  ·rw [h1, h2]
  ·exact absurd (show f x ∈ T.map f from List.mem_map.2 ⟨u, h2, by rw [← e, h1]⟩) h.1
  ·exact absurd (show f x ∈ T.map f from List.mem_map.2 ⟨t, h1, by rw [e, h2]⟩) h.1
  ·exact ih h.2 t h1 u h2 e
def All {α : Type} (R : α → Prop) : List α → Prop
 | [] => True
 | x :: l => R x ∧ All R l
theorem All.mem {α : Type} {R : α → Prop} : ∀ {l : List α}, All R l → ∀ x ∈ l, R x
 | y :: l, h, x, hx => by
  rcases List.mem_cons.1 hx with rfl | hx
  ·exact h.1
  ·exact All.mem h.2 x hx
def headOk (l : List Oper) (n : Nat) (T : List (Nat × Nat × List Nat)) (size : Nat) : Bool :=
 let ops := l.toArray
 decide ((T.map (·.1)).Nodup) && decide (n < l.length) && Region.sinkB .any ops n && Region.chainB .any ops n && Region.seqB .any ops (l.length - n) n ((List.replicate n true ++ List.replicate (l.length - n) false).toArray) &&
 (List.range n).all (fun j => T.any fun t => t.1 == j) &&
 T.all (fun t => decide (t.1 < n) && decide (t.2.1 < size) && (match l[t.1]? with | some o => o.dst == some t.2.1 && (o.after.all fun e => !Region.binds .any e || decide (e.on < t.1)) | none => false)) &&
 T.all (fun t => T.all fun u => t.1 == u.1 || (t.2.1 != u.2.1 && (!u.2.2.contains t.2.1 || Region.waitsFor .any ops u.1 t.1)))

structure FreeInv (l : List Oper) (n : Nat) (T : List HOp) (a0 : Act) (w0 : World) (listed : Array Bool) (a : Act) (w : World) : Prop where
 inv : HeadInv .any l.toArray n listed
 defers : a.defers = a0.defers
 size : a.tmps.size = a0.tmps.size
 frame : ∀ k, (∀ t ∈ T, t.d ≠ k) → a.tmps.getD k undef = a0.tmps.getD k undef
 bel : Below w0.heap.size w0 w
 facts : ∀ t ∈ T, listed.getD t.i false = true → t.fact a w

def todo (listed : Array Bool) (n : Nat) : Nat := ((List.range n).filter fun j => !listed.getD j true).length
theorem todo_set {listed : Array Bool} {n i : Nat} (hi : i < n) (hl : listed.getD i true = false) : todo (listed.setIfInBounds i true) n + 1 = todo listed n := by
 unfold todo
 have hlt : i < listed.size := by
  rcases Nat.lt_or_ge i listed.size with h | h
  ·exact h
  ·simp [Array.getElem?_eq_none h] at hl
 have key : ∀ m, ((List.range m).filter fun j => !(listed.setIfInBounds i true).getD j true).length + (if i < m then 1 else 0) = ((List.range m).filter fun j => !listed.getD j true).length := by
  intro m
  induction m with
  | zero => simp
  | succ m ih =>
   rw [List.range_succ, List.filter_append, List.filter_append, List.length_append, List.length_append]
   by_cases him : i = m
   ·subst him
    have e1 : (listed.setIfInBounds i true).getD i true = true := by simp [hlt]
    rw [if_neg (Nat.lt_irrefl _)] at ih
    rw [if_pos (Nat.lt_succ_self _), ← ih]
    simp only [List.filter_cons, List.filter_nil, e1, hl, Bool.not_true, Bool.not_false, Bool.false_eq_true, if_false, if_true, List.length_nil, List.length_singleton]
   ·have e2 : (List.filter (fun j => !(listed.setIfInBounds i true).getD j true) [m]) = List.filter (fun j => !listed.getD j true) [m] := by simp only [List.filter_cons, List.filter_nil, getD_set_ne true him]
    rw [e2]
    by_cases h : i < m
    ·rw [if_pos h] at ih; rw [if_pos (by omega)]; omega
    ·rw [if_neg h] at ih; rw [if_neg (by omega)]; omega
 have := key n
 rw [if_pos hi] at this
 exact this

theorem wp_region_free {id : Nat} {Q : Exit → Act → World → Prop} {a0 : Act} {w0 : World} {l : List Oper} (n : Nat) (T : List HOp) (hm : P.follows .mixedOrders = true)
  (hB : headOk l n (T.map fun t => (t.i, t.d, t.s)) a0.tmps.size = true)
  (hmono : All (fun t : HOp => ∀ vs w w', Below w.heap.size w w' → t.p vs w → t.p vs w') T)
  (hop : All (fun t : HOp => ∀ o, l[t.i]? = some o → ∀ (a : Act) (w : World), Below w0.heap.size w0 w →
   (∀ k, (T.map (·.d)).contains k = false → a.tmps.getD k undef = a0.tmps.getD k undef) →
   (∀ (k : Nat) (u : HOp), T[k]? = some u → Region.waitsFor .any l.toArray t.i u.i = true → u.p (u.s.map fun k => a.tmps.getD k undef) w) →
   wpList P l.toArray (OneDone t.d a w fun v w' => t.p (t.s.map fun k => if t.d = k then v else a.tmps.getD k undef) w') [o] a w) T)
  (hend : ∀ (g : Nat → Value) (w : World), Below w0.heap.size w0 w → (∀ (k : Nat) (u : HOp), T[k]? = some u → u.p (u.s.map fun k => if k ∈ T.map (·.d) then g k else a0.tmps.getD k undef) w) →
   wpList P l.toArray Q (l.drop n) (putAll a0 ((T.map (·.d)).map fun d => (d, g d))) w) : (Code.region id l.toArray true).wp P Q a0 w0 := by
 simp only [headOk, Bool.and_eq_true, decide_eq_true_eq] at hB
 obtain ⟨⟨⟨⟨⟨⟨⟨hnd, hn⟩, hs⟩, hc⟩, hseq⟩, hcov⟩, hT⟩, hpair⟩ := hB
 have hnodup : ∀ t ∈ T, ∀ u ∈ T, t.i = u.i → t = u := inj_nodup (·.i) T (by rw [List.map_map] at hnd; exact hnd)
 have hn' : n < l.toArray.size := by simpa using hn
 have cover : ∀ j, j < n → ∃ t ∈ T, t.i = j := by
  intro j hj
  have h := List.all_eq_true.1 hcov j (List.mem_range.2 hj)
  obtain ⟨x, hx, he⟩ := List.any_eq_true.1 h
  obtain ⟨t, ht, rfl⟩ := List.mem_map.1 hx
  exact ⟨t, ht, by simpa using he⟩
 have own : ∀ t ∈ T, t.i < n ∧ t.d < a0.tmps.size ∧ ∃ o, l[t.i]? = some o ∧ o.dst = some t.d ∧ ∀ e ∈ o.after, Region.binds .any e = true → e.on < t.i := by
  intro t ht
  have h := List.all_eq_true.1 hT _ (List.mem_map.2 ⟨t, ht, rfl⟩)
  simp only [Bool.and_eq_true, decide_eq_true_eq] at h
  obtain ⟨⟨h1, h2⟩, h3⟩ := h
  refine ⟨h1, h2, ?_⟩
  cases ho : l[t.i]? with
  | none => rw [ho] at h3; cases h3
  | some o =>
   rw [ho] at h3
   simp only [Bool.and_eq_true, beq_iff_eq] at h3
   refine ⟨o, rfl, h3.1, fun e he hb => ?_⟩
   have := Array.all_eq_true_iff_forall_mem.1 h3.2 e he
   simpa [hb] using this
 have pair : ∀ t ∈ T, ∀ u ∈ T, t.i ≠ u.i → t.d ≠ u.d ∧ (t.d ∈ u.s → Region.waitsFor .any l.toArray u.i t.i = true) := by
  intro t ht u hu hne
  have h := List.all_eq_true.1 (List.all_eq_true.1 hpair _ (List.mem_map.2 ⟨t, ht, rfl⟩)) _ (List.mem_map.2 ⟨u, hu, rfl⟩)
  simp only [Bool.or_eq_true, beq_iff_eq, hne, false_or, Bool.and_eq_true, bne_iff_ne, ne_eq, Bool.not_eq_true'] at h
  refine ⟨h.1, fun hin => ?_⟩
  rcases h.2 with h2 | h2
  ·have : u.s.contains t.d = true := by simpa using hin
   rw [this] at h2; cases h2
  ·exact h2
 have key : ∀ (f : Nat) (listed : Array Bool) (a : Act) (w : World), FreeInv l n T a0 w0 listed a w → todo listed n = f → wpAny P .any l.toArray Q (f + (l.length - n)) listed a w := by
  intro f
  induction f with
  | zero =>
   intro listed a w I h0
   have hall : ∀ j, j < n → listed.getD j true = true := by
    intro j hj
    cases hb : listed.getD j true with
    | true => rfl
    | false =>
     have : j ∈ (List.range n).filter fun j => !listed.getD j true := List.mem_filter.2 ⟨List.mem_range.2 hj, by rw [hb]; rfl⟩
     unfold todo at h0
     rw [List.eq_nil_of_length_eq_zero h0] at this
     cases this
   have hlist : listed = (List.replicate n true ++ List.replicate (l.length - n) false).toArray := by
    have hsz := I.inv.size
    apply Array.ext
    ·simp at hsz ⊢; omega
    ·intro j h1 h2
     by_cases hj : j < n
     ·have := hall j hj
      simp [Array.getD, h1] at this
      simp [this, List.getElem_append_left, hj]
     ·have := I.inv.tail j (by omega) (by rw [← hsz]; exact h1)
      simp [Array.getD, h1] at this
      simp only [this, List.getElem_toArray]
      rw [List.getElem_append_right (by simp; omega)]
      simp
   have ha : a = putAll a0 ((T.map (·.d)).map fun d => (d, a.tmps.getD d undef)) := by
    have hd : ∀ d ∈ T.map (·.d), d < a0.tmps.size := by
     intro d hd
     obtain ⟨t, ht, rfl⟩ := List.mem_map.1 hd
     exact (own t ht).2.1
    refine act_ext (by rw [putAll_defers]; exact I.defers) (by rw [putAll_size]; exact I.size) (fun k => ?_)
    rw [putAll_get (fun d => a.tmps.getD d undef) _ _ _ hd]
    by_cases h : k ∈ T.map (·.d)
    ·rw [if_pos h]
    ·rw [if_neg h]
     exact I.frame k (fun t ht e => h (List.mem_map.2 ⟨t, ht, e⟩))
   have hfin := hend (fun d => a.tmps.getD d undef) w I.bel (fun k u hu => by
    have hu' := List.mem_of_getElem? hu
    have h1 := I.facts u hu' (by
     have := hall u.i (own u hu').1
     rcases Nat.lt_or_ge u.i listed.size with h' | h'
     ·simp [h'] at this ⊢; exact this
     ·have := I.inv.size; have := (own u hu').1; omega)
    unfold HOp.fact at h1
    have e : (u.s.map fun k => if k ∈ T.map (·.d) then a.tmps.getD k undef else a0.tmps.getD k undef) = u.s.map fun k => a.tmps.getD k undef := by
     apply List.map_congr_left
     intro k _
     by_cases h : k ∈ T.map (·.d)
     ·rw [if_pos h]
     ·rw [if_neg h]
      exact (I.frame k (fun t ht e => h (List.mem_map.2 ⟨t, ht, e⟩))).symm
    rw [e]
    exact h1)
   rw [← ha] at hfin
   rw [Nat.zero_add]
   have hseq' : Region.seqB .any l.toArray (l.drop n).length n listed = true := by rw [hlist, List.length_drop]; exact hseq
   have := wpAny_of_seq (md := .any) (Q' := Q) (l.drop n) n listed a w (fun j => by simp [List.getElem?_drop]) hseq' hfin
   rwa [List.length_drop] at this
  | succ f ih =>
   intro listed a w I hf
   have hex : ∃ j, j < n ∧ listed.getD j true = false := by
    cases hL : (List.range n).filter fun j => !listed.getD j true with
    | nil => unfold todo at hf; rw [hL] at hf; cases hf
    | cons j L =>
     have : j ∈ (List.range n).filter fun j => !listed.getD j true := by rw [hL]; exact List.mem_cons_self
     obtain ⟨h1, h2⟩ := List.mem_filter.1 this
     exact ⟨j, List.mem_range.1 h1, by simpa using h2⟩
   have hready : Region.ready .any l.toArray listed ≠ [] := by
    have hmin : ∀ m j, j ≤ m → j < n → listed.getD j true = false → ∃ i, i ∈ Region.ready .any l.toArray listed := by
     intro m
     induction m with
     | zero =>
      intro j hj hjn hjl
      have hj0 : j = 0 := by omega
      subst hj0
      obtain ⟨t, ht, hti⟩ := cover 0 hjn
      obtain ⟨_, _, o, ho, _, hb⟩ := own t ht
      rw [hti] at ho hb
      exact ⟨0, mem_ready.2 ⟨hjl, o, by simpa using ho, fun e he hbe => absurd (hb e he hbe) (by omega)⟩⟩
     | succ m ihm =>
      intro j hj hjn hjl
      obtain ⟨t, ht, hti⟩ := cover j hjn
      obtain ⟨_, _, o, ho, _, hb⟩ := own t ht
      rw [hti] at ho hb
      by_cases hall : ∀ e ∈ o.after, Region.binds .any e = true → listed.getD e.on false = true
      ·exact ⟨j, mem_ready.2 ⟨hjl, o, by simpa using ho, hall⟩⟩
      ·simp only [Classical.not_forall] at hall
       obtain ⟨e, he, hbe, hne⟩ := hall
       have hlt := hb e he hbe
       have hes : e.on < listed.size := by rw [I.inv.size]; simp; omega
       exact ihm e.on (by omega) (by omega) (getD_in hes (by simpa using hne))
    obtain ⟨j, hj, hjl⟩ := hex
    obtain ⟨i, hi⟩ := hmin j j (Nat.le_refl _) hj hjl
    intro h
    rw [h] at hi
    cases hi
   rw [show f + 1 + (l.length - n) = (f + (l.length - n)) + 1 by omega]
   refine ⟨fun h => absurd h hready, fun i hi => ?_⟩
   have hin : i < n := by
    rcases Nat.lt_or_ge i n with h | h
    ·exact h
    ·obtain ⟨j, hj, hjl⟩ := hex
     exact absurd hi (tail_waits hs hc hn' I.inv _ j rfl hj hjl i h)
   obtain ⟨t, ht, hti⟩ := cover i hin
   obtain ⟨_, htd, o, ho, hdst, _⟩ := own t ht
   obtain ⟨hil, oi, hoi, hafter⟩ := mem_ready.1 hi
   have hoo : oi = o := by rw [hti] at ho; exact Option.some.inj (hoi.symm.trans (by simpa using ho))
   subst hoo
   have H := hop.mem t ht oi ho a w I.bel (fun k hk => I.frame k (fun u hu e => by
     have : (T.map (·.d)).contains k = true := by simpa using ⟨u, hu, e⟩
     rw [this] at hk; cases hk)) (fun k u hu hw => by
    have hu' := List.mem_of_getElem? hu
    obtain ⟨oj, hoj, e, he, hb, hon⟩ := Region.waitsFor_spec hw
    have : oj = oi := by rw [hti] at hoj; exact Option.some.inj (hoj.symm.trans hoi)
    subst this
    have h1 := hafter e he hb
    rw [hon] at h1
    exact I.facts u hu' h1)
   have step : ∀ (a' : Act) (w' : World), OneDone t.d a w (fun v w' => t.p (t.s.map fun k => if t.d = k then v else a.tmps.getD k undef) w') .normal a' w' → wpAny P .any l.toArray Q (f + (l.length - n)) (listed.setIfInBounds i true) a' w' := by
    intro a' w' h
    obtain ⟨_, v, rfl, hbel, hp⟩ := h
    refine ih _ _ _ ⟨I.inv.set hi hin, I.defers, ?_, ?_, ?_, ?_⟩ ?_
    ·rw [← I.size]; simp [Act.put]
    ·intro k hk
     rw [put_get, if_neg (fun h => hk t ht h.1)]
     exact I.frame k hk
    ·exact I.bel.trans (hbel.mono I.bel.size)
    ·intro u hu hul
     by_cases hui : t.i = u.i
     ·have hd : u.d = t.d ∨ True := .inr trivial
      unfold HOp.fact
      by_cases hut : u = t
      ·subst hut
       have e : (u.s.map fun k => (a.put (some u.d) v).tmps.getD k undef) = u.s.map fun k => if u.d = k then v else a.tmps.getD k undef := by
        apply List.map_congr_left
        intro k _
        rw [put_get, I.size]
        by_cases hk : u.d = k
        ·rw [if_pos ⟨hk, htd⟩, if_pos hk]
        ·rw [if_neg (fun h => hk h.1), if_neg hk]
       rw [e]
       exact hp
      ·exact absurd (hnodup t ht u hu hui).symm hut
     ·unfold HOp.fact
      have hul2 : listed.getD u.i false = true := by rw [← getD_set_ne false (i := i) (j := u.i) (by rw [← hti]; exact hui)]; exact hul
      have h1 := hmono.mem u hu _ _ _ hbel (I.facts u hu hul2)
      have hnot : t.d ∉ u.s := by
       intro hin2
       have hw := (pair t ht u hu hui).2 hin2
       obtain ⟨ou, hou, e, he, hb, hon⟩ := Region.waitsFor_spec hw
       have := I.inv.closed u.i ou hou hul2 e he hb
       rw [hon, hti, getD_both hil] at this
       cases this
      have e : (u.s.map fun k => (a.put (some t.d) v).tmps.getD k undef) = u.s.map fun k => a.tmps.getD k undef := by
       apply List.map_congr_left
       intro k hk
       rw [put_get, if_neg (fun (h : t.d = k ∧ t.d < a.tmps.size) => hnot (by rw [h.1]; exact hk))]
      rw [e]
      exact h1
    ·have := todo_set hin hil; omega
   unfold wpList at H
   unfold wpOp
   rw [hoi]
   simp only
   by_cases hwant : Region.wanted oi (yielded l.toArray a.tmps) = true
   ·rw [if_pos hwant] at H
    rw [if_pos hwant]
    left
    rcases H with H | ⟨_, a1, w1, h1, _⟩
    ·exact wp_both (fun a' w' h => step a' w' h) (fun e a' w' he h => absurd h.1 he) H
    ·cases h1
   ·rw [if_neg hwant] at H
    rw [if_neg hwant]
    exact step _ _ H
 refine wp_region_any hm ?_
 have inv0 : HeadInv .any l.toArray n (Array.replicate l.toArray.size false) :=
  ⟨by simp, fun j oj _ hl => (by rw [getD_replicate_false] at hl; cases hl), fun t _ ht => getD_in (by simpa using ht) (getD_replicate_false _ _)⟩
 have I0 : FreeInv l n T a0 w0 (Array.replicate l.toArray.size false) a0 { w0 with drawn := w0.drawn + 1 } :=
  ⟨inv0, rfl, rfl, fun _ _ => rfl, Still.below 1, fun t _ hl => (by rw [getD_replicate_false] at hl; cases hl)⟩
 have ht0 : todo (Array.replicate l.toArray.size false) n = n := by
  unfold todo
  rw [List.filter_eq_self.2 (fun j hj => by
   have hj' := List.mem_range.1 hj
   have : (Array.replicate l.toArray.size false).getD j true = false := getD_in (by simp; omega) (getD_replicate_false _ _)
   rw [this]; rfl), List.length_range]
 have := key n _ _ _ I0 ht0
 rwa [show n + (l.length - n) = l.toArray.size by simp; omega] at this
end
end Go.Dx
end

section
/- A region that draws its order, in whose head one operation (an append, a store) changes what lies there: TP. What it waits for (TE) comes before it; what may come at any time (TL) leaves the world as it is. No program in sight. -/
namespace Go.Dx
open Go.RowKit

theorem grown_of_below {w w' : World} (h : Below w.heap.size w w') (row : Option Nat) : w.grownBy w' row := ⟨h.os, h.tape, h.output, h.size, fun k hk _ => h.block k hk⟩
theorem grown_trans {a b c : World} {row : Option Nat} (h : a.grownBy b row) (k : b.grownBy c row) : a.grownBy c row :=
 ⟨k.os.trans h.os, k.tape.trans h.tape, k.output.trans h.output, Nat.le_trans h.size k.size, fun i hi hr => (k.block i (Nat.lt_of_lt_of_le hi h.size) hr).trans (h.block i hi hr)⟩
def OneStill (d : Nat) (a : Act) (w : World) (R : Value → World → Prop) (e : Exit) (a' : Act) (w' : World) : Prop := e = .normal ∧ ∃ v, a' = a.put (some d) v ∧ w' = w ∧ R v w'
def OneTurn (d : Nat) (a : Act) (R : Value → World → Prop) (e : Exit) (a' : Act) (w' : World) : Prop := e = .normal ∧ ∃ v, a' = a.put (some d) v ∧ R v w'

structure MidInv (l : List Oper) (n p : Nat) (T : List HOp) (a0 : Act) (w0 : World) (G : World → Prop) (listed : Array Bool) (a : Act) (w : World) : Prop where
 inv : HeadInv .any l.toArray n listed
 defers : a.defers = a0.defers
 size : a.tmps.size = a0.tmps.size
 frame : ∀ k, (∀ t ∈ T, t.d ≠ k) → a.tmps.getD k undef = a0.tmps.getD k undef
 pre : listed.getD p false = false → Below w0.heap.size w0 w
 post : listed.getD p false = true → G w
 facts : ∀ t ∈ T, listed.getD t.i false = true → t.fact a w

section
variable {P : Program}
theorem wp_region_mid {id : Nat} {Q : Exit → Act → World → Prop} {a0 : Act} {w0 : World} {l : List Oper} (n : Nat) (L G : World → Prop) (TP : HOp) (TE TL : List HOp) (hm : P.follows .mixedOrders = true)
  (hB : (headOk l n ((TP :: (TE ++ TL)).map fun t => (t.i, t.d, t.s)) a0.tmps.size && (TE.all fun t => Region.waitsFor .any l.toArray TP.i t.i && t.i != TP.i)) = true)
  (hL1 : ∀ w, Below w0.heap.size w0 w → L w) (hL2 : ∀ w, G w → L w)
  (hmono : All (fun t : HOp => ∀ vs w w', Below w.heap.size w w' → t.p vs w → t.p vs w') (TE ++ TL))
  (hopP : ∀ o, l[TP.i]? = some o → ∀ (a : Act) (w : World), Below w0.heap.size w0 w →
   (∀ k, ((TP :: (TE ++ TL)).map (·.d)).contains k = false → a.tmps.getD k undef = a0.tmps.getD k undef) →
   (∀ (k : Nat) (u : HOp), (TP :: (TE ++ TL))[k]? = some u → Region.waitsFor .any l.toArray TP.i u.i = true → u.p (u.s.map fun k => a.tmps.getD k undef) w) →
   wpList P l.toArray (OneTurn TP.d a fun v w' => TP.p (TP.s.map fun k => if TP.d = k then v else a.tmps.getD k undef) w' ∧ G w' ∧ All (fun u : HOp => ∀ vs, u.p vs w → u.p vs w') (TE ++ TL)) [o] a w)
  (hopE : All (fun t : HOp => ∀ o, l[t.i]? = some o → ∀ (a : Act) (w : World), Below w0.heap.size w0 w →
   (∀ k, ((TP :: (TE ++ TL)).map (·.d)).contains k = false → a.tmps.getD k undef = a0.tmps.getD k undef) →
   (∀ (k : Nat) (u : HOp), (TP :: (TE ++ TL))[k]? = some u → Region.waitsFor .any l.toArray t.i u.i = true → u.p (u.s.map fun k => a.tmps.getD k undef) w) →
   wpList P l.toArray (OneDone t.d a w fun v w' => t.p (t.s.map fun k => if t.d = k then v else a.tmps.getD k undef) w') [o] a w) TE)
  (hopL : All (fun t : HOp => ∀ o, l[t.i]? = some o → ∀ (a : Act) (w : World), L w →
   (∀ k, ((TP :: (TE ++ TL)).map (·.d)).contains k = false → a.tmps.getD k undef = a0.tmps.getD k undef) →
   (∀ (k : Nat) (u : HOp), (TP :: (TE ++ TL))[k]? = some u → Region.waitsFor .any l.toArray t.i u.i = true → u.p (u.s.map fun k => a.tmps.getD k undef) w) →
   wpList P l.toArray (OneStill t.d a w fun v w' => t.p (t.s.map fun k => if t.d = k then v else a.tmps.getD k undef) w') [o] a w) TL)
  (hend : ∀ (g : Nat → Value) (w : World), G w → (∀ (k : Nat) (u : HOp), (TP :: (TE ++ TL))[k]? = some u → u.p (u.s.map fun k => if k ∈ (TP :: (TE ++ TL)).map (·.d) then g k else a0.tmps.getD k undef) w) →
   wpList P l.toArray Q (l.drop n) (putAll a0 (((TP :: (TE ++ TL)).map (·.d)).map fun d => (d, g d))) w) : (Code.region id l.toArray true).wp P Q a0 w0 := by
 obtain ⟨T, hTdef⟩ : ∃ T, TP :: (TE ++ TL) = T := ⟨_, rfl⟩
 have memP : TP ∈ T := by rw [← hTdef]; exact List.mem_cons_self
 have split : ∀ t ∈ T, t = TP ∨ t ∈ TE ∨ t ∈ TL := by
  intro t ht
  rw [← hTdef] at ht
  rcases List.mem_cons.1 ht with h | h
  ·exact .inl h
  ·exact .inr (List.mem_append.1 h)
 have rest : ∀ t ∈ T, t ≠ TP → t ∈ TE ++ TL := by
  intro t ht hne
  rw [← hTdef] at ht
  rcases List.mem_cons.1 ht with h | h
  ·exact absurd h hne
  ·exact h
 rw [hTdef] at hB hopP hopE hopL hend
 rw [Bool.and_eq_true] at hB
 obtain ⟨hB, hE⟩ := hB
 have hE1 : ∀ t ∈ TE, Region.waitsFor .any l.toArray TP.i t.i = true ∧ t.i ≠ TP.i := by
  intro t ht
  have := List.all_eq_true.1 hE t ht
  simpa using this
 simp only [headOk, Bool.and_eq_true, decide_eq_true_eq] at hB
 obtain ⟨⟨⟨⟨⟨⟨⟨hnd, hn⟩, hs⟩, hc⟩, hseq⟩, hcov⟩, hT⟩, hpair⟩ := hB
 have hnodup : ∀ t ∈ T, ∀ u ∈ T, t.i = u.i → t = u := inj_nodup (·.i) T (by rw [List.map_map] at hnd; exact hnd)
 have hn' : n < l.toArray.size := by simpa using hn
 have cover : ∀ j, j < n → ∃ t ∈ T, t.i = j := by
  intro j hj
  have h := List.all_eq_true.1 hcov j (List.mem_range.2 hj)
  obtain ⟨x, hx, he⟩ := List.any_eq_true.1 h
  obtain ⟨t, ht, rfl⟩ := List.mem_map.1 hx
  exact ⟨t, ht, by simpa using he⟩
 have own : ∀ t ∈ T, t.i < n ∧ t.d < a0.tmps.size ∧ ∃ o, l[t.i]? = some o ∧ o.dst = some t.d ∧ ∀ e ∈ o.after, Region.binds .any e = true → e.on < t.i := by
  intro t ht
  have h := List.all_eq_true.1 hT _ (List.mem_map.2 ⟨t, ht, rfl⟩)
  simp only [Bool.and_eq_true, decide_eq_true_eq] at h
  obtain ⟨⟨h1, h2⟩, h3⟩ := h
  refine ⟨h1, h2, ?_⟩
  cases ho : l[t.i]? with
  | none => rw [ho] at h3; cases h3
  | some o =>
   rw [ho] at h3
   simp only [Bool.and_eq_true, beq_iff_eq] at h3
   refine ⟨o, rfl, h3.1, fun e he hb => ?_⟩
   have := Array.all_eq_true_iff_forall_mem.1 h3.2 e he
   simpa [hb] using this
 have pair : ∀ t ∈ T, ∀ u ∈ T, t.i ≠ u.i → t.d ≠ u.d ∧ (t.d ∈ u.s → Region.waitsFor .any l.toArray u.i t.i = true) := by
  intro t ht u hu hne
  have h := List.all_eq_true.1 (List.all_eq_true.1 hpair _ (List.mem_map.2 ⟨t, ht, rfl⟩)) _ (List.mem_map.2 ⟨u, hu, rfl⟩)
  simp only [Bool.or_eq_true, beq_iff_eq, hne, false_or, Bool.and_eq_true, bne_iff_ne, ne_eq, Bool.not_eq_true'] at h
  refine ⟨h.1, fun hin => ?_⟩
  rcases h.2 with h2 | h2
  ·have : u.s.contains t.d = true := by simpa using hin
   rw [this] at h2; cases h2
  ·exact h2
 have key : ∀ (f : Nat) (listed : Array Bool) (a : Act) (w : World), MidInv l n TP.i T a0 w0 G listed a w → todo listed n = f → wpAny P .any l.toArray Q (f + (l.length - n)) listed a w := by
  intro f
  induction f with
  | zero =>
   intro listed a w I h0
   have hall : ∀ j, j < n → listed.getD j true = true := by
    intro j hj
    cases hb : listed.getD j true with
    | true => rfl
    | false =>
     have : j ∈ (List.range n).filter fun j => !listed.getD j true := List.mem_filter.2 ⟨List.mem_range.2 hj, by rw [hb]; rfl⟩
     unfold todo at h0
     rw [List.eq_nil_of_length_eq_zero h0] at this
     cases this
   have hlist : listed = (List.replicate n true ++ List.replicate (l.length - n) false).toArray := by
    have hsz := I.inv.size
    apply Array.ext
    ·simp at hsz ⊢; omega
    ·intro j h1 h2
     by_cases hj : j < n
     ·have := hall j hj
      simp [Array.getD, h1] at this
      simp [this, List.getElem_append_left, hj]
     ·have := I.inv.tail j (by omega) (by rw [← hsz]; exact h1)
      simp [Array.getD, h1] at this
      simp only [this, List.getElem_toArray]
      rw [List.getElem_append_right (by simp; omega)]
      simp
   have ha : a = putAll a0 ((T.map (·.d)).map fun d => (d, a.tmps.getD d undef)) := by
    have hd : ∀ d ∈ T.map (·.d), d < a0.tmps.size := by
     intro d hd
     obtain ⟨t, ht, rfl⟩ := List.mem_map.1 hd
     exact (own t ht).2.1
    refine act_ext (by rw [putAll_defers]; exact I.defers) (by rw [putAll_size]; exact I.size) (fun k => ?_)
    rw [putAll_get (fun d => a.tmps.getD d undef) _ _ _ hd]
    by_cases h : k ∈ T.map (·.d)
    ·rw [if_pos h]
    ·rw [if_neg h]
     exact I.frame k (fun t ht e => h (List.mem_map.2 ⟨t, ht, e⟩))
   have hlp : listed.getD TP.i false = true := by
    have := hall TP.i (own TP memP).1
    rcases Nat.lt_or_ge TP.i listed.size with h' | h'
    ·simp [h'] at this ⊢; exact this
    ·have := I.inv.size; have := (own TP memP).1; omega
   have hfin := hend (fun d => a.tmps.getD d undef) w (I.post hlp) (fun k u hu => by
    have hu' := List.mem_of_getElem? hu
    have h1 := I.facts u hu' (by
     have := hall u.i (own u hu').1
     rcases Nat.lt_or_ge u.i listed.size with h' | h'
     ·simp [h'] at this ⊢; exact this
     ·have := I.inv.size; have := (own u hu').1; omega)
    unfold HOp.fact at h1
    have e : (u.s.map fun k => if k ∈ T.map (·.d) then a.tmps.getD k undef else a0.tmps.getD k undef) = u.s.map fun k => a.tmps.getD k undef := by
     apply List.map_congr_left
     intro k _
     by_cases h : k ∈ T.map (·.d)
     ·rw [if_pos h]
     ·rw [if_neg h]
      exact (I.frame k (fun t ht e => h (List.mem_map.2 ⟨t, ht, e⟩))).symm
    rw [e]
    exact h1)
   rw [← ha] at hfin
   rw [Nat.zero_add]
   have hseq' : Region.seqB .any l.toArray (l.drop n).length n listed = true := by rw [hlist, List.length_drop]; exact hseq
   have := wpAny_of_seq (md := .any) (Q' := Q) (l.drop n) n listed a w (fun j => by simp [List.getElem?_drop]) hseq' hfin
   rwa [List.length_drop] at this
  | succ f ih =>
   intro listed a w I hf
   have hex : ∃ j, j < n ∧ listed.getD j true = false := by
    cases hL : (List.range n).filter fun j => !listed.getD j true with
    | nil => unfold todo at hf; rw [hL] at hf; cases hf
    | cons j L =>
     have : j ∈ (List.range n).filter fun j => !listed.getD j true := by rw [hL]; exact List.mem_cons_self
     obtain ⟨h1, h2⟩ := List.mem_filter.1 this
     exact ⟨j, List.mem_range.1 h1, by simpa using h2⟩
   have hready : Region.ready .any l.toArray listed ≠ [] := by
    have hmin : ∀ m j, j ≤ m → j < n → listed.getD j true = false → ∃ i, i ∈ Region.ready .any l.toArray listed := by
     intro m
     induction m with
     | zero =>
      intro j hj hjn hjl
      have hj0 : j = 0 := by omega
      subst hj0
      obtain ⟨t, ht, hti⟩ := cover 0 hjn
      obtain ⟨_, _, o, ho, _, hb⟩ := own t ht
      rw [hti] at ho hb
      exact ⟨0, mem_ready.2 ⟨hjl, o, by simpa using ho, fun e he hbe => absurd (hb e he hbe) (by omega)⟩⟩
     | succ m ihm =>
      intro j hj hjn hjl
      obtain ⟨t, ht, hti⟩ := cover j hjn
      obtain ⟨_, _, o, ho, _, hb⟩ := own t ht
      rw [hti] at ho hb
      by_cases hall : ∀ e ∈ o.after, Region.binds .any e = true → listed.getD e.on false = true
      ·exact ⟨j, mem_ready.2 ⟨hjl, o, by simpa using ho, hall⟩⟩
      ·simp only [Classical.not_forall] at hall
       obtain ⟨e, he, hbe, hne⟩ := hall
       have hlt := hb e he hbe
       have hes : e.on < listed.size := by rw [I.inv.size]; simp; omega
       exact ihm e.on (by omega) (by omega) (getD_in hes (by simpa using hne))
    obtain ⟨j, hj, hjl⟩ := hex
    obtain ⟨i, hi⟩ := hmin j j (Nat.le_refl _) hj hjl
    intro h
    rw [h] at hi
    cases hi
   rw [show f + 1 + (l.length - n) = (f + (l.length - n)) + 1 by omega]
   refine ⟨fun h => absurd h hready, fun i hi => ?_⟩
   have hin : i < n := by
    rcases Nat.lt_or_ge i n with h | h
    ·exact h
    ·obtain ⟨j, hj, hjl⟩ := hex
     exact absurd hi (tail_waits hs hc hn' I.inv _ j rfl hj hjl i h)
   obtain ⟨t, ht, hti⟩ := cover i hin
   obtain ⟨_, htd, o, ho, hdst, _⟩ := own t ht
   obtain ⟨hil, oi, hoi, hafter⟩ := mem_ready.1 hi
   have hoo : oi = o := by rw [hti] at ho; exact Option.some.inj (hoi.symm.trans (by simpa using ho))
   subst hoo
   have hframe : ∀ k, (T.map (·.d)).contains k = false → a.tmps.getD k undef = a0.tmps.getD k undef := fun k hk => I.frame k (fun u hu e => by
     have : (T.map (·.d)).contains k = true := by simpa using ⟨u, hu, e⟩
     rw [this] at hk; cases hk)
   have hfacts : ∀ (k : Nat) (u : HOp), T[k]? = some u → Region.waitsFor .any l.toArray t.i u.i = true → u.p (u.s.map fun k => a.tmps.getD k undef) w := fun k u hu hw => by
    have hu' := List.mem_of_getElem? hu
    obtain ⟨oj, hoj, e, he, hb, hon⟩ := Region.waitsFor_spec hw
    have : oj = oi := by rw [hti] at hoj; exact Option.some.inj (hoj.symm.trans hoi)
    subst this
    have h1 := hafter e he hb
    rw [hon] at h1
    exact I.facts u hu' h1
   have step0 : ∀ (v : Value) (w' : World), (t.i ≠ TP.i → (listed.getD TP.i false = false → Below w0.heap.size w0 w') ∧ (listed.getD TP.i false = true → G w')) → (t.i = TP.i → G w') →
     (∀ u ∈ T, u ≠ t → listed.getD u.i false = true → ∀ vs, u.p vs w → u.p vs w') → t.p (t.s.map fun k => if t.d = k then v else a.tmps.getD k undef) w' → wpAny P .any l.toArray Q (f + (l.length - n)) (listed.setIfInBounds i true) (a.put (some t.d) v) w' := by
    intro v w' hph hG hsurv hp
    refine ih _ _ _ ⟨I.inv.set hi hin, I.defers, ?_, ?_, ?_, ?_, ?_⟩ ?_
    ·rw [← I.size]; simp [Act.put]
    ·intro k hk
     rw [put_get, if_neg (fun h => hk t ht h.1)]
     exact I.frame k hk
    ·intro hl
     by_cases hip : t.i = TP.i
     ·exfalso
      rw [← hip, hti] at hl
      have hlt : i < listed.size := by rw [I.inv.size]; omega
      simp [hlt] at hl
     ·rw [getD_set_ne false (by rw [← hti]; exact hip)] at hl
      exact (hph hip).1 hl
    ·intro hl
     by_cases hip : t.i = TP.i
     ·exact hG hip
     ·rw [getD_set_ne false (by rw [← hti]; exact hip)] at hl
      exact (hph hip).2 hl
    ·intro u hu hul
     by_cases hui : t.i = u.i
     ·unfold HOp.fact
      by_cases hut : u = t
      ·subst hut
       have e : (u.s.map fun k => (a.put (some u.d) v).tmps.getD k undef) = u.s.map fun k => if u.d = k then v else a.tmps.getD k undef := by
        apply List.map_congr_left
        intro k _
        rw [put_get, I.size]
        by_cases hk : u.d = k
        ·rw [if_pos ⟨hk, htd⟩, if_pos hk]
        ·rw [if_neg (fun h => hk h.1), if_neg hk]
       rw [e]
       exact hp
      ·exact absurd (hnodup t ht u hu hui).symm hut
     ·unfold HOp.fact
      have hul2 : listed.getD u.i false = true := by rw [← getD_set_ne false (i := i) (j := u.i) (by rw [← hti]; exact hui)]; exact hul
      have h1 := hsurv u hu (fun e => hui (by rw [e])) hul2 _ (I.facts u hu hul2)
      have hnot : t.d ∉ u.s := by
       intro hin2
       have hw := (pair t ht u hu hui).2 hin2
       obtain ⟨ou, hou, e, he, hb, hon⟩ := Region.waitsFor_spec hw
       have := I.inv.closed u.i ou hou hul2 e he hb
       rw [hon, hti, getD_both hil] at this
       cases this
      have e : (u.s.map fun k => (a.put (some t.d) v).tmps.getD k undef) = u.s.map fun k => a.tmps.getD k undef := by
       apply List.map_congr_left
       intro k hk
       rw [put_get, if_neg (fun (h : t.d = k ∧ t.d < a.tmps.size) => hnot (by rw [h.1]; exact hk))]
      rw [e]
      exact h1
    ·have := todo_set hin hil; omega
   have fin : ∀ (R : Exit → Act → World → Prop), (∀ e a' w', R e a' w' → e = .normal) → (∀ a' w', R .normal a' w' → wpAny P .any l.toArray Q (f + (l.length - n)) (listed.setIfInBounds i true) a' w') → wpList P l.toArray R [oi] a w → wpOp P l.toArray Q i (fun a' w' => wpAny P .any l.toArray Q (f + (l.length - n)) (listed.setIfInBounds i true) a' w') a w := by
    intro R hR step H
    unfold wpList at H
    unfold wpOp
    rw [hoi]
    simp only
    by_cases hwant : Region.wanted oi (yielded l.toArray a.tmps) = true
    ·rw [if_pos hwant] at H
     rw [if_pos hwant]
     left
     rcases H with H | ⟨_, a1, w1, h1⟩
     ·exact wp_both (fun a' w' h => step a' w' h) (fun e a' w' he h => absurd (hR _ _ _ h) he) H
     ·exact absurd (hR _ _ _ h1) (by simp)
    ·rw [if_neg hwant] at H
     rw [if_neg hwant]
     exact step _ _ H
   have prep : t.i = TP.i ∨ t ∈ TE → listed.getD TP.i false = false := by
    intro h
    rcases h with h | h
    ·rw [h] at hti
     rw [hti]
     exact getD_both hil
    ·cases hlp : listed.getD TP.i false with
     | false => rfl
     | true =>
      obtain ⟨hw, _⟩ := hE1 t h
      obtain ⟨ou, hou, e, he, hb, hon⟩ := Region.waitsFor_spec hw
      have := I.inv.closed TP.i ou hou hlp e he hb
      rw [hon, hti, getD_both hil] at this
      cases this
   by_cases htP : t = TP
   ·subst htP
    have hpre := prep (.inl rfl)
    refine fin _ ?_ ?_ (hopP oi ho a w (I.pre hpre) hframe hfacts)
    ·exact fun e a' w' h => h.1
    ·rintro a' w' ⟨_, v, rfl, hp, hG, hS⟩
     refine step0 v w' (fun h => absurd rfl h) (fun _ => hG) (fun u hu hne _ => hS.mem u (rest u hu hne)) hp
   ·have hipP : t.i ≠ TP.i := fun h => htP (hnodup t ht TP memP h)
    rcases split t ht with h | h | h
    ·exact absurd h htP
    ·have hpre := prep (.inr h)
     refine fin _ ?_ ?_ (hopE.mem t h oi ho a w (I.pre hpre) hframe hfacts)
     ·exact fun e a' w' h => h.1
     ·rintro a' w' ⟨_, v, rfl, hbel, hp⟩
      refine step0 v w' (fun _ => ⟨fun _ => (I.pre hpre).trans (hbel.mono (I.pre hpre).size), fun h => by rw [hpre] at h; cases h⟩) (fun h => absurd h hipP) (fun u hu hne hul => ?_) hp
      have huP : u ≠ TP := fun e => by rw [e, hpre] at hul; cases hul
      exact fun vs hv => hmono.mem u (rest u hu huP) vs w w' hbel hv
    ·have hLw : L w := by
      cases hlp : listed.getD TP.i false with
      | false => exact hL1 w (I.pre hlp)
      | true => exact hL2 w (I.post hlp)
     refine fin _ ?_ ?_ (hopL.mem t h oi ho a w hLw hframe hfacts)
     ·exact fun e a' w' h => h.1
     ·rintro a' w' ⟨_, v, rfl, rfl, hp⟩
      exact step0 v _ (fun _ => ⟨I.pre, I.post⟩) (fun h => absurd h hipP) (fun u hu hne hul vs hv => hv) hp
 refine wp_region_any hm ?_
 have inv0 : HeadInv .any l.toArray n (Array.replicate l.toArray.size false) :=
  ⟨by simp, fun j oj _ hl => (by rw [getD_replicate_false] at hl; cases hl), fun t _ ht => getD_in (by simpa using ht) (getD_replicate_false _ _)⟩
 have I0 : MidInv l n TP.i T a0 w0 G (Array.replicate l.toArray.size false) a0 { w0 with drawn := w0.drawn + 1 } :=
  ⟨inv0, rfl, rfl, fun _ _ => rfl, fun _ => Still.below 1, fun hl => (by rw [getD_replicate_false] at hl; cases hl), fun t _ hl => (by rw [getD_replicate_false] at hl; cases hl)⟩
 have ht0 : todo (Array.replicate l.toArray.size false) n = n := by
  unfold todo
  rw [List.filter_eq_self.2 (fun j hj => by
   have hj' := List.mem_range.1 hj
   have : (Array.replicate l.toArray.size false).getD j true = false := getD_in (by simp; omega) (getD_replicate_false _ _)
   rw [this]; rfl), List.length_range]
 have := key n _ _ _ I0 ht0
 rwa [show n + (l.length - n) = l.toArray.size by simp; omega] at this
end
end Go.Dx
end

section
/- A region that draws its order, whose operations that change the world follow one another (CH); the others (TL) leave the world as it is and may come at any time. No program in sight. -/
namespace Go.Dx
open Go.RowKit

structure ChInv (l : List Oper) (n : Nat) (CH TL T : List HOp) (a0 : Act) (G : Nat → List Value → World → Prop) (listed : Array Bool) (a : Act) (w : World) : Prop where
 inv : HeadInv .any l.toArray n listed
 defers : a.defers = a0.defers
 size : a.tmps.size = a0.tmps.size
 frame : ∀ k, (∀ t ∈ T, t.d ≠ k) → a.tmps.getD k undef = a0.tmps.getD k undef
 stage : ∃ j, j ≤ CH.length ∧ (∀ m c, CH[m]? = some c → (listed.getD c.i false = true ↔ m < j)) ∧ G j (CH.map fun c => a.tmps.getD c.d undef) w
 facts : ∀ t ∈ TL, listed.getD t.i false = true → t.fact a w
def linkOk (ops : Array Oper) : List Nat → Bool
 | i :: j :: l => Region.waitsFor .any ops j i && linkOk ops (j :: l)
 | _ => true
theorem linkOk_get {ops : Array Oper} : ∀ {L : List Nat}, linkOk ops L = true → ∀ m i j, L[m]? = some i → L[m + 1]? = some j → Region.waitsFor .any ops j i = true := by
 intro L
 induction L with
 | nil => intro _ m i j h; cases h
 | cons x L ih =>
  intro h m i j h1 h2
  cases L with
  | nil => cases m <;> simp at h2
  | cons y L =>
   simp only [linkOk, Bool.and_eq_true] at h
   cases m with
   | zero => cases h1; cases h2; exact h.1
   | succ m => exact ih h.2 m i j h1 h2

section
variable {P : Program}
end
end Go.Dx
end

section
/- A region that draws its order: some operations follow one another (CH) and may change what they own; the others (TL) may make memory, come at any time, and their facts outlast what the chain does (R). No program in sight. -/
namespace Go.Dx
open Go.RowKit

def headOk4 (l : List Oper) (n : Nat) (T : List (Nat × Nat × List Nat)) : Bool :=
 let ops := l.toArray
 decide ((T.map (·.1)).Nodup) && decide (n < l.length) && Region.sinkB .any ops n && Region.chainB .any ops n && Region.seqB .any ops (l.length - n) n ((List.replicate n true ++ List.replicate (l.length - n) false).toArray) &&
 (List.range n).all (fun j => T.any fun t => t.1 == j) &&
 T.all (fun t => decide (t.1 < n) && (match l[t.1]? with | some o => (o.after.all fun e => !Region.binds .any e || decide (e.on < t.1)) | none => false)) &&
 T.all (fun t => T.all fun u => t.1 == u.1 || (t.2.1 != u.2.1 && (!u.2.2.contains t.2.1 || Region.waitsFor .any ops u.1 t.1)))
theorem putAll_get4 (g : Nat → Value) : ∀ (L : List Nat) (a : Act) (k : Nat), (putAll a (L.map fun d => (d, g d))).tmps.getD k undef = if k ∈ L ∧ k < a.tmps.size then g k else a.tmps.getD k undef := by
 intro L
 induction L with
 | nil => intro a k; simp [putAll]
 | cons d L ih =>
  intro a k
  have hz : (a.put (some d) (g d)).tmps.size = a.tmps.size := by simp [Act.put]
  rw [List.map_cons, putAll, ih, put_get, hz]
  by_cases h0 : k < a.tmps.size
  ·by_cases h1 : k ∈ L
   ·rw [if_pos ⟨h1, h0⟩, if_pos ⟨List.mem_cons_of_mem _ h1, h0⟩]
   ·rw [if_neg (fun h => h1 h.1)]
    by_cases h2 : d = k
    ·subst h2; rw [if_pos ⟨rfl, h0⟩, if_pos ⟨List.mem_cons_self, h0⟩]
    ·rw [if_neg (fun h => h2 h.1), if_neg (fun h => by rcases List.mem_cons.1 h.1 with h | h; exact h2 h.symm; exact h1 h)]
  ·rw [if_neg (fun h => h0 h.2), if_neg (fun h => h0 (by omega)), if_neg (fun h => h0 h.2)]
section
variable {P : Program}
def OneTurn4 (c : HOp) (a : Act) (R : Value → World → Prop) (e : Exit) (a' : Act) (w' : World) : Prop := e = .normal ∧ ∃ v, a' = (if c.s = [] then a.put (some c.d) v else a) ∧ R v w'
theorem put_out (a : Act) (d : Nat) (v : Value) (h : a.tmps.size ≤ d) : a.put (some d) v = a := by
 refine act_ext rfl (by simp [Act.put]) (fun k => ?_)
 rw [put_get, if_neg (fun hh => by omega)]
theorem wp_region_chain4 {id : Nat} {Q : Exit → Act → World → Prop} {a0 : Act} {w0 : World} {l : List Oper} (n : Nat) (R4 : World → World → Prop) (G : Nat → List Value → World → Prop) (CH TL : List HOp) (hm : P.follows .mixedOrders = true)
  (hB : ((TL.all fun t => decide (t.d < a0.tmps.size)) && (CH.all fun c => if c.s = [] then decide (c.d < a0.tmps.size) else decide (a0.tmps.size ≤ c.d)) && headOk4 l n ((CH ++ TL).map fun t => (t.i, t.d, if TL.any (fun u => u.i == t.i) then t.s else [])) && linkOk l.toArray (CH.map (·.i)) && (TL.all fun t => CH.all fun c => t.i != c.i && t.d != c.d)) = true)
  (hG0 : G 0 (CH.map fun c => a0.tmps.getD c.d undef) { w0 with drawn := w0.drawn + 1 })
  (hR : ∀ w w', Below w.heap.size w w' → R4 w w')
  (hGm : ∀ j vs w w', Below w.heap.size w w' → G j vs w → G j vs w')
  (hmono : All (fun t : HOp => ∀ vs w w', R4 w w' → t.p vs w → t.p vs w') TL)
  (hopC : ∀ m c, CH[m]? = some c → ∀ o, l[c.i]? = some o → ∀ (a : Act) (w : World), G m (CH.map fun c => a.tmps.getD c.d undef) w →
   (∀ k, ((CH ++ TL).map (·.d)).contains k = false → a.tmps.getD k undef = a0.tmps.getD k undef) →
   (∀ (k : Nat) (u : HOp), TL[k]? = some u → Region.waitsFor .any l.toArray c.i u.i = true → u.p (u.s.map fun k => a.tmps.getD k undef) w) →
   wpList P l.toArray (OneTurn4 c a fun v w' => R4 w w' ∧ G (m + 1) (CH.map fun e => if e.d = c.d then (if c.s = [] then v else undef) else a.tmps.getD e.d undef) w') [o] a w)
  (hopL : All (fun t : HOp => ∀ o, l[t.i]? = some o → ∀ (a : Act) (w : World),
   (∀ k, ((CH ++ TL).map (·.d)).contains k = false → a.tmps.getD k undef = a0.tmps.getD k undef) →
   (∀ (k : Nat) (u : HOp), TL[k]? = some u → Region.waitsFor .any l.toArray t.i u.i = true → u.p (u.s.map fun k => a.tmps.getD k undef) w) →
   (∃ j, (∀ m c, CH[m]? = some c → Region.waitsFor .any l.toArray t.i c.i = true → m < j) ∧ j ≤ CH.length ∧ G j (CH.map fun c => a.tmps.getD c.d undef) w) →
   wpList P l.toArray (OneDone t.d a w fun v w' => t.p (t.s.map fun k => if t.d = k then v else a.tmps.getD k undef) w') [o] a w) TL)
  (hend : ∀ (g : Nat → Value) (w : World), G CH.length (CH.map fun c => g c.d) w → (∀ (k : Nat) (u : HOp), TL[k]? = some u → u.p (u.s.map fun k => if k ∈ (CH ++ TL).map (·.d) then g k else a0.tmps.getD k undef) w) →
   wpList P l.toArray Q (l.drop n) (putAll a0 (((CH ++ TL).map (·.d)).map fun d => (d, g d))) w) : (Code.region id l.toArray true).wp P Q a0 w0 := by
 obtain ⟨T, hTdef⟩ : ∃ T, CH ++ TL = T := ⟨_, rfl⟩
 have memC : ∀ t ∈ CH, t ∈ T := fun t ht => by rw [← hTdef]; exact List.mem_append_left _ ht
 have memL : ∀ t ∈ TL, t ∈ T := fun t ht => by rw [← hTdef]; exact List.mem_append_right _ ht
 have split : ∀ t ∈ T, t ∈ CH ∨ t ∈ TL := fun t ht => by rw [← hTdef] at ht; exact List.mem_append.1 ht
 rw [hTdef] at hB hopC hopL hend
 rw [Bool.and_eq_true, Bool.and_eq_true] at hB
 obtain ⟨⟨hB, hlink⟩, hdis⟩ := hB
 rw [Bool.and_eq_true, Bool.and_eq_true] at hB
 obtain ⟨⟨hTLd, hCHd⟩, hB⟩ := hB
 have htl : ∀ t ∈ TL, t.d < a0.tmps.size := fun t ht => by simpa using List.all_eq_true.1 hTLd t ht
 have hch : ∀ c ∈ CH, c.s = [] → c.d < a0.tmps.size := fun c hc hs => by have := List.all_eq_true.1 hCHd c hc; simpa [hs] using this
 have hch2 : ∀ c ∈ CH, c.s ≠ [] → a0.tmps.size ≤ c.d := fun c hc hs => by have := List.all_eq_true.1 hCHd c hc; simpa [hs] using this
 have hdis2 : ∀ t ∈ TL, ∀ c ∈ CH, t.i ≠ c.i ∧ t.d ≠ c.d := by
  intro t ht c hc
  have := List.all_eq_true.1 (List.all_eq_true.1 hdis t ht) c hc
  simpa using this
 have hlk : ∀ m c e, CH[m]? = some c → CH[m + 1]? = some e → Region.waitsFor .any l.toArray e.i c.i = true := fun m c e h1 h2 =>
  linkOk_get hlink m c.i e.i (by rw [List.getElem?_map, h1]; rfl) (by rw [List.getElem?_map, h2]; rfl)
 simp only [headOk4, Bool.and_eq_true, decide_eq_true_eq] at hB
 obtain ⟨⟨⟨⟨⟨⟨⟨hnd, hn⟩, hs⟩, hc⟩, hseq⟩, hcov⟩, hT⟩, hpair⟩ := hB
 have hnodup : ∀ t ∈ T, ∀ u ∈ T, t.i = u.i → t = u := inj_nodup (·.i) T (by rw [List.map_map] at hnd; exact hnd)
 have hn' : n < l.toArray.size := by simpa using hn
 have cover : ∀ j, j < n → ∃ t ∈ T, t.i = j := by
  intro j hj
  have h := List.all_eq_true.1 hcov j (List.mem_range.2 hj)
  obtain ⟨x, hx, he⟩ := List.any_eq_true.1 h
  obtain ⟨t, ht, rfl⟩ := List.mem_map.1 hx
  exact ⟨t, ht, by simpa using he⟩
 have own : ∀ t ∈ T, t.i < n ∧ ∃ o, l[t.i]? = some o ∧ ∀ e ∈ o.after, Region.binds .any e = true → e.on < t.i := by
  intro t ht
  have h := List.all_eq_true.1 hT _ (List.mem_map.2 ⟨t, ht, rfl⟩)
  simp only [Bool.and_eq_true, decide_eq_true_eq] at h
  obtain ⟨h1, h3⟩ := h
  refine ⟨h1, ?_⟩
  cases ho : l[t.i]? with
  | none => rw [ho] at h3; cases h3
  | some o =>
   rw [ho] at h3
   refine ⟨o, rfl, fun e he hb => ?_⟩
   have := Array.all_eq_true_iff_forall_mem.1 h3 e he
   simpa [hb] using this
 have pair : ∀ t ∈ T, ∀ u ∈ T, t.i ≠ u.i → t.d ≠ u.d ∧ (u ∈ TL → t.d ∈ u.s → Region.waitsFor .any l.toArray u.i t.i = true) := by
  intro t ht u hu hne
  have h := List.all_eq_true.1 (List.all_eq_true.1 hpair _ (List.mem_map.2 ⟨t, ht, rfl⟩)) _ (List.mem_map.2 ⟨u, hu, rfl⟩)
  simp only [Bool.or_eq_true, beq_iff_eq, hne, false_or, Bool.and_eq_true, bne_iff_ne, ne_eq, Bool.not_eq_true'] at h
  refine ⟨h.1, fun huL hin => ?_⟩
  have hany : (TL.any fun v => v.i == u.i) = true := List.any_eq_true.2 ⟨u, huL, by simp⟩
  rw [hany, if_pos rfl] at h
  rcases h.2 with h2 | h2
  ·have : u.s.contains t.d = true := by simpa using hin
   rw [this] at h2; cases h2
  ·exact h2
 have key : ∀ (f : Nat) (listed : Array Bool) (a : Act) (w : World), ChInv l n CH TL T a0 G listed a w → todo listed n = f → wpAny P .any l.toArray Q (f + (l.length - n)) listed a w := by
  intro f
  induction f with
  | zero =>
   intro listed a w I h0
   have hall : ∀ j, j < n → listed.getD j true = true := by
    intro j hj
    cases hb : listed.getD j true with
    | true => rfl
    | false =>
     have : j ∈ (List.range n).filter fun j => !listed.getD j true := List.mem_filter.2 ⟨List.mem_range.2 hj, by rw [hb]; rfl⟩
     unfold todo at h0
     rw [List.eq_nil_of_length_eq_zero h0] at this
     cases this
   have hlist : listed = (List.replicate n true ++ List.replicate (l.length - n) false).toArray := by
    have hsz := I.inv.size
    apply Array.ext
    ·simp at hsz ⊢; omega
    ·intro j h1 h2
     by_cases hj : j < n
     ·have := hall j hj
      simp [Array.getD, h1] at this
      simp [this, List.getElem_append_left, hj]
     ·have := I.inv.tail j (by omega) (by rw [← hsz]; exact h1)
      simp [Array.getD, h1] at this
      simp only [this, List.getElem_toArray]
      rw [List.getElem_append_right (by simp; omega)]
      simp
   have ha : a = putAll a0 ((T.map (·.d)).map fun d => (d, a.tmps.getD d undef)) := by
    refine act_ext (by rw [putAll_defers]; exact I.defers) (by rw [putAll_size]; exact I.size) (fun k => ?_)
    rw [putAll_get4 (fun d => a.tmps.getD d undef)]
    by_cases h0 : k < a0.tmps.size
    ·by_cases h : k ∈ T.map (·.d)
     ·rw [if_pos ⟨h, h0⟩]
     ·rw [if_neg (fun hh => h hh.1)]
      exact I.frame k (fun t ht e => h (List.mem_map.2 ⟨t, ht, e⟩))
    ·rw [if_neg (fun hh => h0 hh.2)]
     have h1 := I.size
     have hk : ¬ k < a.tmps.size := by omega
     simp [Array.getD, hk, h0]
   have hls : ∀ t ∈ T, listed.getD t.i false = true := by
    intro t ht
    have := hall t.i (own t ht).1
    rcases Nat.lt_or_ge t.i listed.size with h' | h'
    ·simp [h'] at this ⊢; exact this
    ·have := I.inv.size; have := (own t ht).1; omega
   obtain ⟨j, hj, hjs, hG⟩ := I.stage
   have hjl : j = CH.length := by
    rcases Nat.lt_or_ge j CH.length with h | h
    ·have h1 : CH[j]? = some CH[j] := by simp [h]
     have := (hjs j _ h1).1 (hls _ (memC _ (List.getElem_mem h)))
     omega
    ·omega
   rw [hjl] at hG
   have hfin := hend (fun d => a.tmps.getD d undef) w hG (fun k u hu => by
    have hu' := List.mem_of_getElem? hu
    have h1 := I.facts u hu' (hls u (memL u hu'))
    unfold HOp.fact at h1
    have e : (u.s.map fun k => if k ∈ T.map (·.d) then a.tmps.getD k undef else a0.tmps.getD k undef) = u.s.map fun k => a.tmps.getD k undef := by
     apply List.map_congr_left
     intro k _
     by_cases h : k ∈ T.map (·.d)
     ·rw [if_pos h]
     ·rw [if_neg h]
      exact (I.frame k (fun t ht e => h (List.mem_map.2 ⟨t, ht, e⟩))).symm
    rw [e]
    exact h1)
   rw [← ha] at hfin
   rw [Nat.zero_add]
   have hseq' : Region.seqB .any l.toArray (l.drop n).length n listed = true := by rw [hlist, List.length_drop]; exact hseq
   have := wpAny_of_seq (md := .any) (Q' := Q) (l.drop n) n listed a w (fun j => by simp [List.getElem?_drop]) hseq' hfin
   rwa [List.length_drop] at this
  | succ f ih =>
   intro listed a w I hf
   have hex : ∃ j, j < n ∧ listed.getD j true = false := by
    cases hL : (List.range n).filter fun j => !listed.getD j true with
    | nil => unfold todo at hf; rw [hL] at hf; cases hf
    | cons j L =>
     have : j ∈ (List.range n).filter fun j => !listed.getD j true := by rw [hL]; exact List.mem_cons_self
     obtain ⟨h1, h2⟩ := List.mem_filter.1 this
     exact ⟨j, List.mem_range.1 h1, by simpa using h2⟩
   have hready : Region.ready .any l.toArray listed ≠ [] := by
    have hmin : ∀ m j, j ≤ m → j < n → listed.getD j true = false → ∃ i, i ∈ Region.ready .any l.toArray listed := by
     intro m
     induction m with
     | zero =>
      intro j hj hjn hjl
      have hj0 : j = 0 := by omega
      subst hj0
      obtain ⟨t, ht, hti⟩ := cover 0 hjn
      obtain ⟨_, o, ho, hb⟩ := own t ht
      rw [hti] at ho hb
      exact ⟨0, mem_ready.2 ⟨hjl, o, by simpa using ho, fun e he hbe => absurd (hb e he hbe) (by omega)⟩⟩
     | succ m ihm =>
      intro j hj hjn hjl
      obtain ⟨t, ht, hti⟩ := cover j hjn
      obtain ⟨_, o, ho, hb⟩ := own t ht
      rw [hti] at ho hb
      by_cases hall : ∀ e ∈ o.after, Region.binds .any e = true → listed.getD e.on false = true
      ·exact ⟨j, mem_ready.2 ⟨hjl, o, by simpa using ho, hall⟩⟩
      ·simp only [Classical.not_forall] at hall
       obtain ⟨e, he, hbe, hne⟩ := hall
       have hlt := hb e he hbe
       have hes : e.on < listed.size := by rw [I.inv.size]; simp; omega
       exact ihm e.on (by omega) (by omega) (getD_in hes (by simpa using hne))
    obtain ⟨j, hj, hjl⟩ := hex
    obtain ⟨i, hi⟩ := hmin j j (Nat.le_refl _) hj hjl
    intro h
    rw [h] at hi
    cases hi
   rw [show f + 1 + (l.length - n) = (f + (l.length - n)) + 1 by omega]
   refine ⟨fun h => absurd h hready, fun i hi => ?_⟩
   have hin : i < n := by
    rcases Nat.lt_or_ge i n with h | h
    ·exact h
    ·obtain ⟨j, hj, hjl⟩ := hex
     exact absurd hi (tail_waits hs hc hn' I.inv _ j rfl hj hjl i h)
   obtain ⟨t, ht, hti⟩ := cover i hin
   obtain ⟨_, o, ho, _⟩ := own t ht
   obtain ⟨hil, oi, hoi, hafter⟩ := mem_ready.1 hi
   have hoo : oi = o := by rw [hti] at ho; exact Option.some.inj (hoi.symm.trans (by simpa using ho))
   subst hoo
   have hframe : ∀ k, (T.map (·.d)).contains k = false → a.tmps.getD k undef = a0.tmps.getD k undef := fun k hk => I.frame k (fun u hu e => by
     have : (T.map (·.d)).contains k = true := by simpa using ⟨u, hu, e⟩
     rw [this] at hk; cases hk)
   have hfacts : ∀ (k : Nat) (u : HOp), TL[k]? = some u → Region.waitsFor .any l.toArray t.i u.i = true → u.p (u.s.map fun k => a.tmps.getD k undef) w := fun k u hu hw => by
    have hu' := List.mem_of_getElem? hu
    obtain ⟨oj, hoj, e, he, hb, hon⟩ := Region.waitsFor_spec hw
    have : oj = oi := by rw [hti] at hoj; exact Option.some.inj (hoj.symm.trans hoi)
    subst this
    have h1 := hafter e he hb
    rw [hon] at h1
    exact I.facts u hu' h1
   have step0 : ∀ (v : Value) (w' : World), R4 w w' → (∃ j, j ≤ CH.length ∧ (∀ m c, CH[m]? = some c → ((listed.setIfInBounds i true).getD c.i false = true ↔ m < j)) ∧ G j (CH.map fun c => (a.put (some t.d) v).tmps.getD c.d undef) w') →
     (t ∈ TL → t.p (t.s.map fun k => if t.d = k then v else a.tmps.getD k undef) w') → wpAny P .any l.toArray Q (f + (l.length - n)) (listed.setIfInBounds i true) (a.put (some t.d) v) w' := by
    intro v w' hrr hst hp
    refine ih _ _ _ ⟨I.inv.set hi hin, I.defers, ?_, ?_, hst, ?_⟩ ?_
    ·rw [← I.size]; simp [Act.put]
    ·intro k hk
     rw [put_get, if_neg (fun h => hk t ht h.1)]
     exact I.frame k hk
    ·intro u hu hul
     by_cases hui : t.i = u.i
     ·unfold HOp.fact
      have hut : u = t := hnodup u (memL u hu) t ht hui.symm
      subst hut
      have e : (u.s.map fun k => (a.put (some u.d) v).tmps.getD k undef) = u.s.map fun k => if u.d = k then v else a.tmps.getD k undef := by
       apply List.map_congr_left
       intro k _
       rw [put_get, I.size]
       by_cases hk : u.d = k
       ·rw [if_pos ⟨hk, htl _ hu⟩, if_pos hk]
       ·rw [if_neg (fun h => hk h.1), if_neg hk]
      rw [e]
      exact hp hu
     ·unfold HOp.fact
      have hul2 : listed.getD u.i false = true := by rw [← getD_set_ne false (i := i) (j := u.i) (by rw [← hti]; exact hui)]; exact hul
      have h1 := hmono.mem u hu _ w w' hrr (I.facts u hu hul2)
      have hnot : t.d ∉ u.s := by
       intro hin2
       have hw := (pair t ht u (memL u hu) hui).2 hu hin2
       obtain ⟨ou, hou, e, he, hb, hon⟩ := Region.waitsFor_spec hw
       have := I.inv.closed u.i ou hou hul2 e he hb
       rw [hon, hti, getD_both hil] at this
       cases this
      have e : (u.s.map fun k => (a.put (some t.d) v).tmps.getD k undef) = u.s.map fun k => a.tmps.getD k undef := by
       apply List.map_congr_left
       intro k hk
       rw [put_get, if_neg (fun (h : t.d = k ∧ t.d < a.tmps.size) => hnot (by rw [h.1]; exact hk))]
      rw [e]
      exact h1
    ·have := todo_set hin hil; omega
   have fin : ∀ (R : Exit → Act → World → Prop), (∀ e a' w', R e a' w' → e = .normal) → (∀ a' w', R .normal a' w' → wpAny P .any l.toArray Q (f + (l.length - n)) (listed.setIfInBounds i true) a' w') → wpList P l.toArray R [oi] a w → wpOp P l.toArray Q i (fun a' w' => wpAny P .any l.toArray Q (f + (l.length - n)) (listed.setIfInBounds i true) a' w') a w := by
    intro R hR step H
    unfold wpList at H
    unfold wpOp
    rw [hoi]
    simp only
    by_cases hwant : Region.wanted oi (yielded l.toArray a.tmps) = true
    ·rw [if_pos hwant] at H
     rw [if_pos hwant]
     left
     rcases H with H | ⟨_, a1, w1, h1⟩
     ·exact wp_both (fun a' w' h => step a' w' h) (fun e a' w' he h => absurd (hR _ _ _ h) he) H
     ·exact absurd (hR _ _ _ h1) (by simp)
    ·rw [if_neg hwant] at H
     rw [if_neg hwant]
     exact step _ _ H
   obtain ⟨j, hj, hjs, hG⟩ := I.stage
   rcases split t ht with h | h
   ·obtain ⟨j0, hj0l, hj0⟩ := List.mem_iff_getElem.1 h
    have hg0 : CH[j0]? = some t := by rw [List.getElem?_eq_getElem hj0l, hj0]
    have hnl : listed.getD t.i false = false := by rw [hti]; exact getD_both hil
    have h1 : ¬ j0 < j := fun h => by rw [(hjs j0 t hg0).2 h] at hnl; cases hnl
    have h2 : j0 ≤ j := by
     cases j0 with
     | zero => omega
     | succ q =>
      have hq : CH[q]? = some CH[q] := by simp
      obtain ⟨oj, hoj, e, he, hb, hon⟩ := Region.waitsFor_spec (hlk q _ t hq hg0)
      have : oj = oi := by rw [hti] at hoj; exact Option.some.inj (hoj.symm.trans hoi)
      subst this
      have h3 := hafter e he hb
      rw [hon] at h3
      have := (hjs q _ hq).1 h3
      omega
    obtain rfl : j0 = j := by omega
    refine fin _ (fun e a' w' h => h.1) ?_ (hopC j0 t hg0 oi ho a w hG hframe hfacts)
    rintro a' w' ⟨_, v, ha', hrr, hG'⟩
    obtain rfl : a' = a.put (some t.d) v := by
     rw [ha']
     by_cases hs0 : t.s = []
     ·rw [if_pos hs0]
     ·rw [if_neg hs0, put_out a t.d v (by rw [I.size]; exact hch2 t h hs0)]
    refine step0 v w' hrr ⟨j0 + 1, by omega, ?_, ?_⟩ (fun hL => absurd rfl (hdis2 t hL t h).1)
    ·intro m c hc
     by_cases hci : c.i = i
     ·have hct : c = t := hnodup c (memC c (List.mem_of_getElem? hc)) t ht (by rw [hci, hti])
      subst hct
      have hm0 : m = j0 := by
       rcases Nat.lt_trichotomy m j0 with h | h | h
       ·have := (hjs m c hc).2 h
        rw [hnl] at this; cases this
       ·exact h
       ·exfalso
        have hnd2 : (CH.map (·.i)).Nodup := by
         have h5 := hnd
         rw [← hTdef, List.map_map, List.map_append] at h5
         exact (List.nodup_append.1 h5).1
        have h6 : (CH.map (·.i))[m]? = some c.i := by rw [List.getElem?_map, hc]; rfl
        have h7 : (CH.map (·.i))[j0]? = some c.i := by rw [List.getElem?_map, hg0]; rfl
        obtain ⟨hm1, hm2⟩ := List.getElem?_eq_some_iff.1 h6
        have := (List.getElem?_inj hm1 hnd2).1 (h6.trans h7.symm)
        omega
      subst hm0
      have hlt : i < listed.size := by rw [I.inv.size]; simp; have := hn; omega
      rw [hci]
      simp [hlt]
     ·rw [getD_set_ne false (fun e => hci e.symm), hjs m c hc]
      constructor
      ·intro h; omega
      ·intro h
       rcases Nat.lt_or_ge m j0 with h' | h'
       ·exact h'
       ·obtain rfl : m = j0 := by omega
        rw [hg0] at hc
        cases hc
        exact absurd hti hci
    ·have e : (CH.map fun c => (a.put (some t.d) v).tmps.getD c.d undef) = CH.map fun e => if e.d = t.d then (if t.s = [] then v else undef) else a.tmps.getD e.d undef := by
      apply List.map_congr_left
      intro c _
      rw [put_get, I.size]
      by_cases hk : t.d = c.d
      ·by_cases hs0 : t.s = []
       ·rw [if_pos ⟨hk, hch t h hs0⟩, if_pos hk.symm, if_pos hs0]
       ·have h2 := hch2 t h hs0
        rw [if_neg (fun hh => by omega), if_pos hk.symm, if_neg hs0]
        have h1 := I.size
        have hk : ¬ c.d < a.tmps.size := by omega
        simp [Array.getD, hk]
      ·rw [if_neg (fun h => hk h.1), if_neg (fun h => hk h.symm)]
     rw [e]
     exact hG'
   ·refine fin _ (fun e a' w' h => h.1) ?_ (hopL.mem t h oi ho a w hframe hfacts ⟨j, ?_, hj, hG⟩)
    rotate_left
    ·intro m c hc hw
     obtain ⟨oj, hoj, e, he, hb, hon⟩ := Region.waitsFor_spec hw
     have : oj = oi := by rw [hti] at hoj; exact Option.some.inj (hoj.symm.trans hoi)
     subst this
     have h3 := hafter e he hb
     rw [hon] at h3
     exact (hjs m c hc).1 h3
    rintro a' w' ⟨_, v, rfl, hbl, hp⟩
    refine step0 v _ (hR _ _ hbl) ⟨j, hj, ?_, ?_⟩ (fun _ => hp)
    ·intro m c hc
     rw [getD_set_ne false (by rw [← hti]; exact (hdis2 t h c (List.mem_of_getElem? hc)).1)]
     exact hjs m c hc
    ·have e : (CH.map fun c => (a.put (some t.d) v).tmps.getD c.d undef) = CH.map fun c => a.tmps.getD c.d undef := by
      apply List.map_congr_left
      intro c hc
      rw [put_get, if_neg (fun hh => (hdis2 t h c hc).2 hh.1)]
     rw [e]
     exact hGm _ _ _ _ hbl hG
 refine wp_region_any hm ?_
 have inv0 : HeadInv .any l.toArray n (Array.replicate l.toArray.size false) :=
  ⟨by simp, fun j oj _ hl => (by rw [getD_replicate_false] at hl; cases hl), fun t _ ht => getD_in (by simpa using ht) (getD_replicate_false _ _)⟩
 have I0 : ChInv l n CH TL T a0 G (Array.replicate l.toArray.size false) a0 { w0 with drawn := w0.drawn + 1 } :=
  ⟨inv0, rfl, rfl, fun _ _ => rfl, ⟨0, Nat.zero_le _, fun m c _ => (by rw [getD_replicate_false]; simp), hG0⟩, fun t _ hl => (by rw [getD_replicate_false] at hl; cases hl)⟩
 have ht0 : todo (Array.replicate l.toArray.size false) n = n := by
  unfold todo
  rw [List.filter_eq_self.2 (fun j hj => by
   have hj' := List.mem_range.1 hj
   have : (Array.replicate l.toArray.size false).getD j true = false := getD_in (by simp; omega) (getD_replicate_false _ _)
   rw [this]; rfl), List.length_range]
 have := key n _ _ _ I0 ht0
 rwa [show n + (l.length - n) = l.toArray.size by simp; omega] at this
end
end Go.Dx
end

section
/- Chapter 06: table.Encode. -/
namespace Go.Dx
open Go.RowKit
theorem own_ne {w : World} {B : Nat} {e t : TypeId} {sz g : Nat} {a : Option Addr} {n c : Nat} {xs cs : List Value} (h : Own w B e sz a n c xs) (hx : Box w g t cs) (ht : t ≠ e) : some g ≠ a.map (·.block) := by
 intro he
 cases a with
 | none => cases he
 | some q =>
  rcases h.2 with h2 | ⟨g', cap, cur, h1, h2, h3, r⟩
  ·cases h2.1
  ·cases h1
   injection he with he
   subst he
   unfold Box at hx
   rw [h3] at hx
   injection hx with hx
   injection hx with _ hx _
   exact ht hx.symm
def GE (w2 : World) (B b7 : Nat) (U RT : TypeId) (n e1 e2 : Nat) (X T1 T2 : List Value) (o : Option Addr) (c : Nat) (RC : List Value) (j : Nat) (vs : List Value) (w : World) : Prop :=
 Below B w2 w ∧ Box w b7 RT RC ∧ match j with
  | 0 => Own w B U 1 o n c X
  | 1 => Own w B U 1 o n c X ∧ ∃ a5 c5, vs.getD 0 undef = .slice a5 e1 c5 ∧ Sl w 1 a5 e1 c5 T1
  | 2 => ∃ a6 c6, vs.getD 1 undef = .slice a6 (n + e1) c6 ∧ Own w B U 1 a6 (n + e1) c6 (X ++ T1)
  | 3 => ∃ a6 c6, vs.getD 1 undef = .slice a6 (n + e1) c6 ∧ Own w B U 1 a6 (n + e1) c6 (X ++ T1) ∧ ∃ a7 c7, vs.getD 2 undef = .slice a7 e2 c7 ∧ Sl w 1 a7 e2 c7 T2
  | _ => ∃ a8 c8, vs.getD 3 undef = .slice a8 (n + e1 + e2) c8 ∧ Own w B U 1 a8 (n + e1 + e2) c8 (X ++ T1 ++ T2)
theorem GE.below {w2 : World} {B b7 : Nat} {U RT : TypeId} {n e1 e2 : Nat} {X T1 T2 : List Value} {o : Option Addr} {c : Nat} {RC : List Value} (hB : B ≤ w2.heap.size) : ∀ (j : Nat) (vs : List Value) (w w' : World), Below w.heap.size w w' → GE w2 B b7 U RT n e1 e2 X T1 T2 o c RC j vs w → GE w2 B b7 U RT n e1 e2 X T1 T2 o c RC j vs w' := by
 intro j vs w w' hb h
 obtain ⟨h1, h2, h3⟩ := h
 refine ⟨h1.trans (hb.mono (Nat.le_trans hB h1.size)), h2.under hb, ?_⟩
 rcases j with _ | _ | _ | _ | j
 ·exact Own.below h3 hb
 ·obtain ⟨h3, a5, c5, h4, h5⟩ := h3; exact ⟨h3.below hb, a5, c5, h4, h5.below hb⟩
 ·obtain ⟨a5, c5, h4, h5⟩ := h3; exact ⟨a5, c5, h4, h5.below hb⟩
 ·obtain ⟨a5, c5, h4, h5, a7, c7, h6, h7⟩ := h3; exact ⟨a5, c5, h4, h5.below hb, a7, c7, h6, h7.below hb⟩
 ·obtain ⟨a5, c5, h4, h5⟩ := h3; exact ⟨a5, c5, h4, h5.below hb⟩
end Go.Dx
namespace Go.Proofs.YtfagjaabladgpaaDoor
open Go.RowKit Go.Dx
set_option maxRecDepth 100000 in
set_option maxHeartbeats 4000000 in
theorem tab_Encode (H : TH) (t : Ta) (w : World) (hT : TaE w H t) (hW : WhB t) (hl : (encTa t).length ≤ 1000000000) :
  Calls Tryd.prog 6 #[H.v] w (Gives 5 1 (encTa t).length ((encTa t).map B8) w) := by
 have HW := hide hW
 have HL := hide hl
 have Hm := hide hT
 clear hW hl hT
 obtain ⟨⟨a0, n0, c0⟩, ⟨a1, n1, c1⟩, ps0, ps1, ⟨ad, nd, cd⟩, ⟨ac, nc, cc⟩, ⟨an, nn, cn⟩, ⟨af, nf, cf⟩, ⟨aw, nw, cw⟩⟩ := H
 unfold TH.v
 simp only [hdv]
 have Y1 := Box.new w 29 #[.slice a0 n0 c0, .slice a1 n1 c1, .slice ad nd cd, .slice ac nc cc, .slice an nn cn, .slice af nf cf, .slice aw nw cw]
 have hba := blo w (.cells #[.slice a0 n0 c0, .slice a1 n1 c1, .slice ad nd cd, .slice ac nc cc, .slice an nn cn, .slice af nf cf, .slice aw nw cw] 29)
 go_enter Tryd.func6, Tryd.ntmps6
 go_upto_region 3 with fail
 generalize w.alloc (.cells _ 29) = w2 at *
 obtain ⟨H, hH⟩ : ∃ H : TH, H = ⟨(a0, n0, c0), (a1, n1, c1), ps0, ps1, (ad, nd, cd), (ac, nc, cc), (an, nn, cn), (af, nf, cf), (aw, nw, cw)⟩ := ⟨_, rfl⟩
 have HT2 : TaE w2 H t := by rw [hH]; exact Hm.out.below hba
 have HX5 : Hid (Box w2 w.heap.size 29 [.slice a0 n0 c0, .slice a1 n1 c1, .slice ad nd cd, .slice ac nc cc, .slice an nn cn, .slice af nf cf, .slice aw nw cw]) := hide Y1
 have hX2 : tcells H = [.slice a0 n0 c0, .slice a1 n1 c1, .slice ad nd cd, .slice ac nc cc, .slice an nn cn, .slice af nf cf, .slice aw nw cw] := by rw [hH]; rfl
 have HX2 := hide hX2
 have HHH := hide hH
 clear hH Hm Y1 hX2
 obtain ⟨gT, hgT⟩ : ∃ gT, Hid (w.heap.size = gT) := ⟨_, hide rfl⟩
 rw [hgT.out] at HX5 ⊢
 have HBA := hide hba
 clear hba
 obtain ⟨B, hB⟩ : ∃ B, Hid (w2.heap.size = B) := ⟨_, hide rfl⟩
 have hb22 : Below B w2 w2 := Below.refl _ _
 go_wp2_with fail
 go_loopg [3, 10] 2 (fun gh v3 v4 w' => ∃ (k : Nat) (o : Option Addr) (n c : Nat), k ≤ 2 ∧ gh = 2 - k ∧ v4 = .int .i64 (k : Int) ∧ v3 = .slice o n c ∧ Own w' B 5 1 o n c ((encK t k).map B8) ∧ Below B w2 w')
 case atStart => exact ⟨0, none, 0, 0, Nat.zero_le _, rfl, rfl, rfl, Own.nil _ _ _ _, hb22⟩
 case round =>
  clear hb22
  obtain ⟨k, o, n, c, hk, rfl, rfl, rfl, hO, hb⟩ := hrel
  have hb' : Below w2.heap.size w2 wr := by rw [hB.out]; exact hb
  have hBw : B ≤ wr.heap.size := by rw [← hB.out]; exact hb'.size
  have hnE : n = (encK t k).length := hO.sl.n_eq
  have hn9 : n ≤ 1000000000 := by rw [hnE]; exact Nat.le_trans (encK_le t hk) HL.out
  by_cases hk2 : k < 2
  ·have d0 : decide ((k : Int) < 2) = true := decide_eq_true (by omega)
   obtain ⟨ar, nr, cr, ps, hck, hR2, hen⟩ := selE HT2 hk2
   rw [HX2.out] at hck
   have hck2 : [Value.slice a0 n0 c0, .slice a1 n1 c1][k]? = some (.slice ar nr cr) := by rcases k with _ | _ | k; exact hck; exact hck; omega
   have HCK := hide hck2
   clear hck hck2
   have hnr : nr = ps.length := hR2.top.nf rc_len (by decide)
   have hpl : ps.length = (langE t k).length := by rw [← hen]; unfold rus; rw [List.length_map]
   have HPL := hide hpl
   have HEN := hide hen
   have htot : (encK t k).length + (encMany encRu (langE t k)).length ≤ 1000000000 := by
    have h1 := encK_le t (k := k + 1) (by omega)
    rw [encK_step t hk2, List.length_append] at h1
    exact Nat.le_trans h1 HL.out
   have HTOT := hide htot
   have hnr9 : nr ≤ 1000000000 := by
    have h2 : (langE t k).length ≤ ((langE t k).flatMap encRu).length := flatMap_ge (fun r _ => by unfold encRu encBytes; rw [List.length_append, List.length_append]; have := encInt_pos (r.text.data.toList.length : Int); omega)
    unfold encMany at htot
    rw [List.length_append] at htot
    omega
   have HNE := hide hnE
   have HR2 := hide hR2
   clear hen hpl htot hR2 hnE
   subst hnr
   go_upto_region 5 with (with_reducible refine idx_tab 12 _ _ [.slice a0 n0 c0, .slice a1 n1 c1] rfl _ k rfl hk2 _ HCK.out ?_)
   have hb0 := blo wr (.cells #[.slice ar ps.length cr] 26)
   have x5 : Box (wr.alloc (.cells #[.slice ar ps.length cr] 26)) wr.heap.size 26 [.slice ar ps.length cr] := Box.new _ _ _
   generalize wr.alloc (.cells #[.slice ar ps.length cr] 26) = w4 at *
   obtain ⟨b5, h5⟩ : ∃ b, Hid (wr.heap.size = b) := ⟨_, hide rfl⟩
   have hO4 := hO.below hb0
   have hb24 := hb.trans (hb0.mono hBw)
   have hB4 : B ≤ w4.heap.size := Nat.le_trans hBw hb0.size
   rw [h5.out] at x5 ⊢
   have k5 := x5.at_ (j := 0) rfl
   have hIn := hide (wire_Int (ps.length : Int) (by omega) (by omega) w4)
   clear hO hb hb' hBw hb0
   go_wp2_with (go_at_call 23; refine hIn.out.mono ?_; rintro e w5 ⟨a5, c5, rfl, hO5, hb5⟩; refine hold ?_)
   refine hide ?_
   have hO1 := hO4.below hb5
   have x5b := x5.under hb5
   have hb25 := hb24.trans (hb5.mono hB4)
   have hB5 : B ≤ w5.heap.size := Nat.le_trans hB4 hb5.size
   have hi9 := encInt_le (ps.length : Int)
   have hs5 := hO5.sl
   have hne5 := own_ne hO1 x5b (by decide)
   clear hO4 hb24 hB4 hb5 hIn x5 k5 hO5
   go_wp2_with (at_builtin; refine app_bs rfl _ _ rfl w5 B o n c _ rfl hO1 a5 _ c5 (encInt (ps.length : Int)) rfl hs5 (by omega) hB5 (Below.refl _ _) ?_; intro a6 c6 w6 hO6 gb6 hb6; refine hold ?_)
   refine hide ?_
   have hb26 := hb25.trans hb6
   have hB6 : B ≤ w6.heap.size := Nat.le_trans hB5 hb6.size
   have x6 := x5b.grown gb6 hne5
   have k6 := x6.at_ (j := 0) rfl
   have hO66 : Own w6 B 5 1 a6 (n + (encInt (ps.length : Int)).length) c6 ((encK t k ++ (encInt (ps.length : Int) ++ ((langE t k).take 0).flatMap encRu)).map B8) := by
    rw [List.map_append]
    simpa using hO6
   clear hO1 hb25 hB5 gb6 hb6 hO6 hi9 hs5 hne5 x5b x6
   go_wp2_with fail
   clear k6
   go_loopg [3, 22] ps.length (fun gh v3 v6 w' => ∃ (i : Nat) (o : Option Addr) (n c : Nat), i ≤ ps.length ∧ gh = ps.length - i ∧ v6 = .int .i64 (i : Int) ∧ v3 = .slice o n c ∧ Own w' B 5 1 o n c ((encK t k ++ (encInt (ps.length : Int) ++ ((langE t k).take i).flatMap encRu)).map B8) ∧ Below B w2 w')
   case atStart => exact ⟨0, a6, _, c6, Nat.zero_le _, rfl, rfl, rfl, hO66, hb26⟩
   case round =>
    clear hO66 hb26 hB6
    obtain ⟨i, o, n, c, hi, rfl, rfl, rfl, hO, hb⟩ := hrel
    have hb' : Below w2.heap.size w2 wr := by rw [hB.out]; exact hb
    have hBw : B ≤ wr.heap.size := by rw [← hB.out]; exact hb'.size
    have hnE := hide hO.sl.n_eq
    by_cases hin : i < ps.length
    ·have d1 : decide ((i : Int) < (ps.length : Int)) = true := decide_eq_true (by omega)
     have d1n : decide (i < ps.length) = true := decide_eq_true hin
     obtain ⟨p, hp⟩ : ∃ p, ps[i]? = some p := ⟨_, List.getElem?_eq_getElem hin⟩
     obtain ⟨b, o0, hab, hbb, z0, z1, z2⟩ := ru_cells HR2.out.top hp
     subst hab
     have hrow := HR2.out.row p (List.mem_of_getElem? hp)
     have hr : (langE t k)[i]? = some p.1 := by rw [← HEN.out]; unfold rus; rw [List.getElem?_map, hp]; rfl
     have hwh := HW.out p.1 (by have hm := List.mem_of_getElem? hr; unfold langE at hm; split at hm; exact .inl hm; exact .inr hm)
     have hnx := take_enc1 hr
     have hle : (encK t k).length + (encInt (ps.length : Int) ++ ((langE t k).take i).flatMap encRu ++ encRu p.1).length ≤ 1000000000 := by
      have h1 := encMany_take (l := langE t k) (i := i + 1)
      rw [hnx, ← HPL.out, ← List.append_assoc] at h1
      have h2 := HTOT.out
      omega
     have hnn : n + (encRu p.1).length ≤ 1000000000 := by
      have h3 := hnE.out
      rw [List.length_append] at h3
      rw [List.length_append] at hle
      omega
     obtain ⟨⟨tx, wh, cs⟩, ⟨qa, qn, qc⟩⟩ := p
     simp only at z0 z1 z2 hrow hwh hnx hnn
     have he : (encRu ⟨tx, wh, cs⟩).length = (encBytes tx.data.toList).length + ((encInt wh).length + (encBytes cs).length) := by unfold encRu; rw [List.length_append, List.length_append]
     have htx : tx.size ≤ (encBytes tx.data.toList).length := by have := encBytes_len tx.data.toList; have e : tx.data.toList.length = tx.size := Array.length_toList; omega
     have hcx := encBytes_len cs
     have HNX := hide hnx
     have HCL : Hid (∀ w' : World, Below B w2 w' → w'.cell? ⟨b, o0 + i * 3, none⟩ = some (.string tx) ∧ w'.cell? ⟨b, o0 + i * 3 + 1, none⟩ = some (.int .i64 wh) ∧ w'.cell? ⟨b, o0 + i * 3 + 2, none⟩ = some (.slice qa qn qc) ∧ Sl w' 1 qa qn qc (cs.map B8)) := hide (fun w' h => by
      have h' : Below w2.heap.size w2 w' := by rw [hB.out]; exact h
      exact ⟨cell_below z0 h', cell_below z1 h', cell_below z2 h', hrow.below h'⟩)
     obtain ⟨T1, hT1⟩ : ∃ x, Hid (encBytes tx.data.toList = x) := ⟨_, hide rfl⟩
     obtain ⟨T2, hT2⟩ : ∃ x, Hid (encInt wh = x) := ⟨_, hide rfl⟩
     obtain ⟨T3, hT3⟩ : ∃ x, Hid (encBytes cs = x) := ⟨_, hide rfl⟩
     rw [hT1.out, hT2.out, hT3.out] at he
     rw [he] at hnn
     rw [hT1.out] at htx
     rw [hT3.out] at hcx
     have hHO : (encRu ⟨tx, wh, cs⟩) = T1 ++ (T2 ++ T3) := by rw [← hT1.out, ← hT2.out, ← hT3.out]; rfl
     have HHO := hide hHO
     obtain ⟨XS, hXS⟩ : ∃ x, Hid (encK t k ++ (encInt (ps.length : Int) ++ ((langE t k).take i).flatMap encRu) = x) := ⟨_, hide rfl⟩
     rw [hXS.out] at hO
     clear hp hr hle hnx hb' z0 z1 z2 hrow he hbb hHO
     have x0 := HCL.out wr hb
     go_upto_region 9 with (first
      | (with_reducible refine index_rowF 24 24 _ _ 45 Tryd.underlying24 3 size_rule b o0 ps.length cr rfl _ _ i rfl rfl hin ?_)
      | (with_reducible refine load_struct 25 45 _ 3 size_rule _ Tryd.underlying45 ⟨b, o0 + i * 3, none⟩ rfl [.string tx, .int .i64 wh, .slice qa qn qc] rfl (by intro j u hj; rw [Addr.add_lit]; rcases j with _ | _ | _ | j; exact x0.1.trans hj; exact x0.2.1.trans hj; exact x0.2.2.1.trans hj; simp at hj) ?_))
     clear x0
     have hb0 := blo wr (.cells #[.string tx, .int .i64 wh, .slice qa qn qc] 45)
     have x7 : Box (wr.alloc (.cells #[.string tx, .int .i64 wh, .slice qa qn qc] 45)) wr.heap.size 45 [.string tx, .int .i64 wh, .slice qa qn qc] := Box.new _ _ _
     generalize wr.alloc (.cells #[.string tx, .int .i64 wh, .slice qa qn qc] 45) = w7 at *
     obtain ⟨b7, h7⟩ : ∃ b, Hid (wr.heap.size = b) := ⟨_, hide rfl⟩
     rw [h7.out] at x7 ⊢
     have hO7 := hO.below hb0
     have hb27 := hb.trans (hb0.mono hBw)
     have hB7 : B ≤ w7.heap.size := Nat.le_trans hBw hb0.size
     have hBy := hide (fun w' => wire_Bytes tx (by omega) w')
     rw [hT1.out] at hBy
     have hIy := hide (fun w' => wire_Int wh hwh.1 hwh.2 w')
     rw [hT2.out] at hIy
     have hCy := hide (fun w' => wire_Bytes (S8 cs) (by rw [S8_size]; omega) w')
     rw [S8_list, hT3.out] at hCy
     have hB2 : B ≤ w2.heap.size := by rw [hB.out]; exact Nat.le_refl _
     have HB2 := hide hB2
     clear hO hb hb0 hBw hwh hB2
     refine hide ?_
     refine wp_region_chain4 9 (fun _ _ => True) (GE w2 B b7 5 45 n T1.length T2.length (XS.map B8) (T1.map B8) (T2.map B8) o c [.string tx, .int .i64 wh, .slice qa qn qc]) [⟨3, 29, [], fun _ _ => True⟩, ⟨4, 30, [], fun _ _ => True⟩, ⟨7, 33, [], fun _ _ => True⟩, ⟨8, 34, [], fun _ _ => True⟩] [⟨0, 26, [26], fun vs _ => vs = [.slice o n c]⟩, ⟨1, 27, [27], fun vs _ => vs = [.pointer (some ⟨b7, 0, none⟩)]⟩, ⟨2, 28, [28], fun vs _ => vs = [.string tx]⟩, ⟨5, 31, [31], fun vs _ => vs = [.pointer (some ⟨b7, 1, none⟩)]⟩, ⟨6, 32, [32], fun vs _ => vs = [.int .i64 wh]⟩] (by kernel_rfl) (by kernel_rfl) ?_ (fun _ _ _ => trivial) (GE.below HB2.out) ?_ ?_ ?_ ?_
     ·exact ⟨⟨hb27.os, hb27.tape, hb27.output, hb27.size, hb27.block⟩, x7, hO7⟩
     ·simp only [All]
      refine ⟨(fun _ _ _ _ h => h), (fun _ _ _ _ h => h), (fun _ _ _ _ h => h), (fun _ _ _ _ h => h), (fun _ _ _ _ h => h), trivial⟩
     ·intro m c hc o ho a w' hG hfr hdep
      rcases m with _ | _ | _ | _ | m
      ·cases hc
       obtain rfl := oj ho
       obtain ⟨hb, hx, hG⟩ := hG
       have hBw : B ≤ w'.heap.size := Nat.le_trans HB2.out hb.size
       have hG : Own w' B 5 1 o n c (XS.map B8) := hG
       have g28 : a.tmps.getD 28 undef = .string tx := by simpa using hdep 2 _ rfl (by kernel_rfl)
       have g28' : a.tmps[28]?.getD undef = .string tx := by simpa using g28
       clear hfr hdep
       go_wp2_with fail
       refine (hBy.out w').mono ?_
       rintro e w5 ⟨a5, c5, rfl, hO5, hb5⟩
       have q1 := hb.trans (hb5.mono hBw)
       have q2 := hx.under hb5
       have q3 := hG.below hb5
       have q4 := hO5.sl
       go_wp2_with fail
       exact ⟨rfl, _, rfl, q1, q2, q3, a5, c5, rfl, q4⟩
      ·cases hc
       obtain rfl := oj ho
       obtain ⟨hb, hx, hG⟩ := hG
       have hBw : B ≤ w'.heap.size := Nat.le_trans HB2.out hb.size
       obtain ⟨hO, a5, c5, g29, hs5⟩ := hG
       have g29 : a.tmps.getD 29 undef = .slice a5 T1.length c5 := g29
       have g26 : a.tmps.getD 26 undef = .slice o n c := by simpa using hdep 0 _ rfl (by kernel_rfl)
       have g26' : a.tmps[26]?.getD undef = .slice o n c := by simpa using g26
       clear hfr hdep
       have hne := own_ne hO hx (by decide)
       refine app_bs rfl _ _ rfl w' B o n c _ g26 hO a5 T1.length c5 T1 g29 hs5 (by omega) hBw (Below.refl _ _) ?_
       intro a6 c6 w6 hO6 gb6 hb6
       have q1 := hb.trans hb6
       have q2 := hx.grown gb6 hne
       go_wp2
       exact ⟨rfl, _, rfl, q1, q2, a6, c6, rfl, hO6⟩
      ·cases hc
       obtain rfl := oj ho
       obtain ⟨hb, hx, hG⟩ := hG
       have hBw : B ≤ w'.heap.size := Nat.le_trans HB2.out hb.size
       obtain ⟨a6, c6, g30, hO⟩ := hG
       have g30 : a.tmps.getD 30 undef = .slice a6 (n + T1.length) c6 := g30
       have g32 : a.tmps.getD 32 undef = .int .i64 wh := by simpa using hdep 4 _ rfl (by kernel_rfl)
       have g32' : a.tmps[32]?.getD undef = .int .i64 wh := by simpa using g32
       clear hfr hdep
       go_wp2_with fail
       refine (hIy.out w').mono ?_
       rintro e w5 ⟨a5, c5, rfl, hO5, hb5⟩
       have q1 := hb.trans (hb5.mono hBw)
       have q2 := hx.under hb5
       have q3 := hO.below hb5
       have q4 := hO5.sl
       go_wp2_with fail
       exact ⟨rfl, _, rfl, q1, q2, a6, c6, by simpa using g30, q3, a5, c5, rfl, q4⟩
      ·cases hc
       obtain rfl := oj ho
       obtain ⟨hb, hx, hG⟩ := hG
       have hBw : B ≤ w'.heap.size := Nat.le_trans HB2.out hb.size
       obtain ⟨a6, c6, g30, hO, a7, c7, g33, hs7⟩ := hG
       have g30 : a.tmps.getD 30 undef = .slice a6 (n + T1.length) c6 := g30
       have g33 : a.tmps.getD 33 undef = .slice a7 T2.length c7 := g33
       clear hfr hdep
       have hne := own_ne hO hx (by decide)
       refine app_bs rfl _ _ rfl w' B a6 (n + T1.length) c6 _ g30 hO a7 T2.length c7 T2 g33 hs7 (by omega) hBw (Below.refl _ _) ?_
       intro a8 c8 w8 hO8 gb8 hb8
       have q1 := hb.trans hb8
       have q2 := hx.grown gb8 hne
       go_wp2
       exact ⟨rfl, _, rfl, q1, q2, a8, c8, rfl, hO8⟩
      ·cases hc
     ·simp only [All]
      refine ⟨?_, ?_, ?_, ?_, ?_, trivial⟩
      ·intro o ho a' w' hfr hdep hst; obtain rfl := oj ho
       have g3 : a'.tmps[3]?.getD undef = .slice o n c := by simpa using hfr 3 (by kernel_rfl)
       clear ho hfr hdep hst; go_wp2_with fail; exact ⟨rfl, _, rfl, br, rfl⟩
      ·intro o ho a' w' hfr hdep hst; obtain rfl := oj ho
       have g7 : a'.tmps[7]?.getD undef = .pointer (some ⟨b7, 0, none⟩) := by simpa using hfr 7 (by kernel_rfl)
       clear ho hfr hdep hst; go_wp2_with fail; exact ⟨rfl, _, rfl, br, rfl⟩
      ·intro o ho a' w' hfr hdep hst; obtain rfl := oj ho
       have g27 : a'.tmps[27]?.getD undef = .pointer (some ⟨b7, 0, none⟩) := by simpa using hdep 1 _ rfl (by kernel_rfl)
       obtain ⟨j, _, _, hG⟩ := hst
       clear ho hfr hdep; have hcl := hG.2.1.at_ (j := 0) rfl
       go_wp2_with fail; exact ⟨rfl, _, rfl, br, rfl⟩
      ·intro o ho a' w' hfr hdep hst; obtain rfl := oj ho
       have g7 : a'.tmps[7]?.getD undef = .pointer (some ⟨b7, 0, none⟩) := by simpa using hfr 7 (by kernel_rfl)
       clear ho hfr hdep hst; go_wp2_with fail; exact ⟨rfl, _, rfl, br, rfl⟩
      ·intro o ho a' w' hfr hdep hst; obtain rfl := oj ho
       have g31 : a'.tmps[31]?.getD undef = .pointer (some ⟨b7, 1, none⟩) := by simpa using hdep 3 _ rfl (by kernel_rfl)
       obtain ⟨j, _, _, hG⟩ := hst
       clear ho hfr hdep; have hcl := hG.2.1.at_ (j := 1) rfl
       go_wp2_with fail; exact ⟨rfl, _, rfl, br, rfl⟩
     ·intro gg w8 hG hp
      obtain ⟨hb28, x8, a8, c8, p34, hO8⟩ := hG
      have p34 : gg 34 = .slice a8 (n + T1.length + T2.length) c8 := p34
      clear hp hO7 hb27 hB7 x7 hBy hIy
      simp only [List.drop_succ_cons, List.drop_zero, List.map_cons, List.map_nil, List.cons_append, List.nil_append, putAll, Act.put, List.setIfInBounds_toArray, List.set_cons_succ, List.set_cons_zero, p34]
      clear p34
      have hB8 : B ≤ w8.heap.size := Nat.le_trans HB2.out hb28.size
      have k8 := x8.at_ (j := 2) rfl
      have hs8 := (HCL.out w8 hb28).2.2.2
      clear x8
      go_wp2_with (first
       | (with_reducible refine to_str 38 _ qa qn qc cs rfl hs8 ?_)
       | (go_at_call 24; refine (hCy.out w8).mono ?_; rintro e w9 ⟨a9, c9, rfl, hO9, hb9⟩; refine hold ?_))
      refine hide ?_
      have hO89 := hO8.below hb9
      have hb29 := hb28.trans (hb9.mono hB8)
      have hB9 : B ≤ w9.heap.size := Nat.le_trans hB8 hb9.size
      have hs9 := hO9.sl
      clear hO8 hb28 hB8 hb9 hO9 hCy k8 hs8
      go_wp2_with (at_builtin; refine app_bs rfl _ _ rfl w9 B a8 (n + T1.length + T2.length) c8 _ rfl hO89 a9 T3.length c9 T3 rfl hs9 (by omega) hB9 (Below.refl _ _) ?_; intro a10 c10 w10 hO10 gb10 hb10; refine hold ?_)
      refine hide ?_
      have hb210 := hb29.trans hb10
      have hfin : Own w10 B 5 1 a10 (n + T1.length + T2.length + T3.length) c10 ((encK t k ++ (encInt (ps.length : Int) ++ ((langE t k).take (i + 1)).flatMap encRu)).map B8) := by
       rw [HNX.out, HHO.out]
       rw [← hXS.out] at hO10
       simpa [List.map_append, List.append_assoc] using hO10
      clear hO89 hb29 hB9 hs9 gb10 hb10 hO10
      go_wp2_with fail
      go_roundg (ps.length - (i + 1))
      case measure => omega
      case rel => exact ⟨i + 1, a10, _, c10, by omega, rfl, by go_num, rfl, hfin, hb210⟩
    ·obtain rfl : i = ps.length := by omega
     have d1 : decide ((ps.length : Int) < (ps.length : Int)) = false := by simp
     have hfin : Own wr B 5 1 o n c ((encK t (k + 1)).map B8) := by
      have e : (langE t k).take ps.length = langE t k := List.take_of_length_le (by rw [HPL.out]; exact Nat.le_refl _)
      rw [e, HPL.out] at hO
      rw [encK_step t hk2]
      exact hO
     clear hO
     go_wp2_with fail
     go_roundg (2 - (k + 1))
     case measure => omega
     case rel => exact ⟨k + 1, o, n, c, by omega, rfl, by go_num, rfl, hfin, hb⟩
  ·obtain rfl : k = 2 := by omega
   have d0 : decide (((2 : Nat) : Int) < 2) = false := by decide
   have HT9 := HT2.below hb'
   obtain ⟨E5, hE5⟩ : ∃ x, Hid ((encStrs [S8 t.dig, S8 t.cap, S8 t.num, S8 t.fin, S8 t.sw]) = x) := ⟨_, hide rfl⟩
   have hlen : n + E5.length ≤ 1000000000 := by
    have h := HL.out
    rw [encTa_K, List.length_append, hE5.out] at h
    omega
   have hsz : ∀ s ∈ ([S8 t.dig, S8 t.cap, S8 t.num, S8 t.fin, S8 t.sw] : List ByteArray), s.size ≤ 1000000000 := fun s hs => by
    have h1 : s.size ≤ (encStrs [S8 t.dig, S8 t.cap, S8 t.num, S8 t.fin, S8 t.sw]).length := by
     have h2 := mem_flatMap_len (fun s : ByteArray => encBytes s.data.toList) _ s hs
     have h3 := encBytes_len s.data.toList
     have e : s.data.toList.length = s.size := Array.length_toList
     unfold encStrs
     rw [List.length_append]
     omega
    rw [hE5.out] at h1
    omega
   have HSZ := hide hsz
   clear hsz
   have sd : Sl wr 1 ad nd cd (t.dig.map B8) := by have h := HT9.d; rw [HHH.out] at h; exact h
   have sc : Sl wr 1 ac nc cc (t.cap.map B8) := by have h := HT9.c; rw [HHH.out] at h; exact h
   have sn : Sl wr 1 an nn cn (t.num.map B8) := by have h := HT9.n; rw [HHH.out] at h; exact h
   have sf : Sl wr 1 af nf cf (t.fin.map B8) := by have h := HT9.f; rw [HHH.out] at h; exact h
   have sw : Sl wr 1 aw nw cw (t.sw.map B8) := by have h := HT9.s; rw [HHH.out] at h; exact h
   have q2 : wr.cell? ⟨gT, 2, none⟩ = some (.slice ad nd cd) := cell_below (HX5.out.at_ (j := 2) rfl) hb'
   have q3 : wr.cell? ⟨gT, 3, none⟩ = some (.slice ac nc cc) := cell_below (HX5.out.at_ (j := 3) rfl) hb'
   have q4 : wr.cell? ⟨gT, 4, none⟩ = some (.slice an nn cn) := cell_below (HX5.out.at_ (j := 4) rfl) hb'
   have q5 : wr.cell? ⟨gT, 5, none⟩ = some (.slice af nf cf) := cell_below (HX5.out.at_ (j := 5) rfl) hb'
   have q6 : wr.cell? ⟨gT, 6, none⟩ = some (.slice aw nw cw) := cell_below (HX5.out.at_ (j := 6) rfl) hb'
   have hcall := hide (fun (w' : World) (a : Option Addr) (h : Sl w' 1 a 5 5 ([S8 t.dig, S8 t.cap, S8 t.num, S8 t.fin, S8 t.sw].map Value.string)) => wire_Strings [S8 t.dig, S8 t.cap, S8 t.num, S8 t.fin, S8 t.sw] (fun x hx => by have := HSZ.out x hx; omega) (by rw [hE5.out]; omega) (by show 5 ≤ 140737488355000; decide) a 5 5 w' h)
   rw [hE5.out] at hcall
   have hK2 : (encTa t) = encK t 2 ++ E5 := by rw [encTa_K, hE5.out]
   have HK2 := hide hK2
   have HNE := hide hnE
   clear hK2 HT9 hnE
   go_wp2_with (first
    | (with_reducible refine to_str 46 _ ad nd cd t.dig rfl sd ?_)
    | (with_reducible refine to_str 49 _ ac nc cc t.cap rfl sc ?_)
    | (with_reducible refine to_str 52 _ an nn cn t.num rfl sn ?_)
    | (with_reducible refine to_str 55 _ af nf cf t.fin rfl sf ?_)
    | (with_reducible refine to_str 58 _ aw nw cw t.sw rfl sw ?_)
    | (with_reducible refine hold_b6 ?_))
   refine hide ?_
   refine build_5s 59 _ [.string (S8 t.dig), .string (S8 t.cap), .string (S8 t.num), .string (S8 t.fin), .string (S8 t.sw)] rfl (by simp [Instr.fill, go_sem, S8]) ?_
   intro w5 hO5 hb5
   have hO1 := hO.below hb5
   have hB5 : B ≤ w5.heap.size := Nat.le_trans hBw hb5.size
   have hb25 := hb.trans (hb5.mono hBw)
   have hs5 := hO5.sl
   clear hO hb hb' hBw hb5 hO5 sd sc sn sf sw q2 q3 q4 q5 q6
   go_wp2_with (go_at_call 25; refine (hcall.out w5 _ hs5).mono ?_; rintro e w6 ⟨a6, c6, rfl, hO6, hb6⟩; refine hold ?_)
   refine hide ?_
   have hO2 := hO1.below hb6
   have hB6 : B ≤ w6.heap.size := Nat.le_trans hB5 hb6.size
   have hb26 := hb25.trans (hb6.mono hB5)
   have hs6 := hO6.sl
   clear hO1 hB5 hb25 hs5 hO6 hb6 hcall
   go_wp2_with (at_builtin; refine app_bs rfl _ _ rfl w6 B o n c _ rfl hO2 a6 E5.length c6 E5 rfl hs6 (by omega) hB6 (Below.refl _ _) ?_; intro a8 c8 w8 hO8 gb8 hb8; refine hold ?_)
   refine hide ?_
   have hb28 := hb26.trans hb8
   go_wp2_with fail
   go_ret
   have eL : (encTa t).length = n + E5.length := by rw [HK2.out, List.length_append, HNE.out]
   rw [eL, HK2.out, List.map_append]
   exact ⟨a8, c8, rfl, hO8.mono (by rw [← hB.out]; exact HBA.out.size), HBA.out.trans (by have h := hb28.mono (show w.heap.size ≤ B by rw [← hB.out]; exact HBA.out.size); exact h)⟩
end Go.Proofs.YtfagjaabladgpaaDoor
end
