/- The contracts of the functions that the law reaches, joined into one text. -/
import Derived.Test.YtlpkicjijlcbfaaBaseCB
import Derived.Lib.AppendZerosOnto
import Derived.Lib.SliceRun
set_option linter.unusedVariables false
set_option linter.unusedSimpArgs false

section
/- 'append(out, make([]T, k)...)': the builtin is handed the number. No program in sight. -/
namespace Go.Dx
open Go.RowKit

theorem zeroCells_one {z : Value} (hz : z.cells = #[z]) (m : Nat) : (Builtin.zeroCells z.cells m).toList = List.replicate m z := by
 unfold Builtin.zeroCells
 rw [hz]
 apply List.ext_getElem
 ·simp
 ·intro i h1 h2
  simp [Nat.mod_one]
section laws
variable {P : Program} {w : World} {ops : Array Oper} {rest : List Oper} {o : Oper} {act : Act} {Q : Exit → Act → World → Prop}

theorem run_append_zeros (base : Nat) (t tn ty e : TypeId) (i : TypeInfo) (z : Value) (kq kn : IntKind) (ht : P.underlying t = some (.slice e)) (htn : P.underlying tn = some (.int kn)) (hi : P.info? e = some i) (hz : i.zero = some z)
  (hz1 : z.cells = #[z]) (hone : z.oneCell' = true) (hsz : i.size = 1) (a : Option Addr) (n c : Nat) (xs : List Value) (hown : Own w base e i.size a n c xs)
  (m : Nat) (h0 : 0 < m)
  (h63 : n + m ≤ maxLen) (hbytes : (n + m) * i.bytes ≤ 140737488355328) (hbase : base ≤ w.heap.size) :
  ∃ a' c' w', (Builtin.append_ #[t, tn] ty #[.slice a n c, .int kq (m : Int)]).run P w = .ok (.slice a' (n + m) c') w' ∧ Own w' base e i.size a' (n + m) c' (xs ++ List.replicate m z) ∧ w.grownBy w' (a.map (·.block)) := by
 have hsmall : n + m ≤ 9223372036854775807 := by simp only [maxLen] at h63; omega
 have hlen : (xs ++ List.replicate m z).length = (n + m) * i.size := by rw [List.length_append, hown.1, List.length_replicate, hsz]; omega
 have hold : (Builtin.firstCells i.size n (.slice a n c)).run P w.drew = .ok xs.toArray w.drew := by
  have hsl := hown.sl
  cases a with
  | none =>
   have := hsl.nil rfl
   have := hsl.le
   obtain rfl : n = 0 := by omega
   have hnews : xs = [] := List.eq_nil_of_length_eq_zero (by simpa using hsl.len)
   subst hnews
   exact run_firstCells_none w.drew i.size 0 0 c
  | some p => exact run_firstCells_some w.drew i.size n p n c xs hsl.len (by simpa using hsl.cell p rfl)
 have hk : m ≠ 0 := by omega
 have hw : IntKind.i64.wrap (m : Int) = m := by rw [IntKind.wrap_i64]; omega
 have hneg : ¬ ((m : Int) < 0) := by omega
 have hm8 : m * i.bytes ≤ (n + m) * i.bytes := Nat.mul_le_mul_right _ (by omega)
 have h48i : ¬ (281474976710656 < (m : Int) * (i.bytes : Int)) := by
  rw [← Int.natCast_mul]
  omega
 by_cases hroom : n + m ≤ c
 ·rcases hown.2 with ⟨h1, h2⟩ | ⟨g, cap, cur, h1, hbg, hg, hnc, hcm, hcs, htake⟩
  ·injection h1 with h1 h3 h4
   subst h1 h3 h4
   omega
  ·injection h1 with h1 h3 h4
   subst h1 h4
   have hnews : (List.replicate m z).length = m * i.size := by rw [List.length_replicate, hsz, Nat.mul_one]
   have hfit : n * i.size + (List.replicate m z).length ≤ cur.size := by rw [hnews, hcs, ← Nat.add_mul]; exact Nat.mul_le_mul_right _ hroom
   have hst := run_storeCells_at P g (n * i.size) e (List.replicate m z) 0 cur w hg (by simpa using hfit) (by intro u hu; rw [List.eq_of_mem_replicate hu]; exact hone)
   simp only [Nat.add_zero] at hst
   have hns : ¬ (m * i.size = 0) := by rw [hsz]; omega
   refine ⟨some ⟨g, 0, none⟩, c, w.setRow g (cur.toList.take (n * i.size) ++ List.replicate m z ++ cur.toList.drop (n * i.size + (List.replicate m z).length)).toArray, ?_, ⟨hlen, .inr ⟨g, c, _, rfl, hbg, setRow_heap w g cur _ e _ hg, hroom, hcm, ?_, ?_⟩⟩, ⟨rfl, rfl, rfl, by simp, fun k _ hk => setRow_other w g k _ (fun e => hk (by simp [e]))⟩⟩
   ·simp [Builtin.append_, run_underlying ht, run_underlying htn, sizeOf, typeInfo, zeroValue, hi, hz, asInt, asIntOf, hw, hneg, hns, h48i, hroom, Addr.add_lit]
    rw [zeroCells_one hz1]
    simp at hst
    simp [hst]
   ·simp only [List.size_toArray, List.length_append, List.length_take, List.length_drop, Array.length_toList]
    omega
   ·rw [htake, ← hlen]
    exact List.take_left
 ·have hr := Lib.run_append_grow_zeros (P := P) w t tn ty e i z kq kn ht htn hi hz a n c xs hold m h0 (by omega) (by omega) (by omega) (by omega) (growslice_fits (by omega) hbytes)
  have hge := grownCap_ge w (n + m) c e
  have hcm : grownCap w (n + m) c e ≤ maxLen := grownCap_le_maxLen w (n + m) c e h63
  refine ⟨_, _, _, hr, ⟨hlen, .inr ⟨w.heap.size, _, _, rfl, hbase, heap_alloc_new w.drew _, hge, hcm, ?_, ?_⟩⟩, ⟨rfl, rfl, rfl, by simp, fun k hk _ => Below.heap_alloc w.drew _ k hk⟩⟩
  ·have h1 := hown.1
   rw [hsz, Nat.mul_one] at h1
   simp only [Array.size_append, List.size_toArray, size_zeroCells, hz1, hsz, h1, Nat.mul_one]
   simp
   omega
  ·rw [Array.toList_append, Array.toList_append, zeroCells_one hz1, List.toList_toArray, ← hlen]
   exact List.take_left
theorem append_zeros (hg : o.guard = none) (s x : Operand) (t tn : TypeId) (hop : o.op = Op.call { callee := Callee.builtin Builtin.append, args := #[s, x], argTypes := #[t, tn] })
  (e : TypeId) (z : Value) (bytes : Nat) (kq kn : IntKind) (ht : P.underlying t = some (.slice e)) (htn : P.underlying tn = some (.int kn)) (hi : (P.info? e).map (fun i => (i.zero, i.size, i.bytes)) = some (some z, 1, bytes)) (hz : z.cells = #[z]) (hone : z.oneCell' = true)
  (w0 : World) (B : Nat) (a : Option Addr) (n c : Nat) (xs : List Value) (hs : act.eval s = .slice a n c) (hown : Own w B e 1 a n c xs)
  (m : Nat) (iv : Int) (hx : act.eval x = .int kq iv) (hiv : iv = (m : Int)) (h0 : 0 < m)
  (hn : (n + m) * bytes ≤ 140737488355328) (hn2 : n + m ≤ maxLen) (hB : B ≤ w.heap.size) (hbel : Below B w0 w)
  (hK : ∀ a' c' w', Own w' B e 1 a' (n + m) c' (xs ++ List.replicate m z) → w.grownBy w' (a.map (·.block)) → Below B w0 w' → wpList P ops Q rest (act.put o.dst (.slice a' (n + m) c')) w') :
  wpList P ops Q (o :: rest) act w := by
 obtain ⟨i, hi0, hz0, hz1, hz2⟩ := info_parts hi
 subst hz2 hiv
 clear hi
 obtain ⟨a', c', w', hrun, ho, hgr⟩ := run_append_zeros (w := w) (P := P) B t tn o.type e i z kq kn ht htn hi0 hz0 hz hone hz1 a n c xs (by rw [hz1]; exact hown) m h0 hn2 hn hB
 rw [hz1] at ho
 refine wpList_plain hg fun K hK' => ?_
 unfold Oper.wp
 simp [execOp, hop, resolve, invoke, builtin, hs, hx, hrun, Result.andThen]
 refine hK' _ _ (hK a' c' w' ho hgr (hbel.grown hgr hB ?_))
 intro k hk
 cases a with
 | none => cases hk
 | some p => injection hk with hk; subst hk; exact hown.base.1
end laws
end Go.Dx
end

section
/- Chapter 06: slices.Clone, slices.Grow, slices.Concat of bytes. -/
namespace Go.Dx
open Go.RowKit
theorem Own.cut0 {w : World} {B : Nat} {e : TypeId} {a : Option Addr} {n c : Nat} {xs : List Value} (h : Own w B e 1 a n c xs) : Own w B e 1 a 0 c [] := by
 refine ⟨rfl, ?_⟩
 rcases h.2 with ⟨h1, _⟩ | ⟨g, cap, cur, h1, h2, h3, h4, h5, h6, h7⟩
 ·left
  injection h1 with e1 e2 e3
  subst e1; subst e3
  exact ⟨rfl, rfl⟩
 ·injection h1 with e1 e2 e3
  subst e1; subst e3
  exact .inr ⟨g, c, cur, rfl, h2, h3, Nat.zero_le _, h5, h6, by simp⟩
def sumK (x y : List UInt8) (k : Nat) : Nat := (([x, y].take k).map List.length).sum
def catK (x y : List UInt8) (k : Nat) : List UInt8 := ([x, y].take k).flatten
theorem sumK_step {x y l : List UInt8} {k : Nat} (h : [x, y][k]? = some l) : sumK x y (k + 1) = sumK x y k + l.length := by
 unfold sumK; rw [take_succ_get h, List.map_append, List.sum_append]; simp
theorem catK_step {x y l : List UInt8} {k : Nat} (h : [x, y][k]? = some l) : catK x y (k + 1) = catK x y k ++ l := by
 unfold catK; rw [take_succ_get h, List.flatten_append]; simp
theorem catK_two (x y : List UInt8) : catK x y 2 = x ++ y := by simp [catK]
end Go.Dx
namespace Go.Proofs.Ytlpkicjijlcbfaa
open Go.RowKit Go.Dx
section
variable {w : World} {ops : Array Oper} {rest : List Oper} {o : Oper} {act : Act} {Q : Exit → Act → World → Prop}
theorem app_z (hg : o.guard = none) (s x : Operand) (hop : o.op = Op.call { callee := Callee.builtin Builtin.append, args := #[s, x], argTypes := #[27, 3] })
  (w0 : World) (B : Nat) (a : Option Addr) (n c : Nat) (xs : List Value) (hs : act.eval s = .slice a n c) (hown : Own w B 5 1 a n c xs)
  (m : Nat) (iv : Int) (hx : act.eval x = .int .i64 iv) (hiv : iv = (m : Int)) (h0 : 0 < m) (hn : n + m ≤ 140737488355328) (hB : B ≤ w.heap.size) (hbel : Below B w0 w)
  (hK : ∀ a' c' w', Own w' B 5 1 a' (n + m) c' (xs ++ List.replicate m (.int .u8 0)) → w.grownBy w' (a.map (·.block)) → Below B w0 w' → wpList Try.prog ops Q rest (act.put o.dst (.slice a' (n + m) c')) w') :
  wpList Try.prog ops Q (o :: rest) act w :=
 append_zeros hg s x 27 3 hop 5 (.int .u8 0) 1 .i64 .i64 Try.underlying27 Try.underlying3 info_u8 rfl rfl w0 B a n c _ hs hown m iv hx hiv h0 (by omega) (by unfold maxLen; omega) hB hbel hK
end
set_option maxHeartbeats 400000 in
theorem clone6 (l : List UInt8) (a : Option Addr) (n c : Nat) (w : World) (hs : Sl w 1 a n c (l.map B8)) (hl : n ≤ 140737488355328) :
  Calls Try.prog 60 #[.slice a n c] w fun e w' => ∃ a' c', e = .returned (.slice a' n c') ∧ Own w' w.heap.size 5 1 a' n c' (l.map B8) ∧ Below w.heap.size w w' := by
 obtain rfl := hs.n_eq
 have q47 : ∀ (w : World) (a : Option Addr) (n c n' c' : Nat), (binOp .eql 27 (.slice a n c) (.slice none n' c')).run Try.prog w = .ok (.bool a.isNone) w := fun w a n c n' c' => Lib.run_eql_slice_nil w _ _ a n c n' c' Try.underlying27
 cases a with
 | none =>
  have h1 := hs.nil rfl
  have h2 := hs.le
  have h3 : l = [] := List.eq_nil_of_length_eq_zero (by omega)
  subst h3 h1
  clear h2 hl
  go_enter Try.func60, Try.ntmps60
  go_wp2_with fail
  go_ret
  exact ⟨none, 0, rfl, Own.nil _ _ _ _, Below.refl _ _⟩
 | some p =>
  have ho := Own.built w w.heap.size 5 1 0 #[] (Nat.le_refl _) rfl (by decide)
  have hb := blo w (.cells #[] 5)
  have hs2 := hs.alloc (.cells #[] 5)
  go_enter Try.func60, Try.ntmps60
  go_wp2_with (at_builtin; refine app_bs rfl _ _ rfl w w.heap.size _ 0 0 _ rfl ho _ l.length c l rfl hs2 (by omega) (by simp) hb ?_; intro a' c' w' ho' hgr' hb')
  go_ret
  exact ⟨a', c', by rw [← Nat.zero_add l.length]; rfl, by rw [Nat.zero_add] at ho'; exact ho', hb'⟩
set_option maxHeartbeats 400000 in
theorem grow6 (N : Nat) (hN : N ≤ 2000000) (w : World) :
  Calls Try.prog 87 #[.slice none 0 0, .int .i64 (N : Int)] w fun e w' => ∃ a' c', e = .returned (.slice a' 0 c') ∧ Own w' w.heap.size 5 1 a' 0 c' [] ∧ Below w.heap.size w w' := by
 by_cases h0 : 0 < N
 ·have d0 : decide ((N : Int) < 0) = false := decide_eq_false (by omega)
  have d1 : decide (0 < N) = true := decide_eq_true h0
  have d2 : decide ((0 : Int) < (N : Int)) = true := decide_eq_true (by omega)
  have hn0 := Own.nil w w.heap.size 5 1
  go_enter Try.func87, Try.ntmps87
  go_wp2_with (first
   | (at_builtin; refine app_z rfl _ _ rfl w w.heap.size _ 0 0 _ rfl hn0 N _ rfl rfl h0 (by omega) (Nat.le_refl _) (Below.refl _ _) ?_; intro a' c' w' ho' hgr' hb'; rw [Nat.zero_add] at ho' ⊢; have hs' := ho'.sl)
   | (with_reducible refine cut_hi 25 27 _ _ 5 Try.underlying27 1 size_u8 a' N c' _ rfl hs' _ _ 0 rfl rfl (Nat.zero_le _) ?_; intro hz))
  go_ret
  exact ⟨a', c', rfl, ho'.cut0, hb'⟩
 ·obtain rfl : N = 0 := by omega
  go_enter Try.func87, Try.ntmps87
  go_wp2_with fail
  go_ret
  exact ⟨none, 0, rfl, Own.nil _ _ _ _, Below.refl _ _⟩
set_option maxHeartbeats 1000000 in
theorem concat6 (x y : List UInt8) (a1 a2 : Option Addr) (c1 c2 : Nat) (pa : Option Addr) (pc : Nat) (w : World) (hp : Sl w 1 pa 2 pc [.slice a1 x.length c1, .slice a2 y.length c2]) (hx : Sl w 1 a1 x.length c1 (x.map B8)) (hy : Sl w 1 a2 y.length c2 (y.map B8)) (hxl : x.length ≤ 1000) (hyl : y.length ≤ 1000) :
  Calls Try.prog 64 #[.slice pa 2 pc] w fun e w' => ∃ a' c', e = .returned (.slice a' (x ++ y).length c') ∧ Own w' w.heap.size 5 1 a' (x ++ y).length c' ((x ++ y).map B8) ∧ Below w.heap.size w w' := by
 have HROW : Hid (∀ k, k < 2 → ∃ l a c, [Value.slice a1 x.length c1, .slice a2 y.length c2][k]? = some (.slice a l.length c) ∧ [x, y][k]? = some l ∧ Sl w 1 a l.length c (l.map B8) ∧ l.length ≤ 1000) :=
  hide (two_cases ⟨_, _, _, rfl, rfl, hx, hxl⟩ ⟨_, _, _, rfl, rfl, hy, hyl⟩)
 clear hx hy hxl hyl
 go_enter Try.func64, Try.ntmps64
 go_wp2_with fail
 go_loopg [3, 11] 2 (fun gh s v w' => ∃ k S : Nat, k ≤ 2 ∧ gh = 2 - k ∧ S ≤ k * 1000 ∧ Hid (sumK x y k = S) ∧ s = .int .i64 (S : Int) ∧ v = .int .i64 (k : Int) ∧ w = w')
 case atStart => exact ⟨0, 0, by omega, by omega, by omega, hide rfl, rfl, rfl, rfl⟩
 case round =>
  obtain ⟨k, S, hk, hg, hS, HS, rfl, rfl, rfl⟩ := hrel
  have HG := hide hg
  clear hg
  by_cases hkl : k < 2
  ·obtain ⟨l, a, c, hck, hrk, hsl, hll⟩ := HROW.out k hkl
   have HCK := hide hck
   have HS2 : Hid (sumK x y (k + 1) = S + l.length) := hide (by rw [sumK_step hrk, HS.out])
   have d0 : decide ((S : Int) + (l.length : Int) < 0) = false := decide_eq_false (by omega)
   clear hck hrk
   go_wp2_with (with_reducible refine idx_bb 13 _ _ _ _ _ _ rfl hp _ _ k rfl rfl _ HCK.out ?_; intro b o hcell hbo)
   go_roundg (2 - (k + 1))
   case measure => have := HG.out; omega
   case rel => exact ⟨k + 1, S + l.length, by omega, rfl, by omega, HS2, by go_num, by go_num, rfl⟩
  ·obtain rfl : k = 2 := by omega
   have hgr := grow6 S (by omega) w
   go_wp2_with (go_at_call 87; refine hgr.mono ?_; rintro e w1 ⟨a0, c0, rfl, ho, hb⟩)
   clear hgr hkl hk HG HS
   go_loopg [6, 27] 2 (fun gh s v w' => ∃ (k : Nat) (F : List UInt8) (a : Option Addr) (c : Nat), k ≤ 2 ∧ gh = 2 - k ∧ F.length ≤ k * 1000 ∧ Hid (catK x y k = F) ∧ s = .slice a F.length c ∧ v = .int .i64 (k : Int) ∧ Own w' w.heap.size 5 1 a F.length c (F.map B8) ∧ Below w.heap.size w w')
   case atStart => exact ⟨0, [], a0, c0, by omega, by omega, by simp, hide rfl, rfl, rfl, ho, hb⟩
   case round =>
    clear ho hb
    obtain ⟨k, F, a, c, hk, hg, hF, HF, rfl, rfl, ho, hb⟩ := hrel
    have HG := hide hg
    clear hg
    by_cases hkl : k < 2
    ·obtain ⟨l, a3, c3, hck, hrk, hsl, hll⟩ := HROW.out k hkl
     have HCK := hide hck
     have HF2 : Hid (catK x y (k + 1) = F ++ l) := hide (by rw [catK_step hrk, HF.out])
     have hpr := hp.below hb
     have hsr := hsl.below hb
     clear hck hrk
     go_wp2_with (first
      | (with_reducible refine idx_bb 29 _ _ _ _ _ _ rfl hpr _ _ k rfl rfl _ HCK.out ?_; intro b o hcell hbo)
      | (at_builtin; refine app_bs rfl _ _ rfl w w.heap.size _ _ _ _ rfl ho _ _ _ l rfl hsr (by omega) hb.size hb ?_; intro a' c' w' ho' hgr' hb'))
     go_roundg (2 - (k + 1))
     case measure => have := HG.out; omega
     case rel => exact ⟨k + 1, F ++ l, a', c', by omega, rfl, by rw [List.length_append]; omega, HF2, by rw [List.length_append], by go_num, by rw [List.length_append, List.map_append]; exact ho', hb'⟩
    ·obtain rfl : k = 2 := by omega
     have hF2 := HF.out
     rw [catK_two] at hF2
     subst hF2
     go_wp2
     go_ret
     exact ⟨a, c, rfl, ho, hb⟩
end Go.Proofs.Ytlpkicjijlcbfaa
end

section
/- A region that draws its order and whose operations make memory: shown operation by operation, whatever the order. Each operation of the head leaves a value in its slot and a fact on it that stays true when memory grows; the tail waits for the whole head. No program in sight. -/
namespace Go.Dx
open Go.RowKit

theorem wp_both {P : Program} {o : Oper} {a : Act} {w : World} {K K' : Act → World → Prop} {Q Q' : Exit → Act → World → Prop} (h : ∀ a w, K a w → K' a w) (hp : ∀ e a w, e ≠ .normal → Q e a w → Q' e a w)
  (hh : o.wp P a w K Q) : o.wp P a w K' Q' := by
 unfold Oper.wp at *
 generalize (execOp a.eval o).run P w = r at *
 cases r with
 | ok n w' =>
  cases n <;> simp only [Oper.upon] at hh ⊢ <;>
   first
    | exact h _ _ hh
    | exact Calls.mono hh (fun e w'' he => by
      cases e <;> first
       | exact h _ _ he
       | exact hp _ _ _ (by simp) he
       | (obtain ⟨a1, w1, h1⟩ := he; exact ⟨a1, w1, hp _ _ _ (by simp) h1⟩))
    | exact Rows.mono hh (fun _ _ he => h _ _ he)
 | halt x w' => cases x <;> simp only [Oper.upon] at hh ⊢ <;> first | exact hp _ _ _ (by simp) hh | exact hh

theorem opt_bool {x : Option Value} {b : Bool} (h : x.getD undef = .bool b) : x = some (.bool b) := by
 cases x with
 | none => simp [undef] at h
 | some v => rw [← h]; rfl
structure HOp where
 i : Nat
 d : Nat
 s : List Nat
 p : List Value → World → Prop

def HOp.fact (t : HOp) (a : Act) (w : World) : Prop := t.p (t.s.map fun k => a.tmps.getD k undef) w
def OneDone (d : Nat) (a : Act) (w : World) (R : Value → World → Prop) (e : Exit) (a' : Act) (w' : World) : Prop := e = .normal ∧ ∃ v, a' = a.put (some d) v ∧ Below w.heap.size w w' ∧ R v w'

section
variable {P : Program}

def putAll (a : Act) : List (Nat × Value) → Act
 | [] => a
 | (d, v) :: l => putAll (a.put (some d) v) l
theorem putAll_defers (a : Act) : ∀ l, (putAll a l).defers = a.defers := by
 intro l
 induction l generalizing a with
 | nil => rfl
 | cons x l ih => obtain ⟨d, v⟩ := x; rw [putAll, ih]; rfl
theorem putAll_size (a : Act) : ∀ l, (putAll a l).tmps.size = a.tmps.size := by
 intro l
 induction l generalizing a with
 | nil => rfl
 | cons x l ih => obtain ⟨d, v⟩ := x; rw [putAll, ih]; simp [Act.put]
theorem put_get (a : Act) (d k : Nat) (v : Value) : (a.put (some d) v).tmps.getD k undef = if d = k ∧ d < a.tmps.size then v else a.tmps.getD k undef := by
 unfold Act.put
 simp only [Array.getD_eq_getD_getElem?, Array.getElem?_setIfInBounds]
 by_cases h : d = k
 ·subst h
  by_cases h2 : d < a.tmps.size
  ·simp [h2]
  ·simp [h2]
 ·simp [h]
theorem putAll_get (g : Nat → Value) : ∀ (L : List Nat) (a : Act) (k : Nat), (∀ d ∈ L, d < a.tmps.size) → (putAll a (L.map fun d => (d, g d))).tmps.getD k undef = if k ∈ L then g k else a.tmps.getD k undef := by
 intro L
 induction L with
 | nil => intro a k _; simp [putAll]
 | cons d L ih =>
  intro a k hs
  have hd := hs d List.mem_cons_self
  rw [List.map_cons, putAll, ih _ _ (fun e he => by simp [Act.put]; exact hs e (List.mem_cons_of_mem _ he)), put_get]
  by_cases h1 : k ∈ L
  ·rw [if_pos h1, if_pos (List.mem_cons_of_mem _ h1)]
  ·rw [if_neg h1]
   by_cases h2 : d = k
   ·subst h2; rw [if_pos ⟨rfl, hd⟩, if_pos List.mem_cons_self]
   ·rw [if_neg (fun h => h2 h.1), if_neg (fun h => by rcases List.mem_cons.1 h with h | h; exact h2 h.symm; exact h1 h)]
theorem act_ext {a b : Act} (h1 : a.defers = b.defers) (h2 : a.tmps.size = b.tmps.size) (h3 : ∀ k, a.tmps.getD k undef = b.tmps.getD k undef) : a = b := by
 obtain ⟨x, d⟩ := a
 obtain ⟨y, e⟩ := b
 simp only at h1 h2 h3
 subst h1
 congr 1
 apply Array.ext h2
 intro k hk1 hk2
 have := h3 k
 simpa [Array.getD, hk1, hk2] using this

theorem inj_nodup {α : Type} (f : α → Nat) : ∀ (T : List α), (T.map f).Nodup → ∀ t ∈ T, ∀ u ∈ T, f t = f u → t = u := by
 intro T
 induction T with
 | nil => intro _ t ht; cases ht
 | cons x T ih =>
  intro h t ht u hu e
  rw [List.map_cons, List.nodup_cons] at h
  rcases List.mem_cons.1 ht with h1 | h1 <;> rcases List.mem_cons.1 hu with h2 | h2
  ·rw [h1, h2]
  ·exact absurd (show f x ∈ T.map f from List.mem_map.2 ⟨u, h2, by rw [← e, h1]⟩) h.1
  ·exact absurd (show f x ∈ T.map f from List.mem_map.2 ⟨t, h1, by rw [e, h2]⟩) h.1
  ·exact ih h.2 t h1 u h2 e
def All {α : Type} (R : α → Prop) : List α → Prop
 | [] => True
 | x :: l => R x ∧ All R l
theorem All.mem {α : Type} {R : α → Prop} : ∀ {l : List α}, All R l → ∀ x ∈ l, R x
 | y :: l, h, x, hx => by
  rcases List.mem_cons.1 hx with rfl | hx
  ·exact h.1
  ·exact All.mem h.2 x hx
def headOk (l : List Oper) (n : Nat) (T : List (Nat × Nat × List Nat)) (size : Nat) : Bool :=
 let ops := l.toArray
 decide ((T.map (·.1)).Nodup) && decide (n < l.length) && Region.sinkB .any ops n && Region.chainB .any ops n && Region.seqB .any ops (l.length - n) n ((List.replicate n true ++ List.replicate (l.length - n) false).toArray) &&
 (List.range n).all (fun j => T.any fun t => t.1 == j) &&
 T.all (fun t => decide (t.1 < n) && decide (t.2.1 < size) && (match l[t.1]? with | some o => o.dst == some t.2.1 && (o.after.all fun e => !Region.binds .any e || decide (e.on < t.1)) | none => false)) &&
 T.all (fun t => T.all fun u => t.1 == u.1 || (t.2.1 != u.2.1 && (!u.2.2.contains t.2.1 || Region.waitsFor .any ops u.1 t.1)))

structure FreeInv (l : List Oper) (n : Nat) (T : List HOp) (a0 : Act) (w0 : World) (listed : Array Bool) (a : Act) (w : World) : Prop where
 inv : HeadInv .any l.toArray n listed
 defers : a.defers = a0.defers
 size : a.tmps.size = a0.tmps.size
 frame : ∀ k, (∀ t ∈ T, t.d ≠ k) → a.tmps.getD k undef = a0.tmps.getD k undef
 bel : Below w0.heap.size w0 w
 facts : ∀ t ∈ T, listed.getD t.i false = true → t.fact a w

def todo (listed : Array Bool) (n : Nat) : Nat := ((List.range n).filter fun j => !listed.getD j true).length
theorem todo_set {listed : Array Bool} {n i : Nat} (hi : i < n) (hl : listed.getD i true = false) : todo (listed.setIfInBounds i true) n + 1 = todo listed n := by
 unfold todo
 have hlt : i < listed.size := by
  rcases Nat.lt_or_ge i listed.size with h | h
  ·exact h
  ·simp [Array.getElem?_eq_none h] at hl
 have key : ∀ m, ((List.range m).filter fun j => !(listed.setIfInBounds i true).getD j true).length + (if i < m then 1 else 0) = ((List.range m).filter fun j => !listed.getD j true).length := by
  intro m
  induction m with
  | zero => simp
  | succ m ih =>
   rw [List.range_succ, List.filter_append, List.filter_append, List.length_append, List.length_append]
   by_cases him : i = m
   ·subst him
    have e1 : (listed.setIfInBounds i true).getD i true = true := by simp [hlt]
    rw [if_neg (Nat.lt_irrefl _)] at ih
    rw [if_pos (Nat.lt_succ_self _), ← ih]
    simp only [List.filter_cons, List.filter_nil, e1, hl, Bool.not_true, Bool.not_false, Bool.false_eq_true, if_false, if_true, List.length_nil, List.length_singleton]
   ·have e2 : (List.filter (fun j => !(listed.setIfInBounds i true).getD j true) [m]) = List.filter (fun j => !listed.getD j true) [m] := by simp only [List.filter_cons, List.filter_nil, getD_set_ne true him]
    rw [e2]
    by_cases h : i < m
    ·rw [if_pos h] at ih; rw [if_pos (by omega)]; omega
    ·rw [if_neg h] at ih; rw [if_neg (by omega)]; omega
 have := key n
 rw [if_pos hi] at this
 exact this

theorem wp_region_free {id : Nat} {Q : Exit → Act → World → Prop} {a0 : Act} {w0 : World} {l : List Oper} (n : Nat) (T : List HOp) (hm : P.follows .mixedOrders = true)
  (hB : headOk l n (T.map fun t => (t.i, t.d, t.s)) a0.tmps.size = true)
  (hmono : All (fun t : HOp => ∀ vs w w', Below w.heap.size w w' → t.p vs w → t.p vs w') T)
  (hop : All (fun t : HOp => ∀ o, l[t.i]? = some o → ∀ (a : Act) (w : World), Below w0.heap.size w0 w →
   (∀ k, (T.map (·.d)).contains k = false → a.tmps.getD k undef = a0.tmps.getD k undef) →
   (∀ (k : Nat) (u : HOp), T[k]? = some u → Region.waitsFor .any l.toArray t.i u.i = true → u.p (u.s.map fun k => a.tmps.getD k undef) w) →
   wpList P l.toArray (OneDone t.d a w fun v w' => t.p (t.s.map fun k => if t.d = k then v else a.tmps.getD k undef) w') [o] a w) T)
  (hend : ∀ (g : Nat → Value) (w : World), Below w0.heap.size w0 w → (∀ (k : Nat) (u : HOp), T[k]? = some u → u.p (u.s.map fun k => if k ∈ T.map (·.d) then g k else a0.tmps.getD k undef) w) →
   wpList P l.toArray Q (l.drop n) (putAll a0 ((T.map (·.d)).map fun d => (d, g d))) w) : (Code.region id l.toArray true).wp P Q a0 w0 := by
 simp only [headOk, Bool.and_eq_true, decide_eq_true_eq] at hB
 obtain ⟨⟨⟨⟨⟨⟨⟨hnd, hn⟩, hs⟩, hc⟩, hseq⟩, hcov⟩, hT⟩, hpair⟩ := hB
 have hnodup : ∀ t ∈ T, ∀ u ∈ T, t.i = u.i → t = u := inj_nodup (·.i) T (by rw [List.map_map] at hnd; exact hnd)
 have hn' : n < l.toArray.size := by simpa using hn
 have cover : ∀ j, j < n → ∃ t ∈ T, t.i = j := by
  intro j hj
  have h := List.all_eq_true.1 hcov j (List.mem_range.2 hj)
  obtain ⟨x, hx, he⟩ := List.any_eq_true.1 h
  obtain ⟨t, ht, rfl⟩ := List.mem_map.1 hx
  exact ⟨t, ht, by simpa using he⟩
 have own : ∀ t ∈ T, t.i < n ∧ t.d < a0.tmps.size ∧ ∃ o, l[t.i]? = some o ∧ o.dst = some t.d ∧ ∀ e ∈ o.after, Region.binds .any e = true → e.on < t.i := by
  intro t ht
  have h := List.all_eq_true.1 hT _ (List.mem_map.2 ⟨t, ht, rfl⟩)
  simp only [Bool.and_eq_true, decide_eq_true_eq] at h
  obtain ⟨⟨h1, h2⟩, h3⟩ := h
  refine ⟨h1, h2, ?_⟩
  cases ho : l[t.i]? with
  | none => rw [ho] at h3; cases h3
  | some o =>
   rw [ho] at h3
   simp only [Bool.and_eq_true, beq_iff_eq] at h3
   refine ⟨o, rfl, h3.1, fun e he hb => ?_⟩
   have := Array.all_eq_true_iff_forall_mem.1 h3.2 e he
   simpa [hb] using this
 have pair : ∀ t ∈ T, ∀ u ∈ T, t.i ≠ u.i → t.d ≠ u.d ∧ (t.d ∈ u.s → Region.waitsFor .any l.toArray u.i t.i = true) := by
  intro t ht u hu hne
  have h := List.all_eq_true.1 (List.all_eq_true.1 hpair _ (List.mem_map.2 ⟨t, ht, rfl⟩)) _ (List.mem_map.2 ⟨u, hu, rfl⟩)
  simp only [Bool.or_eq_true, beq_iff_eq, hne, false_or, Bool.and_eq_true, bne_iff_ne, ne_eq, Bool.not_eq_true'] at h
  refine ⟨h.1, fun hin => ?_⟩
  rcases h.2 with h2 | h2
  ·have : u.s.contains t.d = true := by simpa using hin
   rw [this] at h2; cases h2
  ·exact h2
 have key : ∀ (f : Nat) (listed : Array Bool) (a : Act) (w : World), FreeInv l n T a0 w0 listed a w → todo listed n = f → wpAny P .any l.toArray Q (f + (l.length - n)) listed a w := by
  intro f
  induction f with
  | zero =>
   intro listed a w I h0
   have hall : ∀ j, j < n → listed.getD j true = true := by
    intro j hj
    cases hb : listed.getD j true with
    | true => rfl
    | false =>
     have : j ∈ (List.range n).filter fun j => !listed.getD j true := List.mem_filter.2 ⟨List.mem_range.2 hj, by rw [hb]; rfl⟩
     unfold todo at h0
     rw [List.eq_nil_of_length_eq_zero h0] at this
     cases this
   have hlist : listed = (List.replicate n true ++ List.replicate (l.length - n) false).toArray := by
    have hsz := I.inv.size
    apply Array.ext
    ·simp at hsz ⊢; omega
    ·intro j h1 h2
     by_cases hj : j < n
     ·have := hall j hj
      simp [Array.getD, h1] at this
      simp [this, List.getElem_append_left, hj]
     ·have := I.inv.tail j (by omega) (by rw [← hsz]; exact h1)
      simp [Array.getD, h1] at this
      simp only [this, List.getElem_toArray]
      rw [List.getElem_append_right (by simp; omega)]
      simp
   have ha : a = putAll a0 ((T.map (·.d)).map fun d => (d, a.tmps.getD d undef)) := by
    have hd : ∀ d ∈ T.map (·.d), d < a0.tmps.size := by
     intro d hd
     obtain ⟨t, ht, rfl⟩ := List.mem_map.1 hd
     exact (own t ht).2.1
    refine act_ext (by rw [putAll_defers]; exact I.defers) (by rw [putAll_size]; exact I.size) (fun k => ?_)
    rw [putAll_get (fun d => a.tmps.getD d undef) _ _ _ hd]
    by_cases h : k ∈ T.map (·.d)
    ·rw [if_pos h]
    ·rw [if_neg h]
     exact I.frame k (fun t ht e => h (List.mem_map.2 ⟨t, ht, e⟩))
   have hfin := hend (fun d => a.tmps.getD d undef) w I.bel (fun k u hu => by
    have hu' := List.mem_of_getElem? hu
    have h1 := I.facts u hu' (by
     have := hall u.i (own u hu').1
     rcases Nat.lt_or_ge u.i listed.size with h' | h'
     ·simp [h'] at this ⊢; exact this
     ·have := I.inv.size; have := (own u hu').1; omega)
    unfold HOp.fact at h1
    have e : (u.s.map fun k => if k ∈ T.map (·.d) then a.tmps.getD k undef else a0.tmps.getD k undef) = u.s.map fun k => a.tmps.getD k undef := by
     apply List.map_congr_left
     intro k _
     by_cases h : k ∈ T.map (·.d)
     ·rw [if_pos h]
     ·rw [if_neg h]
      exact (I.frame k (fun t ht e => h (List.mem_map.2 ⟨t, ht, e⟩))).symm
    rw [e]
    exact h1)
   rw [← ha] at hfin
   rw [Nat.zero_add]
   have hseq' : Region.seqB .any l.toArray (l.drop n).length n listed = true := by rw [hlist, List.length_drop]; exact hseq
   have := wpAny_of_seq (md := .any) (Q' := Q) (l.drop n) n listed a w (fun j => by simp [List.getElem?_drop]) hseq' hfin
   rwa [List.length_drop] at this
  | succ f ih =>
   intro listed a w I hf
   have hex : ∃ j, j < n ∧ listed.getD j true = false := by
    cases hL : (List.range n).filter fun j => !listed.getD j true with
    | nil => unfold todo at hf; rw [hL] at hf; cases hf
    | cons j L =>
     have : j ∈ (List.range n).filter fun j => !listed.getD j true := by rw [hL]; exact List.mem_cons_self
     obtain ⟨h1, h2⟩ := List.mem_filter.1 this
     exact ⟨j, List.mem_range.1 h1, by simpa using h2⟩
   have hready : Region.ready .any l.toArray listed ≠ [] := by
    have hmin : ∀ m j, j ≤ m → j < n → listed.getD j true = false → ∃ i, i ∈ Region.ready .any l.toArray listed := by
     intro m
     induction m with
     | zero =>
      intro j hj hjn hjl
      have hj0 : j = 0 := by omega
      subst hj0
      obtain ⟨t, ht, hti⟩ := cover 0 hjn
      obtain ⟨_, _, o, ho, _, hb⟩ := own t ht
      rw [hti] at ho hb
      exact ⟨0, mem_ready.2 ⟨hjl, o, by simpa using ho, fun e he hbe => absurd (hb e he hbe) (by omega)⟩⟩
     | succ m ihm =>
      intro j hj hjn hjl
      obtain ⟨t, ht, hti⟩ := cover j hjn
      obtain ⟨_, _, o, ho, _, hb⟩ := own t ht
      rw [hti] at ho hb
      by_cases hall : ∀ e ∈ o.after, Region.binds .any e = true → listed.getD e.on false = true
      ·exact ⟨j, mem_ready.2 ⟨hjl, o, by simpa using ho, hall⟩⟩
      ·simp only [Classical.not_forall] at hall
       obtain ⟨e, he, hbe, hne⟩ := hall
       have hlt := hb e he hbe
       have hes : e.on < listed.size := by rw [I.inv.size]; simp; omega
       exact ihm e.on (by omega) (by omega) (getD_in hes (by simpa using hne))
    obtain ⟨j, hj, hjl⟩ := hex
    obtain ⟨i, hi⟩ := hmin j j (Nat.le_refl _) hj hjl
    intro h
    rw [h] at hi
    cases hi
   rw [show f + 1 + (l.length - n) = (f + (l.length - n)) + 1 by omega]
   refine ⟨fun h => absurd h hready, fun i hi => ?_⟩
   have hin : i < n := by
    rcases Nat.lt_or_ge i n with h | h
    ·exact h
    ·obtain ⟨j, hj, hjl⟩ := hex
     exact absurd hi (tail_waits hs hc hn' I.inv _ j rfl hj hjl i h)
   obtain ⟨t, ht, hti⟩ := cover i hin
   obtain ⟨_, htd, o, ho, hdst, _⟩ := own t ht
   obtain ⟨hil, oi, hoi, hafter⟩ := mem_ready.1 hi
   have hoo : oi = o := by rw [hti] at ho; exact Option.some.inj (hoi.symm.trans (by simpa using ho))
   subst hoo
   have H := hop.mem t ht oi ho a w I.bel (fun k hk => I.frame k (fun u hu e => by
     have : (T.map (·.d)).contains k = true := by simpa using ⟨u, hu, e⟩
     rw [this] at hk; cases hk)) (fun k u hu hw => by
    have hu' := List.mem_of_getElem? hu
    obtain ⟨oj, hoj, e, he, hb, hon⟩ := Region.waitsFor_spec hw
    have : oj = oi := by rw [hti] at hoj; exact Option.some.inj (hoj.symm.trans hoi)
    subst this
    have h1 := hafter e he hb
    rw [hon] at h1
    exact I.facts u hu' h1)
   have step : ∀ (a' : Act) (w' : World), OneDone t.d a w (fun v w' => t.p (t.s.map fun k => if t.d = k then v else a.tmps.getD k undef) w') .normal a' w' → wpAny P .any l.toArray Q (f + (l.length - n)) (listed.setIfInBounds i true) a' w' := by
    intro a' w' h
    obtain ⟨_, v, rfl, hbel, hp⟩ := h
    refine ih _ _ _ ⟨I.inv.set hi hin, I.defers, ?_, ?_, ?_, ?_⟩ ?_
    ·rw [← I.size]; simp [Act.put]
    ·intro k hk
     rw [put_get, if_neg (fun h => hk t ht h.1)]
     exact I.frame k hk
    ·exact I.bel.trans (hbel.mono I.bel.size)
    ·intro u hu hul
     by_cases hui : t.i = u.i
     ·have hd : u.d = t.d ∨ True := .inr trivial
      unfold HOp.fact
      by_cases hut : u = t
      ·subst hut
       have e : (u.s.map fun k => (a.put (some u.d) v).tmps.getD k undef) = u.s.map fun k => if u.d = k then v else a.tmps.getD k undef := by
        apply List.map_congr_left
        intro k _
        rw [put_get, I.size]
        by_cases hk : u.d = k
        ·rw [if_pos ⟨hk, htd⟩, if_pos hk]
        ·rw [if_neg (fun h => hk h.1), if_neg hk]
       rw [e]
       exact hp
      ·exact absurd (hnodup t ht u hu hui).symm hut
     ·unfold HOp.fact
      have hul2 : listed.getD u.i false = true := by rw [← getD_set_ne false (i := i) (j := u.i) (by rw [← hti]; exact hui)]; exact hul
      have h1 := hmono.mem u hu _ _ _ hbel (I.facts u hu hul2)
      have hnot : t.d ∉ u.s := by
       intro hin2
       have hw := (pair t ht u hu hui).2 hin2
       obtain ⟨ou, hou, e, he, hb, hon⟩ := Region.waitsFor_spec hw
       have := I.inv.closed u.i ou hou hul2 e he hb
       rw [hon, hti, getD_both hil] at this
       cases this
      have e : (u.s.map fun k => (a.put (some t.d) v).tmps.getD k undef) = u.s.map fun k => a.tmps.getD k undef := by
       apply List.map_congr_left
       intro k hk
       rw [put_get, if_neg (fun (h : t.d = k ∧ t.d < a.tmps.size) => hnot (by rw [h.1]; exact hk))]
      rw [e]
      exact h1
    ·have := todo_set hin hil; omega
   unfold wpList at H
   unfold wpOp
   rw [hoi]
   simp only
   by_cases hwant : Region.wanted oi (yielded l.toArray a.tmps) = true
   ·rw [if_pos hwant] at H
    rw [if_pos hwant]
    left
    rcases H with H | ⟨_, a1, w1, h1, _⟩
    ·exact wp_both (fun a' w' h => step a' w' h) (fun e a' w' he h => absurd h.1 he) H
    ·cases h1
   ·rw [if_neg hwant] at H
    rw [if_neg hwant]
    exact step _ _ H
 refine wp_region_any hm ?_
 have inv0 : HeadInv .any l.toArray n (Array.replicate l.toArray.size false) :=
  ⟨by simp, fun j oj _ hl => (by rw [getD_replicate_false] at hl; cases hl), fun t _ ht => getD_in (by simpa using ht) (getD_replicate_false _ _)⟩
 have I0 : FreeInv l n T a0 w0 (Array.replicate l.toArray.size false) a0 { w0 with drawn := w0.drawn + 1 } :=
  ⟨inv0, rfl, rfl, fun _ _ => rfl, Still.below 1, fun t _ hl => (by rw [getD_replicate_false] at hl; cases hl)⟩
 have ht0 : todo (Array.replicate l.toArray.size false) n = n := by
  unfold todo
  rw [List.filter_eq_self.2 (fun j hj => by
   have hj' := List.mem_range.1 hj
   have : (Array.replicate l.toArray.size false).getD j true = false := getD_in (by simp; omega) (getD_replicate_false _ _)
   rw [this]; rfl), List.length_range]
 have := key n _ _ _ I0 ht0
 rwa [show n + (l.length - n) = l.toArray.size by simp; omega] at this
end
end Go.Dx
end

section
/- A region that draws its order, in whose head one operation (an append, a store) changes what lies there: TP. What it waits for (TE) comes before it; what may come at any time (TL) leaves the world as it is. No program in sight. -/
namespace Go.Dx
open Go.RowKit

theorem grown_of_below {w w' : World} (h : Below w.heap.size w w') (row : Option Nat) : w.grownBy w' row := ⟨h.os, h.tape, h.output, h.size, fun k hk _ => h.block k hk⟩
theorem grown_trans {a b c : World} {row : Option Nat} (h : a.grownBy b row) (k : b.grownBy c row) : a.grownBy c row :=
 ⟨k.os.trans h.os, k.tape.trans h.tape, k.output.trans h.output, Nat.le_trans h.size k.size, fun i hi hr => (k.block i (Nat.lt_of_lt_of_le hi h.size) hr).trans (h.block i hi hr)⟩
def OneStill (d : Nat) (a : Act) (w : World) (R : Value → World → Prop) (e : Exit) (a' : Act) (w' : World) : Prop := e = .normal ∧ ∃ v, a' = a.put (some d) v ∧ w' = w ∧ R v w'
def OneTurn (d : Nat) (a : Act) (R : Value → World → Prop) (e : Exit) (a' : Act) (w' : World) : Prop := e = .normal ∧ ∃ v, a' = a.put (some d) v ∧ R v w'

structure MidInv (l : List Oper) (n p : Nat) (T : List HOp) (a0 : Act) (w0 : World) (G : World → Prop) (listed : Array Bool) (a : Act) (w : World) : Prop where
 inv : HeadInv .any l.toArray n listed
 defers : a.defers = a0.defers
 size : a.tmps.size = a0.tmps.size
 frame : ∀ k, (∀ t ∈ T, t.d ≠ k) → a.tmps.getD k undef = a0.tmps.getD k undef
 pre : listed.getD p false = false → Below w0.heap.size w0 w
 post : listed.getD p false = true → G w
 facts : ∀ t ∈ T, listed.getD t.i false = true → t.fact a w

section
variable {P : Program}
theorem wp_region_mid {id : Nat} {Q : Exit → Act → World → Prop} {a0 : Act} {w0 : World} {l : List Oper} (n : Nat) (L G : World → Prop) (TP : HOp) (TE TL : List HOp) (hm : P.follows .mixedOrders = true)
  (hB : (headOk l n ((TP :: (TE ++ TL)).map fun t => (t.i, t.d, t.s)) a0.tmps.size && (TE.all fun t => Region.waitsFor .any l.toArray TP.i t.i && t.i != TP.i)) = true)
  (hL1 : ∀ w, Below w0.heap.size w0 w → L w) (hL2 : ∀ w, G w → L w)
  (hmono : All (fun t : HOp => ∀ vs w w', Below w.heap.size w w' → t.p vs w → t.p vs w') (TE ++ TL))
  (hopP : ∀ o, l[TP.i]? = some o → ∀ (a : Act) (w : World), Below w0.heap.size w0 w →
   (∀ k, ((TP :: (TE ++ TL)).map (·.d)).contains k = false → a.tmps.getD k undef = a0.tmps.getD k undef) →
   (∀ (k : Nat) (u : HOp), (TP :: (TE ++ TL))[k]? = some u → Region.waitsFor .any l.toArray TP.i u.i = true → u.p (u.s.map fun k => a.tmps.getD k undef) w) →
   wpList P l.toArray (OneTurn TP.d a fun v w' => TP.p (TP.s.map fun k => if TP.d = k then v else a.tmps.getD k undef) w' ∧ G w' ∧ All (fun u : HOp => ∀ vs, u.p vs w → u.p vs w') (TE ++ TL)) [o] a w)
  (hopE : All (fun t : HOp => ∀ o, l[t.i]? = some o → ∀ (a : Act) (w : World), Below w0.heap.size w0 w →
   (∀ k, ((TP :: (TE ++ TL)).map (·.d)).contains k = false → a.tmps.getD k undef = a0.tmps.getD k undef) →
   (∀ (k : Nat) (u : HOp), (TP :: (TE ++ TL))[k]? = some u → Region.waitsFor .any l.toArray t.i u.i = true → u.p (u.s.map fun k => a.tmps.getD k undef) w) →
   wpList P l.toArray (OneDone t.d a w fun v w' => t.p (t.s.map fun k => if t.d = k then v else a.tmps.getD k undef) w') [o] a w) TE)
  (hopL : All (fun t : HOp => ∀ o, l[t.i]? = some o → ∀ (a : Act) (w : World), L w →
   (∀ k, ((TP :: (TE ++ TL)).map (·.d)).contains k = false → a.tmps.getD k undef = a0.tmps.getD k undef) →
   (∀ (k : Nat) (u : HOp), (TP :: (TE ++ TL))[k]? = some u → Region.waitsFor .any l.toArray t.i u.i = true → u.p (u.s.map fun k => a.tmps.getD k undef) w) →
   wpList P l.toArray (OneStill t.d a w fun v w' => t.p (t.s.map fun k => if t.d = k then v else a.tmps.getD k undef) w') [o] a w) TL)
  (hend : ∀ (g : Nat → Value) (w : World), G w → (∀ (k : Nat) (u : HOp), (TP :: (TE ++ TL))[k]? = some u → u.p (u.s.map fun k => if k ∈ (TP :: (TE ++ TL)).map (·.d) then g k else a0.tmps.getD k undef) w) →
   wpList P l.toArray Q (l.drop n) (putAll a0 (((TP :: (TE ++ TL)).map (·.d)).map fun d => (d, g d))) w) : (Code.region id l.toArray true).wp P Q a0 w0 := by
 obtain ⟨T, hTdef⟩ : ∃ T, TP :: (TE ++ TL) = T := ⟨_, rfl⟩
 have memP : TP ∈ T := by rw [← hTdef]; exact List.mem_cons_self
 have split : ∀ t ∈ T, t = TP ∨ t ∈ TE ∨ t ∈ TL := by
  intro t ht
  rw [← hTdef] at ht
  rcases List.mem_cons.1 ht with h | h
  ·exact .inl h
  ·exact .inr (List.mem_append.1 h)
 have rest : ∀ t ∈ T, t ≠ TP → t ∈ TE ++ TL := by
  intro t ht hne
  rw [← hTdef] at ht
  rcases List.mem_cons.1 ht with h | h
  ·exact absurd h hne
  ·exact h
 rw [hTdef] at hB hopP hopE hopL hend
 rw [Bool.and_eq_true] at hB
 obtain ⟨hB, hE⟩ := hB
 have hE1 : ∀ t ∈ TE, Region.waitsFor .any l.toArray TP.i t.i = true ∧ t.i ≠ TP.i := by
  intro t ht
  have := List.all_eq_true.1 hE t ht
  simpa using this
 simp only [headOk, Bool.and_eq_true, decide_eq_true_eq] at hB
 obtain ⟨⟨⟨⟨⟨⟨⟨hnd, hn⟩, hs⟩, hc⟩, hseq⟩, hcov⟩, hT⟩, hpair⟩ := hB
 have hnodup : ∀ t ∈ T, ∀ u ∈ T, t.i = u.i → t = u := inj_nodup (·.i) T (by rw [List.map_map] at hnd; exact hnd)
 have hn' : n < l.toArray.size := by simpa using hn
 have cover : ∀ j, j < n → ∃ t ∈ T, t.i = j := by
  intro j hj
  have h := List.all_eq_true.1 hcov j (List.mem_range.2 hj)
  obtain ⟨x, hx, he⟩ := List.any_eq_true.1 h
  obtain ⟨t, ht, rfl⟩ := List.mem_map.1 hx
  exact ⟨t, ht, by simpa using he⟩
 have own : ∀ t ∈ T, t.i < n ∧ t.d < a0.tmps.size ∧ ∃ o, l[t.i]? = some o ∧ o.dst = some t.d ∧ ∀ e ∈ o.after, Region.binds .any e = true → e.on < t.i := by
  intro t ht
  have h := List.all_eq_true.1 hT _ (List.mem_map.2 ⟨t, ht, rfl⟩)
  simp only [Bool.and_eq_true, decide_eq_true_eq] at h
  obtain ⟨⟨h1, h2⟩, h3⟩ := h
  refine ⟨h1, h2, ?_⟩
  cases ho : l[t.i]? with
  | none => rw [ho] at h3; cases h3
  | some o =>
   rw [ho] at h3
   simp only [Bool.and_eq_true, beq_iff_eq] at h3
   refine ⟨o, rfl, h3.1, fun e he hb => ?_⟩
   have := Array.all_eq_true_iff_forall_mem.1 h3.2 e he
   simpa [hb] using this
 have pair : ∀ t ∈ T, ∀ u ∈ T, t.i ≠ u.i → t.d ≠ u.d ∧ (t.d ∈ u.s → Region.waitsFor .any l.toArray u.i t.i = true) := by
  intro t ht u hu hne
  have h := List.all_eq_true.1 (List.all_eq_true.1 hpair _ (List.mem_map.2 ⟨t, ht, rfl⟩)) _ (List.mem_map.2 ⟨u, hu, rfl⟩)
  simp only [Bool.or_eq_true, beq_iff_eq, hne, false_or, Bool.and_eq_true, bne_iff_ne, ne_eq, Bool.not_eq_true'] at h
  refine ⟨h.1, fun hin => ?_⟩
  rcases h.2 with h2 | h2
  ·have : u.s.contains t.d = true := by simpa using hin
   rw [this] at h2; cases h2
  ·exact h2
 have key : ∀ (f : Nat) (listed : Array Bool) (a : Act) (w : World), MidInv l n TP.i T a0 w0 G listed a w → todo listed n = f → wpAny P .any l.toArray Q (f + (l.length - n)) listed a w := by
  intro f
  induction f with
  | zero =>
   intro listed a w I h0
   have hall : ∀ j, j < n → listed.getD j true = true := by
    intro j hj
    cases hb : listed.getD j true with
    | true => rfl
    | false =>
     have : j ∈ (List.range n).filter fun j => !listed.getD j true := List.mem_filter.2 ⟨List.mem_range.2 hj, by rw [hb]; rfl⟩
     unfold todo at h0
     rw [List.eq_nil_of_length_eq_zero h0] at this
     cases this
   have hlist : listed = (List.replicate n true ++ List.replicate (l.length - n) false).toArray := by
    have hsz := I.inv.size
    apply Array.ext
    ·simp at hsz ⊢; omega
    ·intro j h1 h2
     by_cases hj : j < n
     ·have := hall j hj
      simp [Array.getD, h1] at this
      simp [this, List.getElem_append_left, hj]
     ·have := I.inv.tail j (by omega) (by rw [← hsz]; exact h1)
      simp [Array.getD, h1] at this
      simp only [this, List.getElem_toArray]
      rw [List.getElem_append_right (by simp; omega)]
      simp
   have ha : a = putAll a0 ((T.map (·.d)).map fun d => (d, a.tmps.getD d undef)) := by
    have hd : ∀ d ∈ T.map (·.d), d < a0.tmps.size := by
     intro d hd
     obtain ⟨t, ht, rfl⟩ := List.mem_map.1 hd
     exact (own t ht).2.1
    refine act_ext (by rw [putAll_defers]; exact I.defers) (by rw [putAll_size]; exact I.size) (fun k => ?_)
    rw [putAll_get (fun d => a.tmps.getD d undef) _ _ _ hd]
    by_cases h : k ∈ T.map (·.d)
    ·rw [if_pos h]
    ·rw [if_neg h]
     exact I.frame k (fun t ht e => h (List.mem_map.2 ⟨t, ht, e⟩))
   have hlp : listed.getD TP.i false = true := by
    have := hall TP.i (own TP memP).1
    rcases Nat.lt_or_ge TP.i listed.size with h' | h'
    ·simp [h'] at this ⊢; exact this
    ·have := I.inv.size; have := (own TP memP).1; omega
   have hfin := hend (fun d => a.tmps.getD d undef) w (I.post hlp) (fun k u hu => by
    have hu' := List.mem_of_getElem? hu
    have h1 := I.facts u hu' (by
     have := hall u.i (own u hu').1
     rcases Nat.lt_or_ge u.i listed.size with h' | h'
     ·simp [h'] at this ⊢; exact this
     ·have := I.inv.size; have := (own u hu').1; omega)
    unfold HOp.fact at h1
    have e : (u.s.map fun k => if k ∈ T.map (·.d) then a.tmps.getD k undef else a0.tmps.getD k undef) = u.s.map fun k => a.tmps.getD k undef := by
     apply List.map_congr_left
     intro k _
     by_cases h : k ∈ T.map (·.d)
     ·rw [if_pos h]
     ·rw [if_neg h]
      exact (I.frame k (fun t ht e => h (List.mem_map.2 ⟨t, ht, e⟩))).symm
    rw [e]
    exact h1)
   rw [← ha] at hfin
   rw [Nat.zero_add]
   have hseq' : Region.seqB .any l.toArray (l.drop n).length n listed = true := by rw [hlist, List.length_drop]; exact hseq
   have := wpAny_of_seq (md := .any) (Q' := Q) (l.drop n) n listed a w (fun j => by simp [List.getElem?_drop]) hseq' hfin
   rwa [List.length_drop] at this
  | succ f ih =>
   intro listed a w I hf
   have hex : ∃ j, j < n ∧ listed.getD j true = false := by
    cases hL : (List.range n).filter fun j => !listed.getD j true with
    | nil => unfold todo at hf; rw [hL] at hf; cases hf
    | cons j L =>
     have : j ∈ (List.range n).filter fun j => !listed.getD j true := by rw [hL]; exact List.mem_cons_self
     obtain ⟨h1, h2⟩ := List.mem_filter.1 this
     exact ⟨j, List.mem_range.1 h1, by simpa using h2⟩
   have hready : Region.ready .any l.toArray listed ≠ [] := by
    have hmin : ∀ m j, j ≤ m → j < n → listed.getD j true = false → ∃ i, i ∈ Region.ready .any l.toArray listed := by
     intro m
     induction m with
     | zero =>
      intro j hj hjn hjl
      have hj0 : j = 0 := by omega
      subst hj0
      obtain ⟨t, ht, hti⟩ := cover 0 hjn
      obtain ⟨_, _, o, ho, _, hb⟩ := own t ht
      rw [hti] at ho hb
      exact ⟨0, mem_ready.2 ⟨hjl, o, by simpa using ho, fun e he hbe => absurd (hb e he hbe) (by omega)⟩⟩
     | succ m ihm =>
      intro j hj hjn hjl
      obtain ⟨t, ht, hti⟩ := cover j hjn
      obtain ⟨_, _, o, ho, _, hb⟩ := own t ht
      rw [hti] at ho hb
      by_cases hall : ∀ e ∈ o.after, Region.binds .any e = true → listed.getD e.on false = true
      ·exact ⟨j, mem_ready.2 ⟨hjl, o, by simpa using ho, hall⟩⟩
      ·simp only [Classical.not_forall] at hall
       obtain ⟨e, he, hbe, hne⟩ := hall
       have hlt := hb e he hbe
       have hes : e.on < listed.size := by rw [I.inv.size]; simp; omega
       exact ihm e.on (by omega) (by omega) (getD_in hes (by simpa using hne))
    obtain ⟨j, hj, hjl⟩ := hex
    obtain ⟨i, hi⟩ := hmin j j (Nat.le_refl _) hj hjl
    intro h
    rw [h] at hi
    cases hi
   rw [show f + 1 + (l.length - n) = (f + (l.length - n)) + 1 by omega]
   refine ⟨fun h => absurd h hready, fun i hi => ?_⟩
   have hin : i < n := by
    rcases Nat.lt_or_ge i n with h | h
    ·exact h
    ·obtain ⟨j, hj, hjl⟩ := hex
     exact absurd hi (tail_waits hs hc hn' I.inv _ j rfl hj hjl i h)
   obtain ⟨t, ht, hti⟩ := cover i hin
   obtain ⟨_, htd, o, ho, hdst, _⟩ := own t ht
   obtain ⟨hil, oi, hoi, hafter⟩ := mem_ready.1 hi
   have hoo : oi = o := by rw [hti] at ho; exact Option.some.inj (hoi.symm.trans (by simpa using ho))
   subst hoo
   have hframe : ∀ k, (T.map (·.d)).contains k = false → a.tmps.getD k undef = a0.tmps.getD k undef := fun k hk => I.frame k (fun u hu e => by
     have : (T.map (·.d)).contains k = true := by simpa using ⟨u, hu, e⟩
     rw [this] at hk; cases hk)
   have hfacts : ∀ (k : Nat) (u : HOp), T[k]? = some u → Region.waitsFor .any l.toArray t.i u.i = true → u.p (u.s.map fun k => a.tmps.getD k undef) w := fun k u hu hw => by
    have hu' := List.mem_of_getElem? hu
    obtain ⟨oj, hoj, e, he, hb, hon⟩ := Region.waitsFor_spec hw
    have : oj = oi := by rw [hti] at hoj; exact Option.some.inj (hoj.symm.trans hoi)
    subst this
    have h1 := hafter e he hb
    rw [hon] at h1
    exact I.facts u hu' h1
   have step0 : ∀ (v : Value) (w' : World), (t.i ≠ TP.i → (listed.getD TP.i false = false → Below w0.heap.size w0 w') ∧ (listed.getD TP.i false = true → G w')) → (t.i = TP.i → G w') →
     (∀ u ∈ T, u ≠ t → listed.getD u.i false = true → ∀ vs, u.p vs w → u.p vs w') → t.p (t.s.map fun k => if t.d = k then v else a.tmps.getD k undef) w' → wpAny P .any l.toArray Q (f + (l.length - n)) (listed.setIfInBounds i true) (a.put (some t.d) v) w' := by
    intro v w' hph hG hsurv hp
    refine ih _ _ _ ⟨I.inv.set hi hin, I.defers, ?_, ?_, ?_, ?_, ?_⟩ ?_
    ·rw [← I.size]; simp [Act.put]
    ·intro k hk
     rw [put_get, if_neg (fun h => hk t ht h.1)]
     exact I.frame k hk
    ·intro hl
     by_cases hip : t.i = TP.i
     ·exfalso
      rw [← hip, hti] at hl
      have hlt : i < listed.size := by rw [I.inv.size]; omega
      simp [hlt] at hl
     ·rw [getD_set_ne false (by rw [← hti]; exact hip)] at hl
      exact (hph hip).1 hl
    ·intro hl
     by_cases hip : t.i = TP.i
     ·exact hG hip
     ·rw [getD_set_ne false (by rw [← hti]; exact hip)] at hl
      exact (hph hip).2 hl
    ·intro u hu hul
     by_cases hui : t.i = u.i
     ·unfold HOp.fact
      by_cases hut : u = t
      ·subst hut
       have e : (u.s.map fun k => (a.put (some u.d) v).tmps.getD k undef) = u.s.map fun k => if u.d = k then v else a.tmps.getD k undef := by
        apply List.map_congr_left
        intro k _
        rw [put_get, I.size]
        by_cases hk : u.d = k
        ·rw [if_pos ⟨hk, htd⟩, if_pos hk]
        ·rw [if_neg (fun h => hk h.1), if_neg hk]
       rw [e]
       exact hp
      ·exact absurd (hnodup t ht u hu hui).symm hut
     ·unfold HOp.fact
      have hul2 : listed.getD u.i false = true := by rw [← getD_set_ne false (i := i) (j := u.i) (by rw [← hti]; exact hui)]; exact hul
      have h1 := hsurv u hu (fun e => hui (by rw [e])) hul2 _ (I.facts u hu hul2)
      have hnot : t.d ∉ u.s := by
       intro hin2
       have hw := (pair t ht u hu hui).2 hin2
       obtain ⟨ou, hou, e, he, hb, hon⟩ := Region.waitsFor_spec hw
       have := I.inv.closed u.i ou hou hul2 e he hb
       rw [hon, hti, getD_both hil] at this
       cases this
      have e : (u.s.map fun k => (a.put (some t.d) v).tmps.getD k undef) = u.s.map fun k => a.tmps.getD k undef := by
       apply List.map_congr_left
       intro k hk
       rw [put_get, if_neg (fun (h : t.d = k ∧ t.d < a.tmps.size) => hnot (by rw [h.1]; exact hk))]
      rw [e]
      exact h1
    ·have := todo_set hin hil; omega
   have fin : ∀ (R : Exit → Act → World → Prop), (∀ e a' w', R e a' w' → e = .normal) → (∀ a' w', R .normal a' w' → wpAny P .any l.toArray Q (f + (l.length - n)) (listed.setIfInBounds i true) a' w') → wpList P l.toArray R [oi] a w → wpOp P l.toArray Q i (fun a' w' => wpAny P .any l.toArray Q (f + (l.length - n)) (listed.setIfInBounds i true) a' w') a w := by
    intro R hR step H
    unfold wpList at H
    unfold wpOp
    rw [hoi]
    simp only
    by_cases hwant : Region.wanted oi (yielded l.toArray a.tmps) = true
    ·rw [if_pos hwant] at H
     rw [if_pos hwant]
     left
     rcases H with H | ⟨_, a1, w1, h1⟩
     ·exact wp_both (fun a' w' h => step a' w' h) (fun e a' w' he h => absurd (hR _ _ _ h) he) H
     ·exact absurd (hR _ _ _ h1) (by simp)
    ·rw [if_neg hwant] at H
     rw [if_neg hwant]
     exact step _ _ H
   have prep : t.i = TP.i ∨ t ∈ TE → listed.getD TP.i false = false := by
    intro h
    rcases h with h | h
    ·rw [h] at hti
     rw [hti]
     exact getD_both hil
    ·cases hlp : listed.getD TP.i false with
     | false => rfl
     | true =>
      obtain ⟨hw, _⟩ := hE1 t h
      obtain ⟨ou, hou, e, he, hb, hon⟩ := Region.waitsFor_spec hw
      have := I.inv.closed TP.i ou hou hlp e he hb
      rw [hon, hti, getD_both hil] at this
      cases this
   by_cases htP : t = TP
   ·subst htP
    have hpre := prep (.inl rfl)
    refine fin _ ?_ ?_ (hopP oi ho a w (I.pre hpre) hframe hfacts)
    ·exact fun e a' w' h => h.1
    ·rintro a' w' ⟨_, v, rfl, hp, hG, hS⟩
     refine step0 v w' (fun h => absurd rfl h) (fun _ => hG) (fun u hu hne _ => hS.mem u (rest u hu hne)) hp
   ·have hipP : t.i ≠ TP.i := fun h => htP (hnodup t ht TP memP h)
    rcases split t ht with h | h | h
    ·exact absurd h htP
    ·have hpre := prep (.inr h)
     refine fin _ ?_ ?_ (hopE.mem t h oi ho a w (I.pre hpre) hframe hfacts)
     ·exact fun e a' w' h => h.1
     ·rintro a' w' ⟨_, v, rfl, hbel, hp⟩
      refine step0 v w' (fun _ => ⟨fun _ => (I.pre hpre).trans (hbel.mono (I.pre hpre).size), fun h => by rw [hpre] at h; cases h⟩) (fun h => absurd h hipP) (fun u hu hne hul => ?_) hp
      have huP : u ≠ TP := fun e => by rw [e, hpre] at hul; cases hul
      exact fun vs hv => hmono.mem u (rest u hu huP) vs w w' hbel hv
    ·have hLw : L w := by
      cases hlp : listed.getD TP.i false with
      | false => exact hL1 w (I.pre hlp)
      | true => exact hL2 w (I.post hlp)
     refine fin _ ?_ ?_ (hopL.mem t h oi ho a w hLw hframe hfacts)
     ·exact fun e a' w' h => h.1
     ·rintro a' w' ⟨_, v, rfl, rfl, hp⟩
      exact step0 v _ (fun _ => ⟨I.pre, I.post⟩) (fun h => absurd h hipP) (fun u hu hne hul vs hv => hv) hp
 refine wp_region_any hm ?_
 have inv0 : HeadInv .any l.toArray n (Array.replicate l.toArray.size false) :=
  ⟨by simp, fun j oj _ hl => (by rw [getD_replicate_false] at hl; cases hl), fun t _ ht => getD_in (by simpa using ht) (getD_replicate_false _ _)⟩
 have I0 : MidInv l n TP.i T a0 w0 G (Array.replicate l.toArray.size false) a0 { w0 with drawn := w0.drawn + 1 } :=
  ⟨inv0, rfl, rfl, fun _ _ => rfl, fun _ => Still.below 1, fun hl => (by rw [getD_replicate_false] at hl; cases hl), fun t _ hl => (by rw [getD_replicate_false] at hl; cases hl)⟩
 have ht0 : todo (Array.replicate l.toArray.size false) n = n := by
  unfold todo
  rw [List.filter_eq_self.2 (fun j hj => by
   have hj' := List.mem_range.1 hj
   have : (Array.replicate l.toArray.size false).getD j true = false := getD_in (by simp; omega) (getD_replicate_false _ _)
   rw [this]; rfl), List.length_range]
 have := key n _ _ _ I0 ht0
 rwa [show n + (l.length - n) = l.toArray.size by simp; omega] at this
end
end Go.Dx
end

section
/- Chapter 06: steps that a call owns; what Steps hands back. -/
namespace Go.Dx
open Go.RowKit
theorem own_far {w : World} {B B' : Nat} {e e' : TypeId} {sz sz' : Nat} {p q : Addr} {n n' c c' : Nat} {cs cs' : List Value} (h : Own w B e sz (some p) n c cs) (h' : Own w B' e' sz' (some q) n' c' cs') (he : e ≠ e') : p.block ≠ q.block := by
 intro hb
 rcases h.2 with ⟨h1, _⟩ | ⟨g, cap, cur, h1, _, h2, _⟩
 ·cases h1
 ·rcases h'.2 with ⟨k1, _⟩ | ⟨g', cap', cur', k1, _, k2, _⟩
  ·cases k1
  ·injection h1 with h1
   injection k1 with k1
   injection h1 with h1
   injection k1 with k1
   subst h1 k1
   have e : g = g' := hb
   rw [e, k2] at h2
   injection h2 with h2
   injection h2 with _ h2
   exact he h2.symm
structure OSt (w : World) (E U : TypeId) (B : Nat) (a : Option Addr) (c : Nat) (ps : List SH) : Prop where
 top : Own w B E 6 a ps.length c (ps.flatMap stc)
 row : ∀ p ∈ ps, Own w B U 1 p.2.1 p.2.2.1 p.2.2.2 (p.1.cells.map B8)
theorem OSt.nil (w : World) (E U : TypeId) (B : Nat) : OSt w E U B none 0 [] := ⟨Own.nil _ _ _ _, fun p hp => by cases hp⟩
theorem OSt.below {w w' : World} {E U : TypeId} {B : Nat} {a : Option Addr} {c : Nat} {ps : List SH} (h : OSt w E U B a c ps) (hb : Below w.heap.size w w') : OSt w' E U B a c ps :=
 ⟨h.top.below hb, fun p hp => (h.row p hp).below hb⟩
theorem OSt.stl {w : World} {E U : TypeId} {B : Nat} {a : Option Addr} {c : Nat} {ps : List SH} (h : OSt w E U B a c ps) : Stl w a ps.length c ps (ps.map (·.1)) :=
 ⟨h.top.sl, fun p hp => (h.row p hp).sl, rfl⟩
theorem OSt.push {w w' : World} {E U : TypeId} {B : Nat} {a a' : Option Addr} {c c' : Nat} {ps : List SH} {p : SH} (h : OSt w E U B a c ps) (hx : Own w B U 1 p.2.1 p.2.2.1 p.2.2.2 (p.1.cells.map B8))
  (ht : Own w' B E 6 a' (ps.length + 1) c' (ps.flatMap stc ++ stc p)) (hg : w.grownBy w' (a.map (·.block))) (hE : E ≠ U) : OSt w' E U B a' c' (ps ++ [p]) := by
 have key : ∀ q : SH, Own w B U 1 q.2.1 q.2.2.1 q.2.2.2 (q.1.cells.map B8) → Own w' B U 1 q.2.1 q.2.2.1 q.2.2.2 (q.1.cells.map B8) := by
  intro q hq
  refine hq.kept hg fun r hr => ?_
  cases a with
  | none => simp
  | some t =>
   have ho := h.top
   rw [hr] at hq
   have := own_far hq ho (fun e => hE e.symm)
   simpa using this
 refine ⟨?_, ?_⟩
 ·rw [List.length_append, List.flatMap_append, List.flatMap_singleton]; exact ht
 ·intro q hq
  rcases List.mem_append.1 hq with hq | hq
  ·exact key q (h.row q hq)
  ·rw [List.mem_singleton] at hq; subst hq; exact key _ hx
theorem Stl.nil (w : World) : Stl w none 0 0 [] [] := ⟨Sl.empty _ _, fun p hp => (by simp at hp), rfl⟩
def StepsR (L : List Stp) (w : World) (e : Ending) (w' : World) : Prop := ∃ a c ps, e = .returned (.slice a L.length c) ∧ Stl w' a L.length c ps L ∧ Below w.heap.size w w'
def TypAt (w : World) (T : TypeId) (a : Option Addr) : Prop := ∀ q, a = some q → ∃ C z, w.heap[q.block]? = some (.cells C T z)
theorem TypAt.nil (w : World) (T : TypeId) : TypAt w T none := fun q h => by cases h
theorem TypAt.fresh (w : World) (C : Array Value) (T : TypeId) : TypAt (w.alloc (.cells C T)) T (some ⟨w.heap.size, 0, none⟩) := fun q h => by
 cases h
 exact ⟨C, (0, 0), by unfold World.alloc; exact Array.getElem?_push_size⟩
theorem TypAt.below {w w' : World} {T : TypeId} {a : Option Addr} (h : TypAt w T a) (hb : Below w.heap.size w w') : TypAt w' T a := fun q hq => by
 obtain ⟨C, z, h1⟩ := h q hq
 exact ⟨C, z, (hb.block _ (Array.getElem?_eq_some_iff.1 h1).1).trans h1⟩
theorem Own.typ {w : World} {B : Nat} {e : TypeId} {sz : Nat} {a : Option Addr} {n c : Nat} {cs : List Value} (h : Own w B e sz a n c cs) : TypAt w e a := fun q hq => by
 rcases h.2 with ⟨h1, _⟩ | ⟨g, cap, cur, h1, _, h3, _⟩
 ·rw [hq] at h1; cases h1
 ·rw [hq] at h1
  injection h1 with h1
  injection h1 with h1
  subst h1
  exact ⟨_, _, h3⟩
def StepsT (T : TypeId) (L : List Stp) (w : World) (e : Ending) (w' : World) : Prop := ∃ a c ps, e = .returned (.slice a L.length c) ∧ Stl w' a L.length c ps L ∧ Below w.heap.size w w' ∧ TypAt w' T a
theorem StepsT.out {T : TypeId} {L : List Stp} {w : World} {e : Ending} {w' : World} (h : StepsT T L w e w') : StepsR L w e w' := by
 obtain ⟨a, c, ps, h1, h2, h3, _⟩ := h
 exact ⟨a, c, ps, h1, h2, h3⟩
theorem ruleSteps_snoc (t : Ta) (s : St) (x : Sy) (l : List Sy) (i : Nat) (r : Ru) : ∀ (rs : List Ru) (k : Nat), ruleSteps t s x l i k (rs ++ [r]) =
  ruleSteps t s x l i k rs ++ (if fitsB r l i then [⟨⟨x.lang, false, isL x.c⟩, (r.text.size : Int), headC t s x ++ r.cells, ((k + rs.length : Nat) : Int)⟩] else []) := by
 intro rs
 induction rs with
 | nil => intro k; simp [ruleSteps]
 | cons q rs ih =>
  intro k
  simp only [List.cons_append, ruleSteps, ih (k + 1), List.append_assoc, List.length_cons]
  rw [show k + 1 + rs.length = k + (rs.length + 1) by omega]
theorem steps_none {t : Ta} {s : St} {l : List Sy} {i : Int} (h : ¬ (validE t = 0 ∧ (s.lang = 0 ∨ s.lang = 1) ∧ 0 ≤ i ∧ goodS l = true) ∨ (l.length : Int) ≤ i) : stepsL t s l i = [] := by
 unfold stepsL
 split
 ·rename_i h2
  rcases h with h | h
  ·exact absurd h2 h
  ·rw [List.getElem?_eq_none (by omega)]
 ·rfl
end Go.Dx
namespace Go.Proofs.Ytlpkicjijlcbfaa
open Go.RowKit Go.Dx
def zeroStep : Value := .agg #[.int .i64 0, .bool false, .bool false, .int .i64 0, .slice none 0 0, .int .i64 0]
theorem info_step : (Try.prog.info? 67).map (fun i => (i.zero, i.size, i.bytes)) = some (some zeroStep, 6, 56) := by kernel_rfl
theorem info_rstep : (Try.prog.info? 103).map (fun i => (i.zero, i.size, i.bytes)) = some (some zeroStep, 6, 56) := by kernel_rfl
section
variable {w : World} {ops : Array Oper} {rest : List Oper} {o : Oper} {act : Act} {Q : Exit → Act → World → Prop}
theorem app_st (hg : o.guard = none) (s x : Operand) (hop : o.op = Op.call { callee := Callee.builtin Builtin.append, args := #[s, x], argTypes := #[64, 64] })
  (w0 : World) (B : Nat) (a : Option Addr) (c : Nat) (ps : List SH) (hs : act.eval s = .slice a ps.length c) (hown : OSt w 67 5 B a c ps)
  (p : SH) (hp : Own w B 5 1 p.2.1 p.2.2.1 p.2.2.2 (p.1.cells.map B8)) (hx : act.eval x = .slice (some ⟨w.heap.size, 0, none⟩) 1 1)
  (hn : ps.length ≤ 1000000) (hB : B ≤ w.heap.size) (hbel : Below B w0 w)
  (hK : ∀ a' c' w', OSt w' 67 5 B a' c' (ps ++ [p]) → Below B w0 w' → wpList Try.prog ops Q rest (act.put o.dst (.slice a' (ps.length + 1) c')) w') :
  wpList Try.prog ops Q (o :: rest) act (w.alloc (.cells (stc p).toArray 67)) := by
 refine append_lit hg s x 64 hop 67 zeroStep 6 56 Try.underlying64 info_step rfl w0 B a _ c _ hs hown.top 1 (stc p) hx rfl (stc_one p) (by omega) (by unfold maxLen; omega) hB hbel ?_
 intro a' c' w' ho hgr hb
 exact hK a' c' w' (hown.push hp ho hgr (by decide)) hb
theorem app_st2 (hg : o.guard = none) (s x : Operand) (hop : o.op = Op.call { callee := Callee.builtin Builtin.append, args := #[s, x], argTypes := #[64, 64] })
  (w0 : World) (B : Nat) (a : Option Addr) (c : Nat) (ps : List SH) (hs : act.eval s = .slice a ps.length c) (hown : OSt w 67 5 B a c ps)
  (p : SH) (hp : Own w B 5 1 p.2.1 p.2.2.1 p.2.2.2 (p.1.cells.map B8)) (a2 : Option Addr) (c2 : Nat) (hx : act.eval x = .slice a2 1 c2) (hy : Sl w 6 a2 1 c2 (stc p))
  (hn : ps.length ≤ 1000000) (hB : B ≤ w.heap.size) (hbel : Below B w0 w)
  (hK : ∀ a' c' w', OSt w' 67 5 B a' c' (ps ++ [p]) → Below B w0 w' → wpList Try.prog ops Q rest (act.put o.dst (.slice a' (ps.length + 1) c')) w') :
  wpList Try.prog ops Q (o :: rest) act w := by
 refine append_own hg s x 64 hop 67 zeroStep 6 56 Try.underlying64 info_step rfl w0 B a _ c _ hs hown.top a2 1 c2 (stc p) hx hy (stc_one p) (by omega) (by unfold maxLen; omega) hB hbel ?_
 intro a' c' w' ho hgr hb
 exact hK a' c' w' (hown.push hp ho hgr (by decide)) hb
theorem app_rst2 (hg : o.guard = none) (s x : Operand) (hop : o.op = Op.call { callee := Callee.builtin Builtin.append, args := #[s, x], argTypes := #[104, 104] })
  (w0 : World) (B : Nat) (a : Option Addr) (c : Nat) (ps : List SH) (hs : act.eval s = .slice a ps.length c) (hown : OSt w 103 5 B a c ps)
  (p : SH) (hp : Own w B 5 1 p.2.1 p.2.2.1 p.2.2.2 (p.1.cells.map B8)) (a2 : Option Addr) (c2 : Nat) (hx : act.eval x = .slice a2 1 c2) (hy : Sl w 6 a2 1 c2 (stc p))
  (hn : ps.length ≤ 1000000) (hB : B ≤ w.heap.size) (hbel : Below B w0 w)
  (hK : ∀ a' c' w', OSt w' 103 5 B a' c' (ps ++ [p]) → Below B w0 w' → wpList Try.prog ops Q rest (act.put o.dst (.slice a' (ps.length + 1) c')) w') :
  wpList Try.prog ops Q (o :: rest) act w := by
 refine append_own hg s x 104 hop 103 zeroStep 6 56 Try.underlying104 info_rstep rfl w0 B a _ c _ hs hown.top a2 1 c2 (stc p) hx hy (stc_one p) (by omega) (by unfold maxLen; omega) hB hbel ?_
 intro a' c' w' ho hgr hb
 exact hK a' c' w' (hown.push hp ho hgr (by decide)) hb
end
end Go.Proofs.Ytlpkicjijlcbfaa
end

section
/- Chapter 06: Around; the reference's cell. -/
namespace Go.Proofs.Ytlpkicjijlcbfaa
open Go.RowKit Go.Dx
def aroundF (n : Int) (m : Nat) : Nat := ((if n < 0 then -(n + 1) else n) % (m : Int)).toNat
theorem aroundF_eq {n : Int} {m : Nat} (hm : 1 ≤ m) : (if n < 0 then -(n + 1) else n) % (m : Int) = (aroundF n m : Int) := by
 have h3 := Int.emod_nonneg (if n < 0 then -(n + 1) else n) (show (m : Int) ≠ 0 by omega)
 unfold aroundF; omega
theorem aroundF_lt {n : Int} {m : Nat} (hm : 1 ≤ m) : aroundF n m < m := by
 have h2 := Int.emod_lt_of_pos (if n < 0 then -(n + 1) else n) (show (0 : Int) < m by omega)
 have h3 := aroundF_eq (n := n) hm
 omega
set_option maxHeartbeats 400000 in
theorem ref_Around (n v : Int) (m : Nat) (w : World) (hv : (m : Int) = v) (h0 : -9223372036854775808 ≤ n) (h1 : n ≤ 9223372036854775807) (hm : 1 ≤ m) (hm2 : m ≤ 1000000000) :
  Calls Try.prog 23 #[.int .i64 n, .int .i64 v] w fun e w' => e = .returned (.int .i64 (aroundF n m : Nat)) ∧ w = w' := by
 subst hv
 have hr := aroundF_eq (n := n) hm
 obtain ⟨r, HR⟩ : ∃ r, Hid (aroundF n m = r) := ⟨_, hide rfl⟩
 rw [HR.out] at hr ⊢
 by_cases hn : n < 0
 ·rw [if_pos hn] at hr
  have HH := hide hr
  clear hr
  go_enter Try.func23, Try.ntmps23
  go_wp2
  go_ret
  exact ⟨by rw [← HH.out, ← Int.tmod_eq_emod_of_nonneg (by omega), Int.neg_tmod]; rfl, rfl⟩
 ·rw [if_neg hn] at hr
  have HH := hide hr
  clear hr
  go_enter Try.func23, Try.ntmps23
  go_wp2
  go_ret
  exact ⟨by rw [← HH.out]; rfl, rfl⟩
theorem around_any (n v : Int) (m : Nat) (w : World) (hv : (m : Int) = v) (h0 : -9223372036854775808 ≤ n) (h1 : n ≤ 9223372036854775807) (hm : 1 ≤ m) (hm2 : m ≤ 1000000000) :
  ∃ r : Nat, r < m ∧ ∀ w, Calls Try.prog 23 #[.int .i64 n, .int .i64 v] w fun e w' => e = .returned (.int .i64 (r : Int)) ∧ w = w' :=
 ⟨aroundF n m, aroundF_lt hm, fun w => ref_Around n v m w hv h0 h1 hm hm2⟩
theorem tdiv_in {n d : Int} (h0 : -9223372036854775808 ≤ n) (h1 : n ≤ 9223372036854775807) (hd : 1 < d) : -9223372036854775808 ≤ n.tdiv d ∧ n.tdiv d ≤ 9223372036854775807 := by
 have h := Int.natAbs_tdiv n d
 have h2 : (n.tdiv d).natAbs ≤ n.natAbs := by rw [h]; exact Nat.div_le_self _ _
 by_cases hn : n = -9223372036854775808
 ·have h3 : (n.tdiv d).natAbs ≤ 9223372036854775808 / 2 := by
   rw [h, hn]
   exact Nat.div_le_div_left (by omega) (by decide)
  omega
 ·omega
theorem steps10 : ∀ r : Nat, r < 10 → ∃ s : Nat, ([1, 2, 4, 5, 8, 10, 11, 13, 16, 17] : List Int)[r]? = some (s : Int) ∧ s ≤ 17 := by
 intro r hr
 rcases r with _ | _ | _ | _ | _ | _ | _ | _ | _ | _ | r
 ·exact ⟨1, rfl, by decide⟩
 ·exact ⟨2, rfl, by decide⟩
 ·exact ⟨4, rfl, by decide⟩
 ·exact ⟨5, rfl, by decide⟩
 ·exact ⟨8, rfl, by decide⟩
 ·exact ⟨10, rfl, by decide⟩
 ·exact ⟨11, rfl, by decide⟩
 ·exact ⟨13, rfl, by decide⟩
 ·exact ⟨16, rfl, by decide⟩
 ·exact ⟨17, rfl, by decide⟩
 ·omega
set_option maxHeartbeats 1000000 in
theorem ref_cell (n : Int) (h0 : -9223372036854775808 ≤ n) (h1 : n ≤ 9223372036854775807) (k : Nat) (hk : k ≤ 100) :
  ∃ v : UInt8, cellOk v = true ∧ ∀ w, Calls Try.prog 36 #[.int .i64 n, .int .i64 (k : Int)] w fun e w' => e = .returned (.int .u8 (v.toNat : Int)) ∧ Below w.heap.size w w' := by
 obtain ⟨r, hr, hA⟩ := around_any n 10 10 (World.settled Try.prog default) rfl h0 h1 (by decide) (by decide)
 obtain ⟨q, hq, hB⟩ := around_any (n.tdiv 10) 63 63 (World.settled Try.prog default) rfl (tdiv_in h0 h1 (by decide)).1 (tdiv_in h0 h1 (by decide)).2 (by decide) (by decide)
 obtain ⟨s, hs, hs17⟩ := steps10 r hr
 obtain ⟨ks, hks⟩ : ∃ ks : Nat, ks = k * s := ⟨_, rfl⟩
 have hksl : ks ≤ 1700 := by rw [hks]; exact Nat.mul_le_mul hk hs17
 obtain ⟨m, hm⟩ : ∃ m : Nat, m = (ks + q) % 63 := ⟨_, rfl⟩
 have hm63 : m < 63 := by omega
 have HKS : Hid ((k : Int) * (s : Int) = (ks : Int)) := hide (by rw [hks]; exact (Int.natCast_mul k s).symm)
 have HM : Hid (((ks : Int) + (q : Int)) % 63 = (m : Int)) := hide (by omega)
 have HU : Hid (((UInt8.ofNat (1 + m)).toNat : Int) = 1 + (m : Int)) := hide (by rw [UInt8.toNat_ofNat']; omega)
 have hcell : cellOk (UInt8.ofNat (1 + m)) = true := by
  have : (UInt8.ofNat (1 + m)).toNat = 1 + m := by rw [UInt8.toNat_ofNat']; omega
  unfold cellOk
  rw [this]; simp; omega
 refine ⟨UInt8.ofNat (1 + m), hcell, fun w => ?_⟩
 have HS := hide hs
 have hL : ([.int .i64 1, .int .i64 2, .int .i64 4, .int .i64 5, .int .i64 8, .int .i64 10, .int .i64 11, .int .i64 13, .int .i64 16, .int .i64 17] : List Value)[r]? = some (.int .i64 (s : Int)) := by
  have := congrArg (Option.map I64) hs
  rw [← List.getElem?_map] at this
  exact this
 have hE : ([.int .i64 1, .int .i64 2, .int .i64 4, .int .i64 5, .int .i64 8, .int .i64 10, .int .i64 11, .int .i64 13, .int .i64 16, .int .i64 17] : List Value)[r]'(by simpa using hr) = .int .i64 (s : Int) := (List.getElem?_eq_some_iff.1 hL).2
 have hsl : Sl (w.alloc (.cells (([1, 2, 4, 5, 8, 10, 11, 13, 16, 17] : List Int).map I64).toArray 3)) 1 (some ⟨w.heap.size, 0, none⟩) 10 10 (([1, 2, 4, 5, 8, 10, 11, 13, 16, 17] : List Int).map I64) := Sl.fresh w _ 1 10 _ rfl (by decide)
 have mks := HKS.out
 have mm := HM.out
 have mt : ((ks : Int) + (q : Int)).tmod 63 = (m : Int) := by rw [Int.tmod_eq_emod_of_nonneg (by omega)]; exact mm
 clear hs hks hm hcell hL
 go_enter Try.func36, Try.ntmps36
 go_wp2_with (first
  | (go_at_call_of 23 (Value.int IntKind.i64 10); refine (hA _).mono ?_; rintro e w2 ⟨rfl, rfl⟩)
  | (with_reducible refine idx_i 9 _ _ _ _ _ _ rfl hsl _ _ r rfl rfl _ HS.out ?_; intro b o hcell hbo)
  | (go_at_call_of 23 (Value.int IntKind.i64 63); refine (hB _).mono ?_; rintro e w2 ⟨rfl, rfl⟩))
 go_ret
 exact ⟨by rw [HU.out]; rfl, blo w _⟩
end Go.Proofs.Ytlpkicjijlcbfaa
end

section
/- Chapter 06: rules that a call owns; Once. -/
namespace Go.Dx
open Go.RowKit
structure ORu (w : World) (E U : TypeId) (B : Nat) (a : Option Addr) (c : Nat) (ps : List RH) : Prop where
 top : Own w B E 3 a ps.length c (ps.flatMap rc)
 row : ∀ p ∈ ps, Own w 0 U 1 p.2.1 p.2.2.1 p.2.2.2 (p.1.cells.map B8) ∧ p.1.text.size ≤ 1000
theorem ORu.nil (w : World) (E U : TypeId) (B : Nat) : ORu w E U B none 0 [] := ⟨Own.nil _ _ _ _, fun p hp => (by simp at hp)⟩
theorem ORu.below {w w' : World} {E U : TypeId} {B : Nat} {a : Option Addr} {c : Nat} {ps : List RH} (h : ORu w E U B a c ps) (hb : Below w.heap.size w w') : ORu w' E U B a c ps :=
 ⟨h.top.below hb, fun p hp => ⟨(h.row p hp).1.below hb, (h.row p hp).2⟩⟩
theorem ORu.rul {w : World} {E U : TypeId} {B : Nat} {a : Option Addr} {c : Nat} {ps : List RH} (h : ORu w E U B a c ps) : Rul w a ps.length c ps :=
 ⟨h.top.sl, fun p hp => ⟨(h.row p hp).1.sl, (h.row p hp).2⟩⟩
theorem ORu.push {w w' : World} {E U : TypeId} {B : Nat} {a a' : Option Addr} {c c' : Nat} {ps : List RH} {p : RH} (h : ORu w E U B a c ps) (hx : Own w 0 U 1 p.2.1 p.2.2.1 p.2.2.2 (p.1.cells.map B8)) (hz : p.1.text.size ≤ 1000)
  (ht : Own w' B E 3 a' (ps.length + 1) c' (ps.flatMap rc ++ rc p)) (hg : w.grownBy w' (a.map (·.block))) (hE : E ≠ U) : ORu w' E U B a' c' (ps ++ [p]) := by
 have key : ∀ q : RH, Own w 0 U 1 q.2.1 q.2.2.1 q.2.2.2 (q.1.cells.map B8) → Own w' 0 U 1 q.2.1 q.2.2.1 q.2.2.2 (q.1.cells.map B8) := by
  intro q hq
  refine hq.kept hg fun r hr => ?_
  cases a with
  | none => simp
  | some t =>
   have ho := h.top
   rw [hr] at hq
   have := own_far hq ho (fun e => hE e.symm)
   simpa using this
 refine ⟨?_, ?_⟩
 ·rw [List.length_append, List.flatMap_append, List.flatMap_singleton]; exact ht
 ·intro q hq
  rcases List.mem_append.1 hq with hq | hq
  ·exact ⟨key q (h.row q hq).1, (h.row q hq).2⟩
  ·rw [List.mem_singleton] at hq; subst hq; exact ⟨key _ hx, hz⟩
end Go.Dx
namespace Go.Proofs.Ytlpkicjijlcbfaa
open Go.RowKit Go.Dx
def zeroRule : Value := .agg #[.string ⟨#[]⟩, .int .i64 0, .slice none 0 0]
theorem info_rule : (Try.prog.info? 84).map (fun i => (i.zero, i.size, i.bytes)) = some (some zeroRule, 3, 48) := by kernel_rfl
section
variable {w : World} {ops : Array Oper} {rest : List Oper} {o : Oper} {act : Act} {Q : Exit → Act → World → Prop}
theorem app_ru (hg : o.guard = none) (s x : Operand) (hop : o.op = Op.call { callee := Callee.builtin Builtin.append, args := #[s, x], argTypes := #[23, 23] })
  (w0 : World) (B : Nat) (a : Option Addr) (c : Nat) (ps : List RH) (hs : act.eval s = .slice a ps.length c) (hown : ORu w 84 5 B a c ps)
  (p : RH) (hp : Own w 0 5 1 p.2.1 p.2.2.1 p.2.2.2 (p.1.cells.map B8)) (hz : p.1.text.size ≤ 1000) (hx : act.eval x = .slice (some ⟨w.heap.size, 0, none⟩) 1 1)
  (hn : ps.length ≤ 1000000) (hB : B ≤ w.heap.size) (hbel : Below B w0 w)
  (hK : ∀ a' c' w', ORu w' 84 5 B a' c' (ps ++ [p]) → Below B w0 w' → w.grownBy w' (a.map (·.block)) → wpList Try.prog ops Q rest (act.put o.dst (.slice a' (ps.length + 1) c')) w') :
  wpList Try.prog ops Q (o :: rest) act (w.alloc (.cells (rc p).toArray 84)) := by
 refine append_lit hg s x 23 hop 84 zeroRule 3 48 Try.underlying23 info_rule rfl w0 B a _ c _ hs hown.top 1 (rc p) hx rfl (rc_one p) (by omega) (by unfold maxLen; omega) hB hbel ?_
 intro a' c' w' ho hgr hb
 exact hK a' c' w' (hown.push hp hz ho hgr (by decide)) hb hgr
theorem app_ru2 (hg : o.guard = none) (s x : Operand) (hop : o.op = Op.call { callee := Callee.builtin Builtin.append, args := #[s, x], argTypes := #[23, 23] })
  (w0 : World) (B : Nat) (a : Option Addr) (c : Nat) (ps : List RH) (hs : act.eval s = .slice a ps.length c) (hown : ORu w 84 5 B a c ps)
  (p : RH) (hp : Own w 0 5 1 p.2.1 p.2.2.1 p.2.2.2 (p.1.cells.map B8)) (hz : p.1.text.size ≤ 1000) (a2 : Option Addr) (c2 : Nat) (hx : act.eval x = .slice a2 1 c2) (hy : Sl w 3 a2 1 c2 (rc p))
  (hn : ps.length ≤ 1000000) (hB : B ≤ w.heap.size) (hbel : Below B w0 w)
  (hK : ∀ a' c' w', ORu w' 84 5 B a' c' (ps ++ [p]) → Below B w0 w' → w.grownBy w' (a.map (·.block)) → wpList Try.prog ops Q rest (act.put o.dst (.slice a' (ps.length + 1) c')) w') :
  wpList Try.prog ops Q (o :: rest) act w := by
 refine append_own hg s x 23 hop 84 zeroRule 3 48 Try.underlying23 info_rule rfl w0 B a _ c _ hs hown.top a2 1 c2 (rc p) hx hy (rc_one p) (by omega) (by unfold maxLen; omega) hB hbel ?_
 intro a' c' w' ho hgr hb
 exact hK a' c' w' (hown.push hp hz ho hgr (by decide)) hb hgr
end

set_option maxRecDepth 100000 in
set_option maxHeartbeats 4000000 in
theorem ref_Once (ps : List RH) (a : Option Addr) (c B : Nat) (hpl : ps.length ≤ 200) (w : World) (hl : ORu w 84 5 B a c ps) :
  Calls Try.prog 37 #[.slice a ps.length c] w fun e w' => ∃ (a' : Option Addr) (c' : Nat) (qs : List RH), e = .returned (.slice a' qs.length c') ∧ ORu w' 84 5 w.heap.size a' c' qs ∧ OnceOf (rus ps) (rus qs) ∧ Below w.heap.size w w' := by
 go_enter Try.func37, Try.ntmps37
 go_wp2_with fail
 go_loopg [3, 4] ps.length (fun gh o v w' => ∃ (i : Nat) (qs : List RH) (ao : Option Addr) (co : Nat), i ≤ ps.length ∧ gh = ps.length - i ∧ qs.length ≤ i ∧ o = .slice ao qs.length co ∧ v = .int .i64 (i : Int) ∧ Hid (OnceOf ((rus ps).take i) (rus qs)) ∧ ORu w' 84 5 w.heap.size ao co qs ∧ Below w.heap.size w w')
 case atStart => exact ⟨0, [], none, 0, by omega, by omega, by simp, rfl, rfl, hide onceOf_nil, ORu.nil _ _ _ _, Below.refl _ _⟩
 case round =>
  obtain ⟨i, qs, ao, co, hi, hg, hql, rfl, rfl, HO, hOR, hb⟩ := hrel
  have HG := hide hg
  clear hg
  by_cases hil : i < ps.length
  ·obtain ⟨wo, rfl⟩ : ∃ wo : World, wo = wr := ⟨_, rfl⟩
   obtain ⟨x, hx⟩ : ∃ x, ps[i]? = some x := ⟨ps[i], by simp [hil]⟩
   have HXI := hide hx
   have HRX := hide (rus_get hx)
   have hlo := hl.below hb
   obtain ⟨hrow, hsz⟩ := hlo.row x (List.mem_of_getElem? hx)
   obtain ⟨b1, o1, hab, hb1, x0, x1, x2⟩ := ru_cells hlo.top.sl hx
   have HRLO := hide hlo.rul.top
   subst hab
   clear hx
   obtain ⟨⟨s, wh, cl⟩, h1, h2, h3⟩ := x
   have x0 : wo.cell? ⟨b1, o1 + i * 3, none⟩ = some (.string s) := x0
   have x1 : wo.cell? ⟨b1, o1 + i * 3 + 1, none⟩ = some (.int .i64 wh) := x1
   have e0 : decide (i < ps.length) = true := decide_eq_true hil
   have e0' : decide ((i : Int) < (ps.length : Int)) = true := decide_eq_true (by omega)
   clear x2
   go_wp2_with fail
   go_loopg [5, 6] qs.length (fun gh f v w' => ∃ (k : Nat) (fv : Bool), k ≤ qs.length ∧ gh = qs.length - k ∧ f = .bool fv ∧ Hid (fv = !isIn (((rus qs).take k).map nmOf) (s, wh)) ∧ v = .int .i64 (k : Int) ∧ Below wo.heap.size wo w')
   case atStart => exact ⟨0, true, by omega, by omega, rfl, hide rfl, rfl, Below.refl _ _⟩
   case round =>
    obtain ⟨k, fv, hk, hgk, rfl, HF, rfl, hbk⟩ := hrel
    have HGK := hide hgk
    clear hgk
    have hb2 := hb.trans (hbk.mono hb.size)
    by_cases hkl : k < qs.length
    ·obtain ⟨y, hy⟩ : ∃ y, qs[k]? = some y := ⟨qs[k], by simp [hkl]⟩
     have HSTEP := hide (isIn_step (rus_get hy) (s, wh))
     obtain ⟨b2, o2, hab2, hb22, y0, y1, y2⟩ := ru_cells (hOR.below hbk).top.sl hy
     subst hab2
     clear hy
     obtain ⟨⟨s2, wh2, cl2⟩, g1, g2, g3⟩ := y
     have y0 : wr.cell? ⟨b2, o2 + k * 3, none⟩ = some (.string s2) := y0
     have y1 : wr.cell? ⟨b2, o2 + k * 3 + 1, none⟩ = some (.int .i64 wh2) := y1
     have z0 := cell_below x0 hbk
     have z1 := cell_below x1 hbk
     have hbq : ∀ m, Below wo.heap.size wo (wr.drewN m) := fun m => belowN hbk m
     clear y2
     cases fv
     ·have HF2 : Hid (false = !isIn (((rus qs).take (k + 1)).map nmOf) (s, wh)) := hide (by rw [HSTEP.out]; have := HF.out; simp at this; simp [this])
      go_wp2
      go_quiet (fail)
      go_wp2
      go_roundg (qs.length - (k + 1))
      case measure => have := HGK.out; omega
      case rel => exact ⟨k + 1, false, by omega, rfl, rfl, HF2, by go_num, hbq _⟩
     ·have hF0 : isIn (((rus qs).take k).map nmOf) (s, wh) = false := by have := HF.out; simpa using this
      cases q1 : (s2.toList == s.toList)
      ·have q1' : (s.toList == s2.toList) = false := by rw [← q1, Bool.beq_comm]
       have HF2 : Hid (true = !isIn (((rus qs).take (k + 1)).map nmOf) (s, wh)) := hide (by rw [HSTEP.out, hF0]; simp only [q1']; rfl)
       clear hF0
       go_wp2
       go_quiet (fail)
       go_wp2
       go_roundg (qs.length - (k + 1))
       case measure => have := HGK.out; omega
       case rel => exact ⟨k + 1, true, by omega, rfl, by first | rfl | simp, HF2, by go_num, hbq _⟩
      ·have q1' : (s.toList == s2.toList) = true := by rw [← q1, Bool.beq_comm]
       by_cases q2 : wh2 = wh
       ·have d2 : (wh2 != wh) = false := by rw [q2]; simp
        have HF2 : Hid (false = !isIn (((rus qs).take (k + 1)).map nmOf) (s, wh)) := hide (by rw [HSTEP.out, hF0]; simp only [q1', q2]; simp)
        clear hF0 q2
        go_wp2
        go_quiet (fail)
        go_wp2
        go_roundg (qs.length - (k + 1))
        case measure => have := HGK.out; omega
        case rel => exact ⟨k + 1, false, by omega, rfl, by first | rfl | simp, HF2, by go_num, hbq _⟩
       ·have d2 : (wh2 != wh) = true := bne_iff_ne.2 q2
        have HF2 : Hid (true = !isIn (((rus qs).take (k + 1)).map nmOf) (s, wh)) := hide (by rw [HSTEP.out, hF0]; have : (wh == wh2) = false := beq_eq_false_iff_ne.2 (fun e => q2 e.symm); simp [this])
        clear hF0 q2
        go_wp2
        go_quiet (fail)
        go_wp2
        go_roundg (qs.length - (k + 1))
        case measure => have := HGK.out; omega
        case rel => exact ⟨k + 1, true, by omega, rfl, by first | rfl | simp, HF2, by go_num, hbq _⟩
    ·obtain rfl : k = qs.length := by omega
     have hF1 := HF.out
     rw [List.take_of_length_le (by unfold rus; simp)] at hF1
     have hON := once_step HO.out ⟨s, wh, cl⟩
     have HTK : Hid ((rus ps).take (i + 1) = (rus ps).take i ++ [⟨s, wh, cl⟩]) := hide (take_succ_get HRX.out)
     have hOw := hOR.below hbk
     have hlw := hlo.below hbk
     cases fv
     ·have hin : isIn ((rus qs).map nmOf) (s, wh) = true := by simpa using hF1.symm
      have HON2 : Hid (OnceOf ((rus ps).take (i + 1)) (rus qs)) := hide (by
       rw [HTK.out]
       rw [show isIn ((rus qs).map nmOf) (nmOf ⟨s, wh, cl⟩) = true from hin, if_pos rfl] at hON
       exact hON)
      clear hF1 hON hin
      go_wp2
      go_roundg (ps.length - (i + 1))
      case measure => have := HG.out; omega
      case rel => exact ⟨i + 1, qs, ao, co, by omega, rfl, by omega, rfl, by go_num, HON2, hOw, hb2⟩
     ·have hin : isIn ((rus qs).map nmOf) (s, wh) = false := by simpa using hF1.symm
      have HON2 : Hid (OnceOf ((rus ps).take (i + 1)) (rus (qs ++ [(⟨s, wh, cl⟩, (h1, h2, h3))]))) := hide (by
       rw [HTK.out, show rus (qs ++ [((⟨s, wh, cl⟩ : Ru), (h1, h2, h3))]) = rus qs ++ [⟨s, wh, cl⟩] by unfold rus; simp]
       rw [show isIn ((rus qs).map nmOf) (nmOf ⟨s, wh, cl⟩) = false from hin, if_neg (by simp)] at hON
       exact hON)
      have hrw := hrow.below hbk
      have hsz1 : s.size ≤ 1000 := hsz
      have HLT := hide hlw.rul.top
      clear hF1 hON hin
      go_wp2_with (first
       | (with_reducible refine idx_r 50 _ _ _ _ _ _ rfl HLT.out _ _ i rfl rfl _ HXI.out ?_; intro b o hcell hcell2 hcell3 hbo)
       | (at_builtin; refine app_ru rfl _ _ rfl w w.heap.size ao co qs rfl hOw (⟨s, wh, cl⟩, (h1, h2, h3)) hrw hsz1 rfl (by omega) hb2.size hb2 ?_; intro a9 c9 w9 ho9 hb9 _))
      go_roundg (ps.length - (i + 1))
      case measure => have := HG.out; omega
      case rel => exact ⟨i + 1, _, a9, c9, by omega, rfl, by rw [List.length_append]; simp; omega, by rw [List.length_append]; rfl, by go_num, HON2, ho9, hb9⟩
  ·obtain rfl : i = ps.length := by omega
   have hO := HO.out
   rw [List.take_of_length_le (by unfold rus; simp)] at hO
   go_wp2
   go_ret
   exact ⟨ao, co, qs, rfl, hOR, hO, hb⟩
end Go.Proofs.Ytlpkicjijlcbfaa
end

section
/- Chapter 06: the program's Steps. -/
namespace Go.Proofs.Ytlpkicjijlcbfaa
open Go.RowKit Go.Dx

set_option maxRecDepth 100000 in
set_option maxHeartbeats 8000000 in
theorem tab_Steps_no (H : TH) (t : Ta) (s : St) (l : List Sy) (a : Option Addr) (n c : Nat) (i : Int) (hno : ¬ (validE t = 0 ∧ (s.lang = 0 ∨ s.lang = 1) ∧ 0 ≤ i ∧ goodS l = true) ∨ (l.length : Int) ≤ i) (w : World) (hT : TaIs w H t) (hs : Sl w 2 a n c (l.flatMap sc)) :
  Calls Try.prog 28 #[H.v, .agg #[.int .i64 s.lang, .bool s.num, .bool s.wrd], .slice a n c, .int .i64 i] w (StepsT 67 [] w) := by
 have hV := fun w' (hb : Below w.heap.size w w') => tab_Valid H t w' (hT.below hb)
 have hC := fun w' (hb : Below w.heap.size w w') => contains_y l a n c w' (hs.below hb)
 obtain rfl := hs.nf sc_len (by decide)
 obtain ⟨⟨a0, n0, c0⟩, ⟨a1, n1, c1⟩, ps0, ps1, ⟨ad, nd, cd⟩, ⟨ac, nc, cc⟩, ⟨an, nn, cn⟩, ⟨af, nf, cf⟩, ⟨aw, nw, cw⟩⟩ := H
 obtain ⟨sg, sn, si⟩ := s
 unfold TH.v at hV ⊢
 simp only [hdv] at hV ⊢
 have hbb : Below w.heap.size w ((w.alloc (.cells #[.slice a0 n0 c0, .slice a1 n1 c1, .slice ad nd cd, .slice ac nc cc, .slice an nn cn, .slice af nf cf, .slice aw nw cw] 29)).alloc (.cells #[.int .i64 sg, .bool sn, .bool si] 63)) := (blo w _).trans ((blo _ _).mono (by simp))
 have X4 : Box ((w.alloc (.cells #[.slice a0 n0 c0, .slice a1 n1 c1, .slice ad nd cd, .slice ac nc cc, .slice an nn cn, .slice af nf cf, .slice aw nw cw] 29)).alloc (.cells #[.int .i64 sg, .bool sn, .bool si] 63)) w.heap.size 29 #[.slice a0 n0 c0, .slice a1 n1 c1, .slice ad nd cd, .slice ac nc cc, .slice an nn cn, .slice af nf cf, .slice aw nw cw].toList := (Box.new w _ _).alloc _
 have X5 : Box ((w.alloc (.cells #[.slice a0 n0 c0, .slice a1 n1 c1, .slice ad nd cd, .slice ac nc cc, .slice an nn cn, .slice af nf cf, .slice aw nw cw] 29)).alloc (.cells #[.int .i64 sg, .bool sn, .bool si] 63)) (w.heap.size + 1) 63 [.int .i64 sg, .bool sn, .bool si] := by
  have := Box.new (w.alloc (.cells #[.slice a0 n0 c0, .slice a1 n1 c1, .slice ad nd cd, .slice ac nc cc, .slice an nn cn, .slice af nf cf, .slice aw nw cw] 29)) 63 #[.int .i64 sg, .bool sn, .bool si]
  rwa [show (w.alloc (.cells #[.slice a0 n0 c0, .slice a1 n1 c1, .slice ad nd cd, .slice ac nc cc, .slice an nn cn, .slice af nf cf, .slice aw nw cw] 29)).heap.size = w.heap.size + 1 by simp] at this
 have HBB := hide hbb
 have HX4 := hide X4
 have HX5 := hide X5
 clear hbb X4 X5
 clear hs hT
 generalize goodS l = gv at hC hno
 by_cases hv : validE t = 0
 case neg =>
  have d0 : (validE t != 0) = true := bne_iff_ne.2 hv
  generalize validE t = ev at hV d0
  clear hv hno
  go_enter Try.func28, Try.ntmps28
  go_wp2_with (first | (go_at_call 56; refine (hV _ HBB.out).mono ?_; rintro e w3 ⟨rfl, hb3⟩; have x5 := HX5.out.under hb3; have k5 : w3.cell? ⟨w.heap.size + 1, 0, none⟩ = some (.int .i64 sg) := x5.at_ rfl; have hbw3 := HBB.out.trans (hb3.mono HBB.out.size)))
  go_ret
  exact ⟨none, 0, [], rfl, Stl.nil _, hbw3, TypAt.nil _ _⟩
 rw [hv] at hV
 by_cases g0 : sg < 0
 case pos =>
  have d1 : decide (sg < 0) = true := decide_eq_true g0
  clear g0 hno hv
  go_enter Try.func28, Try.ntmps28
  go_wp2_with (first | (go_at_call 56; refine (hV _ HBB.out).mono ?_; rintro e w3 ⟨rfl, hb3⟩; have x5 := HX5.out.under hb3; have k5 : w3.cell? ⟨w.heap.size + 1, 0, none⟩ = some (.int .i64 sg) := x5.at_ rfl; have hbw3 := HBB.out.trans (hb3.mono HBB.out.size)))
  go_ret
  exact ⟨none, 0, [], rfl, Stl.nil _, hbw3, TypAt.nil _ _⟩
 have d1 : decide (sg < 0) = false := decide_eq_false g0
 by_cases g1 : 1 < sg
 case pos =>
  have d2 : decide (1 < sg) = true := decide_eq_true g1
  clear g1 hno hv g0
  go_enter Try.func28, Try.ntmps28
  go_wp2_with (first | (go_at_call 56; refine (hV _ HBB.out).mono ?_; rintro e w3 ⟨rfl, hb3⟩; have x5 := HX5.out.under hb3; have k5 : w3.cell? ⟨w.heap.size + 1, 0, none⟩ = some (.int .i64 sg) := x5.at_ rfl; have hbw3 := HBB.out.trans (hb3.mono HBB.out.size)))
  go_ret
  exact ⟨none, 0, [], rfl, Stl.nil _, hbw3, TypAt.nil _ _⟩
 have d2 : decide (1 < sg) = false := decide_eq_false g1
 by_cases i0 : i < 0
 case pos =>
  have d3 : decide (i < 0) = true := decide_eq_true i0
  clear g1 hno hv g0 i0
  go_enter Try.func28, Try.ntmps28
  go_wp2_with (first | (go_at_call 56; refine (hV _ HBB.out).mono ?_; rintro e w3 ⟨rfl, hb3⟩; have x5 := HX5.out.under hb3; have k5 : w3.cell? ⟨w.heap.size + 1, 0, none⟩ = some (.int .i64 sg) := x5.at_ rfl; have hbw3 := HBB.out.trans (hb3.mono HBB.out.size)))
  go_ret
  exact ⟨none, 0, [], rfl, Stl.nil _, hbw3, TypAt.nil _ _⟩
 have d3 : decide (i < 0) = false := decide_eq_false i0
 by_cases i1 : (l.length : Int) ≤ i
 case pos =>
  have d4 : decide ((l.length : Int) ≤ i) = true := decide_eq_true i1
  clear g1 hno hv g0 i0 i1
  go_enter Try.func28, Try.ntmps28
  go_wp2_with (first | (go_at_call 56; refine (hV _ HBB.out).mono ?_; rintro e w3 ⟨rfl, hb3⟩; have x5 := HX5.out.under hb3; have k5 : w3.cell? ⟨w.heap.size + 1, 0, none⟩ = some (.int .i64 sg) := x5.at_ rfl; have hbw3 := HBB.out.trans (hb3.mono HBB.out.size)))
  go_ret
  exact ⟨none, 0, [], rfl, Stl.nil _, hbw3, TypAt.nil _ _⟩
 have d4 : decide ((l.length : Int) ≤ i) = false := decide_eq_false i1
 have hgv : gv = false := by
  cases gv
  ·rfl
  ·exfalso
   rcases hno with h | h
   ·exact h ⟨hv, by show sg = 0 ∨ sg = 1; omega, by omega, rfl⟩
   ·exact i1 h
 subst hgv
 clear g1 hno hv g0 i0 i1
 go_enter Try.func28, Try.ntmps28
 go_wp2_with (first | (go_at_call 56; refine (hV _ HBB.out).mono ?_; rintro e w3 ⟨rfl, hb3⟩; have x5 := HX5.out.under hb3; have k5 : w3.cell? ⟨w.heap.size + 1, 0, none⟩ = some (.int .i64 sg) := x5.at_ rfl; have hbw3 := HBB.out.trans (hb3.mono HBB.out.size)) | (go_at_call 57; refine (hC _ hbw3).mono ?_; rintro e w4 ⟨rfl, hb4⟩))
 go_ret
 exact ⟨none, 0, [], rfl, Stl.nil _, hbw3.trans (hb4.mono hbw3.size), TypAt.nil _ _⟩
end Go.Proofs.Ytlpkicjijlcbfaa
end

section
/- Chapter 06: the program's Steps. -/
namespace Go.Proofs.Ytlpkicjijlcbfaa
open Go.RowKit Go.Dx

set_option maxRecDepth 100000 in
set_option maxHeartbeats 8000000 in
theorem tab_Steps_sw (H : TH) (t : Ta) (s : St) (l : List Sy) (a : Option Addr) (n c : Nat) (p : Nat) (x : Sy) (hv : validE t = 0) (hsl : s.lang = 0 ∨ s.lang = 1) (hx : l[p]? = some x) (hgd : goodS l = true) (hll : l.length ≤ 1000000) (hne : x.lang ≠ s.lang) (w : World) (hT : TaIs w H t) (hs : Sl w 2 a n c (l.flatMap sc)) :
  Calls Try.prog 28 #[H.v, .agg #[.int .i64 s.lang, .bool s.num, .bool s.wrd], .slice a n c, .int .i64 (p : Int)] w (StepsT 67 [⟨⟨x.lang, false, false⟩, 0, t.sw, -1⟩] w) := by
 have hV := fun w' (hb : Below w.heap.size w w') => tab_Valid H t w' (hT.below hb)
 have hC := fun w' (hb : Below w.heap.size w w') => contains_y l a n c w' (hs.below hb)
 obtain rfl := hs.nf sc_len (by decide)
 obtain ⟨⟨a0, n0, c0⟩, ⟨a1, n1, c1⟩, ps0, ps1, ⟨ad, nd, cd⟩, ⟨ac, nc, cc⟩, ⟨an, nn, cn⟩, ⟨af, nf, cf⟩, ⟨aw, nw, cw⟩⟩ := H
 obtain ⟨sg, sn, si⟩ := s
 unfold TH.v at hV ⊢
 simp only [hdv] at hV ⊢
 have hbb : Below w.heap.size w ((w.alloc (.cells #[.slice a0 n0 c0, .slice a1 n1 c1, .slice ad nd cd, .slice ac nc cc, .slice an nn cn, .slice af nf cf, .slice aw nw cw] 29)).alloc (.cells #[.int .i64 sg, .bool sn, .bool si] 63)) := (blo w _).trans ((blo _ _).mono (by simp))
 have X4 : Box ((w.alloc (.cells #[.slice a0 n0 c0, .slice a1 n1 c1, .slice ad nd cd, .slice ac nc cc, .slice an nn cn, .slice af nf cf, .slice aw nw cw] 29)).alloc (.cells #[.int .i64 sg, .bool sn, .bool si] 63)) w.heap.size 29 #[.slice a0 n0 c0, .slice a1 n1 c1, .slice ad nd cd, .slice ac nc cc, .slice an nn cn, .slice af nf cf, .slice aw nw cw].toList := (Box.new w _ _).alloc _
 have X5 : Box ((w.alloc (.cells #[.slice a0 n0 c0, .slice a1 n1 c1, .slice ad nd cd, .slice ac nc cc, .slice an nn cn, .slice af nf cf, .slice aw nw cw] 29)).alloc (.cells #[.int .i64 sg, .bool sn, .bool si] 63)) (w.heap.size + 1) 63 [.int .i64 sg, .bool sn, .bool si] := by
  have := Box.new (w.alloc (.cells #[.slice a0 n0 c0, .slice a1 n1 c1, .slice ad nd cd, .slice ac nc cc, .slice an nn cn, .slice af nf cf, .slice aw nw cw] 29)) 63 #[.int .i64 sg, .bool sn, .bool si]
  rwa [show (w.alloc (.cells #[.slice a0 n0 c0, .slice a1 n1 c1, .slice ad nd cd, .slice ac nc cc, .slice an nn cn, .slice af nf cf, .slice aw nw cw] 29)).heap.size = w.heap.size + 1 by simp] at this
 have HBB := hide hbb
 have HX4 := hide X4
 have HX5 := hide X5
 clear hbb X4 X5
 have hsl : sg = 0 ∨ sg = 1 := hsl
 obtain ⟨xg, xc⟩ := x
 rw [hv] at hV
 rw [hgd] at hC
 have hp := (List.getElem?_eq_some_iff.1 hx).1
 have d1 : decide (sg < 0) = false := decide_eq_false (by omega)
 have d2 : decide (1 < sg) = false := decide_eq_false (by omega)
 have d4 : decide ((l.length : Int) ≤ (p : Int)) = false := decide_eq_false (by omega)
 have d4' : decide (l.length ≤ p) = false := decide_eq_false (by omega)
 have HXP := hide hx
 have hxg : xg = 0 ∨ xg = 1 := by
  have h1 : symOk ⟨xg, xc⟩ = true := by
   unfold goodS at hgd
   exact List.all_eq_true.1 hgd _ (List.mem_of_getElem? hx)
  unfold symOk at h1
  simp only [Bool.and_eq_true, Bool.or_eq_true, decide_eq_true_eq] at h1
  exact h1.1
 have HGD := hide hgd
 have HV0 := hide hv
 clear hv hgd hx
 have hne : xg ≠ sg := hne
 have dn : (xg != sg) = true := bne_iff_ne.2 hne
 have hnw : nw = t.sw.length := hT.s.n_eq
 have hnw2 : nw ≤ 140737488355328 := by
  have := indic_le (good_parts (valid_parts HV0.out).2.2.1).2.2.2.2.1
  omega
 have hTs : Sl w 1 aw nw cw (t.sw.map B8) := hT.s
 clear hne hT hnw
 go_enter Try.func28, Try.ntmps28
 go_wp2_with (first | (go_at_call 56; refine (hV _ HBB.out).mono ?_; rintro e w3 ⟨rfl, hb3⟩; have x5 := HX5.out.under hb3; have k5 : w3.cell? ⟨w.heap.size + 1, 0, none⟩ = some (.int .i64 sg) := x5.at_ rfl; have hbw3 := HBB.out.trans (hb3.mono HBB.out.size)) | (go_at_call 57; refine (hC _ hbw3).mono ?_; rintro e w4 ⟨rfl, hb4⟩; have hbw4 := hbw3.trans (hb4.mono hbw3.size); have x4 := (HX4.out.under hb3).under hb4; have x5' := x5.under hb4; have k5' : w4.cell? ⟨w.heap.size + 1, 0, none⟩ = some (.int .i64 sg) := x5'.at_ rfl; have hw5 : w.heap.size + 1 < w4.heap.size := x5'.lt) | (with_reducible refine idx_y 47 _ _ _ _ _ _ rfl (hs.below hbw4) _ _ p rfl rfl _ HXP.out ?_; intro b o hcell hcell2 hbo))
 have y9 := Box.new w4 88 #[.int .i64 xg, .int .u8 (xc.toNat : Int)]
 have y4 := x4.alloc (.cells #[.int .i64 xg, .int .u8 (xc.toNat : Int)] 88)
 have y5 := x5'.alloc (.cells #[.int .i64 xg, .int .u8 (xc.toNat : Int)] 88)
 have hbw5 := hbw4.trans ((blo w4 (.cells #[.int .i64 xg, .int .u8 (xc.toNat : Int)] 88)).mono hbw4.size)
 have h9 : w.heap.size + 1 < w4.heap.size := hw5
 clear k5 k5' hcell hcell2 hbo hb3 hb4 hbw3 x4 x5 x5' hw5
 generalize w4.alloc (.cells _ 88) = w5 at *
 obtain ⟨g9, hg9⟩ : ∃ g9, g9 = w4.heap.size := ⟨_, rfl⟩
 rw [← hg9] at y9 h9 ⊢
 clear hg9
 have hcX : ∀ w', Below w5.heap.size w5 w' → w'.cell? ⟨g9, 0, none⟩ = some (.int .i64 xg) := fun w' h => (y9.under h).at_ rfl
 have hcW : ∀ w', Below w5.heap.size w5 w' → w'.cell? ⟨w.heap.size, 6, none⟩ = some (.slice aw nw cw) := fun w' h => (y4.under h).at_ rfl
 have hCl := fun w' (h : Below w5.heap.size w5 w') => clone6 t.sw aw nw cw w' ((hTs.below hbw5).below h) hnw2
 refine wp_region_free 7 [⟨0, 54, [54], fun vs _ => vs = [.pointer (some ⟨g9, 0, none⟩)]⟩, ⟨1, 55, [55], fun vs _ => vs = [.int .i64 xg]⟩, ⟨2, 56, [56], fun vs _ => vs = [.agg #[.int .i64 xg, .bool false, .bool false]]⟩, ⟨3, 57, [57], fun vs _ => vs = [.pointer (some ⟨w.heap.size, 6, none⟩)]⟩, ⟨4, 58, [58], fun vs _ => vs = [.slice aw nw cw]⟩, ⟨5, 59, [59], fun vs w' => ∃ a' c', vs = [.slice a' nw c'] ∧ Sl w' 1 a' nw c' (t.sw.map B8)⟩, ⟨6, 60, [60], fun vs w' => ∃ a' c', vs = [.agg #[.int .i64 xg, .bool false, .bool false, .int .i64 0, .slice a' nw c', .int .i64 (-1)]] ∧ Sl w' 1 a' nw c' (t.sw.map B8)⟩] (by kernel_rfl) (by kernel_rfl) ?_ ?_ ?_
 ·simp only [All]
  refine ⟨fun _ _ _ _ h => h, fun _ _ _ _ h => h, fun _ _ _ _ h => h, fun _ _ _ _ h => h, fun _ _ _ _ h => h, ?_, ?_, trivial⟩
  ·rintro vs w w' hb ⟨a', c', h1, h2⟩
   exact ⟨a', c', h1, h2.below hb⟩
  ·rintro vs w w' hb ⟨a', c', h1, h2⟩
   exact ⟨a', c', h1, h2.below hb⟩
 ·simp only [All]
  refine ⟨?_, ?_, ?_, ?_, ?_, ?_, ?_, trivial⟩
  ·intro o ho a' w' hb hfr hdep; obtain rfl := oj ho
   have g9 : a'.tmps[9]?.getD undef = .pointer (some ⟨g9, 0, none⟩) := by simpa using hfr 9 (by kernel_rfl)
   clear ho hfr hdep; go_wp2_with fail; exact ⟨rfl, _, rfl, br, rfl⟩
  ·intro o ho a' w' hb hfr hdep; obtain rfl := oj ho
   have g54 : a'.tmps[54]?.getD undef = .pointer (some ⟨g9, 0, none⟩) := by simpa using hdep 0 _ rfl (by kernel_rfl)
   clear ho hfr hdep; have hcl := hcX _ hb
   go_wp2_with fail; exact ⟨rfl, _, rfl, br, rfl⟩
  ·intro o ho a' w' hb hfr hdep; obtain rfl := oj ho
   have g55 : a'.tmps[55]?.getD undef = .int .i64 xg := by simpa using hdep 1 _ rfl (by kernel_rfl)
   clear ho hfr hdep; go_wp2_with fail; exact ⟨rfl, _, rfl, br, rfl⟩
  ·intro o ho a' w' hb hfr hdep; obtain rfl := oj ho
   have g4 : a'.tmps[4]?.getD undef = .pointer (some ⟨w.heap.size, 0, none⟩) := by simpa using hfr 4 (by kernel_rfl)
   clear ho hfr hdep; go_wp2_with fail; exact ⟨rfl, _, rfl, br, rfl⟩
  ·intro o ho a' w' hb hfr hdep; obtain rfl := oj ho
   have g57 : a'.tmps[57]?.getD undef = .pointer (some ⟨w.heap.size, 6, none⟩) := by simpa using hdep 3 _ rfl (by kernel_rfl)
   clear ho hfr hdep; have hcl := hcW _ hb
   go_wp2_with fail; exact ⟨rfl, _, rfl, br, rfl⟩
  ·intro o ho a' w' hb hfr hdep; obtain rfl := oj ho
   have g58 : a'.tmps[58]?.getD undef = .slice aw nw cw := by simpa using hdep 4 _ rfl (by kernel_rfl)
   clear ho hfr hdep; go_wp2_with fail
   refine (hCl _ hb).mono ?_
   rintro e w6 ⟨a', c', rfl, ho6, hb6⟩
   go_wp2_with fail
   exact ⟨rfl, _, rfl, hb6, a', c', rfl, ho6.sl⟩
  ·intro o ho a' w' hb hfr hdep; obtain rfl := oj ho
   have g56 : a'.tmps[56]?.getD undef = .agg #[.int .i64 xg, .bool false, .bool false] := by simpa using hdep 2 _ rfl (by kernel_rfl)
   obtain ⟨a', c', g59, hsl'⟩ := hdep 5 _ rfl (by kernel_rfl)
   simp at g59
   clear ho hfr hdep; go_wp2_with fail; exact ⟨rfl, _, rfl, br, a', c', rfl, hsl'⟩
 ·intro g w6 hb6 hp6
  obtain ⟨a', c', p60, hsl'⟩ := hp6 6 _ rfl
  clear hp6
  simp at p60
  simp only [List.drop_succ_cons, List.drop_zero, List.map_cons, List.map_nil, putAll, Act.put, List.setIfInBounds_toArray, List.set_cons_succ, List.set_cons_zero, List.cons_append, List.nil_append, p60]
  have HF := hide (Sl.fresh w6 67 6 1 (stc (⟨⟨xg, false, false⟩, 0, t.sw, -1⟩, (a', nw, c'))) rfl (by decide))
  have HFt := hide (TypAt.fresh w6 (stc (⟨⟨xg, false, false⟩, 0, t.sw, -1⟩, (a', nw, c'))).toArray 67)
  have hbf := blo w6 (.cells (stc (⟨⟨xg, false, false⟩, 0, t.sw, -1⟩, (a', nw, c'))).toArray 67)
  go_wp2_with fail
  go_ret
  exact ⟨_, 1, [(⟨⟨xg, false, false⟩, 0, t.sw, -1⟩, (a', nw, c'))], rfl, ⟨HF.out, fun q hq => by rw [List.mem_singleton] at hq; subst hq; exact hsl'.below hbf, rfl⟩, hbw5.trans ((hb6.trans (hbf.mono hb6.size)).mono hbw5.size), HFt.out⟩
end Go.Proofs.Ytlpkicjijlcbfaa
end

section
/- Chapter 06: the program's Steps. -/
namespace Go.Proofs.Ytlpkicjijlcbfaa
open Go.RowKit Go.Dx

set_option maxRecDepth 100000 in
set_option maxHeartbeats 8000000 in
theorem tab_Steps_dg (H : TH) (t : Ta) (s : St) (l : List Sy) (a : Option Addr) (n c : Nat) (p : Nat) (x : Sy) (hv : validE t = 0) (hsl : s.lang = 0 ∨ s.lang = 1) (hx : l[p]? = some x) (hgd : goodS l = true) (hll : l.length ≤ 1000000) (heq : x.lang = s.lang) (hd : isD x.c = true) (w : World) (hT : TaIs w H t) (hs : Sl w 2 a n c (l.flatMap sc)) :
  Calls Try.prog 28 #[H.v, .agg #[.int .i64 s.lang, .bool s.num, .bool s.wrd], .slice a n c, .int .i64 (p : Int)] w (StepsT 67 [⟨⟨x.lang, true, false⟩, 1, (if s.num then [] else t.num) ++ [t.dig.getD (x.c.toNat - 48) 0], -1⟩] w) := by
 have hV := fun w' (hb : Below w.heap.size w w') => tab_Valid H t w' (hT.below hb)
 have hC := fun w' (hb : Below w.heap.size w w') => contains_y l a n c w' (hs.below hb)
 obtain rfl := hs.nf sc_len (by decide)
 obtain ⟨⟨a0, n0, c0⟩, ⟨a1, n1, c1⟩, ps0, ps1, ⟨ad, nd, cd⟩, ⟨ac, nc, cc⟩, ⟨an, nn, cn⟩, ⟨af, nf, cf⟩, ⟨aw, nw, cw⟩⟩ := H
 obtain ⟨sg, sn, si⟩ := s
 unfold TH.v at hV ⊢
 simp only [hdv] at hV ⊢
 have hbb : Below w.heap.size w ((w.alloc (.cells #[.slice a0 n0 c0, .slice a1 n1 c1, .slice ad nd cd, .slice ac nc cc, .slice an nn cn, .slice af nf cf, .slice aw nw cw] 29)).alloc (.cells #[.int .i64 sg, .bool sn, .bool si] 63)) := (blo w _).trans ((blo _ _).mono (by simp))
 have X4 : Box ((w.alloc (.cells #[.slice a0 n0 c0, .slice a1 n1 c1, .slice ad nd cd, .slice ac nc cc, .slice an nn cn, .slice af nf cf, .slice aw nw cw] 29)).alloc (.cells #[.int .i64 sg, .bool sn, .bool si] 63)) w.heap.size 29 #[.slice a0 n0 c0, .slice a1 n1 c1, .slice ad nd cd, .slice ac nc cc, .slice an nn cn, .slice af nf cf, .slice aw nw cw].toList := (Box.new w _ _).alloc _
 have X5 : Box ((w.alloc (.cells #[.slice a0 n0 c0, .slice a1 n1 c1, .slice ad nd cd, .slice ac nc cc, .slice an nn cn, .slice af nf cf, .slice aw nw cw] 29)).alloc (.cells #[.int .i64 sg, .bool sn, .bool si] 63)) (w.heap.size + 1) 63 [.int .i64 sg, .bool sn, .bool si] := by
  have := Box.new (w.alloc (.cells #[.slice a0 n0 c0, .slice a1 n1 c1, .slice ad nd cd, .slice ac nc cc, .slice an nn cn, .slice af nf cf, .slice aw nw cw] 29)) 63 #[.int .i64 sg, .bool sn, .bool si]
  rwa [show (w.alloc (.cells #[.slice a0 n0 c0, .slice a1 n1 c1, .slice ad nd cd, .slice ac nc cc, .slice an nn cn, .slice af nf cf, .slice aw nw cw] 29)).heap.size = w.heap.size + 1 by simp] at this
 have HBB := hide hbb
 have HX4 := hide X4
 have HX5 := hide X5
 clear hbb X4 X5
 have hsl : sg = 0 ∨ sg = 1 := hsl
 obtain ⟨xg, xc⟩ := x
 rw [hv] at hV
 rw [hgd] at hC
 have hp := (List.getElem?_eq_some_iff.1 hx).1
 have d1 : decide (sg < 0) = false := decide_eq_false (by omega)
 have d2 : decide (1 < sg) = false := decide_eq_false (by omega)
 have d4 : decide ((l.length : Int) ≤ (p : Int)) = false := decide_eq_false (by omega)
 have d4' : decide (l.length ≤ p) = false := decide_eq_false (by omega)
 have HXP := hide hx
 have hxg : xg = 0 ∨ xg = 1 := by
  have h1 : symOk ⟨xg, xc⟩ = true := by
   unfold goodS at hgd
   exact List.all_eq_true.1 hgd _ (List.mem_of_getElem? hx)
  unfold symOk at h1
  simp only [Bool.and_eq_true, Bool.or_eq_true, decide_eq_true_eq] at h1
  exact h1.1
 have HGD := hide hgd
 have HV0 := hide hv
 clear hv hgd hx
 have heq : sg = xg := heq.symm
 subst heq
 have hd : isD xc = true := hd
 have hD := fun w' => tab_digit xc w'
 rw [hd] at hD
 obtain ⟨j, hj, hj9⟩ : ∃ j : Nat, xc.toNat = j + 48 ∧ j ≤ 9 := by
  unfold isD at hd
  simp only [Bool.and_eq_true, decide_eq_true_eq] at hd
  exact ⟨xc.toNat - 48, by omega, by omega⟩
 have HJ := hide hj
 have hgp := good_parts (valid_parts HV0.out).2.2.1
 have hd10 : t.dig.length = 10 := hgp.1
 have hnn : nn = t.num.length := hT.n.n_eq
 have hnn4 := indic_le hgp.2.2.1
 have hnn5 : nn ≤ 4 := by omega
 obtain ⟨dj, hdj⟩ : ∃ dj, t.dig[j]? = some dj := ⟨t.dig[j]'(by omega), List.getElem?_eq_getElem _⟩
 have HDJ : Hid (t.dig.getD (xc.toNat - 48) 0 = dj) := hide (by rw [hj, Nat.add_sub_cancel, List.getD_eq_getElem?_getD, hdj]; rfl)
 have hTd : Sl w 1 ad nd cd (t.dig.map B8) := hT.d
 have HND : Hid (nd = t.dig.length) := hide hTd.n_eq
 have hnd10 : nd = 10 := by rw [HND.out]; exact hd10
 obtain ⟨bd, od, hab, hbd, hcd⟩ := hTd.ex (by rw [List.length_map]; omega)
 have HCD : Hid (w.cell? ⟨bd, od + j, none⟩ = some (.int .u8 (dj.toNat : Int))) := hide (hcd j _ (by rw [List.getElem?_map, hdj]; rfl))
 have HTN : Hid (Sl w 1 an nn cn (t.num.map B8)) := hide hT.n
 subst hab
 subst hnd10
 clear hd hj hgp hd10 hnn hnn4 hdj hTd hcd hT hbd
 cases sn
 ·go_enter Try.func28, Try.ntmps28
  go_upto_region 7 with (first | (go_at_call 56; refine (hV _ HBB.out).mono ?_; rintro e w3 ⟨rfl, hb3⟩; have x5 := HX5.out.under hb3; have k5 : w3.cell? ⟨w.heap.size + 1, 0, none⟩ = some (.int .i64 sg) := x5.at_ rfl; have hbw3 := HBB.out.trans (hb3.mono HBB.out.size)) | (go_at_call 57; refine (hC _ hbw3).mono ?_; rintro e w4 ⟨rfl, hb4⟩; have hbw4 := hbw3.trans (hb4.mono hbw3.size); have x4 := (HX4.out.under hb3).under hb4; have x5' := x5.under hb4; have k5' : w4.cell? ⟨w.heap.size + 1, 0, none⟩ = some (.int .i64 sg) := x5'.at_ rfl; have hw5 : w.heap.size + 1 < w4.heap.size := x5'.lt) | (with_reducible refine idx_y 47 _ _ _ _ _ _ rfl (hs.below hbw4) _ _ p rfl rfl _ HXP.out ?_; intro b o hcell hcell2 hbo) | (go_at_call 61; refine (hD _).mono ?_; rintro e wd ⟨rfl, rfl⟩))
  have y9 := Box.new w4 88 #[.int .i64 sg, .int .u8 (xc.toNat : Int)]
  have y4 := x4.alloc (.cells #[.int .i64 sg, .int .u8 (xc.toNat : Int)] 88)
  have y5 := x5'.alloc (.cells #[.int .i64 sg, .int .u8 (xc.toNat : Int)] 88)
  have hbw5 := hbw4.trans ((blo w4 (.cells #[.int .i64 sg, .int .u8 (xc.toNat : Int)] 88)).mono hbw4.size)
  have h9 : w.heap.size + 1 < w4.heap.size := hw5
  clear k5 k5' hcell hcell2 hbo hb3 hb4 hbw3 x4 x5 x5' hw5
  generalize w4.alloc (.cells _ 88) = w5 at *
  obtain ⟨g9, hg9⟩ : ∃ g9, g9 = w4.heap.size := ⟨_, rfl⟩
  rw [← hg9] at y9 h9 ⊢
  clear hg9
  have hcX : ∀ w', Below w5.heap.size w5 w' → w'.cell? ⟨g9, 0, none⟩ = some (.int .i64 sg) := fun w' h => (y9.under h).at_ rfl
  have hcC : ∀ w', Below w5.heap.size w5 w' → w'.cell? ⟨g9, 1, none⟩ = some (.int .u8 ((j : Int) + 48)) := fun w' h => by
   have := (y9.under h).at_ (j := 1) (u := .int .u8 (xc.toNat : Int)) rfl
   rw [this, HJ.out]; rfl
  have hcT : ∀ w', Below w5.heap.size w5 w' → w'.cell? ⟨w.heap.size, 2, none⟩ = some (.slice (some ⟨bd, od, none⟩) 10 cd) := fun w' h => (y4.under h).at_ rfl
  have hcD : ∀ w', Below w5.heap.size w5 w' → w'.cell? ⟨bd, od + j, none⟩ = some (.int .u8 (dj.toNat : Int)) := fun w' h => cell_below (cell_below HCD.out hbw5) h
  have k51 : w5.cell? ⟨w.heap.size + 1, 1, none⟩ = some (.bool false) := y5.at_ rfl
  have k44 : w5.cell? ⟨w.heap.size, 4, none⟩ = some (.slice an nn cn) := y4.at_ rfl
  have hTn5 := HTN.out.below hbw5
  go_wp2_with (at_builtin; refine app_bs rfl _ _ rfl w5 w5.heap.size _ 0 0 _ rfl (Own.nil _ _ _ _) an nn cn t.num rfl hTn5 (by omega) (Nat.le_refl _) (Below.refl _ _) ?_; intro ca cc w6 ho6 hgr6 hb56; rw [Nat.zero_add] at ho6 ⊢)
  have ho6 : Own w6 w5.heap.size 5 1 ca nn cc (t.num.map B8) := ho6
  have HNE : Hid (∀ b, w6.heap.size ≤ b → some b ≠ ca.map (·.block)) := hide (fun b hb h => by
   cases hca : ca with
   | none => rw [hca] at h; cases h
   | some q => rw [hca] at h ho6; have h1 := ho6.base.2; simp at h; omega)
  refine wp_region_mid 13 (Below w5.heap.size w5) (fun w' => Below w5.heap.size w5 w') ⟨12, 84, [84], fun vs w' => ∃ a' c', vs = [.slice a' (nn + 1) c'] ∧ Own w' w5.heap.size 5 1 a' (nn + 1) c' (t.num.map B8 ++ [dj].map B8)⟩ [⟨11, 83, [83], fun vs w' => ∃ b, vs = [.slice (some ⟨b, 0, none⟩) 1 1] ∧ w6.heap.size ≤ b ∧ Sl w' 1 (some ⟨b, 0, none⟩) 1 1 ([dj].map B8)⟩] [⟨0, 72, [72], fun vs _ => vs = [.pointer (some ⟨g9, 0, none⟩)]⟩, ⟨1, 73, [73], fun vs _ => vs = [.int .i64 sg]⟩, ⟨2, 74, [74], fun vs _ => vs = [.agg #[.int .i64 sg, .bool true, .bool false]]⟩, ⟨3, 75, [75], fun vs _ => vs = [.slice ca nn cc]⟩, ⟨4, 76, [76], fun vs _ => vs = [.pointer (some ⟨w.heap.size, 2, none⟩)]⟩, ⟨5, 77, [77], fun vs _ => vs = [.slice (some ⟨bd, od, none⟩) 10 cd]⟩, ⟨6, 78, [78], fun vs _ => vs = [.pointer (some ⟨g9, 1, none⟩)]⟩, ⟨7, 79, [79], fun vs _ => vs = [.int .u8 ((j : Int) + 48)]⟩, ⟨8, 80, [80], fun vs _ => vs = [.int .u8 (j : Int)]⟩, ⟨9, 81, [81], fun vs _ => vs = [.pointer (some ⟨bd, od + j, none⟩)]⟩, ⟨10, 82, [82], fun vs _ => vs = [.int .u8 (dj.toNat : Int)]⟩] (by kernel_rfl) (by kernel_rfl) ?_ ?_ ?_ ?_ ?_ ?_ ?_
  ·exact fun w' h => hb56.trans (h.mono hb56.size)
  ·exact fun w' h => h
  ·simp only [All, List.cons_append, List.nil_append]
   refine ⟨?_, fun _ _ _ _ h => h, fun _ _ _ _ h => h, fun _ _ _ _ h => h, fun _ _ _ _ h => h, fun _ _ _ _ h => h, fun _ _ _ _ h => h, fun _ _ _ _ h => h, fun _ _ _ _ h => h, fun _ _ _ _ h => h, fun _ _ _ _ h => h, fun _ _ _ _ h => h, trivial⟩
   ·rintro vs w w' hb ⟨b, h1, h2, h3⟩
    exact ⟨b, h1, h2, h3.below hb⟩
  ·intro o ho a' w' hb hfr hdep; obtain rfl := oj ho
   have g75 : a'.tmps[75]?.getD undef = .slice ca nn cc := by simpa using hdep 5 _ rfl (by kernel_rfl)
   obtain ⟨b8, g83, hb8, hs8⟩ := hdep 1 _ rfl (by kernel_rfl)
   simp at g83
   clear ho hfr hdep; have hb13 := hb56.trans (hb.mono hb56.size)
   refine app_bs rfl _ _ rfl w5 w5.heap.size ca nn cc _ (by show a'.tmps.getD 75 undef = _; simpa using g75) (ho6.below hb) (some ⟨b8, 0, none⟩) 1 1 [dj] (by show a'.tmps.getD 83 undef = _; simpa using g83) hs8 (by omega) hb13.size hb13 ?_
   intro a3 c3 w7 ho7 hgr7 hb7
   go_wp2
   refine ⟨rfl, _, rfl, ⟨a3, c3, rfl, ho7⟩, hb7, ?_⟩
   simp only [All]
   exact ⟨fun _ ⟨b, h1, h2, h3⟩ => ⟨b, h1, h2, h3.grown hgr7 (fun q hq => by cases hq; exact HNE.out _ h2)⟩, fun _ h => h, fun _ h => h, fun _ h => h, fun _ h => h, fun _ h => h, fun _ h => h, fun _ h => h, fun _ h => h, fun _ h => h, fun _ h => h, fun _ h => h, trivial⟩
  ·simp only [All]
   refine ⟨?_, trivial⟩
   ·intro o ho a' w' hb hfr hdep; obtain rfl := oj ho
    have g82 : a'.tmps[82]?.getD undef = .int .u8 (dj.toNat : Int) := by simpa using hdep 12 _ rfl (by kernel_rfl)
    clear ho hfr hdep; go_wp2_with fail
    exact ⟨rfl, _, rfl, blo _ _, _, rfl, hb.size, Sl.fresh _ _ 1 1 ([dj].map B8) rfl (by decide)⟩
  ·simp only [All]
   refine ⟨?_, ?_, ?_, ?_, ?_, ?_, ?_, ?_, ?_, ?_, ?_, trivial⟩
   ·intro o ho a' w' hb hfr hdep; obtain rfl := oj ho
    have g9 : a'.tmps[9]?.getD undef = .pointer (some ⟨g9, 0, none⟩) := by simpa using hfr 9 (by kernel_rfl)
    clear ho hfr hdep; go_wp2_with fail
    exact ⟨rfl, _, rfl, rfl, rfl⟩
   ·intro o ho a' w' hb hfr hdep; obtain rfl := oj ho
    have g72 : a'.tmps[72]?.getD undef = .pointer (some ⟨g9, 0, none⟩) := by simpa using hdep 2 _ rfl (by kernel_rfl)
    clear ho hfr hdep; have hcl := hcX _ hb
    go_wp2_with fail
    exact ⟨rfl, _, rfl, rfl, rfl⟩
   ·intro o ho a' w' hb hfr hdep; obtain rfl := oj ho
    have g73 : a'.tmps[73]?.getD undef = .int .i64 sg := by simpa using hdep 3 _ rfl (by kernel_rfl)
    clear ho hfr hdep; go_wp2_with fail
    exact ⟨rfl, _, rfl, rfl, rfl⟩
   ·intro o ho a' w' hb hfr hdep; obtain rfl := oj ho
    have g10 : a'.tmps[10]?.getD undef = .slice ca nn cc := by simpa using hfr 10 (by kernel_rfl)
    clear ho hfr hdep; go_wp2_with fail
    exact ⟨rfl, _, rfl, rfl, rfl⟩
   ·intro o ho a' w' hb hfr hdep; obtain rfl := oj ho
    have g4 : a'.tmps[4]?.getD undef = .pointer (some ⟨w.heap.size, 0, none⟩) := by simpa using hfr 4 (by kernel_rfl)
    clear ho hfr hdep; go_wp2_with fail
    exact ⟨rfl, _, rfl, rfl, rfl⟩
   ·intro o ho a' w' hb hfr hdep; obtain rfl := oj ho
    have g76 : a'.tmps[76]?.getD undef = .pointer (some ⟨w.heap.size, 2, none⟩) := by simpa using hdep 6 _ rfl (by kernel_rfl)
    clear ho hfr hdep; have hcl := hcT _ hb
    go_wp2_with fail
    exact ⟨rfl, _, rfl, rfl, rfl⟩
   ·intro o ho a' w' hb hfr hdep; obtain rfl := oj ho
    have g9 : a'.tmps[9]?.getD undef = .pointer (some ⟨g9, 0, none⟩) := by simpa using hfr 9 (by kernel_rfl)
    clear ho hfr hdep; go_wp2_with fail
    exact ⟨rfl, _, rfl, rfl, rfl⟩
   ·intro o ho a' w' hb hfr hdep; obtain rfl := oj ho
    have g78 : a'.tmps[78]?.getD undef = .pointer (some ⟨g9, 1, none⟩) := by simpa using hdep 8 _ rfl (by kernel_rfl)
    clear ho hfr hdep; have hcl := hcC _ hb
    go_wp2_with fail
    exact ⟨rfl, _, rfl, rfl, rfl⟩
   ·intro o ho a' w' hb hfr hdep; obtain rfl := oj ho
    have g79 : a'.tmps[79]?.getD undef = .int .u8 ((j : Int) + 48) := by simpa using hdep 9 _ rfl (by kernel_rfl)
    clear ho hfr hdep; go_wp2_with fail
    exact ⟨rfl, _, rfl, rfl, rfl⟩
   ·intro o ho a' w' hb hfr hdep; obtain rfl := oj ho
    have g77 : a'.tmps[77]?.getD undef = .slice (some ⟨bd, od, none⟩) 10 cd := by simpa using hdep 7 _ rfl (by kernel_rfl)
    have g80 : a'.tmps[80]?.getD undef = .int .u8 (j : Int) := by simpa using hdep 10 _ rfl (by kernel_rfl)
    clear ho hfr hdep; go_wp2_with fail
    exact ⟨rfl, _, rfl, rfl, rfl⟩
   ·intro o ho a' w' hb hfr hdep; obtain rfl := oj ho
    have g81 : a'.tmps[81]?.getD undef = .pointer (some ⟨bd, od + j, none⟩) := by simpa using hdep 11 _ rfl (by kernel_rfl)
    clear ho hfr hdep; have hcl := hcD _ hb
    go_wp2_with fail
    exact ⟨rfl, _, rfl, rfl, rfl⟩
  ·intro g w7 hG hp10
   obtain ⟨a7, c7, p84, ho7⟩ := hp10 0 _ rfl
   have p74 := hp10 4 _ rfl
   clear hp10
   simp at p74 p84
   simp only [List.drop_succ_cons, List.drop_zero, List.map_cons, List.map_nil, putAll, Act.put, List.setIfInBounds_toArray, List.set_cons_succ, List.set_cons_zero, List.cons_append, List.nil_append, p74, p84]
   have HF := hide (Sl.fresh w7 67 6 1 (stc (⟨⟨sg, true, false⟩, 1, t.num ++ [dj], -1⟩, (a7, nn + 1, c7))) rfl (by decide))
   have HFt := hide (TypAt.fresh w7 (stc (⟨⟨sg, true, false⟩, 1, t.num ++ [dj], -1⟩, (a7, nn + 1, c7))).toArray 67)
   have hbf := blo w7 (.cells (stc (⟨⟨sg, true, false⟩, 1, t.num ++ [dj], -1⟩, (a7, nn + 1, c7))).toArray 67)
   go_wp2_with fail
   go_ret
   refine ⟨_, 1, [(⟨⟨sg, true, false⟩, 1, t.num ++ [dj], -1⟩, (a7, nn + 1, c7))], rfl, ⟨HF.out, fun q hq => ?_, ?_⟩, hbw5.trans ((hG.trans (hbf.mono hG.size)).mono hbw5.size), HFt.out⟩
   ·rw [List.mem_singleton] at hq
    subst hq
    have := ho7.sl.below hbf
    rw [← List.map_append] at this
    exact this
   ·have hj1 := HDJ.out
    rw [List.getD_eq_getElem?_getD] at hj1
    simp [hj1]

 ·go_enter Try.func28, Try.ntmps28
  go_upto_region 7 with (first | (go_at_call 56; refine (hV _ HBB.out).mono ?_; rintro e w3 ⟨rfl, hb3⟩; have x5 := HX5.out.under hb3; have k5 : w3.cell? ⟨w.heap.size + 1, 0, none⟩ = some (.int .i64 sg) := x5.at_ rfl; have hbw3 := HBB.out.trans (hb3.mono HBB.out.size)) | (go_at_call 57; refine (hC _ hbw3).mono ?_; rintro e w4 ⟨rfl, hb4⟩; have hbw4 := hbw3.trans (hb4.mono hbw3.size); have x4 := (HX4.out.under hb3).under hb4; have x5' := x5.under hb4; have k5' : w4.cell? ⟨w.heap.size + 1, 0, none⟩ = some (.int .i64 sg) := x5'.at_ rfl; have hw5 : w.heap.size + 1 < w4.heap.size := x5'.lt) | (with_reducible refine idx_y 47 _ _ _ _ _ _ rfl (hs.below hbw4) _ _ p rfl rfl _ HXP.out ?_; intro b o hcell hcell2 hbo) | (go_at_call 61; refine (hD _).mono ?_; rintro e wd ⟨rfl, rfl⟩))
  have y9 := Box.new w4 88 #[.int .i64 sg, .int .u8 (xc.toNat : Int)]
  have y4 := x4.alloc (.cells #[.int .i64 sg, .int .u8 (xc.toNat : Int)] 88)
  have y5 := x5'.alloc (.cells #[.int .i64 sg, .int .u8 (xc.toNat : Int)] 88)
  have hbw5 := hbw4.trans ((blo w4 (.cells #[.int .i64 sg, .int .u8 (xc.toNat : Int)] 88)).mono hbw4.size)
  have h9 : w.heap.size + 1 < w4.heap.size := hw5
  clear k5 k5' hcell hcell2 hbo hb3 hb4 hbw3 x4 x5 x5' hw5
  generalize w4.alloc (.cells _ 88) = w5 at *
  obtain ⟨g9, hg9⟩ : ∃ g9, g9 = w4.heap.size := ⟨_, rfl⟩
  rw [← hg9] at y9 h9 ⊢
  clear hg9
  have hcX : ∀ w', Below w5.heap.size w5 w' → w'.cell? ⟨g9, 0, none⟩ = some (.int .i64 sg) := fun w' h => (y9.under h).at_ rfl
  have hcC : ∀ w', Below w5.heap.size w5 w' → w'.cell? ⟨g9, 1, none⟩ = some (.int .u8 ((j : Int) + 48)) := fun w' h => by
   have := (y9.under h).at_ (j := 1) (u := .int .u8 (xc.toNat : Int)) rfl
   rw [this, HJ.out]; rfl
  have hcT : ∀ w', Below w5.heap.size w5 w' → w'.cell? ⟨w.heap.size, 2, none⟩ = some (.slice (some ⟨bd, od, none⟩) 10 cd) := fun w' h => (y4.under h).at_ rfl
  have hcD : ∀ w', Below w5.heap.size w5 w' → w'.cell? ⟨bd, od + j, none⟩ = some (.int .u8 (dj.toNat : Int)) := fun w' h => cell_below (cell_below HCD.out hbw5) h
  have k51 : w5.cell? ⟨w.heap.size + 1, 1, none⟩ = some (.bool true) := y5.at_ rfl
  go_wp2_with fail
  have ho6 := Own.nil w5 w5.heap.size 5 1
  have hb56 := Below.refl w5.heap.size w5
  have HNE : Hid (∀ b, w5.heap.size ≤ b → some b ≠ (none : Option Addr).map (·.block)) := hide (fun b hb h => by cases h)
  refine wp_region_mid 13 (Below w5.heap.size w5) (fun w' => Below w5.heap.size w5 w') ⟨12, 84, [84], fun vs w' => ∃ a' c', vs = [.slice a' (0 + 1) c'] ∧ Own w' w5.heap.size 5 1 a' (0 + 1) c' (([] : List UInt8).map B8 ++ [dj].map B8)⟩ [⟨11, 83, [83], fun vs w' => ∃ b, vs = [.slice (some ⟨b, 0, none⟩) 1 1] ∧ w5.heap.size ≤ b ∧ Sl w' 1 (some ⟨b, 0, none⟩) 1 1 ([dj].map B8)⟩] [⟨0, 72, [72], fun vs _ => vs = [.pointer (some ⟨g9, 0, none⟩)]⟩, ⟨1, 73, [73], fun vs _ => vs = [.int .i64 sg]⟩, ⟨2, 74, [74], fun vs _ => vs = [.agg #[.int .i64 sg, .bool true, .bool false]]⟩, ⟨3, 75, [75], fun vs _ => vs = [.slice none 0 0]⟩, ⟨4, 76, [76], fun vs _ => vs = [.pointer (some ⟨w.heap.size, 2, none⟩)]⟩, ⟨5, 77, [77], fun vs _ => vs = [.slice (some ⟨bd, od, none⟩) 10 cd]⟩, ⟨6, 78, [78], fun vs _ => vs = [.pointer (some ⟨g9, 1, none⟩)]⟩, ⟨7, 79, [79], fun vs _ => vs = [.int .u8 ((j : Int) + 48)]⟩, ⟨8, 80, [80], fun vs _ => vs = [.int .u8 (j : Int)]⟩, ⟨9, 81, [81], fun vs _ => vs = [.pointer (some ⟨bd, od + j, none⟩)]⟩, ⟨10, 82, [82], fun vs _ => vs = [.int .u8 (dj.toNat : Int)]⟩] (by kernel_rfl) (by kernel_rfl) ?_ ?_ ?_ ?_ ?_ ?_ ?_
  ·exact fun w' h => hb56.trans (h.mono hb56.size)
  ·exact fun w' h => h
  ·simp only [All, List.cons_append, List.nil_append]
   refine ⟨?_, fun _ _ _ _ h => h, fun _ _ _ _ h => h, fun _ _ _ _ h => h, fun _ _ _ _ h => h, fun _ _ _ _ h => h, fun _ _ _ _ h => h, fun _ _ _ _ h => h, fun _ _ _ _ h => h, fun _ _ _ _ h => h, fun _ _ _ _ h => h, fun _ _ _ _ h => h, trivial⟩
   ·rintro vs w w' hb ⟨b, h1, h2, h3⟩
    exact ⟨b, h1, h2, h3.below hb⟩
  ·intro o ho a' w' hb hfr hdep; obtain rfl := oj ho
   have g75 : a'.tmps[75]?.getD undef = .slice none 0 0 := by simpa using hdep 5 _ rfl (by kernel_rfl)
   obtain ⟨b8, g83, hb8, hs8⟩ := hdep 1 _ rfl (by kernel_rfl)
   simp at g83
   clear ho hfr hdep; have hb13 := hb56.trans (hb.mono hb56.size)
   refine app_bs rfl _ _ rfl w5 w5.heap.size none 0 0 _ (by show a'.tmps.getD 75 undef = _; simpa using g75) (ho6.below hb) (some ⟨b8, 0, none⟩) 1 1 [dj] (by show a'.tmps.getD 83 undef = _; simpa using g83) hs8 (by omega) hb13.size hb13 ?_
   intro a3 c3 w7 ho7 hgr7 hb7
   go_wp2
   refine ⟨rfl, _, rfl, ⟨a3, c3, rfl, ho7⟩, hb7, ?_⟩
   simp only [All]
   exact ⟨fun _ ⟨b, h1, h2, h3⟩ => ⟨b, h1, h2, h3.grown hgr7 (fun q hq => by cases hq; exact HNE.out _ h2)⟩, fun _ h => h, fun _ h => h, fun _ h => h, fun _ h => h, fun _ h => h, fun _ h => h, fun _ h => h, fun _ h => h, fun _ h => h, fun _ h => h, fun _ h => h, trivial⟩
  ·simp only [All]
   refine ⟨?_, trivial⟩
   ·intro o ho a' w' hb hfr hdep; obtain rfl := oj ho
    have g82 : a'.tmps[82]?.getD undef = .int .u8 (dj.toNat : Int) := by simpa using hdep 12 _ rfl (by kernel_rfl)
    clear ho hfr hdep; go_wp2_with fail
    exact ⟨rfl, _, rfl, blo _ _, _, rfl, hb.size, Sl.fresh _ _ 1 1 ([dj].map B8) rfl (by decide)⟩
  ·simp only [All]
   refine ⟨?_, ?_, ?_, ?_, ?_, ?_, ?_, ?_, ?_, ?_, ?_, trivial⟩
   ·intro o ho a' w' hb hfr hdep; obtain rfl := oj ho
    have g9 : a'.tmps[9]?.getD undef = .pointer (some ⟨g9, 0, none⟩) := by simpa using hfr 9 (by kernel_rfl)
    clear ho hfr hdep; go_wp2_with fail
    exact ⟨rfl, _, rfl, rfl, rfl⟩
   ·intro o ho a' w' hb hfr hdep; obtain rfl := oj ho
    have g72 : a'.tmps[72]?.getD undef = .pointer (some ⟨g9, 0, none⟩) := by simpa using hdep 2 _ rfl (by kernel_rfl)
    clear ho hfr hdep; have hcl := hcX _ hb
    go_wp2_with fail
    exact ⟨rfl, _, rfl, rfl, rfl⟩
   ·intro o ho a' w' hb hfr hdep; obtain rfl := oj ho
    have g73 : a'.tmps[73]?.getD undef = .int .i64 sg := by simpa using hdep 3 _ rfl (by kernel_rfl)
    clear ho hfr hdep; go_wp2_with fail
    exact ⟨rfl, _, rfl, rfl, rfl⟩
   ·intro o ho a' w' hb hfr hdep; obtain rfl := oj ho
    have g10 : a'.tmps[10]?.getD undef = .slice none 0 0 := by simpa using hfr 10 (by kernel_rfl)
    clear ho hfr hdep; go_wp2_with fail
    exact ⟨rfl, _, rfl, rfl, rfl⟩
   ·intro o ho a' w' hb hfr hdep; obtain rfl := oj ho
    have g4 : a'.tmps[4]?.getD undef = .pointer (some ⟨w.heap.size, 0, none⟩) := by simpa using hfr 4 (by kernel_rfl)
    clear ho hfr hdep; go_wp2_with fail
    exact ⟨rfl, _, rfl, rfl, rfl⟩
   ·intro o ho a' w' hb hfr hdep; obtain rfl := oj ho
    have g76 : a'.tmps[76]?.getD undef = .pointer (some ⟨w.heap.size, 2, none⟩) := by simpa using hdep 6 _ rfl (by kernel_rfl)
    clear ho hfr hdep; have hcl := hcT _ hb
    go_wp2_with fail
    exact ⟨rfl, _, rfl, rfl, rfl⟩
   ·intro o ho a' w' hb hfr hdep; obtain rfl := oj ho
    have g9 : a'.tmps[9]?.getD undef = .pointer (some ⟨g9, 0, none⟩) := by simpa using hfr 9 (by kernel_rfl)
    clear ho hfr hdep; go_wp2_with fail
    exact ⟨rfl, _, rfl, rfl, rfl⟩
   ·intro o ho a' w' hb hfr hdep; obtain rfl := oj ho
    have g78 : a'.tmps[78]?.getD undef = .pointer (some ⟨g9, 1, none⟩) := by simpa using hdep 8 _ rfl (by kernel_rfl)
    clear ho hfr hdep; have hcl := hcC _ hb
    go_wp2_with fail
    exact ⟨rfl, _, rfl, rfl, rfl⟩
   ·intro o ho a' w' hb hfr hdep; obtain rfl := oj ho
    have g79 : a'.tmps[79]?.getD undef = .int .u8 ((j : Int) + 48) := by simpa using hdep 9 _ rfl (by kernel_rfl)
    clear ho hfr hdep; go_wp2_with fail
    exact ⟨rfl, _, rfl, rfl, rfl⟩
   ·intro o ho a' w' hb hfr hdep; obtain rfl := oj ho
    have g77 : a'.tmps[77]?.getD undef = .slice (some ⟨bd, od, none⟩) 10 cd := by simpa using hdep 7 _ rfl (by kernel_rfl)
    have g80 : a'.tmps[80]?.getD undef = .int .u8 (j : Int) := by simpa using hdep 10 _ rfl (by kernel_rfl)
    clear ho hfr hdep; go_wp2_with fail
    exact ⟨rfl, _, rfl, rfl, rfl⟩
   ·intro o ho a' w' hb hfr hdep; obtain rfl := oj ho
    have g81 : a'.tmps[81]?.getD undef = .pointer (some ⟨bd, od + j, none⟩) := by simpa using hdep 11 _ rfl (by kernel_rfl)
    clear ho hfr hdep; have hcl := hcD _ hb
    go_wp2_with fail
    exact ⟨rfl, _, rfl, rfl, rfl⟩
  ·intro g w7 hG hp10
   obtain ⟨a7, c7, p84, ho7⟩ := hp10 0 _ rfl
   have p74 := hp10 4 _ rfl
   clear hp10
   simp at p74 p84
   simp only [List.drop_succ_cons, List.drop_zero, List.map_cons, List.map_nil, putAll, Act.put, List.setIfInBounds_toArray, List.set_cons_succ, List.set_cons_zero, List.cons_append, List.nil_append, p74, p84]
   have HF := hide (Sl.fresh w7 67 6 1 (stc (⟨⟨sg, true, false⟩, 1, ([] : List UInt8) ++ [dj], -1⟩, (a7, 0 + 1, c7))) rfl (by decide))
   have HFt := hide (TypAt.fresh w7 (stc (⟨⟨sg, true, false⟩, 1, ([] : List UInt8) ++ [dj], -1⟩, (a7, 0 + 1, c7))).toArray 67)
   have hbf := blo w7 (.cells (stc (⟨⟨sg, true, false⟩, 1, ([] : List UInt8) ++ [dj], -1⟩, (a7, 0 + 1, c7))).toArray 67)
   go_wp2_with fail
   go_ret
   refine ⟨_, 1, [(⟨⟨sg, true, false⟩, 1, ([] : List UInt8) ++ [dj], -1⟩, (a7, 0 + 1, c7))], rfl, ⟨HF.out, fun q hq => ?_, ?_⟩, hbw5.trans ((hG.trans (hbf.mono hG.size)).mono hbw5.size), HFt.out⟩
   ·rw [List.mem_singleton] at hq
    subst hq
    have := ho7.sl.below hbf
    rw [← List.map_append] at this
    exact this
   ·have hj1 := HDJ.out
    rw [List.getD_eq_getElem?_getD] at hj1
    simp [hj1]

end Go.Proofs.Ytlpkicjijlcbfaa
end

section
/- Chapter 06: the program's Steps. -/
namespace Go.Proofs.Ytlpkicjijlcbfaa
open Go.RowKit Go.Dx

set_option maxRecDepth 100000 in
set_option maxHeartbeats 8000000 in
theorem tab_Steps_ru (H : TH) (t : Ta) (s : St) (l : List Sy) (a : Option Addr) (n c : Nat) (p : Nat) (x : Sy) (hv : validE t = 0) (hsl : s.lang = 0 ∨ s.lang = 1) (hx : l[p]? = some x) (hgd : goodS l = true) (hll : l.length ≤ 1000000) (heq : x.lang = s.lang) (hd : isD x.c = false) (w : World) (hT : TaIs w H t) (hs : Sl w 2 a n c (l.flatMap sc)) :
  Calls Try.prog 28 #[H.v, .agg #[.int .i64 s.lang, .bool s.num, .bool s.wrd], .slice a n c, .int .i64 (p : Int)] w (StepsT 67 (ruleSteps t s x l p 0 (langOf t x.lang)) w) := by
 have hV := fun w' (hb : Below w.heap.size w w') => tab_Valid H t w' (hT.below hb)
 have hC := fun w' (hb : Below w.heap.size w w') => contains_y l a n c w' (hs.below hb)
 obtain rfl := hs.nf sc_len (by decide)
 obtain ⟨⟨a0, n0, c0⟩, ⟨a1, n1, c1⟩, ps0, ps1, ⟨ad, nd, cd⟩, ⟨ac, nc, cc⟩, ⟨an, nn, cn⟩, ⟨af, nf, cf⟩, ⟨aw, nw, cw⟩⟩ := H
 obtain ⟨sg, sn, si⟩ := s
 unfold TH.v at hV ⊢
 simp only [hdv] at hV ⊢
 have hbb : Below w.heap.size w ((w.alloc (.cells #[.slice a0 n0 c0, .slice a1 n1 c1, .slice ad nd cd, .slice ac nc cc, .slice an nn cn, .slice af nf cf, .slice aw nw cw] 29)).alloc (.cells #[.int .i64 sg, .bool sn, .bool si] 63)) := (blo w _).trans ((blo _ _).mono (by simp))
 have X4 : Box ((w.alloc (.cells #[.slice a0 n0 c0, .slice a1 n1 c1, .slice ad nd cd, .slice ac nc cc, .slice an nn cn, .slice af nf cf, .slice aw nw cw] 29)).alloc (.cells #[.int .i64 sg, .bool sn, .bool si] 63)) w.heap.size 29 #[.slice a0 n0 c0, .slice a1 n1 c1, .slice ad nd cd, .slice ac nc cc, .slice an nn cn, .slice af nf cf, .slice aw nw cw].toList := (Box.new w _ _).alloc _
 have X5 : Box ((w.alloc (.cells #[.slice a0 n0 c0, .slice a1 n1 c1, .slice ad nd cd, .slice ac nc cc, .slice an nn cn, .slice af nf cf, .slice aw nw cw] 29)).alloc (.cells #[.int .i64 sg, .bool sn, .bool si] 63)) (w.heap.size + 1) 63 [.int .i64 sg, .bool sn, .bool si] := by
  have := Box.new (w.alloc (.cells #[.slice a0 n0 c0, .slice a1 n1 c1, .slice ad nd cd, .slice ac nc cc, .slice an nn cn, .slice af nf cf, .slice aw nw cw] 29)) 63 #[.int .i64 sg, .bool sn, .bool si]
  rwa [show (w.alloc (.cells #[.slice a0 n0 c0, .slice a1 n1 c1, .slice ad nd cd, .slice ac nc cc, .slice an nn cn, .slice af nf cf, .slice aw nw cw] 29)).heap.size = w.heap.size + 1 by simp] at this
 have HBB := hide hbb
 have HX4 := hide X4
 have HX5 := hide X5
 clear hbb X4 X5
 have hsl : sg = 0 ∨ sg = 1 := hsl
 obtain ⟨xg, xc⟩ := x
 rw [hv] at hV
 rw [hgd] at hC
 have hp := (List.getElem?_eq_some_iff.1 hx).1
 have d1 : decide (sg < 0) = false := decide_eq_false (by omega)
 have d2 : decide (1 < sg) = false := decide_eq_false (by omega)
 have d4 : decide ((l.length : Int) ≤ (p : Int)) = false := decide_eq_false (by omega)
 have d4' : decide (l.length ≤ p) = false := decide_eq_false (by omega)
 have HXP := hide hx
 have hxg : xg = 0 ∨ xg = 1 := by
  have h1 : symOk ⟨xg, xc⟩ = true := by
   unfold goodS at hgd
   exact List.all_eq_true.1 hgd _ (List.mem_of_getElem? hx)
  unfold symOk at h1
  simp only [Bool.and_eq_true, Bool.or_eq_true, decide_eq_true_eq] at h1
  exact h1.1
 have HGD := hide hgd
 have HV0 := hide hv
 clear hv hgd hx
 have heq : sg = xg := heq.symm
 subst heq
 obtain ⟨kx, rfl, hkx⟩ : ∃ kx : Nat, sg = (kx : Int) ∧ kx < 2 := by
  rcases hxg with h | h
  ·exact ⟨0, h, by decide⟩
  ·exact ⟨1, h, by decide⟩
 have hd : isD xc = false := hd
 have hD := fun w' => tab_digit xc w'
 have hL := fun w' => tab_Letter xc w'
 unfold LetterR at hL
 rw [hd] at hD
 have HLOW : Hid (langOf t (kx : Int) = langK t kx) := hide (two_cases (p := fun k => langOf t (k : Int) = langK t k) (by simp [langOf, langK]) (by simp [langOf, langK]) kx hkx)
 have hgp := good_parts (valid_parts HV0.out).2.2.1
 have hlok := fun r (hr : r ∈ langK t kx) => lang_ok (valid_parts HV0.out).2.2.1 (kx : Int) r (by rw [HLOW.out]; exact hr)
 have HLOK := hide hlok
 have hnf : nf = t.fin.length := hT.f.n_eq
 have hnc : nc = t.cap.length := hT.c.n_eq
 have hf4 := indic_le hgp.2.2.2.1
 have hc4 := indic_le hgp.2.1
 have hnf4 : nf ≤ 4 := by omega
 have hnc4 : nc ≤ 4 := by omega
 have HTF : Hid (Sl w 1 af nf cf (t.fin.map B8)) := hide hT.f
 have HTC : Hid (Sl w 1 ac nc cc (t.cap.map B8)) := hide hT.c
 obtain ⟨ak, nk, ck, pk, hck, hRk, hek⟩ := sel_lang hT kx hkx
 simp only [hdv] at hck
 have HCK := hide hck
 have HEK := hide hek
 have HRK := hide hRk
 have hnk := hRk.n_eq
 have hm1 := Nat.le_trans hRk.top.le hRk.top.cap
 unfold maxLen at hm1
 have hpk96 : pk.length ≤ 96 := by
  have h1 := (valid_parts HV0.out).1
  have h2 := (valid_parts HV0.out).2.1
  have h3 : (rus pk).length = pk.length := by unfold rus; simp
  rw [← h3, hek]
  unfold langK
  split
  ·exact h1
  ·exact h2
 obtain ⟨il, hil⟩ : ∃ il, isL xc = il := ⟨_, rfl⟩
 obtain ⟨ic, hic⟩ : ∃ ic, isC xc = ic := ⟨_, rfl⟩
 obtain ⟨cbv, hcb⟩ : ∃ cbv, (sn && il) = cbv := ⟨_, rfl⟩
 rw [hil, hic] at hL
 have HIL := hide hil
 have HIC := hide hic
 have HCB := hide hcb
 obtain ⟨pre1, hp1⟩ : ∃ pre1 : List UInt8, pre1 = if cbv then t.fin else [] := ⟨_, rfl⟩
 obtain ⟨pre2, hp2⟩ : ∃ pre2 : List UInt8, pre2 = pre1 ++ if ic then t.cap else [] := ⟨_, rfl⟩
 have HHEAD : Hid (headC t ⟨(kx : Int), sn, si⟩ ⟨(kx : Int), xc⟩ = pre2) := hide (by
  unfold headC
  simp only [hil, hic]
  rw [hp2, hp1, ← hcb])
 have hl1 : pre1.length ≤ 4 := by rw [hp1]; cases cbv <;> simp <;> omega
 have hl2 : pre2.length ≤ 8 := by rw [hp2, List.length_append]; cases ic <;> simp <;> omega
 have HP1 := hide hp1
 have HP2 := hide hp2
 clear hd hil hic hcb hp1 hp2 hgp hnf hnc hf4 hc4 hT hck hRk hek hlok
 rw [HLOW.out]
 go_enter Try.func28, Try.ntmps28
 go_upto_region 13 with (first | (go_at_call 56; refine (hV _ HBB.out).mono ?_; rintro e w3 ⟨rfl, hb3⟩; have x5 := HX5.out.under hb3; have k5 : w3.cell? ⟨w.heap.size + 1, 0, none⟩ = some (.int .i64 (kx : Int)) := x5.at_ rfl; have hbw3 := HBB.out.trans (hb3.mono HBB.out.size)) | (go_at_call 57; refine (hC _ hbw3).mono ?_; rintro e w4 ⟨rfl, hb4⟩; have hbw4 := hbw3.trans (hb4.mono hbw3.size); have x4 := (HX4.out.under hb3).under hb4; have x5' := x5.under hb4; have k5' : w4.cell? ⟨w.heap.size + 1, 0, none⟩ = some (.int .i64 (kx : Int)) := x5'.at_ rfl; have hw5 : w.heap.size + 1 < w4.heap.size := x5'.lt) | (with_reducible refine idx_y 47 _ _ _ _ _ _ rfl (hs.below hbw4) _ _ p rfl rfl _ HXP.out ?_; intro b o hcell hcell2 hbo) | (go_at_call 61; refine (hD _).mono ?_; rintro e wd ⟨rfl, rfl⟩) | (go_at_call 62; refine (hL _).mono ?_; rintro e wl ⟨rfl, rfl⟩))
 have y9 := Box.new w4 88 #[.int .i64 (kx : Int), .int .u8 (xc.toNat : Int)]
 have y4 := x4.alloc (.cells #[.int .i64 (kx : Int), .int .u8 (xc.toNat : Int)] 88)
 have y5 := x5'.alloc (.cells #[.int .i64 (kx : Int), .int .u8 (xc.toNat : Int)] 88)
 have hbw5 := hbw4.trans ((blo w4 (.cells #[.int .i64 (kx : Int), .int .u8 (xc.toNat : Int)] 88)).mono hbw4.size)
 have h9 : w.heap.size + 1 < w4.heap.size := hw5
 clear k5 k5' hcell hcell2 hbo hb3 hb4 hbw3 x4 x5 x5' hw5
 generalize w4.alloc (.cells _ 88) = w5 at *
 obtain ⟨g9, hg9⟩ : ∃ g9, g9 = w4.heap.size := ⟨_, rfl⟩
 rw [← hg9] at y9 h9 ⊢
 clear hg9
 have k51 : w5.cell? ⟨w.heap.size + 1, 1, none⟩ = some (.bool sn) := y5.at_ rfl
 go_cut [98] from 94 to 98 (fun v w' => v = .bool cbv ∧ w5 = w')
 case first =>
  have hh := HCB.out
  cases sn
  ·have hz : cbv = false := hh.symm
   subst hz
   go_wp2_with fail
   go_meet
   exact ⟨rfl, rfl⟩
  ·have hz : cbv = il := hh.symm
   subst hz
   go_wp2_with fail
   go_meet
   exact ⟨rfl, rfl⟩
 case rest =>
  obtain ⟨rfl, rfl⟩ := hcut
  have kf : w5.cell? ⟨w.heap.size, 5, none⟩ = some (.slice af nf cf) := y4.at_ rfl
  have kc : w5.cell? ⟨w.heap.size, 3, none⟩ = some (.slice ac nc cc) := y4.at_ rfl
  have hTf5 := HTF.out.below hbw5
  have hTc5 := HTC.out.below hbw5
  go_upto_if 98 with fail
  go_cut [14] (fun v w' => ∃ a c, v = .slice a pre1.length c ∧ Own w' w5.heap.size 5 1 a pre1.length c (pre1.map B8) ∧ Below w5.heap.size w5 w')
  case first =>
   have hh := HP1.out
   cases cbv
   ·have hz : pre1 = [] := hh
    subst hz
    go_wp2_with fail
    go_meet
    exact ⟨none, 0, rfl, Own.nil _ _ _ _, Below.refl _ _⟩
   ·have hz : pre1 = t.fin := hh
    have hnf : nf = pre1.length := by rw [hz]; exact hTf5.n_eq
    rw [← hz] at hTf5
    subst hnf
    clear hz hh
    go_wp2_with (at_builtin; refine app_bs rfl _ _ rfl w5 w5.heap.size _ 0 0 _ rfl (Own.nil _ _ _ _) af _ cf pre1 rfl hTf5 (by omega) (Nat.le_refl _) (Below.refl _ _) ?_; intro a6 c6 w6 ho6 hgr6 hb6; rw [Nat.zero_add] at ho6 ⊢)
    go_meet
    exact ⟨a6, c6, rfl, ho6, hb6⟩
  case rest =>
   obtain ⟨a6, c6, rfl, ho6, hb6⟩ := hcut
   obtain ⟨w6, rfl⟩ : ∃ w6 : World, w6 = wc := ⟨_, rfl⟩
   go_upto_if 103 with fail
   go_cut [14] (fun v w' => ∃ a c, v = .slice a pre2.length c ∧ Own w' w5.heap.size 5 1 a pre2.length c (pre2.map B8) ∧ Below w5.heap.size w5 w')
   case first =>
    have hh := HP2.out
    cases ic
    ·have hz : pre2 = pre1 := by rw [hh]; simp
     clear hh
     subst hz
     go_wp2_with fail
     go_meet
     exact ⟨a6, c6, rfl, ho6, hb6⟩
    ·have hz : pre2 = pre1 ++ t.cap := hh
     have hnc : nc = t.cap.length := hTc5.n_eq
     have kc6 := cell_below kc hb6
     have hTc6 := hTc5.below hb6
     subst hnc
     have HZL : Hid (pre2.length = pre1.length + t.cap.length) := hide (by rw [hz, List.length_append])
     have HZ := hide hz
     clear hh hz
     go_wp2_with (at_builtin; refine app_bs rfl _ _ rfl w5 w5.heap.size a6 _ c6 _ rfl ho6 ac _ cc t.cap rfl hTc6 (by omega) hb6.size hb6 ?_; intro a8 c8 w8 ho8 hgr8 hb8)
     go_meet
     exact ⟨a8, c8, by rw [HZL.out], by rw [HZL.out, HZ.out, List.map_append]; exact ho8, hb8⟩
   case rest =>
    clear ho6 hb6
    obtain ⟨ab, cb, rfl, hob, hb57⟩ := hcut
    obtain ⟨w7, rfl⟩ : ∃ w7 : World, w7 = wc := ⟨_, rfl⟩
    have hbw7 := hbw5.trans (hb57.mono hbw5.size)
    have y97 := y9.under hb57
    have y47 := y4.under hb57
    have HRW := hide (HRK.out.below hbw7)
    have hs7 := hs.below hbw7
    have kr : w7.cell? ⟨w.heap.size, kx, none⟩ = some (.slice ak nk ck) := y47.at_ (by
     have h := HCK.out
     rcases kx with _ | _ | k
     ·exact h
     ·exact h
     ·omega)
    have kx9 : w7.cell? ⟨g9, 0, none⟩ = some (.int .i64 (kx : Int)) := y97.at_ rfl
    subst hnk
    clear hb57 y9 y4 y5 kf kc hTf5 hTc5 k51
    go_wp2_with fail
    go_loopg [15, 115] pk.length (fun gh o v w' => ∃ (k : Nat) (ps : List SH) (ao : Option Addr) (co : Nat), k ≤ pk.length ∧ gh = pk.length - k ∧ ps.length ≤ k ∧ o = .slice ao ps.length co ∧ v = .int .i64 (k : Int) ∧ Hid (ps.map (·.1) = ruleSteps t ⟨(kx : Int), sn, si⟩ ⟨(kx : Int), xc⟩ l p 0 ((rus pk).take k)) ∧ OSt w' 67 5 w7.heap.size ao co ps ∧ Below w7.heap.size w7 w')
    case atStart => exact ⟨0, [], none, 0, by omega, by omega, by simp, rfl, rfl, hide rfl, OSt.nil _ _ _ _, Below.refl _ _⟩
    case round =>
     obtain ⟨k, ps, ao, co, hk, hg, hpl, rfl, rfl, HPS, hOS, hbr⟩ := hrel
     have HG := hide hg
     clear hg
     by_cases hkl : k < pk.length
     ·obtain ⟨q, hq⟩ : ∃ q, pk[k]? = some q := ⟨pk[k], by simp [hkl]⟩
      have HQ := hide hq
      have hRr := HRW.out.below hbr
      obtain ⟨hrow, _⟩ := hRr.row q (List.mem_of_getElem? hq)
      have hrk := ru_parts (HLOK.out q.1 (by rw [← HEK.out]; exact List.mem_of_getElem? (rus_get hq)))
      have HRJ := hide (rus_get hq)
      clear hq
      obtain ⟨⟨sx, wh, cl⟩, h1, h2, h3⟩ := q
      have hs1 : 1 ≤ sx.size := hrk.1
      have hs8 : sx.size ≤ 8 := hrk.2.1
      have hcl4 : cl.length ≤ 4 := indic_le hrk.2.2.2.2.1
      have hrow : Sl wr 1 h1 h2 h3 (cl.map B8) := hrow
      obtain rfl := hrow.n_eq
      have hF := fun w' (hb : Below wr.heap.size wr w') => tab_fits sx wh cl h1 cl.length h3 l a _ c (p : Int) p rfl ⟨(kx : Int), xc⟩ HXP.out hs1 hs8 hll w' ((hs7.below hbr).below hb)
      have HSN := hide (ruleSteps_snoc t ⟨(kx : Int), sn, si⟩ ⟨(kx : Int), xc⟩ l p ⟨sx, wh, cl⟩ ((rus pk).take k) 0)
      have HTK : Hid ((rus pk).take (k + 1) = (rus pk).take k ++ [⟨sx, wh, cl⟩]) := hide (take_succ_get HRJ.out)
      have hrl : (rus pk).length = pk.length := by unfold rus; simp
      have HTL : Hid (((rus pk).take k).length = k) := hide (by rw [List.length_take, hrl]; omega)
      clear hrl
      clear hrk
      cases hfb : fitsB ⟨sx, wh, cl⟩ l p
      ·have HN : Hid (ps.map (·.1) = ruleSteps t ⟨(kx : Int), sn, si⟩ ⟨(kx : Int), xc⟩ l p 0 ((rus pk).take (k + 1))) := hide (by rw [HTK.out, HSN.out, hfb, HPS.out]; simp)
       rw [hfb] at hF
       clear hfb
       go_wp2_with (first
        | (with_reducible refine idx_r 118 _ _ _ _ _ _ rfl hRr.top _ _ k rfl rfl _ HQ.out ?_; intro b o hcell hcell2 hcell3 hbo)
        | (go_at_call 63; refine (hF _ (blo wr _)).mono ?_; rintro e w8 ⟨rfl, hb8⟩))
       have hbr8 := (blo wr _).trans (hb8.mono (blo wr _).size)
       have hb78 := hbr.trans (hbr8.mono hbr.size)
       have hOS8 := hOS.below hbr8
       go_roundg (pk.length - (k + 1))
       case measure => have := HG.out; omega
       case rel => exact ⟨k + 1, ps, ao, co, by omega, rfl, by omega, rfl, by go_num, HN, hOS8, hb78⟩
      ·obtain ⟨CT, hCT⟩ : ∃ CT, pre2 ++ cl = CT := ⟨_, rfl⟩
       obtain ⟨NN, hNN⟩ : ∃ NN, CT.length = NN := ⟨_, rfl⟩
       have HCT := hide hCT
       have HNN := hide hNN
       clear hCT hNN
       have HN : Hid (∀ q : (Option Addr × Nat × Nat), ((ps ++ [((⟨⟨(kx : Int), false, il⟩, (sx.size : Int), CT, (k : Int)⟩ : Stp), q)]) : List SH).map (·.1) = ruleSteps t ⟨(kx : Int), sn, si⟩ ⟨(kx : Int), xc⟩ l p 0 ((rus pk).take (k + 1))) := hide (fun q => by
        rw [HTK.out, HSN.out, hfb, List.map_append, HPS.out, HHEAD.out, HTL.out, HIL.out, HCT.out]; simp)
       have X17 := Box.new wr 84 #[.string sx, .int .i64 wh, .slice h1 cl.length h3]
       rw [hfb] at hF
       clear hfb
       go_wp2_with (first
        | (with_reducible refine idx_r 118 _ _ _ _ _ _ rfl hRr.top _ _ k rfl rfl _ HQ.out ?_; intro b o hcell hcell2 hcell3 hbo)
        | (go_at_call 63; refine (hF _ (blo wr _)).mono ?_; rintro e w8 ⟨rfl, hb8⟩))
       have hbr8 := (blo wr (.cells #[.string sx, .int .i64 wh, .slice h1 cl.length h3] 84)).trans (hb8.mono (blo wr _).size)
       have hb78 := hbr.trans (hbr8.mono hbr.size)
       have hsz8 := hb78.size
       have x17 := X17.under hb8
       have x9 := (y97.under hbr).under hbr8
       have hob8 := ((hob.below hbr).below hbr8).sl
       have hrow8 := hrow.below hbr8
       obtain ⟨g17, hg17⟩ : ∃ g17, g17 = wr.heap.size := ⟨_, rfl⟩
       rw [← hg17] at x17 ⊢
       clear hcell hcell2 hcell3 hbo hb8 X17 hg17 hF hrow HSN HTK HTL HPS HRJ
       have hcX : ∀ w', Below w8.heap.size w8 w' → w'.cell? ⟨g9, 0, none⟩ = some (.int .i64 (kx : Int)) := fun w' h => (x9.under h).at_ rfl
       have hcS : ∀ w', Below w8.heap.size w8 w' → w'.cell? ⟨g17, 0, none⟩ = some (.string sx) := fun w' h => (x17.under h).at_ rfl
       have hcR : ∀ w', Below w8.heap.size w8 w' → w'.cell? ⟨g17, 2, none⟩ = some (.slice h1 cl.length h3) := fun w' h => (x17.under h).at_ rfl
       have hCo : ∀ w', Below w8.heap.size w8 w' → ∀ b, Sl w' 1 (some ⟨b, 0, none⟩) 2 2 [.slice ab pre2.length cb, .slice h1 cl.length h3] → Calls Try.prog 64 #[.slice (some ⟨b, 0, none⟩) 2 2] w' fun e w'' => ∃ a' c', e = .returned (.slice a' NN c') ∧ Own w'' w'.heap.size 5 1 a' NN c' (CT.map B8) ∧ Below w'.heap.size w' w'' := by
        rw [← HNN.out, ← HCT.out]
        exact fun w' h b hsb => concat6 pre2 cl ab h1 cb h3 (some ⟨b, 0, none⟩) 2 w' hsb (hob8.below h) (hrow8.below h) (by omega) (by omega)
       refine wp_region_free 16 [⟨0, 124, [124], fun vs _ => vs = [.slice ao ps.length co]⟩, ⟨1, 125, [125], fun vs _ => vs = [.pointer (some ⟨g9, 0, none⟩)]⟩, ⟨2, 126, [126], fun vs _ => vs = [.int .i64 (kx : Int)]⟩, ⟨3, 127, [127], fun vs _ => vs = [.bool il]⟩, ⟨4, 128, [128], fun vs _ => vs = [.agg #[.int .i64 (kx : Int), .bool false, .bool il]]⟩, ⟨5, 129, [129], fun vs _ => vs = [.pointer (some ⟨g17, 0, none⟩)]⟩, ⟨6, 130, [130], fun vs _ => vs = [.string sx]⟩, ⟨7, 131, [131], fun vs _ => vs = [.int .i64 (sx.size : Int)]⟩, ⟨8, 132, [132], fun vs _ => vs = [.slice ab pre2.length cb]⟩, ⟨9, 133, [133], fun vs _ => vs = [.pointer (some ⟨g17, 2, none⟩)]⟩, ⟨10, 134, [134], fun vs _ => vs = [.slice h1 cl.length h3]⟩, ⟨11, 135, [135], fun vs w' => ∃ b, vs = [.slice (some ⟨b, 0, none⟩) 2 2] ∧ Sl w' 1 (some ⟨b, 0, none⟩) 2 2 [.slice ab pre2.length cb, .slice h1 cl.length h3]⟩, ⟨12, 136, [136], fun vs w' => ∃ a' c', vs = [.slice a' NN c'] ∧ Own w' w7.heap.size 5 1 a' NN c' (CT.map B8)⟩, ⟨13, 137, [137], fun vs _ => vs = [.int .i64 (k : Int)]⟩, ⟨14, 138, [138], fun vs w' => ∃ a' c', vs = [.agg #[.int .i64 (kx : Int), .bool false, .bool il, .int .i64 (sx.size : Int), .slice a' NN c', .int .i64 (k : Int)]] ∧ Own w' w7.heap.size 5 1 a' NN c' (CT.map B8)⟩, ⟨15, 139, [139], fun vs w' => ∃ b a' c', vs = [.slice (some ⟨b, 0, none⟩) 1 1] ∧ Sl w' 6 (some ⟨b, 0, none⟩) 1 1 (stc (⟨⟨(kx : Int), false, il⟩, (sx.size : Int), CT, (k : Int)⟩, (a', NN, c'))) ∧ Own w' w7.heap.size 5 1 a' NN c' (CT.map B8)⟩] (by kernel_rfl) (by kernel_rfl) ?_ ?_ ?_
       ·simp only [All]
        refine ⟨fun _ _ _ _ h => h, fun _ _ _ _ h => h, fun _ _ _ _ h => h, fun _ _ _ _ h => h, fun _ _ _ _ h => h, fun _ _ _ _ h => h, fun _ _ _ _ h => h, fun _ _ _ _ h => h, fun _ _ _ _ h => h, fun _ _ _ _ h => h, fun _ _ _ _ h => h, ?_, ?_, fun _ _ _ _ h => h, ?_, ?_, trivial⟩
        ·rintro vs w w' hb ⟨b, h1, h2⟩
         exact ⟨b, h1, h2.below hb⟩
        ·rintro vs w w' hb ⟨a', c', h1, h2⟩
         exact ⟨a', c', h1, h2.below hb⟩
        ·rintro vs w w' hb ⟨a', c', h1, h2⟩
         exact ⟨a', c', h1, h2.below hb⟩
        ·rintro vs w w' hb ⟨b, a', c', h1, h2, h3⟩
         exact ⟨b, a', c', h1, h2.below hb, h3.below hb⟩
       ·simp only [All]
        refine ⟨?_, ?_, ?_, ?_, ?_, ?_, ?_, ?_, ?_, ?_, ?_, ?_, ?_, ?_, ?_, ?_, trivial⟩
        ·intro o ho a' w' hb hfr hdep; obtain rfl := oj ho
         have g15 : a'.tmps[15]?.getD undef = .slice ao ps.length co := by simpa using hfr 15 (by kernel_rfl)
         clear ho hfr hdep; go_wp2_with fail; exact ⟨rfl, _, rfl, br, rfl⟩
        ·intro o ho a' w' hb hfr hdep; obtain rfl := oj ho
         have g9 : a'.tmps[9]?.getD undef = .pointer (some ⟨g9, 0, none⟩) := by simpa using hfr 9 (by kernel_rfl)
         clear ho hfr hdep; go_wp2_with fail; exact ⟨rfl, _, rfl, br, rfl⟩
        ·intro o ho a' w' hb hfr hdep; obtain rfl := oj ho
         have g125 : a'.tmps[125]?.getD undef = .pointer (some ⟨g9, 0, none⟩) := by simpa using hdep 1 _ rfl (by kernel_rfl)
         clear ho hfr hdep; have hcl := hcX _ hb
         go_wp2_with fail; exact ⟨rfl, _, rfl, br, rfl⟩
        ·intro o ho a' w' hb hfr hdep; obtain rfl := oj ho
         have g12 : a'.tmps[12]?.getD undef = .bool il := by simpa using hfr 12 (by kernel_rfl)
         clear ho hfr hdep; go_wp2_with fail; exact ⟨rfl, _, rfl, br, rfl⟩
        ·intro o ho a' w' hb hfr hdep; obtain rfl := oj ho
         have g126 : a'.tmps[126]?.getD undef = .int .i64 (kx : Int) := by simpa using hdep 2 _ rfl (by kernel_rfl)
         have g127 : a'.tmps[127]?.getD undef = .bool il := by simpa using hdep 3 _ rfl (by kernel_rfl)
         clear ho hfr hdep; go_wp2_with fail; exact ⟨rfl, _, rfl, br, rfl⟩
        ·intro o ho a' w' hb hfr hdep; obtain rfl := oj ho
         have g17 : a'.tmps[17]?.getD undef = .pointer (some ⟨g17, 0, none⟩) := by simpa using hfr 17 (by kernel_rfl)
         clear ho hfr hdep; go_wp2_with fail; exact ⟨rfl, _, rfl, br, rfl⟩
        ·intro o ho a' w' hb hfr hdep; obtain rfl := oj ho
         have g129 : a'.tmps[129]?.getD undef = .pointer (some ⟨g17, 0, none⟩) := by simpa using hdep 5 _ rfl (by kernel_rfl)
         clear ho hfr hdep; have hcl := hcS _ hb
         go_wp2_with fail; exact ⟨rfl, _, rfl, br, rfl⟩
        ·intro o ho a' w' hb hfr hdep; obtain rfl := oj ho
         have g130 : a'.tmps[130]?.getD undef = .string sx := by simpa using hdep 6 _ rfl (by kernel_rfl)
         clear ho hfr hdep; go_wp2_with fail; exact ⟨rfl, _, rfl, br, rfl⟩
        ·intro o ho a' w' hb hfr hdep; obtain rfl := oj ho
         have g14 : a'.tmps[14]?.getD undef = .slice ab pre2.length cb := by simpa using hfr 14 (by kernel_rfl)
         clear ho hfr hdep; go_wp2_with fail; exact ⟨rfl, _, rfl, br, rfl⟩
        ·intro o ho a' w' hb hfr hdep; obtain rfl := oj ho
         have g17 : a'.tmps[17]?.getD undef = .pointer (some ⟨g17, 0, none⟩) := by simpa using hfr 17 (by kernel_rfl)
         clear ho hfr hdep; go_wp2_with fail; exact ⟨rfl, _, rfl, br, rfl⟩
        ·intro o ho a' w' hb hfr hdep; obtain rfl := oj ho
         have g133 : a'.tmps[133]?.getD undef = .pointer (some ⟨g17, 2, none⟩) := by simpa using hdep 9 _ rfl (by kernel_rfl)
         clear ho hfr hdep; have hcl := hcR _ hb
         go_wp2_with fail; exact ⟨rfl, _, rfl, br, rfl⟩
        ·intro o ho a' w' hb hfr hdep; obtain rfl := oj ho
         have g132 : a'.tmps[132]?.getD undef = .slice ab pre2.length cb := by simpa using hdep 8 _ rfl (by kernel_rfl)
         have g134 : a'.tmps[134]?.getD undef = .slice h1 cl.length h3 := by simpa using hdep 10 _ rfl (by kernel_rfl)
         clear ho hfr hdep; go_wp2_with fail
         exact ⟨rfl, _, rfl, blo _ _, _, rfl, Sl.fresh _ _ 1 2 [.slice ab pre2.length cb, .slice h1 cl.length h3] rfl (by decide)⟩
        ·intro o ho a' w' hb hfr hdep; obtain rfl := oj ho
         obtain ⟨b8, g135, hs8⟩ := hdep 11 _ rfl (by kernel_rfl)
         simp at g135
         clear ho hfr hdep; go_wp2_with fail
         refine (hCo _ hb b8 hs8).mono ?_
         rintro e w9 ⟨a9, c9, rfl, ho9, hb9⟩
         go_wp2_with fail
         exact ⟨rfl, _, rfl, hb9, a9, c9, rfl, ho9.mono (Nat.le_trans hsz8 hb.size)⟩
        ·intro o ho a' w' hb hfr hdep; obtain rfl := oj ho
         have g16 : a'.tmps[16]?.getD undef = .int .i64 (k : Int) := by simpa using hfr 16 (by kernel_rfl)
         clear ho hfr hdep; go_wp2_with fail; exact ⟨rfl, _, rfl, br, rfl⟩
        ·intro o ho a' w' hb hfr hdep; obtain rfl := oj ho
         have g128 : a'.tmps[128]?.getD undef = .agg #[.int .i64 (kx : Int), .bool false, .bool il] := by simpa using hdep 4 _ rfl (by kernel_rfl)
         have g131 : a'.tmps[131]?.getD undef = .int .i64 (sx.size : Int) := by simpa using hdep 7 _ rfl (by kernel_rfl)
         obtain ⟨a9, c9, g136, ho'⟩ := hdep 12 _ rfl (by kernel_rfl)
         simp at g136
         have g137 : a'.tmps[137]?.getD undef = .int .i64 (k : Int) := by simpa using hdep 13 _ rfl (by kernel_rfl)
         clear ho hfr hdep; go_wp2_with fail; exact ⟨rfl, _, rfl, br, a9, c9, rfl, ho'⟩
        ·intro o ho a' w' hb hfr hdep; obtain rfl := oj ho
         obtain ⟨a9, c9, g138, ho'⟩ := hdep 14 _ rfl (by kernel_rfl)
         simp at g138
         clear ho hfr hdep; go_wp2_with fail
         exact ⟨rfl, _, rfl, blo _ _, _, a9, c9, rfl, Sl.fresh _ _ 6 1 (stc (⟨⟨(kx : Int), false, il⟩, (sx.size : Int), CT, (k : Int)⟩, (a9, NN, c9))) rfl (by decide), ho'.alloc _⟩
       ·intro g w9 hb9 hp22
        obtain ⟨b', a', c', p139, hs', ho'⟩ := hp22 15 _ rfl
        have p124 := hp22 0 _ rfl
        clear hp22
        simp at p139 p124
        simp only [List.drop_succ_cons, List.drop_zero, List.map_cons, List.map_nil, putAll, Act.put, List.setIfInBounds_toArray, List.set_cons_succ, List.set_cons_zero, List.cons_append, List.nil_append, p139, p124]
        have hb79 := hb78.trans (hb9.mono hb78.size)
        have host9 := (hOS.below hbr8).below hb9
        go_wp2_with (at_builtin; refine app_st2 rfl _ _ rfl w7 w7.heap.size ao co ps rfl host9 (⟨⟨(kx : Int), false, il⟩, (sx.size : Int), CT, (k : Int)⟩, (a', NN, c')) ho' _ _ rfl hs' (by omega) hb79.size hb79 ?_; intro a10 c10 w10 ho10 hb10)
        go_roundg (pk.length - (k + 1))
        case measure => have := HG.out; omega
        case rel => exact ⟨k + 1, ps ++ [(⟨⟨(kx : Int), false, il⟩, (sx.size : Int), CT, (k : Int)⟩, (a', NN, c'))], a10, c10, by omega, rfl, by rw [List.length_append]; simp; omega, by rw [List.length_append]; rfl, by go_num, hide (HN.out _), ho10, hb10⟩
     ·obtain rfl : k = pk.length := by omega
      have hps := HPS.out
      rw [List.take_of_length_le (by unfold rus; simp), HEK.out] at hps
      have HPN : Hid ((ruleSteps t ⟨(kx : Int), sn, si⟩ ⟨(kx : Int), xc⟩ l p 0 (langK t kx)).length = ps.length) := hide (by rw [← hps, List.length_map])
      go_wp2
      go_ret
      refine ⟨ao, co, ps, by rw [HPN.out]; rfl, ?_, hbw7.trans (hbr.mono hbw7.size), hOS.top.typ⟩
      rw [HPN.out, ← hps]
      exact hOS.stl
end Go.Proofs.Ytlpkicjijlcbfaa
end

section
/- Chapter 06: the program's Steps, whole. -/
namespace Go.Proofs.Ytlpkicjijlcbfaa
open Go.RowKit Go.Dx
def sv (s : St) : Value := .agg #[.int .i64 s.lang, .bool s.num, .bool s.wrd]
theorem tab_StepsT (H : TH) (t : Ta) (s : St) (l : List Sy) (a : Option Addr) (n c : Nat) (i : Int) (hll : l.length ≤ 1000000) (w : World) (hT : TaIs w H t) (hs : Sl w 2 a n c (l.flatMap sc)) :
  Calls Try.prog 28 #[H.v, sv s, .slice a n c, .int .i64 i] w (StepsT 67 (stepsL t s l i) w) := by
 by_cases hno : ¬ (validE t = 0 ∧ (s.lang = 0 ∨ s.lang = 1) ∧ 0 ≤ i ∧ goodS l = true) ∨ (l.length : Int) ≤ i
 ·rw [steps_none hno]
  exact tab_Steps_no H t s l a n c i hno w hT hs
 ·have h1 : ¬ (l.length : Int) ≤ i := fun h => hno (.inr h)
  have h2 : validE t = 0 ∧ (s.lang = 0 ∨ s.lang = 1) ∧ 0 ≤ i ∧ goodS l = true := Classical.byContradiction fun h => hno (.inl h)
  obtain ⟨hv, hsl, hi, hg⟩ := h2
  obtain ⟨p, rfl⟩ : ∃ p : Nat, i = (p : Int) := ⟨i.toNat, by omega⟩
  obtain ⟨x, hx⟩ : ∃ x, l[p]? = some x := ⟨l[p]'(by omega), List.getElem?_eq_getElem _⟩
  rw [steps_at hv hsl hg hx]
  unfold nextL
  by_cases hne : x.lang ≠ s.lang
  ·rw [if_pos hne]
   exact tab_Steps_sw H t s l a n c p x hv hsl hx hg hll hne w hT hs
  ·rw [if_neg hne]
   have heq : x.lang = s.lang := Classical.byContradiction hne
   cases hd : isD x.c
   ·rw [if_neg (by simp)]
    exact tab_Steps_ru H t s l a n c p x hv hsl hx hg hll heq hd w hT hs
   ·rw [if_pos rfl]
    exact tab_Steps_dg H t s l a n c p x hv hsl hx hg hll heq hd w hT hs
theorem tab_Steps (H : TH) (t : Ta) (s : St) (l : List Sy) (a : Option Addr) (n c : Nat) (i : Int) (hll : l.length ≤ 1000000) (w : World) (hT : TaIs w H t) (hs : Sl w 2 a n c (l.flatMap sc)) :
  Calls Try.prog 28 #[H.v, sv s, .slice a n c, .int .i64 i] w (StepsR (stepsL t s l i) w) := (tab_StepsT H t s l a n c i hll w hT hs).mono fun _ _ h => h.out
end Go.Proofs.Ytlpkicjijlcbfaa
end

section
/- Chapter 06: text and are, of the law. -/
namespace Go.Dx
open Go.RowKit
structure BB (w : World) (a : Option Addr) (n c : Nat) (hs : List (Option Addr × Nat × Nat)) (rows : List (List UInt8)) : Prop where
 top : Sl w 1 a n c (hs.map hdv)
 len : hs.length = rows.length
 row : ∀ (i : Nat) (h : Option Addr × Nat × Nat) (r : List UInt8), hs[i]? = some h → rows[i]? = some r → Sl w 1 h.1 h.2.1 h.2.2 (r.map B8)
def symsOf (s : ByteArray) : List Sy := (chars s).map fun c => ⟨0, c⟩
theorem symsOf_step {s : ByteArray} {k : Nat} {c : UInt8} (h : (chars s)[k]? = some c) : (symsOf s).take (k + 1) = (symsOf s).take k ++ [⟨0, c⟩] := by
 have : (symsOf s)[k]? = some ⟨0, c⟩ := by unfold symsOf; rw [List.getElem?_map, h]; rfl
 exact take_succ_get this
end Go.Dx
namespace Go.Proofs.Ytlpkicjijlcbfaa
open Go.RowKit Go.Dx
def zeroSym : Value := .agg #[.int .i64 0, .int .u8 0]
theorem info_sym : (Try.prog.info? 88).map (fun i => (i.zero, i.size, i.bytes)) = some (some zeroSym, 2, 16) := by kernel_rfl
section
variable {w : World} {ops : Array Oper} {rest : List Oper} {o : Oper} {act : Act} {Q : Exit → Act → World → Prop}
theorem app_sy (hg : o.guard = none) (s x : Operand) (hop : o.op = Op.call { callee := Callee.builtin Builtin.append, args := #[s, x], argTypes := #[31, 31] })
  (w0 : World) (B : Nat) (a : Option Addr) (n c : Nat) (xs : List Value) (hs : act.eval s = .slice a n c) (hown : Own w B 88 2 a n c xs)
  (p : Sy) (hx : act.eval x = .slice (some ⟨w.heap.size, 0, none⟩) 1 1)
  (hn : n ≤ 1000000) (hB : B ≤ w.heap.size) (hbel : Below B w0 w)
  (hK : ∀ a' c' w', Own w' B 88 2 a' (n + 1) c' (xs ++ sc p) → w.grownBy w' (a.map (·.block)) → Below B w0 w' → wpList Try.prog ops Q rest (act.put o.dst (.slice a' (n + 1) c')) w') :
  wpList Try.prog ops Q (o :: rest) act (w.alloc (.cells (sc p).toArray 88)) :=
 append_lit hg s x 31 hop 88 zeroSym 2 16 Try.underlying31 info_sym rfl w0 B a n c xs hs hown 1 (sc p) hx rfl (sc_one p) (by omega) (by unfold maxLen; omega) hB hbel hK
end
theorem st_cells {w : World} {a : Option Addr} {n c : Nat} {ps : List SH} {L : List Stp} (hs : Stl w a n c ps L) {k : Nat} {p : SH} (hx : ps[k]? = some p) :
  ∃ b o, a = some ⟨b, o, none⟩ ∧ b < w.heap.size ∧ w.cell? ⟨b, o + k * 6, none⟩ = some (.int .i64 p.1.dst.lang) ∧ w.cell? ⟨b, o + k * 6 + 1, none⟩ = some (.bool p.1.dst.num) ∧ w.cell? ⟨b, o + k * 6 + 2, none⟩ = some (.bool p.1.dst.wrd) ∧ w.cell? ⟨b, o + k * 6 + 3, none⟩ = some (.int .i64 p.1.len) ∧ w.cell? ⟨b, o + k * 6 + 4, none⟩ = some (.slice p.2.1 p.2.2.1 p.2.2.2) ∧ w.cell? ⟨b, o + k * 6 + 5, none⟩ = some (.int .i64 p.1.rule) := by
 have hk := (List.getElem?_eq_some_iff.1 hx).1
 obtain ⟨b, o, hab, hb, hc⟩ := hs.top.ex (by rw [flat_len stc_len]; omega)
 refine ⟨b, o, hab, hb, ?_, ?_, ?_, ?_, ?_, ?_⟩
 ·exact hc (k * 6) _ (flat_get stc_len hx (j := 0) (by decide))
 ·exact hc (k * 6 + 1) _ (flat_get stc_len hx (j := 1) (by decide))
 ·exact hc (k * 6 + 2) _ (flat_get stc_len hx (j := 2) (by decide))
 ·exact hc (k * 6 + 3) _ (flat_get stc_len hx (j := 3) (by decide))
 ·exact hc (k * 6 + 4) _ (flat_get stc_len hx (j := 4) (by decide))
 ·exact hc (k * 6 + 5) _ (flat_get stc_len hx (j := 5) (by decide))
end Go.Proofs.Ytlpkicjijlcbfaa
end

section
/- Chapter 06: the example's tables in plain Lean; more laws on rules that a call owns. -/
namespace Go.Dx
open Go.RowKit
def letters (n : Nat) : List Ru := (List.range n).map fun i => ⟨⟨#[UInt8.ofNat (97 + i)]⟩, 0, [UInt8.ofNat (1 + i)]⟩
theorem letters_step (i : Nat) : letters (i + 1) = letters i ++ [⟨⟨#[UInt8.ofNat (97 + i)]⟩, 0, [UInt8.ofNat (1 + i)]⟩] := by
 unfold letters; rw [List.range_succ, List.map_append]; rfl
theorem grown_below {a b c : World} {row : Option Nat} (h : a.grownBy b row) (hb : Below a.heap.size b c) : a.grownBy c row :=
 ⟨hb.os.trans h.os, hb.tape.trans h.tape, hb.output.trans h.output, Nat.le_trans h.size hb.size, fun i hi hr => (hb.block i hi).trans (h.block i hi hr)⟩
theorem far_map {w : World} {B B' : Nat} {e e' : TypeId} {sz sz' : Nat} {p : Addr} {a : Option Addr} {n n' c c' : Nat} {cs cs' : List Value} (h : Own w B e sz (some p) n c cs) (h' : Own w B' e' sz' a n' c' cs') (he : e ≠ e') : some p.block ≠ a.map (·.block) := by
 cases a with
 | none => simp
 | some q => have := own_far h h' he; simpa using this
theorem own_map {w : World} {B : Nat} {e : TypeId} {sz : Nat} {a : Option Addr} {n c : Nat} {cs : List Value} (h : Own w B e sz a n c cs) {b : Nat} (hb : w.heap.size ≤ b) : some b ≠ a.map (·.block) := by
 cases a with
 | none => simp
 | some q => have := h.base.2; simp; omega
theorem box_far {w : World} {g B : Nat} {t e : TypeId} {us : List Value} {sz : Nat} {p : Addr} {n c : Nat} {cs : List Value} (h : Box w g t us) (h' : Own w B e sz (some p) n c cs) (he : t ≠ e) : p.block ≠ g := by
 rcases h'.2 with ⟨k1, _⟩ | ⟨q, cap, cur, k1, _, k2, _⟩
 ·cases k1
 ·injection k1 with k1
  injection k1 with k1
  subst k1
  intro e2
  have e2 : q = g := e2
  unfold Box at h
  rw [← e2, k2] at h
  injection h with h
  injection h with _ h
  exact he h.symm
theorem ORu.kept {w w' : World} {E U : TypeId} {B : Nat} {a : Option Addr} {c : Nat} {ps : List RH} {g : Nat} {t : TypeId} {us : List Value} (h : ORu w E U B a c ps) (hg : w.grownBy w' (some g)) (hx : Box w g t us) (hE : t ≠ E) (hU : t ≠ U) : ORu w' E U B a c ps := by
 refine ⟨?_, fun p hp => ⟨?_, (h.row p hp).2⟩⟩
 ·refine h.top.kept hg fun q hq => ?_
  have ho := h.top
  rw [hq] at ho
  have := box_far hx ho hE
  simpa using this
 ·have ho := (h.row p hp).1
  refine ho.kept hg fun q hq => ?_
  rw [hq] at ho
  have := box_far hx ho hU
  simpa using this
theorem ORu.mono {w : World} {E U : TypeId} {B B' : Nat} {a : Option Addr} {c : Nat} {ps : List RH} (h : ORu w E U B a c ps) (hB : B' ≤ B) : ORu w E U B' a c ps := ⟨h.top.mono hB, h.row⟩
theorem set_same {α : Type} {l : List α} {k : Nat} {v : α} (h : l[k]? = some v) : l.set k v = l := by
 apply List.ext_getElem?
 intro i
 rw [List.getElem?_set]
 split
 ·rename_i e
  subst e
  rw [h]
  have := (List.getElem?_eq_some_iff.1 h).1
  simp [this]
 ·rfl
end Go.Dx
end

section
/- A region that draws its order, whose operations that change the world follow one another (CH); the others (TL) leave the world as it is and may come at any time. No program in sight. -/
namespace Go.Dx
open Go.RowKit

structure ChInv (l : List Oper) (n : Nat) (CH TL T : List HOp) (a0 : Act) (G : Nat → List Value → World → Prop) (listed : Array Bool) (a : Act) (w : World) : Prop where
 inv : HeadInv .any l.toArray n listed
 defers : a.defers = a0.defers
 size : a.tmps.size = a0.tmps.size
 frame : ∀ k, (∀ t ∈ T, t.d ≠ k) → a.tmps.getD k undef = a0.tmps.getD k undef
 stage : ∃ j, j ≤ CH.length ∧ (∀ m c, CH[m]? = some c → (listed.getD c.i false = true ↔ m < j)) ∧ G j (CH.map fun c => a.tmps.getD c.d undef) w
 facts : ∀ t ∈ TL, listed.getD t.i false = true → t.fact a w
def linkOk (ops : Array Oper) : List Nat → Bool
 | i :: j :: l => Region.waitsFor .any ops j i && linkOk ops (j :: l)
 | _ => true
theorem linkOk_get {ops : Array Oper} : ∀ {L : List Nat}, linkOk ops L = true → ∀ m i j, L[m]? = some i → L[m + 1]? = some j → Region.waitsFor .any ops j i = true := by
 intro L
 induction L with
 | nil => intro _ m i j h; cases h
 | cons x L ih =>
  intro h m i j h1 h2
  cases L with
  | nil => cases m <;> simp at h2
  | cons y L =>
   simp only [linkOk, Bool.and_eq_true] at h
   cases m with
   | zero => cases h1; cases h2; exact h.1
   | succ m => exact ih h.2 m i j h1 h2

section
variable {P : Program}
end
end Go.Dx
end
