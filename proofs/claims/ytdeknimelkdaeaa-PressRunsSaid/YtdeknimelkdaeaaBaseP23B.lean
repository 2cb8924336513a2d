/- The contracts of the functions that the law reaches, joined into one text. -/
import Derived.Test.YtdeknimelkdaeaaBaseP23A
import Derived.Lib.Strings
import Derived.Carry
import Derived.IntWalk
import Derived.Shelf.Strings.Builder1
import Derived.Test.YtdeknimelkdaeaaProg
import Derived.MapKept
set_option linter.unusedVariables false
set_option linter.unusedSimpArgs false

/- the text Box2 -/
section
/- More laws on blocks that are known whole: a copy from a string, whole loads in drawn regions. No program in sight. -/
set_option linter.unusedVariables false
set_option linter.unusedSimpArgs false
namespace Go.Dx
open Go.RowKit
section
variable {P : Program} {w : World} {ops : Array Oper} {rest : List Oper} {o : Oper} {act : Act} {Q : Exit → Act → World → Prop}
/-- 'copy(dst, s)' from a string, dst lying in a block that is known whole -/
theorem copy_str (hgd : o.guard = none) (d s : Operand) (dT sT : TypeId) (hop : o.op = .call { callee := .builtin .copy, args := #[d, s], argTypes := #[dT, sT] }) (elem : TypeId) (hu : P.underlying dT = some (.slice elem)) (hsz : (P.info? elem).map (·.size) = some 1)
    (g off dLen dCap : Nat) (t : TypeId) (old : List Value) (hb : Box w g t old) (hd : act.eval d = .slice (some ⟨g, off, none⟩) dLen dCap) (x : ByteArray) (hs : act.eval s = .string x) (k : Nat) (hk : k = min x.size dLen) (hfit : off + k ≤ old.length)
    (hK : ∀ w', Box w' g t (old.take off ++ (x.data.toList.take k).map B8 ++ old.drop (off + k)) → w.grownBy w' (some g) → w'.heap.size = w.heap.size → wpList P ops Q rest (act.put o.dst (.int .i64 (k : Int))) w') :
    wpList P ops Q (o :: rest) act w := by
  refine wpList_plain hgd fun K hK' => ?_
  have hxl : x.data.toList.length = x.size := Array.length_toList
  have hcl : ((x.data.toList.take k).map B8).length = k := by rw [List.length_map, List.length_take]; omega
  have hst := run_storeCells_at P g off t ((x.data.toList.take k).map B8) 0 old.toArray w hb (by rw [hcl]; simpa using hfit) (one_map _ (fun _ => rfl) _)
  rw [hcl] at hst
  simp only [Nat.add_zero, List.toList_toArray] at hst
  have hmin : Nat.min x.size dLen = k := hk.symm
  have hrun : (Builtin.copy_ #[dT, sT] o.type #[.slice (some ⟨g, off, none⟩) dLen dCap, .string x]).run P w = .ok (.int .i64 (k : Int)) (w.setRow g (old.take off ++ (x.data.toList.take k).map B8 ++ old.drop (off + k)).toArray) := by
    obtain ⟨i, hq, hi⟩ := Option.map_eq_some_iff.1 hsz
    simp [Builtin.copy_, run_underlying hu, Builtin.lenOf, Builtin.firstCells, sizeOf, typeInfo, hq, hmin]
    have e : List.take k (List.map (fun b : UInt8 => Value.int IntKind.u8 (b.toNat : Int)) x.data.toList) = (x.data.toList.take k).map B8 := by rw [List.map_take]
    rw [e, hst]
    simp [Result.andThen]
    rfl
  unfold Oper.wp
  simp [execOp, hop, resolve, invoke, builtin, hd, hs, hrun, Result.andThen]
  refine hK' _ _ (hK _ ?_ ⟨rfl, rfl, rfl, by simp [World.setRow], fun k _ hk => setRow_other w g k _ (fun e => hk (by rw [e]))⟩ (by simp [World.setRow]))
  have := setRow_heap w g old.toArray (old.take off ++ (x.data.toList.take k).map B8 ++ old.drop (off + k)).toArray t (0, 0) hb
  simpa [Box] using this
theorem run_cut_var {P : Program} {w : World} (t e : TypeId) (n : Nat) (ht : P.underlying t = some (.array n e)) (hsz : (P.info? e).map (·.size) = some 1) (g off l u : Nat) (lo hi : Option Value)
    (hl : lo = none ∧ l = 0 ∨ ∃ k, lo = some (.int k (l : Int))) (hu : hi = none ∧ u = n ∨ ∃ k, hi = some (.int k (u : Int))) (hlu : l ≤ u) (hun : u ≤ n) (hln : l < n) :
    (Instr.sliceAt t (.pointer (some ⟨g, off, none⟩)) lo hi none).run P w = .ok (.slice (some ⟨g, off + l, none⟩) (u - l) (n - l)) w := by
  obtain ⟨i0, hi0, hs0⟩ := Option.map_eq_some_iff.1 hsz
  have h2 : (0 : Int) ≤ l ∧ (l : Int) ≤ u := by omega
  have h3 : (0 : Int) ≤ u ∧ (u : Int) ≤ n := by omega
  have hne : ¬ n = l := by omega
  rcases hl with ⟨rfl, rfl⟩ | ⟨k1, rfl⟩ <;> rcases hu with ⟨rfl, rfl⟩ | ⟨k2, rfl⟩ <;>
    simp [Instr.sliceAt, Instr.sureAddr, Instr.sliceBounds, Instr.sliceBound, asIntOf, run_underlying ht, sizeOf, typeInfo, hi0, hs0, h2, h3, Addr.add_lit, hlu, hun, hne]
/-- 'arr[lo:hi]' of an array variable -/
theorem cut_var {ty : TypeId} {pos : String} {after : Array Edge} (d : Nat) (t e : TypeId) (n : Nat) (x : Operand) (lo hi : Option Operand) (ht : P.underlying t = some (.array n e)) (hsz : (P.info? e).map (·.size) = some 1)
    (g off : Nat) (hx : act.eval x = .pointer (some ⟨g, off, none⟩)) (l u : Nat)
    (hl : lo.map act.eval = none ∧ l = 0 ∨ ∃ k, lo.map act.eval = some (.int k (l : Int))) (hu : hi.map act.eval = none ∧ u = n ∨ ∃ k, hi.map act.eval = some (.int k (u : Int))) (hlu : l ≤ u) (hun : u ≤ n) (hln : l < n)
    (hK : wpList P ops Q rest (act.put (some d) (.slice (some ⟨g, off + l, none⟩) (u - l) (n - l))) w) :
    wpList P ops Q ({ dst := some d, op := .slice t x lo hi none, type := ty, pos := pos, after := after, guard := none } :: rest) act w := by
  refine wpList_plain rfl fun K hK' => ?_
  have hrun := run_cut_var (P := P) (w := w) t e n ht hsz g off l u (lo.map act.eval) (hi.map act.eval) hl hu hlu hun hln
  unfold Oper.wp
  simp only [execOp, Option.map_none, hx, Sem.run_bind, hrun, Result.andThen, Sem.run_pure]
  exact hK' _ _ hK
end
/-- the walk stops ahead of a copy -/
theorem hold_copy {P : Program} {w : World} {ops : Array Oper} {rest : List Oper} {act : Act} {Q : Exit → Act → World → Prop} {dst : Option Tmp} {ty : TypeId} {as_ : Array Operand} {ts : Array TypeId} {pos : String} {after : Array Edge} {g : Option (Nat × Bool)}
    (h : Hid (wpList P ops Q ({ dst := dst, op := .call { callee := .builtin .copy, args := as_, argTypes := ts }, type := ty, pos := pos, after := after, guard := g } :: rest) act w)) :
    wpList P ops Q ({ dst := dst, op := .call { callee := .builtin .copy, args := as_, argTypes := ts }, type := ty, pos := pos, after := after, guard := g } :: rest) act w := h
section quiet
variable {P : Program} {w : World} {ops : Array Oper} {rest : List Oper} {act : Act} {Q : Act → Prop} {C : World → Prop} {ty : TypeId} {pos : String} {after : Array Edge}
/-- an operation of a quiet walk whose value is known in every world of the class -/
theorem quiet_in {o : Oper} (v : Value) (hw : Region.wanted o (yielded ops act.tmps) = true) (h : ∀ w', C w' → (execOp act.eval o).run P w' = .ok (.value v) w') (hK : wpQuiet P ops C Q rest (act.put o.dst v)) : wpQuiet P ops C Q (o :: rest) act := by
  refine wpQuiet_step fun K hK' => ?_
  rw [if_pos hw]
  refine ⟨v, ?_, hK' _ hK⟩
  intro w' hC
  unfold Oper.quietAt
  rw [h w' hC]
  exact ⟨rfl, rfl⟩
/-- a call of a quiet walk -/
theorem quiet_call {o : Oper} (f : FuncId) (args : Array Value) (v : Value) (hw : Region.wanted o (yielded ops act.tmps) = true) (h : ∀ w', C w' → (execOp act.eval o).run P w' = .ok (.enter f args) w') (hc : ∀ w', C w' → Calls P f args w' (fun e w'' => e = .returned v ∧ C w''))
    (hK : wpQuiet P ops C Q rest (act.put o.dst v)) : wpQuiet P ops C Q (o :: rest) act := by
  refine wpQuiet_step fun K hK' => ?_
  rw [if_pos hw]
  refine ⟨v, ?_, hK' _ hK⟩
  intro w' hC
  unfold Oper.quietAt
  rw [h w' hC]
  exact ⟨rfl, hc w' hC⟩
/-- a whole array or struct is loaded -/
theorem quiet_load_box (d : Nat) (t : TypeId) (x : Operand) (e : TypeId) (g off : Nat) (old cs : List Value) (hag : IsAgg P t) (hsz : (P.info? t).map (·.size) = some cs.length) (hb : ∀ w', C w' → Box w' g e old) (hx : act.eval x = .pointer (some ⟨g, off, none⟩))
    (hc : ∀ j u, cs[j]? = some u → old[off + j]? = some u) (hK : wpQuiet P ops C Q rest (act.put (some d) (.agg cs.toArray))) :
    wpQuiet P ops C Q ({ dst := some d, op := .load t x, type := ty, pos := pos, after := after, guard := none } :: rest) act := by
  refine quiet_in _ (by simp [Region.wanted]) (fun w' hC => ?_) hK
  simp [execOp, hx, Instr.loadAt, Instr.sureAddr, run_loadVar_box hag hsz (hb w' hC) hc]
theorem quiet_cut_var (d : Nat) (t e : TypeId) (n : Nat) (x : Operand) (lo hi : Option Operand) (ht : P.underlying t = some (.array n e)) (hsz : (P.info? e).map (·.size) = some 1)
    (g off : Nat) (hx : act.eval x = .pointer (some ⟨g, off, none⟩)) (l u : Nat)
    (hl : lo.map act.eval = none ∧ l = 0 ∨ ∃ k, lo.map act.eval = some (.int k (l : Int))) (hu : hi.map act.eval = none ∧ u = n ∨ ∃ k, hi.map act.eval = some (.int k (u : Int))) (hlu : l ≤ u) (hun : u ≤ n) (hln : l < n)
    (hK : wpQuiet P ops C Q rest (act.put (some d) (.slice (some ⟨g, off + l, none⟩) (u - l) (n - l)))) :
    wpQuiet P ops C Q ({ dst := some d, op := .slice t x lo hi none, type := ty, pos := pos, after := after, guard := none } :: rest) act := by
  refine quiet_in _ (by simp [Region.wanted]) (fun w' hC => ?_) hK
  have hrun := run_cut_var (P := P) (w := w') t e n ht hsz g off l u (lo.map act.eval) (hi.map act.eval) hl hu hlu hun hln
  simp only [execOp, Option.map_none, hx, Sem.run_bind, hrun, Result.andThen, Sem.run_pure]
end quiet
theorem run_conv_str {P : Program} {w : World} {src dst e : TypeId} (hsr : P.underlying src = some (.slice e)) (he : P.underlying e = some (.int .u8)) (hd : P.underlying dst = some .string)
    {a : Option Addr} {n c : Nat} {l : List UInt8} (hs : Sl w 1 a n c (l.map B8)) : (convert src dst (.slice a n c)).run P w = .ok (.string ⟨l.toArray⟩) w := by
  obtain rfl := hs.n_eq
  cases a with
  | some p => exact run_convert_bytes_back w src dst e p c l hsr he hd (fun j hj => hs.cell p rfl j _ (by simp [hj]))
  | none =>
    have := hs.nil rfl
    have := hs.le
    have hl : l = [] := List.eq_nil_of_length_eq_zero (by omega)
    subst hl
    simp [convert, run_underlying hsr, run_underlying hd, run_underlying he, Conv.bytesToString]
    rfl
section quiet2
variable {P : Program} {w : World} {ops : Array Oper} {rest : List Oper} {act : Act} {Q : Act → Prop} {C : World → Prop} {ty : TypeId} {pos : String} {after : Array Edge}
theorem quiet_conv_str (d : Nat) (src dst : TypeId) (x : Operand) (e : TypeId) (hsr : P.underlying src = some (.slice e)) (he : P.underlying e = some (.int .u8)) (hd : P.underlying dst = some .string)
    (a : Option Addr) (n c : Nat) (l : List UInt8) (hx : act.eval x = .slice a n c) (hs : ∀ w', C w' → Sl w' 1 a n c (l.map B8))
    (hK : wpQuiet P ops C Q rest (act.put (some d) (.string ⟨l.toArray⟩))) :
    wpQuiet P ops C Q ({ dst := some d, op := .convert src dst x, type := ty, pos := pos, after := after, guard := none } :: rest) act := by
  refine quiet_in _ (by simp [Region.wanted]) (fun w' hC => ?_) hK
  simp [execOp, hx, run_conv_str hsr he hd (hs w' hC), Result.andThen]
end quiet2
section guarded
variable {P : Program} {w : World} {ops : Array Oper} {rest : List Oper} {act : Act} {Q : Exit → Act → World → Prop} {ty : TypeId} {pos : String} {after : Array Edge} {g : Option (Nat × Bool)}
theorem unguard_any {dst : Option Nat} {op : Op} (hw : Region.wanted { dst := dst, op := op, type := ty, pos := pos, after := after, guard := g } (yielded ops act.tmps) = true)
    (h : wpList P ops Q ({ dst := dst, op := op, type := ty, pos := pos, after := after, guard := none } :: rest) act w) :
    wpList P ops Q ({ dst := dst, op := op, type := ty, pos := pos, after := after, guard := g } :: rest) act w := by
  have h2 : Region.wanted { dst := dst, op := op, type := ty, pos := pos, after := after, guard := none } (yielded ops act.tmps) = true := rfl
  unfold wpList at h ⊢
  rw [if_pos h2] at h
  rw [if_pos hw]
  exact h
/-- a whole array or struct is loaded, guarded or not -/
theorem load_box_g (d : Nat) (t : TypeId) (x : Operand) (e : TypeId) (b off : Nat) (old cs : List Value) (hag : IsAgg P t) (hsz : (P.info? t).map (·.size) = some cs.length) (hb : Box w b e old) (hx : act.eval x = .pointer (some ⟨b, off, none⟩))
    (hc : ∀ j u, cs[j]? = some u → old[off + j]? = some u) (hw : Region.wanted { dst := some d, op := .load t x, type := ty, pos := pos, after := after, guard := g } (yielded ops act.tmps) = true)
    (hK : wpList P ops Q rest (act.put (some d) (.agg cs.toArray)) w) :
    wpList P ops Q ({ dst := some d, op := .load t x, type := ty, pos := pos, after := after, guard := g } :: rest) act w :=
  unguard_any hw (load_box d t x e b off old cs hag hsz hb hx hc hK)
/-- '==' of two arrays of bytes, guarded or not -/
theorem eql_bytes_g (d : Nat) (t : TypeId) (x y : Operand) (e n : Nat) (ht : P.underlying t = some (.array n e)) (he : P.underlying e = some (.int .u8)) (hsz : (P.info? e).map (·.size) = some 1) (hgt : P.eqGuardType P.depth t = false)
    (xs ys : List UInt8) (hx : act.eval x = .agg (xs.map B8).toArray) (hy : act.eval y = .agg (ys.map B8).toArray) (hxl : xs.length = n) (hyl : ys.length = n)
    (hw : Region.wanted { dst := some d, op := .binOp .eql t x y t, type := ty, pos := pos, after := after, guard := g } (yielded ops act.tmps) = true)
    (hK : wpList P ops Q rest (act.put (some d) (.bool (decide (xs = ys)))) w) :
    wpList P ops Q ({ dst := some d, op := .binOp .eql t x y t, type := ty, pos := pos, after := after, guard := g } :: rest) act w := by
  refine unguard_any hw (val_at rfl _ ?_ hK)
  have h1 := run_eqGuard_agg (P := P) (w := w) .eql t x y (xs.map B8).toArray (ys.map B8).toArray hgt
  have h2 := run_eql_arr (P := P) w t e n .u8 ht he hsz (xs.map fun d => (d.toNat : Int)) (ys.map fun d => (d.toNat : Int)) (by simpa using hxl) (by simpa using hyl)
  rw [← bytes_ints, ← bytes_ints] at h2
  have h3 : decide ((xs.map fun d => (d.toNat : Int)) = (ys.map fun d => (d.toNat : Int))) = decide (xs = ys) := decide_eq_decide.2 bytes_inj
  rw [h3] at h2
  simp only [execOp, hx, hy, Sem.run_bind, h1, h2, Result.andThen_ok, Sem.run_pure]
end guarded
/-- a string's bytes -/
theorem str_none {y : ByteArray} (h : y.size = 0) : y.toList.isEmpty = true := by
  rw [Lib.toList_data, List.isEmpty_iff, ← List.length_eq_zero_iff]; exact h
theorem str_some {y : ByteArray} (h : y.size ≠ 0) : y.toList.isEmpty = false := by
  rw [Lib.toList_data, Bool.eq_false_iff, ne_eq, List.isEmpty_iff, ← List.length_eq_zero_iff]; exact h
theorem ext_list (y : ByteArray) (k : Nat) : (y.extract k y.size).data.toList = y.data.toList.drop k := by
  rw [Lib.extract_data]
  apply List.take_of_length_le
  rw [List.length_drop]
  exact Nat.le_of_eq rfl
end Go.Dx
end

/- the text Pg2 -/
section
/- A store into a slice that a call owns; a row of an owned page replaced. -/
namespace Go.Dx
open Go.RowKit
theorem Own.put {w : World} {B : Nat} {e : TypeId} {p : Addr} {n c : Nat} {xs : List Value} (h : Own w B e 1 (some p) n c xs) {i : Nat} (v : Value) : Own (w.setCell ⟨p.block, i, none⟩ v) B e 1 (some p) n c (xs.set i v) := by
  refine ⟨by rw [List.length_set]; exact h.1, ?_⟩
  rcases h.2 with ⟨h1, _⟩ | ⟨g, cap, cur, h1, h2, h3, h4, h5, h6, h7⟩
  · cases h1
  · injection h1 with h1 hn hc
    injection h1 with h1
    subst h1
    refine .inr ⟨g, cap, cur.setIfInBounds i v, by rw [hc], h2, ?_, h4, h5, by simpa using h6, ?_⟩
    · simp [World.setCell, Array.getElem?_modify, h3]
    · rw [Array.toList_setIfInBounds, ← h7, Nat.mul_one, List.take_set]
theorem Own.free {w : World} {B : Nat} {e : TypeId} {p : Addr} {n c : Nat} {sz : Nat} {xs : List Value} (h : Own w B e sz (some p) n c xs) (j : Nat) : w.frozen? ⟨p.block, j, none⟩ = false := by
  rcases h.2 with ⟨h1, _⟩ | ⟨g, cap, cur, h1, h2, h3, _⟩
  · cases h1
  · injection h1 with h1 hn hc
    injection h1 with h1
    subst h1
    simp [World.frozen?, h3]
theorem Own.at_ {w : World} {B : Nat} {e : TypeId} {b : Nat} {n c : Nat} {xs : List Value} (h : Own w B e 1 (some ⟨b, 0, none⟩) n c xs) {j : Nat} {v : Value} (hj : xs[j]? = some v) : w.cell? ⟨b, j, none⟩ = some v := by
  have := h.sl.cell ⟨b, 0, none⟩ rfl j v hj
  rw [Addr.add_lit, Nat.zero_add] at this
  exact this
theorem Own.zero {w : World} {B : Nat} {e : TypeId} {p : Addr} {n c : Nat} {sz : Nat} {xs : List Value} (h : Own w B e sz (some p) n c xs) : p = ⟨p.block, 0, none⟩ := by
  rcases h.2 with ⟨h1, _⟩ | ⟨g, cap, cur, h1, _⟩
  · cases h1
  · injection h1 with h1 hn hc
    injection h1 with h1
    subst h1; rfl
theorem Own.set_other {w : World} {B : Nat} {e : TypeId} {a : Option Addr} {n c : Nat} {sz : Nat} {xs : List Value} (h : Own w B e sz a n c xs) {p : Addr} (hp : ∀ q, a = some q → q.block ≠ p.block) (v : Value) : Own (w.setCell p v) B e sz a n c xs := by
  refine ⟨h.1, ?_⟩
  rcases h.2 with h1 | ⟨g, cap, cur, h1, h2, h3, r⟩
  · exact .inl h1
  · refine .inr ⟨g, cap, cur, h1, h2, ?_, r⟩
    injection h1 with h1
    rw [Below.heap_setCell w p v g (hp _ h1)]
    exact h3
end Go.Dx
namespace Go.Proofs.Ytdeknimelkdaeaa
open Go.RowKit Go.Dx
theorem OPage.top_kept {w w' : World} {B : Nat} {t : Addr} {c : Nat} {hs : List Hd} {p : List (List UInt8)} {i : Nat} {x : Hd} (h : OPage w B (some t) c hs p) (hi : hs[i]? = some x)
    (hg : w.grownBy w' (x.1.map (·.block))) : Own w' B 31 1 (some t) p.length c (hs.map hv) := by
  have hil : i < hs.length := (List.getElem?_eq_some_iff.1 hi).1
  have hp : i < p.length := by rw [← h.len]; exact hil
  refine h.top.kept hg fun q hq => ?_
  cases hq
  have ho := h.row i x p[i] hi (by simp [hp])
  cases hx : x.1 with
  | none => simp
  | some q' =>
    rw [hx] at ho
    have := own_ne h.top ho (by decide)
    simpa using this
/-- one row of an owned page replaced by another that is owned -/
theorem OPage.replace {w w' : World} {B : Nat} {t : Addr} {c : Nat} {hs : List Hd} {p : List (List UInt8)} {i : Nat} {x y : Hd} {r : List UInt8} (h : OPage w B (some t) c hs p) (hi : hs[i]? = some x)
    (hg : w.grownBy w' (x.1.map (·.block))) (hne : ∀ j z, hs[j]? = some z → j ≠ i → ∀ q q', z.1 = some q → x.1 = some q' → q.block ≠ q'.block) (hy : Own w' B 5 1 y.1 y.2.1 y.2.2 (r.map B8)) :
    OPage (w'.setCell ⟨t.block, i, none⟩ (hv y)) B (some t) c (hs.set i y) (p.set i r) := by
  have hil : i < hs.length := (List.getElem?_eq_some_iff.1 hi).1
  have hxi := h.row i x
  have ht : Own w' B 31 1 (some t) p.length c (hs.map hv) := by
    refine h.top.kept hg fun q hq => ?_
    cases hq
    have hp : i < p.length := by rw [← h.len]; exact hil
    have ho := hxi p[i] hi (by simp [hp])
    cases hx : x.1 with
    | none => simp
    | some q' =>
      rw [hx] at ho
      have := own_ne h.top ho (by decide)
      simpa using this
  refine ⟨?_, by rw [List.length_set, List.length_set]; exact h.len, ?_⟩
  · have := ht.put (i := i) (hv y)
    rw [List.length_set, List.map_set]; exact this
  · intro j z s hz hs'
    rw [List.getElem?_set] at hz hs'
    by_cases hj : i = j
    · subst hj
      rw [if_pos rfl, if_pos hil] at hz
      rw [if_pos rfl, if_pos (by rw [← h.len]; exact hil)] at hs'
      cases hz; cases hs'
      refine hy.set_other (fun q hq => ?_) _
      rw [hq] at hy
      have := own_ne hy ht (by decide)
      exact this
    · rw [if_neg hj] at hz hs'
      have ho := h.row j z s hz hs'
      have ho' : Own w' B 5 1 z.1 z.2.1 z.2.2 (s.map B8) := ho.kept hg fun q hq => by
        cases hx : x.1 with
        | none => simp
        | some q' =>
          have := hne j z hz (fun e => hj e.symm) q q' hq hx
          simpa using this
      refine ho'.set_other (fun q hq => ?_) _
      rw [hq] at ho'
      have := own_ne ho' ht (by decide)
      exact this
end Go.Proofs.Ytdeknimelkdaeaa
end

/- the text Fr -/
section
/- What a step changes, told by blocks; rows of bytes, which no step of these programs changes. (The same words as in XK8, without chapter 37: never import both.) -/
set_option linter.unusedVariables false
namespace Go.Proofs.Ytdeknimelkdaeaa
open Go.RowKit Go.Dx
/-- rows of bytes, wherever they lie -/
def Rows (w : World) (hs : List Hd) (p : List (List UInt8)) : Prop :=
  hs.length = p.length ∧ ∀ (i : Nat) (h : Hd) (r : List UInt8), hs[i]? = some h → p[i]? = some r → Sl w 1 h.1 h.2.1 h.2.2 (r.map B8) ∧ Kind w h.1
theorem Rows.nil (w : World) : Rows w [] [] := ⟨rfl, fun i h r h1 => by cases h1⟩
theorem Rows.below {w w' : World} {hs : List Hd} {p : List (List UInt8)} (h : Rows w hs p) (hb : Below w.heap.size w w') : Rows w' hs p :=
  ⟨h.1, fun i x r h1 h2 => ⟨(h.2 i x r h1 h2).1.below hb, (h.2 i x r h1 h2).2.below hb⟩⟩
theorem Rows.append {w : World} {hs hs' : List Hd} {p p' : List (List UInt8)} (h : Rows w hs p) (h' : Rows w hs' p') : Rows w (hs ++ hs') (p ++ p') := by
  refine ⟨by rw [List.length_append, List.length_append, h.1, h'.1], fun i x r h1 h2 => ?_⟩
  rw [List.getElem?_append] at h1 h2
  by_cases hi : i < hs.length
  · rw [if_pos hi] at h1
    rw [if_pos (by rw [← h.1]; exact hi)] at h2
    exact h.2 i x r h1 h2
  · rw [if_neg hi] at h1
    rw [if_neg (by rw [← h.1]; exact hi), ← h.1] at h2
    exact h'.2 _ x r h1 h2
theorem Rows.one {w : World} {x : Hd} {r : List UInt8} (h : Sl w 1 x.1 x.2.1 x.2.2 (r.map B8)) (k : Kind w x.1) : Rows w [x] [r] := by
  refine ⟨rfl, fun i y s h1 h2 => ?_⟩
  cases i with
  | zero => simp at h1 h2; subst h1 h2; exact ⟨h, k⟩
  | succ i => simp at h1
theorem Rows.drop {w : World} {hs : List Hd} {p : List (List UInt8)} (h : Rows w hs p) (k : Nat) : Rows w (hs.drop k) (p.drop k) :=
  ⟨by rw [List.length_drop, List.length_drop, h.1], fun i x r h1 h2 => h.2 (k + i) x r (by rw [List.getElem?_drop] at h1; exact h1) (by rw [List.getElem?_drop] at h2; exact h2)⟩
theorem Rows.take {w : World} {hs : List Hd} {p : List (List UInt8)} (h : Rows w hs p) (k : Nat) : Rows w (hs.take k) (p.take k) := by
  refine ⟨by rw [List.length_take, List.length_take, h.1], fun i x r h1 h2 => ?_⟩
  rw [List.getElem?_take] at h1 h2
  split at h1
  · rename_i hi
    rw [if_pos hi] at h2
    exact h.2 i x r h1 h2
  · cases h1
/-- block b holds no bytes -/
def NoB (w : World) (b : Nat) : Prop := ∀ C z, w.heap[b]? ≠ some (.cells C 5 z)
theorem NoB.box {w : World} {b : Nat} {t : TypeId} {cs : List Value} (h : Box w b t cs) (ht : t ≠ 5) : NoB w b := fun C z hc => by
  have hx : w.heap[b]? = some (.cells cs.toArray t (0, 0)) := h
  rw [hc] at hx
  injection hx with hx
  injection hx with _ hx
  exact ht hx.symm
theorem NoB.own {w : World} {B : Nat} {t : TypeId} {sz : Nat} {q : Addr} {n c : Nat} {cs : List Value} (h : Own w B t sz (some q) n c cs) (ht : t ≠ 5) : NoB w q.block := fun C z hc => kind_ne h hc ht rfl
theorem Kind.kept {w w' : World} {row : Option Nat} {a : Option Addr} (h : Kind w a) (hg : w.grownBy w' row) (hn : ∀ b, row = some b → NoB w b) : Kind w' a := fun q hq => by
  obtain ⟨C, z, hc⟩ := h q hq
  exact ⟨C, z, by rw [hg.block q.block (Array.getElem?_eq_some_iff.1 hc).1 (fun e => hn _ e.symm C z hc)]; exact hc⟩
theorem sl_kept {w w' : World} {row : Option Nat} {a : Option Addr} {sz n c : Nat} {cs : List Value} (h : Sl w sz a n c cs) (k : Kind w a) (hg : w.grownBy w' row) (hn : ∀ b, row = some b → NoB w b) : Sl w' sz a n c cs :=
  h.grown hg fun q hq e => by
    obtain ⟨C, z, hc⟩ := k q hq
    exact hn _ e.symm C z hc
theorem Rows.kept {w w' : World} {row : Option Nat} {hs : List Hd} {p : List (List UInt8)} (h : Rows w hs p) (hg : w.grownBy w' row) (hn : ∀ b, row = some b → NoB w b) : Rows w' hs p :=
  ⟨h.1, fun i x r h1 h2 => ⟨sl_kept (h.2 i x r h1 h2).1 (h.2 i x r h1 h2).2 hg hn, (h.2 i x r h1 h2).2.kept hg hn⟩⟩
/-- all blocks but those of S are as they were -/
structure Fr (S : List Nat) (w w' : World) : Prop where
  os : w'.os = w.os
  tape : w'.tape = w.tape
  output : w'.output = w.output
  size : w.heap.size ≤ w'.heap.size
  block : ∀ k, k < w.heap.size → k ∉ S → w'.heap[k]? = w.heap[k]?
theorem Fr.refl (S : List Nat) (w : World) : Fr S w w := ⟨rfl, rfl, rfl, Nat.le_refl _, fun _ _ _ => rfl⟩
theorem Fr.trans {S : List Nat} {w w' w'' : World} (h : Fr S w w') (k : Fr S w' w'') : Fr S w w'' :=
  ⟨k.os.trans h.os, k.tape.trans h.tape, k.output.trans h.output, Nat.le_trans h.size k.size, fun i hi hS => (k.block i (Nat.lt_of_lt_of_le hi h.size) hS).trans (h.block i hi hS)⟩
theorem Fr.below {S : List Nat} {w w' w'' : World} (h : Fr S w w') (k : Below w'.heap.size w' w'') : Fr S w w'' :=
  ⟨k.os.trans h.os, k.tape.trans h.tape, k.output.trans h.output, Nat.le_trans h.size k.size, fun i hi hS => (k.block i (Nat.lt_of_lt_of_le hi h.size)).trans (h.block i hi hS)⟩
theorem Fr.of {S : List Nat} {w w' : World} (k : Below w.heap.size w w') : Fr S w w' := (Fr.refl S w).below k
theorem Fr.grown {S : List Nat} {w w' w'' : World} {row : Option Nat} (h : Fr S w w') (k : w'.grownBy w'' row) (hb : ∀ b, row = some b → b ∈ S ∨ w.heap.size ≤ b) : Fr S w w'' :=
  ⟨k.os.trans h.os, k.tape.trans h.tape, k.output.trans h.output, Nat.le_trans h.size k.size, fun i hi hS => (k.block i (Nat.lt_of_lt_of_le hi h.size) (fun e => by rcases hb i e.symm with h1 | h1; exact hS h1; omega)).trans (h.block i hi hS)⟩
theorem Fr.nil {w w' : World} (h : Fr [] w w') : Below w.heap.size w w' := ⟨h.os, h.tape, h.output, h.size, fun k hk => h.block k hk (by simp)⟩
theorem Rows.fr {S : List Nat} {w w' : World} {hs : List Hd} {p : List (List UInt8)} (h : Rows w hs p) (hf : Fr S w w') (hn : ∀ b ∈ S, NoB w b) : Rows w' hs p := by
  refine ⟨h.1, fun i x r h1 h2 => ?_⟩
  obtain ⟨s, k⟩ := h.2 i x r h1 h2
  have hbl : ∀ q, x.1 = some q → w'.heap[q.block]? = w.heap[q.block]? := fun q hq => by
    obtain ⟨C, z, hc⟩ := k q hq
    exact hf.block q.block (Array.getElem?_eq_some_iff.1 hc).1 (fun hS => hn _ hS C z hc)
  refine ⟨⟨s.len, s.le, s.cap, s.nil, fun q hq j u hj => ?_⟩, fun q hq => ?_⟩
  · have h3 := s.cell q hq j u hj
    have hq2 : (q.add j).block = q.block := by unfold Addr.add; split <;> rfl
    have hq3 : w'.cell? (q.add j) = w.cell? (q.add j) := World.cell?_of_block (by rw [hq2]; exact hbl q hq)
    rw [hq3]
    exact h3
  · obtain ⟨C, z, hc⟩ := k q hq
    exact ⟨C, z, by rw [hbl q hq]; exact hc⟩
theorem own_same {w w' : World} {B : Nat} {t : TypeId} {sz : Nat} {a : Option Addr} {n c : Nat} {cs : List Value} (h : Own w B t sz a n c cs) (hb : ∀ q, a = some q → w'.heap[q.block]? = w.heap[q.block]?) : Own w' B t sz a n c cs := by
  refine ⟨h.1, ?_⟩
  rcases h.2 with h2 | ⟨g, cap, cur, h1, h2, h3, h4⟩
  · exact .inl h2
  · injection h1 with h5 h6 h7
    exact .inr ⟨g, cap, cur, by rw [h5, h7], h2, (hb _ h5).trans h3, h4⟩
theorem own_fr {w w' : World} {B : Nat} {t : TypeId} {sz : Nat} {a : Option Addr} {n c : Nat} {cs : List Value} {S : List Nat} (h : Own w B t sz a n c cs) (hf : Fr S w w') (hd : ∀ b ∈ (a.map (·.block)).toList, b ∉ S) : Own w' B t sz a n c cs :=
  own_same h fun q hq => hf.block q.block (World.ownsRow.lt h _ (by rw [hq]; rfl)).2 (hd q.block (by rw [hq]; simp))
theorem own_lt {w : World} {B : Nat} {t : TypeId} {sz : Nat} {a : Option Addr} {n c : Nat} {cs : List Value} (h : Own w B t sz a n c cs) : ∀ b ∈ (a.map (·.block)).toList, B ≤ b ∧ b < w.heap.size := fun b hb => by
  cases a with
  | none => cases hb
  | some q =>
    simp at hb
    subst hb
    exact World.ownsRow.lt h _ rfl
theorem own_nobs {w : World} {B : Nat} {t : TypeId} {sz : Nat} {a : Option Addr} {n c : Nat} {cs : List Value} (h : Own w B t sz a n c cs) (ht : t ≠ 5) : ∀ b ∈ (a.map (·.block)).toList, NoB w b := fun b hb => by
  cases a with
  | none => cases hb
  | some q =>
    simp at hb
    subst hb
    exact NoB.own h ht
theorem Fr.on {S S' : List Nat} {w w1 w2 : World} (h : Fr S w w1) (k : Fr S' w1 w2) (hs : ∀ b ∈ S', b ∈ S ∨ w.heap.size ≤ b) : Fr S w w2 :=
  ⟨k.os.trans h.os, k.tape.trans h.tape, k.output.trans h.output, Nat.le_trans h.size k.size, fun i hi hS => (k.block i (Nat.lt_of_lt_of_le hi h.size) (fun hh => by rcases hs i hh with h1 | h1; exact hS h1; omega)).trans (h.block i hi hS)⟩
theorem Fr.more {S S' : List Nat} {w w' : World} (h : Fr S w w') (hs : ∀ b ∈ S, b ∈ S') : Fr S' w w' := ⟨h.os, h.tape, h.output, h.size, fun k hk hS => h.block k hk (fun hh => hS (hs k hh))⟩
theorem Fr.blw {S : List Nat} {B : Nat} {w w' : World} (h : Fr S w w') (hB : B ≤ w.heap.size) (hS : ∀ b ∈ S, B ≤ b) : Below B w w' :=
  ⟨h.os, h.tape, h.output, h.size, fun k hk => h.block k (by omega) (fun hh => by have := hS k hh; omega)⟩
theorem Kind.own {w : World} {B : Nat} {a : Option Addr} {n c : Nat} {cs : List Value} (h : Own w B 5 1 a n c cs) : Kind w a := fun q hq => by
  rcases h.2 with ⟨h1, _⟩ | ⟨g, cap, cur, h1, _, h2, _⟩
  · injection h1 with h1; rw [hq] at h1; cases h1
  · injection h1 with h1
    rw [hq] at h1
    injection h1 with h1
    subst h1
    exact ⟨_, _, h2⟩
theorem Fr.ofGrown {w w' : World} {row : Option Nat} (h : w.grownBy w' row) : Fr row.toList w w' := (Fr.refl _ w).grown h fun b hb => .inl (by rw [hb]; simp)
end Go.Proofs.Ytdeknimelkdaeaa
end

/- the text Que -/
section
/- A slice into a row of the call's own, from any place on: what it reads as, its cut, the append to it. No program in sight. -/
set_option linter.unusedVariables false
namespace Go.Dx
open Go.RowKit
def Que (w : World) (e : TypeId) (sz : Nat) (a : Option Addr) (n c : Nat) (cs : List Value) : Prop :=
  cs.length = n * sz ∧ ((a = none ∧ n = 0 ∧ c = 0) ∨ ∃ g off cur, a = some ⟨g, off, none⟩ ∧ w.heap[g]? = some (.cells cur e (0, 0)) ∧ n ≤ c ∧ c ≤ maxLen ∧ off + c * sz ≤ cur.size ∧ (cur.toList.drop off).take (n * sz) = cs)
section
variable {w w' : World} {e : TypeId} {sz : Nat} {a : Option Addr} {n c : Nat} {cs : List Value}
theorem Que.nil (w : World) (e : TypeId) (sz : Nat) : Que w e sz none 0 0 [] := ⟨by simp, .inl ⟨rfl, rfl, rfl⟩⟩
theorem Que.sl (h : Que w e sz a n c cs) : Sl w sz a n c cs := by
  rcases h.2 with ⟨rfl, rfl, rfl⟩ | ⟨g, off, cur, rfl, h1, h2, h3, h4, h5⟩
  · exact ⟨h.1, Nat.le_refl _, Nat.zero_le _, fun _ => rfl, fun p hp => by cases hp⟩
  · refine ⟨h.1, h2, h3, (fun hh => by cases hh), fun p hp j u hj => ?_⟩
    cases hp
    rw [Addr.add_lit, cell_of_row w g (off + j) cur e (0, 0) h1]
    rw [← h5, List.getElem?_take] at hj
    split at hj
    · rw [List.getElem?_drop, Array.getElem?_toList] at hj
      exact hj
    · cases hj
theorem Que.of_own {B : Nat} (h : Own w B e sz a n c cs) : Que w e sz a n c cs := by
  refine ⟨h.1, ?_⟩
  rcases h.2 with ⟨h1, h2⟩ | ⟨g, cap, cur, h1, _, h2, h3, h4, h5, h6⟩
  · injection h1 with e1 e2 e3
    exact .inl ⟨e1, by omega, e3⟩
  · injection h1 with e1 e2 e3
    subst e3
    exact .inr ⟨g, 0, cur, e1, h2, h3, h4, by omega, by simpa using h6⟩
theorem Que.lt (h : Que w e sz a n c cs) : ∀ b ∈ (a.map (·.block)).toList, b < w.heap.size := fun b hb => by
  rcases h.2 with ⟨rfl, _⟩ | ⟨g, off, cur, rfl, h1, _⟩
  · cases hb
  · simp at hb
    subst hb
    exact (Array.getElem?_eq_some_iff.1 h1).1
theorem Que.same (h : Que w e sz a n c cs) (hb : ∀ b ∈ (a.map (·.block)).toList, w'.heap[b]? = w.heap[b]?) : Que w' e sz a n c cs := by
  refine ⟨h.1, ?_⟩
  rcases h.2 with h1 | ⟨g, off, cur, rfl, h1, r⟩
  · exact .inl h1
  · exact .inr ⟨g, off, cur, rfl, (hb g (by simp)).trans h1, r⟩
theorem Que.below (h : Que w e sz a n c cs) (hb : Below w.heap.size w w') : Que w' e sz a n c cs := h.same fun b hm => hb.block b (h.lt b hm)
/-- the slice from l on (the address that the model gives) -/
theorem Que.cut (h : Que w e sz a n c cs) (l : Nat) (hl : l ≤ n) : Que w e sz (if c = l then a else a.map (·.add (l * sz))) (n - l) (c - l) (cs.drop (l * sz)) := by
  refine ⟨by rw [List.length_drop, h.1, Nat.sub_mul], ?_⟩
  rcases h.2 with ⟨rfl, rfl, rfl⟩ | ⟨g, off, cur, rfl, h1, h2, h3, h4, h5⟩
  · left
    refine ⟨?_, by omega, by omega⟩
    split <;> rfl
  · right
    by_cases hc : c = l
    · rw [if_pos hc]
      refine ⟨g, off, cur, rfl, h1, by omega, by omega, ?_, ?_⟩
      · have : c - l = 0 := by omega
        rw [this]
        have := Nat.zero_le (c * sz)
        omega
      · have e1 : n - l = 0 := by omega
        have e2 : cs.drop (l * sz) = [] := List.drop_of_length_le (by rw [h.1]; exact Nat.mul_le_mul_right _ (by omega))
        rw [e1, e2]
        simp
    · rw [if_neg hc]
      refine ⟨g, off + l * sz, cur, by simp [Addr.add_lit], h1, by omega, by omega, ?_, ?_⟩
      · have : l * sz + (c - l) * sz = c * sz := by rw [← Nat.add_mul]; congr 1; omega
        omega
      · rw [← h5, List.drop_take, List.drop_drop, Nat.sub_mul]
end
section
variable {P : Program} {w : World} {ops : Array Oper} {rest : List Oper} {o : Oper} {act : Act} {Q : Exit → Act → World → Prop}
theorem run_append_que (t tx ty e : TypeId) (i : TypeInfo) (z : Value) (ht : P.underlying t = some (.slice e)) (hi : P.info? e = some i) (hz : i.zero = some z)
    (hzs : z.cells.size = i.size) (a : Option Addr) (n c : Nat) (xs : List Value) (hown : Que w e i.size a n c xs)
    (x : Value) (m : Nat) (news : List Value) (hs : Src P i.size tx x m news w)
    (h63 : n + m ≤ maxLen) (hbytes : (n + m) * i.bytes ≤ 140737488355328) :
    ∃ a' c' w', (Builtin.append_ #[t, tx] ty #[.slice a n c, x]).run P w = .ok (.slice a' (n + m) c') w' ∧ Que w' e i.size a' (n + m) c' (xs ++ news) ∧ w.grownBy w' (a.map (·.block)) ∧ (∀ b ∈ (a'.map (·.block)).toList, b ∈ (a.map (·.block)).toList ∨ w.heap.size ≤ b) := by
  have hsmall : n + m ≤ 9223372036854775807 := by simp only [maxLen] at h63; omega
  have hlen : (xs ++ news).length = (n + m) * i.size := by rw [List.length_append, hown.1, hs.newsLen, Nat.add_mul]
  have hold : (Builtin.firstCells i.size n (.slice a n c)).run P w.drew = .ok xs.toArray w.drew := by
    have hsl := hown.sl
    cases a with
    | none =>
      have := hsl.nil rfl
      have := hsl.le
      obtain rfl : n = 0 := by omega
      have hnews : xs = [] := List.eq_nil_of_length_eq_zero (by simpa using hsl.len)
      subst hnews
      exact run_firstCells_none w.drew i.size 0 0 c
    | some p => exact run_firstCells_some w.drew i.size n p n c xs hsl.len (by simpa using hsl.cell p rfl)
  by_cases hroom : n + m ≤ c
  · rcases hown.2 with ⟨h1, h3, h4⟩ | ⟨g, off, cur, h1, hg, hnc, hcm, hcs, htake⟩
    · subst h1 h3 h4
      obtain rfl : m = 0 := by omega
      have hx : xs = [] := List.eq_nil_of_length_eq_zero (by simpa using hown.1)
      have hnews : news = [] := List.eq_nil_of_length_eq_zero (by simpa using hs.newsLen)
      subst hx hnews
      refine ⟨none, 0, w, ?_, Que.nil w e i.size, World.grownBy.refl _ _, fun b hb => by cases hb⟩
      rcases hs.kind with ⟨e', hk⟩ | hk <;> simp [Builtin.append_, run_underlying ht, run_underlying hk, sizeOf, typeInfo, hi, hs.len, hs.cells]
    · subst h1
      have hfit : off + n * i.size + news.length ≤ cur.size := by
        have : n * i.size + news.length ≤ c * i.size := by rw [hs.newsLen, ← Nat.add_mul]; exact Nat.mul_le_mul_right _ hroom
        omega
      have hst := run_storeCells_at P g (off + n * i.size) e news 0 cur w hg (by simpa using hfit) hs.one
      simp only [Nat.add_zero] at hst
      refine ⟨some ⟨g, off, none⟩, c, w.setRow g (cur.toList.take (off + n * i.size) ++ news ++ cur.toList.drop (off + n * i.size + news.length)).toArray, ?_, ⟨hlen, .inr ⟨g, off, _, rfl, setRow_heap w g cur _ e _ hg, hroom, hcm, ?_, ?_⟩⟩, ⟨rfl, rfl, rfl, by simp, fun k _ hk => setRow_other w g k _ (fun e => hk (by simp [e]))⟩, fun b hb => .inl hb⟩
      · rcases hs.kind with ⟨e', hk⟩ | hk <;> simp [Builtin.append_, run_underlying ht, run_underlying hk, sizeOf, typeInfo, hi, hs.len, hroom, hs.cells, Addr.add_lit, hst]
      · simp only [List.size_toArray, List.length_append, List.length_take, List.length_drop, Array.length_toList]
        omega
      · have e1 : off ≤ (cur.toList.take (off + n * i.size)).length := by rw [List.length_take, Array.length_toList]; omega
        have e2 : (cur.toList.take (off + n * i.size)).drop off = xs := by
          rw [List.drop_take, Nat.add_sub_cancel_left]
          exact htake
        show ((cur.toList.take (off + n * i.size) ++ news ++ cur.toList.drop (off + n * i.size + news.length)).drop off).take _ = _
        rw [List.append_assoc, List.drop_append_of_le_length e1, e2, ← List.append_assoc, ← hlen]
        exact List.take_left
  · have hr := run_append_grow_src (P := P) w t tx ty e i z ht hi hz a n c xs hold x m news hs (by omega) (by omega) (growslice_fits (by omega) hbytes)
    have hge := grownCap_ge w (n + m) c e
    have hcm : grownCap w (n + m) c e ≤ maxLen := grownCap_le_maxLen w (n + m) c e h63
    refine ⟨_, _, _, hr, ⟨hlen, .inr ⟨w.heap.size, 0, _, rfl, heap_alloc_new w.drew _, hge, hcm, ?_, ?_⟩⟩, ⟨rfl, rfl, rfl, by simp, fun k hk _ => Below.heap_alloc w.drew _ k hk⟩, fun b hb => .inr (by simp at hb; omega)⟩
    · simp only [Array.size_append, List.size_toArray, size_zeroCells, hzs, hlen, ← Nat.add_mul]
      have : n + m + (grownCap w (n + m) c e - (n + m)) = grownCap w (n + m) c e := by omega
      rw [this]
      omega
    · simp only [Array.toList_append, List.append_assoc, List.drop_zero]
      rw [← List.append_assoc, ← hlen]
      exact List.take_left
/-- 'append(q, ys...)', q such a slice -/
theorem append_que (hg : o.guard = none) (s x : Operand) (t : TypeId) (hop : o.op = Op.call { callee := Callee.builtin Builtin.append, args := #[s, x], argTypes := #[t, t] })
    (e : TypeId) (z : Value) (sz bytes : Nat) (ht : P.underlying t = some (.slice e)) (hi : (P.info? e).map (fun i => (i.zero, i.size, i.bytes)) = some (some z, sz, bytes)) (hz : z.cells.size = sz)
    (a : Option Addr) (n c : Nat) (xs : List Value) (hs : act.eval s = .slice a n c) (hown : Que w e sz a n c xs)
    (a2 : Option Addr) (m c2 : Nat) (ys : List Value) (hx : act.eval x = .slice a2 m c2) (hy : Sl w sz a2 m c2 ys) (h1 : ∀ u ∈ ys, u.oneCell' = true)
    (hn : (n + m) * bytes ≤ 140737488355328) (hn2 : n + m ≤ maxLen)
    (hK : ∀ a' c' w', Que w' e sz a' (n + m) c' (xs ++ ys) → w.grownBy w' (a.map (·.block)) → (∀ b ∈ (a'.map (·.block)).toList, b ∈ (a.map (·.block)).toList ∨ w.heap.size ≤ b) → wpList P ops Q rest (act.put o.dst (.slice a' (n + m) c')) w') :
    wpList P ops Q (o :: rest) act w := by
  obtain ⟨i, hi0, hz0, hz1, hz2⟩ := info_parts hi
  subst hz1 hz2
  clear hi
  obtain ⟨a', c', w', hrun, ho, hgr, hfr⟩ := run_append_que t t o.type e i z ht hi0 hz0 hz a n c xs hown _ m ys (hy.src ht h1) hn2 hn
  refine wpList_plain hg fun K hK' => ?_
  unfold Oper.wp
  simp [execOp, hop, resolve, invoke, builtin, hs, hx, hrun, Result.andThen]
  exact hK' _ _ (hK a' c' w' ho hgr hfr)
/-- 'q[l:]', q such a slice -/
theorem cut_que {ty : TypeId} {pos : String} {after : Array Edge} (d : Nat) (t : TypeId) (x lo : Operand) (e : TypeId) (ht : P.underlying t = some (.slice e)) (sz : Nat) (hsz : (P.info? e).map (·.size) = some sz)
    (a : Option Addr) (n c : Nat) (cs : List Value) (hx : act.eval x = .slice a n c) (hs : Que w e sz a n c cs) (kl : IntKind) (lv : Int) (l : Nat) (hl : act.eval lo = .int kl lv)
    (hlv : lv = (l : Int)) (hln : l ≤ n)
    (hK : ∀ a', Que w e sz a' (n - l) (c - l) (cs.drop (l * sz)) → (∀ b ∈ (a'.map (·.block)).toList, b ∈ (a.map (·.block)).toList) → wpList P ops Q rest (act.put (some d) (.slice a' (n - l) (c - l))) w) :
    wpList P ops Q ({ dst := some d, op := .slice t x (some lo) none none, type := ty, pos := pos, after := after, guard := none } :: rest) act w := by
  refine wpList_plain rfl fun K hK' => ?_
  subst hlv
  obtain ⟨i0, hi0, hs0⟩ := Option.map_eq_some_iff.1 hsz
  have hle := hs.sl.le
  have hrun : (Instr.sliceAt t (.slice a n c) (some (.int kl (l : Int))) none none).run P w = .ok (.slice (if c = l then a else a.map (·.add (l * sz))) (n - l) (c - l)) w := by
    have h2 : (0 : Int) ≤ l ∧ (l : Int) ≤ n := by omega
    simp [Instr.sliceAt, Instr.slice, Instr.sliceBounds, Instr.sliceBound, asIntOf, run_underlying ht, sizeOf, typeInfo, hi0, hs0, h2, hln]
  unfold Oper.wp
  simp only [execOp, Option.map_some, Option.map_none, hx, hl, Sem.run_bind, hrun, Result.andThen, Sem.run_pure]
  refine hK' _ _ (hK _ (hs.cut l hln) ?_)
  intro b hb
  by_cases hc : c = l
  · rw [if_pos hc] at hb; exact hb
  · rw [if_neg hc] at hb
    cases a with
    | none => cases hb
    | some q =>
      simp only [Option.map_some, Option.toList_some, List.mem_singleton] at hb ⊢
      rw [hb]
      unfold Addr.add; split <;> rfl
end
end Go.Dx
end

/- the text C9 -/
section
namespace Go.Proofs.Ytdeknimelkdaeaa
open Go.RowKit Go.Dx

theorem Sl.drewN {w : World} {sz : Nat} {a : Option Addr} {n c : Nat} {cs : List Value} (h : Sl w sz a n c cs) (m : Nat) : Sl (w.drewN m) sz a n c cs := ⟨h.len, h.le, h.cap, h.nil, h.cell⟩

theorem quiet_more {P : Program} {f : FuncId} {args : Array Value} {w : World} {a n : Nat} {v : Value} (h : Calls P f args ((w.drewN a).drewN n) (Still v ((w.drewN a).drewN n))) :
    Calls P f args ((w.drewN a).drewN n) fun e w'' => e = .returned v ∧ ∃ m, w'' = (w.drewN a).drewN m :=
  h.mono fun _ _ ⟨he, m, hm⟩ => ⟨he, n + m, by rw [hm, World.drewN_drewN]⟩
theorem quiet_flat {P : Program} {f : FuncId} {args : Array Value} {w : World} {a n : Nat} {v : Value} (h : Calls P f args (w.drewN (a + n)) (Still v (w.drewN (a + n)))) :
    Calls P f args (w.drewN (a + n)) fun e w'' => e = .returned v ∧ ∃ m, w'' = w.drewN (a + m) :=
  h.mono fun _ _ ⟨he, m, hm⟩ => ⟨he, n + m, by rw [hm, World.drewN_drewN, Nat.add_assoc]⟩
set_option maxHeartbeats 400000 in
theorem ref_Equal (p q : List (List UInt8)) (h1 h2 : List Hd) (a1 a2 : Option Addr) (n1 n2 c1 c2 : Nat) (w : World) (hp : Pg w a1 n1 c1 h1 p) (hq : Pg w a2 n2 c2 h2 q) :
    Calls Try.prog 32 #[.slice a1 n1 c1, .slice a2 n2 c2] w (Still (.bool (decide (p = q))) w) := by
  obtain rfl := hp.n_eq
  obtain rfl := hq.n_eq
  have hm1 := Nat.le_trans hp.top.le hp.top.cap
  have hm2 := Nat.le_trans hq.top.le hq.top.cap
  unfold maxLen at hm1 hm2
  by_cases hlen : p.length = q.length
  · have hb := eq_nat hlen
    have hle1 : p.length ≤ q.length := by omega
    have hle2 : q.length ≤ p.length := by omega
    have HL := hide hlen
    clear hlen
    go_enter Try.func32, Try.ntmps32
    go_wp2
    go_loopg [5] p.length (fun g i w' => ∃ (k n : Nat), k ≤ p.length ∧ g = p.length - k ∧ p.take k = q.take k ∧ i = .int .i64 k ∧ w' = w.drewN n)
    case atStart => exact ⟨0, 0, by omega, by omega, rfl, rfl, rfl⟩
    case round =>
      obtain ⟨k, nq, hk, hg, ht, rfl, rfl⟩ := hrel
      have HG := hide hg
      have HT := hide ht
      clear hg ht
      by_cases hkl : k < p.length
      · obtain ⟨b1, o1, rfl, hb1, hc1⟩ := hp.top.ex (by rw [List.length_map, hp.len]; omega)
        obtain ⟨b2, o2, rfl, hb2, hc2⟩ := hq.top.ex (by rw [List.length_map, hq.len]; omega)
        obtain ⟨x, hx⟩ : ∃ x, p[k]? = some x := ⟨p[k], by simp [hkl]⟩
        obtain ⟨y, hy⟩ : ∃ y, q[k]? = some y := ⟨q[k]'(by omega), by simp⟩
        obtain ⟨ax, cx, hux, hsx⟩ := hp.get hx
        obtain ⟨ay, cy, huy, hsy⟩ := hq.get hy
        have hx1 : w.cell? ⟨b1, o1 + k, none⟩ = some (.slice ax x.length cx) := hc1 k _ hux
        have hy1 : w.cell? ⟨b2, o2 + k, none⟩ = some (.slice ay y.length cy) := hc2 k _ huy
        have HX := hide (same_step' hx hy HT.out)
        have hcall := fun m => ref_Same x y _ _ _ _ _ _ (w.drewN m) (Sl.drewN hsx m) (Sl.drewN hsy m)
        clear hc1 hc2 hx hy hux huy
        by_cases hxy : x = y
        · have HE := hide (HX.out.1 hxy)
          rw [decide_eq_true hxy] at hcall
          clear hxy
          go_wp2
          go_quiet ((go_at_call 52; first | exact quiet_more (hcall _) | exact quiet_flat (hcall _)))
          go_wp2
          go_roundg (p.length - (k + 1))
          case measure => have := HG.out; omega
          case rel => exact ⟨k + 1, _, by omega, rfl, HE.out, by go_num, by first | rfl | exact World.drewN_drewN _ _ _⟩
        · have HE := hide (ne_of_take' (fun e => hxy (HX.out.2 e)))
          have hne : Value.bool (decide (p = q)) = .bool false := by rw [decide_eq_false HE.out]
          have HN := hide hne
          rw [decide_eq_false hxy] at hcall
          clear hne hxy
          go_wp2
          go_quiet ((go_at_call 52; first | exact quiet_more (hcall _) | exact quiet_flat (hcall _)))
          go_wp2
          go_ret
          exact ⟨by rw [HN.out]; rfl, _, World.drewN_drewN _ _ _⟩
      · obtain rfl : k = p.length := by omega
        go_wp2
        go_ret
        have : p = q := by have := HT.out; rw [List.take_length, List.take_of_length_le (by omega)] at this; exact this
        exact ⟨by rw [decide_eq_true this]; rfl, _, rfl⟩
  · have hb := neq_nat hlen
    have HN := hide (decide_eq_false (fun e : p = q => hlen (by rw [e])))
    clear hlen
    go_enter Try.func32, Try.ntmps32
    go_wp2
    go_ret
    exact ⟨by rw [HN.out]; rfl, 0, rfl⟩
end Go.Proofs.Ytdeknimelkdaeaa
end

/- the text C10 -/
section
namespace Go.Proofs.Ytdeknimelkdaeaa
open Go.RowKit Go.Dx

/-- a raster as a value -/
abbrev RV (W H : Int) (a : Option Addr) (n c : Nat) : Value := .agg #[.int .i64 W, .int .i64 H, .slice a n c]

theorem bl2 (w : World) (o1 o2 : Obj) : Below w.heap.size w ((w.alloc o1).alloc o2) := ((Below.refl _ w).alloc (Nat.le_refl _) _).alloc (by simp) _
theorem bl2d (w : World) (o1 o2 : Obj) (n : Nat) : Below w.heap.size w (((w.alloc o1).alloc o2).drewN n) := (bl2 w o1 o2).trans ((Still.below n).mono (by simp; omega))
end Go.Proofs.Ytdeknimelkdaeaa
end

/- the text CP3 -/
section
/- Plain laws on packed rasters: no program in sight. -/
namespace Go.Proofs.Ytdeknimelkdaeaa
open Go.RowKit Go.Dx

/-- six dots as a number -/
def bt (b : Bool) (n : Nat) : Nat := if b then n else 0
def six (p : Nat → Bool) : Nat := bt (p 0) 1 + bt (p 1) 2 + bt (p 2) 4 + bt (p 3) 8 + bt (p 4) 16 + bt (p 5) 32
theorem bt_le (b : Bool) (n : Nat) : bt b n ≤ n := by unfold bt; split <;> omega
theorem six_lt (p : Nat → Bool) : six p < 64 := by
  have h0 := bt_le (p 0) 1
  have h1 := bt_le (p 1) 2
  have h2 := bt_le (p 2) 4
  have h3 := bt_le (p 3) 8
  have h4 := bt_le (p 4) 16
  have h5 := bt_le (p 5) 32
  unfold six; omega
theorem six_congr {p q : Nat → Bool} (h : ∀ d, d < 6 → p d = q d) : six p = six q := by
  unfold six; rw [h 0 (by omega), h 1 (by omega), h 2 (by omega), h 3 (by omega), h 4 (by omega), h 5 (by omega)]
theorem six_none {p : Nat → Bool} (h : ∀ d, d < 6 → p d = false) : six p = 0 := by
  rw [six_congr (q := fun _ => false) h]; rfl
theorem six_fin : ∀ b0 b1 b2 b3 b4 b5 : Bool, ∀ d : Fin 6, ((bt b0 1 + bt b1 2 + bt b2 4 + bt b3 8 + bt b4 16 + bt b5 32) / 2 ^ d.val % 2 == 1) = (match d.val with | 0 => b0 | 1 => b1 | 2 => b2 | 3 => b3 | 4 => b4 | _ => b5) := by decide +kernel
theorem six_get (p : Nat → Bool) (d : Nat) (hd : d < 6) : (six p / 2 ^ d % 2 == 1) = p d := by
  have h := six_fin (p 0) (p 1) (p 2) (p 3) (p 4) (p 5) ⟨d, hd⟩
  unfold six
  rw [h]
  have : d = 0 ∨ d = 1 ∨ d = 2 ∨ d = 3 ∨ d = 4 ∨ d = 5 := by omega
  rcases this with rfl | rfl | rfl | rfl | rfl | rfl <;> rfl
/-- one more dot -/
theorem six_or {p q : Nat → Bool} {d : Nat} (hd : d < 6) (h0 : p d = false) (h : ∀ e, e < 6 → q e = (p e || decide (e = d))) :
    bits BinOp.or IntKind.u8 ((six p : Nat) : Int) ((2 ^ d : Nat) : Int) = ((six q : Nat) : Int) := by
  have h1 := six_get p d hd
  rw [h0] at h1
  have h1' : ¬ (six p / 2 ^ d % 2 = 1) := by simpa using h1
  have h2 : six p / 2 ^ d % 2 = 0 := by omega
  rw [(and_fin ⟨six p, six_lt p⟩ ⟨d, hd⟩).2 h2]
  congr 1
  have e : six q = six fun e => p e || decide (e = d) := six_congr h
  rw [e]
  unfold six
  have : d = 0 ∨ d = 1 ∨ d = 2 ∨ d = 3 ∨ d = 4 ∨ d = 5 := by omega
  rcases this with rfl | rfl | rfl | rfl | rfl | rfl <;> simp [h0, bt] <;> omega

/-- the dots as a list, and Of -/
def sixDots (p : Nat → Bool) (k : Nat) : List Int := List.map (fun j : Nat => (j : Int) + 1) ((List.range k).filter p)
theorem sixDots_yes {p : Nat → Bool} {k : Nat} (h : p k = true) : sixDots p (k + 1) = sixDots p k ++ [(k : Int) + 1] := by
  unfold sixDots; rw [List.range_succ, List.filter_append]; simp [h]
theorem sixDots_no {p : Nat → Bool} {k : Nat} (h : p k = false) : sixDots p (k + 1) = sixDots p k := by
  unfold sixDots; rw [List.range_succ, List.filter_append]; simp [h]
theorem sixDots_len (p : Nat → Bool) (k : Nat) : (sixDots p k).length ≤ k := by
  unfold sixDots; rw [List.length_map]; exact Nat.le_trans (List.length_filter_le _ _) (by simp)
theorem filter_congr' {p q : Nat → Bool} : ∀ (l : List Nat), (∀ x, x ∈ l → p x = q x) → l.filter p = l.filter q
  | [], _ => rfl
  | x :: l, h => by
    rw [List.filter_cons, List.filter_cons, h x (by simp), filter_congr' l (fun y hy => h y (by simp [hy]))]
theorem sixOf_fin : ∀ b0 b1 b2 b3 b4 b5 : Bool, ofL (sixDots (fun d => match d with | 0 => b0 | 1 => b1 | 2 => b2 | 3 => b3 | 4 => b4 | _ => b5) 6) = (bt b0 1 + bt b1 2 + bt b2 4 + bt b3 8 + bt b4 16 + bt b5 32, 0) := by decide +kernel
theorem sixOf (p : Nat → Bool) : ofL (sixDots p 6) = (six p, 0) := by
  have h := sixOf_fin (p 0) (p 1) (p 2) (p 3) (p 4) (p 5)
  have e : sixDots p 6 = sixDots (fun d => match d with | 0 => p 0 | 1 => p 1 | 2 => p 2 | 3 => p 3 | 4 => p 4 | _ => p 5) 6 := by
    unfold sixDots
    rw [filter_congr' (List.range 6)]
    intro x hx
    have : x < 6 := List.mem_range.1 hx
    have : x = 0 ∨ x = 1 ∨ x = 2 ∨ x = 3 ∨ x = 4 ∨ x = 5 := by omega
    rcases this with rfl | rfl | rfl | rfl | rfl | rfl <;> rfl
  rw [e, h]; rfl

/-- A raster's dot; the dots before the place k. -/
def dotAt (W H : Nat) (b : List Bool) (x y : Nat) : Bool := decide (x < W) && decide (y < H) && b.getD (y * W + x) false
def dotTo (W H : Nat) (b : List Bool) (k x y : Nat) : Bool := dotAt W H b x y && decide (y * W + x < k)
def cellTo (W H : Nat) (b : List Bool) (k Y X : Nat) : Nat := six fun d => dotTo W H b k (2 * X + d / 3) (3 * Y + d % 3)
def cellAt (W H : Nat) (b : List Bool) (Y X : Nat) : Nat := six fun d => dotAt W H b (2 * X + d / 3) (3 * Y + d % 3)
theorem cellTo_zero (W H : Nat) (b : List Bool) (Y X : Nat) : cellTo W H b 0 Y X = 0 := six_none fun d _ => by simp [dotTo]
theorem idx_lt {W H x y : Nat} (hx : x < W) (hy : y < H) : y * W + x < W * H := by
  have : (y + 1) * W ≤ H * W := Nat.mul_le_mul_right _ hy
  rw [Nat.add_mul, Nat.one_mul] at this
  rw [Nat.mul_comm W H]; omega
theorem cellTo_all {W H : Nat} {b : List Bool} {k : Nat} (hk : W * H ≤ k) (Y X : Nat) : cellTo W H b k Y X = cellAt W H b Y X := six_congr fun d _ => by
  unfold dotTo
  cases h : dotAt W H b (2 * X + d / 3) (3 * Y + d % 3)
  · rfl
  · unfold dotAt at h
    simp only [Bool.and_eq_true, decide_eq_true_eq] at h
    have := idx_lt h.1.1 h.1.2
    simp; omega
theorem divmod {W x y k : Nat} (hW : 0 < W) (hx : x < W) : y * W + x = k ↔ x = k % W ∧ y = k / W := by
  constructor
  · rintro rfl
    refine ⟨?_, ?_⟩
    · rw [Nat.mul_comm, Nat.mul_add_mod, Nat.mod_eq_of_lt hx]
    · rw [Nat.mul_comm, Nat.mul_add_div hW, Nat.div_eq_of_lt hx, Nat.add_zero]
  · rintro ⟨rfl, rfl⟩
    have := Nat.div_add_mod k W
    rw [Nat.mul_comm] at this; exact this
/-- a dot that is not set changes nothing -/
theorem cellTo_no {W H : Nat} {b : List Bool} {k : Nat} (h : b.getD k false = false) (Y X : Nat) : cellTo W H b (k + 1) Y X = cellTo W H b k Y X := six_congr fun d _ => by
  unfold dotTo
  cases hd : dotAt W H b (2 * X + d / 3) (3 * Y + d % 3)
  · rfl
  · have hne : (3 * Y + d % 3) * W + (2 * X + d / 3) ≠ k := by
      intro e
      unfold dotAt at hd
      rw [e, h] at hd
      simp at hd
    have : ((3 * Y + d % 3) * W + (2 * X + d / 3) < k + 1) = ((3 * Y + d % 3) * W + (2 * X + d / 3) < k) := propext ⟨fun h => by omega, fun h => by omega⟩
    simp only [this]
/-- a dot that is set: another cell stays -/
theorem cellTo_other {W H : Nat} {b : List Bool} {k : Nat} (hW : 0 < W) (Y X : Nat) (h : ¬ (Y = k / W / 3 ∧ X = k % W / 2)) : cellTo W H b (k + 1) Y X = cellTo W H b k Y X := six_congr fun d hd6 => by
  unfold dotTo
  cases hd : dotAt W H b (2 * X + d / 3) (3 * Y + d % 3)
  · rfl
  · have hne : (3 * Y + d % 3) * W + (2 * X + d / 3) ≠ k := by
      intro e
      unfold dotAt at hd
      simp only [Bool.and_eq_true, decide_eq_true_eq] at hd
      obtain ⟨e1, e2⟩ := (divmod hW hd.1.1).1 e
      exact h ⟨by omega, by omega⟩
    have : ((3 * Y + d % 3) * W + (2 * X + d / 3) < k + 1) = ((3 * Y + d % 3) * W + (2 * X + d / 3) < k) := propext ⟨fun h => by omega, fun h => by omega⟩
    simp only [this]
/-- .. and its own cell gets it -/
theorem cellTo_own {W H : Nat} {b : List Bool} {k : Nat} (hW : 0 < W) (hk : k < W * H) (h : b.getD k false = true) :
    bits BinOp.or IntKind.u8 ((cellTo W H b k (k / W / 3) (k % W / 2) : Nat) : Int) ((2 ^ (k / W % 3 + 3 * (k % W % 2)) : Nat) : Int) = ((cellTo W H b (k + 1) (k / W / 3) (k % W / 2) : Nat) : Int) := by
  have hxW : k % W < W := Nat.mod_lt _ hW
  have hyH : k / W < H := Nat.div_lt_of_lt_mul hk
  have hm : k % W % 2 < 2 := Nat.mod_lt _ (by omega)
  have hm3 : k / W % 3 < 3 := Nat.mod_lt _ (by omega)
  have hdk := Nat.div_add_mod k W
  rw [Nat.mul_comm] at hdk
  unfold cellTo
  have e1 : 2 * (k % W / 2) + (k / W % 3 + 3 * (k % W % 2)) / 3 = k % W := by omega
  have e2 : 3 * (k / W / 3) + (k / W % 3 + 3 * (k % W % 2)) % 3 = k / W := by omega
  refine six_or (by omega) ?_ ?_
  · show dotTo W H b k (2 * (k % W / 2) + (k / W % 3 + 3 * (k % W % 2)) / 3) (3 * (k / W / 3) + (k / W % 3 + 3 * (k % W % 2)) % 3) = false
    rw [e1, e2]
    unfold dotTo
    rw [hdk]; simp
  · intro d hd6
    show dotTo W H b (k + 1) (2 * (k % W / 2) + d / 3) (3 * (k / W / 3) + d % 3) = (dotTo W H b k (2 * (k % W / 2) + d / 3) (3 * (k / W / 3) + d % 3) || decide (d = k / W % 3 + 3 * (k % W % 2)))
    by_cases hd : d = k / W % 3 + 3 * (k % W % 2)
    · subst hd
      rw [e1, e2]
      unfold dotTo dotAt
      rw [hdk, h]
      simp [hxW, hyH]
    · rw [decide_eq_false hd, Bool.or_false]
      unfold dotTo
      cases hda : dotAt W H b (2 * (k % W / 2) + d / 3) (3 * (k / W / 3) + d % 3)
      · rfl
      · have hne : (3 * (k / W / 3) + d % 3) * W + (2 * (k % W / 2) + d / 3) ≠ k := by
          intro e
          unfold dotAt at hda
          simp only [Bool.and_eq_true, decide_eq_true_eq] at hda
          obtain ⟨f1, f2⟩ := (divmod hW hda.1.1).1 e
          exact hd (by omega)
        have : ((3 * (k / W / 3) + d % 3) * W + (2 * (k % W / 2) + d / 3) < k + 1) = ((3 * (k / W / 3) + d % 3) * W + (2 * (k % W / 2) + d / 3) < k) := propext ⟨fun h => by omega, fun h => by omega⟩
        simp only [this]
/-- the packed page -/
def packRow (W H : Nat) (b : List Bool) (Y : Nat) : List UInt8 := (List.range ((W + 1) / 2)).map fun X => UInt8.ofNat (cellAt W H b Y X)
def packL (W H : Nat) (b : List Bool) : List (List UInt8) := (List.range ((H + 2) / 3)).map (packRow W H b)
theorem u8_six (n : Nat) (h : n < 64) : (UInt8.ofNat n).toNat = n := by rw [UInt8.toNat_ofNat']; omega
end Go.Proofs.Ytdeknimelkdaeaa
end

/- the text CP4 -/
section
/- Plain laws on unpacked pages: no program in sight. -/
namespace Go.Proofs.Ytdeknimelkdaeaa
open Go.RowKit Go.Dx

def wideL (p : List (List UInt8)) : Nat := p.foldl (fun m l => max m l.length) 0
theorem wideL_snoc (p : List (List UInt8)) (l : List UInt8) : wideL (p ++ [l]) = max (wideL p) l.length := by unfold wideL; rw [List.foldl_append]; rfl
theorem fold_ge (p : List (List UInt8)) : ∀ m, m ≤ p.foldl (fun m l => max m l.length) m ∧ ∀ l ∈ p, l.length ≤ p.foldl (fun m l => max m l.length) m := by
  induction p with
  | nil => intro m; simp
  | cons x p ih =>
    intro m
    have h := ih (max m x.length)
    refine ⟨by have := h.1; simp only [List.foldl_cons]; omega, ?_⟩
    intro l hl
    rcases List.mem_cons.1 hl with rfl | hl
    · have := h.1; simp only [List.foldl_cons]; omega
    · exact h.2 l hl
theorem wideL_ge {p : List (List UInt8)} {l : List UInt8} (h : l ∈ p) : l.length ≤ wideL p := (fold_ge p 0).2 l h
theorem fold_le {p : List (List UInt8)} {b : Nat} (h : ∀ l ∈ p, l.length ≤ b) : ∀ m, m ≤ b → p.foldl (fun m l => max m l.length) m ≤ b := by
  induction p with
  | nil => intro m hm; exact hm
  | cons x p ih =>
    intro m hm
    simp only [List.foldl_cons]
    refine ih (fun l hl => h l (by simp [hl])) _ ?_
    have := h x (by simp); omega
theorem wideL_le {p : List (List UInt8)} {b : Nat} (h : ∀ l ∈ p, l.length ≤ b) : wideL p ≤ b := fold_le h 0 (Nat.zero_le _)

/-- a cell of a page, 0 where there is none -/
def pcell (p : List (List UInt8)) (Y X : Nat) : UInt8 := (p.getD Y []).getD X 0
/-- the dot of a raster of width W at the index i -/
def rdot (p : List (List UInt8)) (W i : Nat) : Bool := dot (pcell p (i / W / 3) (i % W / 2)) (i / W % 3 + 3 * (i % W % 2))
def rbits (p : List (List UInt8)) (W k : Nat) : List Bool := (List.range k).map (rdot p W)
theorem rbits_succ (p : List (List UInt8)) (W k : Nat) : rbits p W (k + 1) = rbits p W k ++ [rdot p W k] := by unfold rbits; rw [List.range_succ, List.map_append]; rfl
theorem rbits_len (p : List (List UInt8)) (W k : Nat) : (rbits p W k).length = k := by unfold rbits; simp
theorem dot_zero (d : Nat) : dot 0 d = false := by
  unfold dot
  have : (0 : UInt8).toNat = 0 := rfl
  rw [this, Nat.zero_div]; rfl

/-- what is set when the rows before Y0, its cells before X0, and of this one the dots ds are set -/
def upTo (p : List (List UInt8)) (W Y0 X0 : Nat) (ds : List Int) (i : Nat) : Bool :=
  rdot p W i && (decide (i / W / 3 < Y0) || (decide (i / W / 3 = Y0) && (decide (i % W / 2 < X0) || (decide (i % W / 2 = X0) && decide (((i / W % 3 + 3 * (i % W % 2) : Nat) : Int) + 1 ∈ ds)))))
theorem upTo_zero (p : List (List UInt8)) (W i : Nat) : upTo p W 0 0 [] i = false := by unfold upTo; simp
theorem mem_dots {c : UInt8} {d : Nat} (hd : d < 6) : ((d : Int) + 1 ∈ dotsL c) ↔ dot c d = true := by
  unfold dotsL dotsTo
  rw [List.mem_map]
  constructor
  · rintro ⟨j, hj, e⟩
    obtain rfl : j = d := by omega
    exact (List.mem_filter.1 hj).2
  · intro h
    exact ⟨d, List.mem_filter.2 ⟨List.mem_range.2 hd, h⟩, rfl⟩
theorem six_idx (i W : Nat) : i / W % 3 + 3 * (i % W % 2) < 6 := by omega
theorem upTo_cell (p : List (List UInt8)) (W Y0 X0 i : Nat) : upTo p W Y0 X0 (dotsL (pcell p Y0 X0)) i = upTo p W Y0 (X0 + 1) [] i := by
  unfold upTo
  cases h : rdot p W i
  · rfl
  · congr 1
    by_cases hY : i / W / 3 = Y0
    · by_cases hX : i % W / 2 = X0
      · have hm : ((i / W % 3 + 3 * (i % W % 2) : Nat) : Int) + 1 ∈ dotsL (pcell p Y0 X0) := (mem_dots (six_idx i W)).2 (by unfold rdot at h; rw [hY, hX] at h; exact h)
        rw [decide_eq_true hm]
        simp [hY, hX]
      · have : (i % W / 2 < X0 + 1) = (i % W / 2 < X0) := propext ⟨fun h => by omega, fun h => by omega⟩
        simp [hY, hX, this]
    · simp [hY]
theorem pcell_out {p : List (List UInt8)} {r : List UInt8} {Y X : Nat} (hr : p[Y]? = some r) (hX : r.length ≤ X) : pcell p Y X = 0 := by
  unfold pcell
  rw [List.getD_eq_getElem?_getD, List.getD_eq_getElem?_getD, hr]
  simp only [Option.getD_some]
  rw [List.getElem?_eq_none hX]; rfl
theorem upTo_row {p : List (List UInt8)} {r : List UInt8} {Y0 : Nat} (hr : p[Y0]? = some r) (W i : Nat) : upTo p W Y0 r.length [] i = upTo p W (Y0 + 1) 0 [] i := by
  unfold upTo
  cases h : rdot p W i
  · rfl
  · congr 1
    by_cases hY : i / W / 3 = Y0
    · have hX : i % W / 2 < r.length := by
        rcases Nat.lt_or_ge (i % W / 2) r.length with h1 | h1
        · exact h1
        · exfalso
          unfold rdot at h
          rw [hY, pcell_out hr h1, dot_zero] at h
          cases h
      simp [hY, hX]
    · have : (i / W / 3 < Y0 + 1) = (i / W / 3 < Y0) := propext ⟨fun h => by omega, fun h => by omega⟩
      simp [hY, this]
theorem upTo_all {p : List (List UInt8)} {W i : Nat} (hi : i < W * (3 * p.length)) : upTo p W p.length 0 [] i = rdot p W i := by
  unfold upTo
  have h1 : i / W < 3 * p.length := Nat.div_lt_of_lt_mul hi
  have : i / W / 3 < p.length := by omega
  simp [this]
/-- one more dot -/
theorem upTo_dot {p : List (List UInt8)} {W Y0 X0 : Nat} {ds : List Int} {d : Nat} (hd : d < 6) (hW : 2 * X0 + 1 < W) (hdot : dot (pcell p Y0 X0) d = true) (i : Nat) :
    upTo p W Y0 X0 (ds ++ [(d : Int) + 1]) i = if i = (3 * Y0 + d % 3) * W + (2 * X0 + d / 3) then true else upTo p W Y0 X0 ds i := by
  have hx : 2 * X0 + d / 3 < W := by omega
  by_cases h : i = (3 * Y0 + d % 3) * W + (2 * X0 + d / 3)
  · rw [if_pos h]
    obtain ⟨e1, e2⟩ := (divmod (by omega) hx).1 h.symm
    have e3 : i / W / 3 = Y0 := by omega
    have e4 : i % W / 2 = X0 := by omega
    have e5 : i / W % 3 + 3 * (i % W % 2) = d := by omega
    unfold upTo rdot
    rw [e3, e4, e5, hdot]
    simp
  · rw [if_neg h]
    unfold upTo
    by_cases hY : i / W / 3 = Y0
    · by_cases hX : i % W / 2 = X0
      · have hne : ((i / W % 3 + 3 * (i % W % 2) : Nat) : Int) + 1 ≠ (d : Int) + 1 := by
          intro e
          have e5 : i / W % 3 + 3 * (i % W % 2) = d := by omega
          exact h ((divmod (by omega) hx).2 ⟨by omega, by omega⟩).symm
        simp only [List.mem_append, List.mem_singleton, hne, or_false]
      · simp [hX]
    · simp [hY]
theorem dotsTo_take (c : UInt8) (j : Nat) (x : Int) (h : (dotsL c)[j]? = some x) : ∃ d : Nat, d < 6 ∧ x = (d : Int) + 1 ∧ dot c d = true := by
  have hm := List.mem_of_getElem? h
  unfold dotsL dotsTo at hm
  obtain ⟨d, hd, rfl⟩ := List.mem_map.1 hm
  obtain ⟨h1, h2⟩ := List.mem_filter.1 hd
  exact ⟨d, List.mem_range.1 h1, rfl, h2⟩

/-- Unpack: width, height, dots, error -/
def unpackL (p : List (List UInt8)) : Nat × Nat × List Bool × Int :=
  if p.any (fun l => !validB l) then (0, 0, [], 1)
  else if 65536 < 2 * wideL p ∨ 65536 < 3 * p.length ∨ 65536 < 2 * wideL p * (3 * p.length) then (0, 0, [], 4)
  else (2 * wideL p, 3 * p.length, rbits p (2 * wideL p) (2 * wideL p * (3 * p.length)), 0)
end Go.Proofs.Ytdeknimelkdaeaa
end

/- the text C13 -/
section
namespace Go.Proofs.Ytdeknimelkdaeaa
open Go.RowKit Go.Dx

/-- a valid raster: width, height, number of dots -/
def properB (W H n : Int) : Bool := decide (0 ≤ W ∧ 0 ≤ H ∧ W ≤ 65536 ∧ H ≤ 65536 ∧ W * H ≤ 65536 ∧ n = W * H)
theorem bl1 (w : World) (o : Obj) : Below w.heap.size w (w.alloc o) := (Below.refl _ w).alloc (Nat.le_refl _) _
theorem mul_wrap {W H : Int} (h1 : 0 ≤ W) (h2 : 0 ≤ H) (h3 : W ≤ 65536) (h4 : H ≤ 65536) : 0 ≤ W * H ∧ W * H ≤ 4294967296 := by
  refine ⟨Int.mul_nonneg h1 h2, ?_⟩
  calc W * H ≤ 65536 * H := Int.mul_le_mul_of_nonneg_right h3 h2
    _ ≤ 65536 * 65536 := Int.mul_le_mul_of_nonneg_left h4 (by omega)
    _ = 4294967296 := by decide
theorem proper_no {W H n : Int} (h : ¬ (0 ≤ W ∧ 0 ≤ H ∧ W ≤ 65536 ∧ H ≤ 65536 ∧ W * H ≤ 65536 ∧ n = W * H)) : properB W H n = false := decide_eq_false h
theorem proper_yes {W H n : Int} (h : 0 ≤ W ∧ 0 ≤ H ∧ W ≤ 65536 ∧ H ≤ 65536 ∧ W * H ≤ 65536 ∧ n = W * H) : properB W H n = true := decide_eq_true h

end Go.Proofs.Ytdeknimelkdaeaa
end

/- the text C14 -/
section
namespace Go.Proofs.Ytdeknimelkdaeaa
open Go.RowKit Go.Dx

theorem dotAt_x {W H x y : Nat} {b : List Bool} (h : ¬ x < W) : dotAt W H b x y = false := by unfold dotAt; simp [h]
theorem dotAt_y {W H x y : Nat} {b : List Bool} (h : ¬ y < H) : dotAt W H b x y = false := by unfold dotAt; simp [h]
theorem dotAt_in {W H x y : Nat} {b : List Bool} {v : Bool} (hx : x < W) (hy : y < H) (h : b[y * W + x]? = some v) : dotAt W H b x y = v := by
  unfold dotAt; rw [List.getD_eq_getElem?_getD, h]; simp [hx, hy]

theorem pcell_row {p : List (List UInt8)} {Y X : Nat} {r : List UInt8} {u : UInt8} (h1 : p[Y]? = some r) (h2 : r[X]? = some u) : pcell p Y X = u := by
  unfold pcell; rw [List.getD_eq_getElem?_getD, List.getD_eq_getElem?_getD, h1]; simp [h2]
theorem pcell_none {p : List (List UInt8)} {Y X : Nat} (h : p.length ≤ Y) : pcell p Y X = 0 := by
  unfold pcell; rw [List.getD_eq_getElem?_getD, List.getD_eq_getElem?_getD, List.getElem?_eq_none h]; rfl
set_option maxHeartbeats 1000000 in
theorem ref_Cell (p : List (List UInt8)) (hs : List Hd) (a : Option Addr) (n c : Nat) (Y X : Nat) (w : World) (hp : Pg w a n c hs p) (hY : Y ≤ 1000000000000000) (hX : X ≤ 1000000000000000) :
    Calls Try.prog 61 #[.slice a n c, .int .i64 Y, .int .i64 X] w fun e w' => e = .returned (.int .u8 ((pcell p Y X).toNat : Int)) ∧ w = w' := by
  obtain rfl := hp.n_eq
  obtain ⟨R, HR⟩ : ∃ R, Hid (pcell p Y X = R) := ⟨_, rfl⟩
  rw [HR.out]
  have hm1 := Nat.le_trans hp.top.le hp.top.cap
  unfold maxLen at hm1
  have dY : decide ((Y : Int) < 0) = false := decide_eq_false (by omega)
  have dX : decide ((X : Int) < 0) = false := decide_eq_false (by omega)
  by_cases h1 : Y < p.length
  · have d1 : decide ((p.length : Int) ≤ (Y : Int)) = false := decide_eq_false (by omega)
    have d1' : decide (p.length ≤ Y) = false := decide_eq_false (by omega)
    obtain ⟨r, hr⟩ : ∃ r, p[Y]? = some r := ⟨p[Y], by simp [h1]⟩
    obtain ⟨a1, c1, hu, hsr⟩ := hp.get hr
    have HU := hide hu
    have hrl := Nat.le_trans hsr.le hsr.cap
    unfold maxLen at hrl
    clear hu
    by_cases h2 : X < r.length
    · have d2 : decide ((r.length : Int) ≤ (X : Int)) = false := decide_eq_false (by omega)
      have d2' : decide (r.length ≤ X) = false := decide_eq_false (by omega)
      obtain ⟨u, hu⟩ : ∃ u, r[X]? = some u := ⟨r[X], by simp [h2]⟩
      have HE : Hid (R = u) := by show _ = _; rw [← HR.out]; exact pcell_row hr hu
      have HX := hide hu
      clear hu hr
      go_enter Try.func61, Try.ntmps61
      go_wp2_with (first
        | (with_reducible refine idx_p 22 _ _ _ _ _ hs rfl hp.top _ _ Y rfl rfl _ HU.out ?_; intro b o hcell hbo)
        | (with_reducible refine idx_b 30 _ _ _ _ _ r rfl hsr _ _ X rfl rfl u HX.out ?_; intro b2 o2 hcell2 hbo2))
      go_ret
      rw [HE.out]
      exact ⟨rfl, rfl⟩
    · have d2 : decide ((r.length : Int) ≤ (X : Int)) = true := decide_eq_true (by omega)
      have d2' : decide (r.length ≤ X) = true := decide_eq_true (by omega)
      have HE : Hid (R = 0) := by show _ = _; rw [← HR.out]; exact pcell_out hr (by omega)
      clear hr
      go_enter Try.func61, Try.ntmps61
      go_wp2_with (with_reducible refine idx_p 22 _ _ _ _ _ hs rfl hp.top _ _ Y rfl rfl _ HU.out ?_; intro b o hcell hbo)
      go_ret
      rw [HE.out]
      exact ⟨rfl, rfl⟩
  · have d1 : decide ((p.length : Int) ≤ (Y : Int)) = true := decide_eq_true (by omega)
    have d1' : decide (p.length ≤ Y) = true := decide_eq_true (by omega)
    have HE : Hid (R = 0) := by show _ = _; rw [← HR.out]; exact pcell_none (by omega)
    go_enter Try.func61, Try.ntmps61
    go_wp2
    go_ret
    rw [HE.out]
    exact ⟨rfl, rfl⟩
end Go.Proofs.Ytdeknimelkdaeaa
end

/- the text C15 -/
section
namespace Go.Proofs.Ytdeknimelkdaeaa
open Go.RowKit Go.Dx

theorem info_bool : (Try.prog.info? 4).map (fun i => (i.zero, i.size, i.bytes)) = some (some (.bool false), 1, 1) := by kernel_rfl
theorem pos_left {W H k : Nat} (h : k < W * H) : 0 < W := by
  rcases Nat.eq_zero_or_pos W with h1 | h1
  · subst h1; simp at h
  · exact h1
theorem packL_len (W H : Nat) (b : List Bool) : (packL W H b).length = (H + 2) / 3 := by unfold packL; simp
theorem packRow_len (W H : Nat) (b : List Bool) (Y : Nat) : (packRow W H b Y).length = (W + 1) / 2 := by unfold packRow; simp
theorem packL_get {W H : Nat} {b : List Bool} {j : Nat} {r : List UInt8} (h : (packL W H b)[j]? = some r) : j < (H + 2) / 3 ∧ r = packRow W H b j := by
  have hl := (List.getElem?_eq_some_iff.1 h).1
  rw [packL_len] at hl
  refine ⟨hl, ?_⟩
  unfold packL at h
  rw [List.getElem?_map, List.getElem?_range hl] at h
  exact (Option.some.inj h).symm
theorem packRow_get {W H : Nat} {b : List Bool} {Y X : Nat} (h : X < (W + 1) / 2) : B8 ((packRow W H b Y).getD X 0) = .int .u8 ((cellAt W H b Y X : Nat) : Int) := by
  have e : (packRow W H b Y).getD X 0 = UInt8.ofNat (cellAt W H b Y X) := by
    unfold packRow
    rw [List.getD_eq_getElem?_getD, List.getElem?_map, List.getElem?_range h]; rfl
  rw [e]
  show Value.int .u8 ((UInt8.ofNat (cellAt W H b Y X)).toNat : Int) = _
  rw [u8_six (cellAt W H b Y X) (six_lt _)]
theorem pg_rows {w : World} {T h m : Nat} {rt ut : TypeId} (hrow : w.rowIs T rt h (fun i => .slice (some ⟨T + 1 + i, 0, none⟩) m m)) (hh : h ≤ maxLen) (hm : m ≤ maxLen) (p : List (List UInt8)) (hl : p.length = h)
    (hf : ∀ j r, p[j]? = some r → r.length = m ∧ w.rowIs (T + 1 + j) ut m (fun X => B8 (r.getD X 0))) :
    Pg w (some ⟨T, 0, none⟩) h h ((List.range h).map fun i => (some ⟨T + 1 + i, 0, none⟩, m, m)) p := by
  refine ⟨row_sl' hrow hh _ (by simp) ?_, by simp [hl], ?_⟩
  · intro j u hj
    rw [List.map_map, List.getElem?_map] at hj
    obtain ⟨i, hi, rfl⟩ := Option.map_eq_some_iff.1 hj
    have hjl : j < h := by have := (List.getElem?_eq_some_iff.1 hi).1; simpa using this
    rw [List.getElem?_range hjl] at hi
    cases hi
    rfl
  · intro i x r hx hr
    obtain ⟨h1, h2⟩ := hf i r hr
    rw [List.getElem?_map] at hx
    obtain ⟨i', hi', rfl⟩ := Option.map_eq_some_iff.1 hx
    have hil : i < h := by have := (List.getElem?_eq_some_iff.1 hi').1; simpa using this
    rw [List.getElem?_range hil] at hi'
    cases hi'
    refine row_sl' h2 hm _ (by rw [List.length_map]; exact h1) ?_
    intro j u hj
    rw [List.getElem?_map] at hj
    obtain ⟨y, hy, rfl⟩ := Option.map_eq_some_iff.1 hj
    rw [List.getD_eq_getElem?_getD, hy]; rfl
theorem two_fin : ∀ s : Fin 6, IntKind.u8.wrap (2 ^ s.val) = ((2 ^ s.val : Nat) : Int) := by decide
theorem two_wrap (s : Nat) (h : s < 6) : IntKind.u8.wrap (2 ^ s) = ((2 ^ s : Nat) : Int) := two_fin ⟨s, h⟩
/-- the rows of a page that is being made -/
def pageF (T m k i : Nat) : Value := if i < k then .slice (some ⟨T + 1 + i, 0, none⟩) m m else .slice none 0 0

end Go.Proofs.Ytdeknimelkdaeaa
end

/- the text C16 -/
section
namespace Go.Proofs.Ytdeknimelkdaeaa
open Go.RowKit Go.Dx

section
variable {P : Program} {w : World}
theorem run_results_cell2 {fn : Func} {tmps : Array Value} {t t2 : Tmp} {ty e : TypeId} {g : Nat} {cs : List Value} {v2 : Value} (hr : fn.results = #[.cell t ty, .tmp t2]) (ht : tmps.getD t undef = .pointer (some ⟨g, 0, none⟩)) (h2 : tmps.getD t2 undef = v2) (hag : IsAgg P ty) (hsz : (P.info? ty).map (·.size) = some cs.length)
    (hb : Box w g e cs) : (results fn tmps).run P w = .ok (.tuple #[.agg cs.toArray, v2]) w := by
  have hl := run_loadVar_box (P := P) (off := 0) hag hsz hb (fun j u hj => by rw [Nat.zero_add]; exact hj)
  have ht2 : tmps[t]?.getD undef = .pointer (some ⟨g, 0, none⟩) := by rw [← ht]; simp
  have ht3 : tmps[t2]?.getD undef = v2 := by rw [← h2]; simp
  simp only [results, hr]
  simp [ht2, ht3, asAddr, hl]
end
theorem Sl.far {w : World} {sz : Nat} {a : Option Addr} {n c : Nat} {cs : List Value} (h : Sl w sz a n c cs) {p : Addr} (hp : ∀ q, a = some q → q.block ≠ p.block) (u : Value) : Sl (w.setCell p u) sz a n c cs :=
  ⟨h.len, h.le, h.cap, h.nil, fun q hq j v hj => by
    have h1 := h.cell q hq j v hj
    have e : (q.add j).block = q.block := by unfold Addr.add; split <;> rfl
    rw [World.cell?_of_block (w := w) (a := q.add j) (Below.heap_setCell w p u (q.add j).block (by rw [e]; exact hp q hq))]
    exact h1⟩
theorem un_box {w w4 : World} {z : Array Value} {cs : Array Value} {t : TypeId} (hb : Below ((w.alloc (.cells z t)).alloc (.cells cs t)).heap.size ((w.alloc (.cells z t)).alloc (.cells cs t)) w4) : Box w4 (w.heap.size + 1) t cs.toList := by
  have := (Box.new (w.alloc (.cells z t)) t cs).under hb
  simpa using this
theorem un_box0 {w w4 : World} {z : Array Value} {cs : Array Value} {t : TypeId} (hb : Below ((w.alloc (.cells z t)).alloc (.cells cs t)).heap.size ((w.alloc (.cells z t)).alloc (.cells cs t)) w4) : Box w4 w.heap.size t z.toList :=
  ((Box.new w t z).alloc _).under hb

theorem bad_take {p : List (List UInt8)} {k : Nat} {r : List UInt8} (h : p[k]? = some r) (h0 : (p.take k).any (fun l => !validB l) = false) (hr : validB r = true) : (p.take (k + 1)).any (fun l => !validB l) = false :=
  any_take_no h h0 (by simp [hr])
theorem wide_next {p : List (List UInt8)} {k : Nat} {r : List UInt8} (h : p[k]? = some r) : wideL (p.take (k + 1)) = max (wideL (p.take k)) r.length := by rw [take_snoc h, wideL_snoc]
theorem wide_take_le (p : List (List UInt8)) (k : Nat) : wideL (p.take k) ≤ wideL p := by
  refine wideL_le fun l hl => wideL_ge (List.mem_of_mem_take hl)

end Go.Proofs.Ytdeknimelkdaeaa
end

/- the text C17 -/
section
namespace Go.Proofs.Ytdeknimelkdaeaa
open Go.RowKit Go.Dx

end Go.Proofs.Ytdeknimelkdaeaa
end

/- the text C18 -/
section
namespace Go.Proofs.Ytdeknimelkdaeaa
open Go.RowKit Go.Dx

theorem ref_Of_at (l : List Int) (m : Nat) (h : ofL l = (m, 0)) (a : Option Addr) (n c : Nat) (w : World) (hs : Sl w 1 a n c (l.map I64)) :
    Calls Try.prog 71 #[.slice a n c] w fun e w' => e = .returned (.tuple #[.int .u8 (m : Int), .int .i64 0]) ∧ ∃ n, w' = w.drewN n := by
  have := ref_Of l a n c w hs
  rw [h] at this
  exact this

end Go.Proofs.Ytdeknimelkdaeaa
end

/- the text Free -/
section
/- A region that draws its order and whose operations make memory: shown operation by operation, whatever the order. Each operation of the head leaves a value in its slot and a fact on it that stays true when memory grows; the tail waits for the whole head. No program in sight. -/
set_option linter.unusedVariables false
namespace Go.Dx
open Go.RowKit

theorem wp_both {P : Program} {o : Oper} {a : Act} {w : World} {K K' : Act → World → Prop} {Q Q' : Exit → Act → World → Prop} (h : ∀ a w, K a w → K' a w) (hp : ∀ e a w, e ≠ .normal → Q e a w → Q' e a w)
    (hh : o.wp P a w K Q) : o.wp P a w K' Q' := by
  unfold Oper.wp at *
  generalize (execOp a.eval o).run P w = r at *
  cases r with
  | ok n w' =>
    cases n <;> simp only [Oper.upon] at hh ⊢ <;>
      first
        | exact h _ _ hh
        | exact Calls.mono hh (fun e w'' he => by
            cases e <;> first
              | exact h _ _ he
              | exact hp _ _ _ (by simp) he
              | (obtain ⟨a1, w1, h1⟩ := he; exact ⟨a1, w1, hp _ _ _ (by simp) h1⟩))
        | exact Rows.mono hh (fun _ _ he => h _ _ he)
  | halt x w' => cases x <;> simp only [Oper.upon] at hh ⊢ <;> first | exact hp _ _ _ (by simp) hh | exact hh

theorem opt_bool {x : Option Value} {b : Bool} (h : x.getD undef = .bool b) : x = some (.bool b) := by
  cases x with
  | none => simp [undef] at h
  | some v => rw [← h]; rfl
/-- one operation of the head: its number, its slot, the slots that its fact speaks of, the fact -/
structure HOp where
  i : Nat
  d : Nat
  s : List Nat
  p : List Value → World → Prop

def HOp.fact (t : HOp) (a : Act) (w : World) : Prop := t.p (t.s.map fun k => a.tmps.getD k undef) w
/-- what an operation leaves -/
def OneDone (d : Nat) (a : Act) (w : World) (R : Value → World → Prop) (e : Exit) (a' : Act) (w' : World) : Prop := e = .normal ∧ ∃ v, a' = a.put (some d) v ∧ Below w.heap.size w w' ∧ R v w'

section
variable {P : Program}

def putAll (a : Act) : List (Nat × Value) → Act
  | [] => a
  | (d, v) :: l => putAll (a.put (some d) v) l
theorem putAll_defers (a : Act) : ∀ l, (putAll a l).defers = a.defers := by
  intro l
  induction l generalizing a with
  | nil => rfl
  | cons x l ih => obtain ⟨d, v⟩ := x; rw [putAll, ih]; rfl
theorem putAll_size (a : Act) : ∀ l, (putAll a l).tmps.size = a.tmps.size := by
  intro l
  induction l generalizing a with
  | nil => rfl
  | cons x l ih => obtain ⟨d, v⟩ := x; rw [putAll, ih]; simp [Act.put]
theorem put_get (a : Act) (d k : Nat) (v : Value) : (a.put (some d) v).tmps.getD k undef = if d = k ∧ d < a.tmps.size then v else a.tmps.getD k undef := by
  unfold Act.put
  simp only [Array.getD_eq_getD_getElem?, Array.getElem?_setIfInBounds]
  by_cases h : d = k
  · subst h
    by_cases h2 : d < a.tmps.size
    · simp [h2]
    · simp [h2]
  · simp [h]
theorem putAll_get (g : Nat → Value) : ∀ (L : List Nat) (a : Act) (k : Nat), (∀ d ∈ L, d < a.tmps.size) → (putAll a (L.map fun d => (d, g d))).tmps.getD k undef = if k ∈ L then g k else a.tmps.getD k undef := by
  intro L
  induction L with
  | nil => intro a k _; simp [putAll]
  | cons d L ih =>
    intro a k hs
    have hd := hs d List.mem_cons_self
    rw [List.map_cons, putAll, ih _ _ (fun e he => by simp [Act.put]; exact hs e (List.mem_cons_of_mem _ he)), put_get]
    by_cases h1 : k ∈ L
    · rw [if_pos h1, if_pos (List.mem_cons_of_mem _ h1)]
    · rw [if_neg h1]
      by_cases h2 : d = k
      · subst h2; rw [if_pos ⟨rfl, hd⟩, if_pos List.mem_cons_self]
      · rw [if_neg (fun h => h2 h.1), if_neg (fun h => by rcases List.mem_cons.1 h with h | h; exact h2 h.symm; exact h1 h)]
theorem act_ext {a b : Act} (h1 : a.defers = b.defers) (h2 : a.tmps.size = b.tmps.size) (h3 : ∀ k, a.tmps.getD k undef = b.tmps.getD k undef) : a = b := by
  obtain ⟨x, d⟩ := a
  obtain ⟨y, e⟩ := b
  simp only at h1 h2 h3
  subst h1
  congr 1
  apply Array.ext h2
  intro k hk1 hk2
  have := h3 k
  simpa [Array.getD, hk1, hk2] using this

theorem inj_nodup {α : Type} (f : α → Nat) : ∀ (T : List α), (T.map f).Nodup → ∀ t ∈ T, ∀ u ∈ T, f t = f u → t = u := by
  intro T
  induction T with
  | nil => intro _ t ht; cases ht
  | cons x T ih =>
    intro h t ht u hu e
    rw [List.map_cons, List.nodup_cons] at h
    rcases List.mem_cons.1 ht with h1 | h1 <;> rcases List.mem_cons.1 hu with h2 | h2
    · rw [h1, h2]
    · exact absurd (show f x ∈ T.map f from List.mem_map.2 ⟨u, h2, by rw [← e, h1]⟩) h.1
    · exact absurd (show f x ∈ T.map f from List.mem_map.2 ⟨t, h1, by rw [e, h2]⟩) h.1
    · exact ih h.2 t h1 u h2 e
/-- a property of each element of a list, written out -/
def All {α : Type} (R : α → Prop) : List α → Prop
  | [] => True
  | x :: l => R x ∧ All R l
theorem All.mem {α : Type} {R : α → Prop} : ∀ {l : List α}, All R l → ∀ x ∈ l, R x
  | y :: l, h, x, hx => by
    rcases List.mem_cons.1 hx with rfl | hx
    · exact h.1
    · exact All.mem h.2 x hx
/-- the conditions on the text alone -/
def headOk (l : List Oper) (n : Nat) (T : List (Nat × Nat × List Nat)) (size : Nat) : Bool :=
  let ops := l.toArray
  decide ((T.map (·.1)).Nodup) && decide (n < l.length) && Region.sinkB .any ops n && Region.chainB .any ops n && Region.seqB .any ops (l.length - n) n ((List.replicate n true ++ List.replicate (l.length - n) false).toArray) &&
  (List.range n).all (fun j => T.any fun t => t.1 == j) &&
  T.all (fun t => decide (t.1 < n) && decide (t.2.1 < size) && (match l[t.1]? with | some o => o.dst == some t.2.1 && (o.after.all fun e => !Region.binds .any e || decide (e.on < t.1)) | none => false)) &&
  T.all (fun t => T.all fun u => t.1 == u.1 || (t.2.1 != u.2.1 && (!u.2.2.contains t.2.1 || Region.waitsFor .any ops u.1 t.1)))

structure FreeInv (l : List Oper) (n : Nat) (T : List HOp) (a0 : Act) (w0 : World) (listed : Array Bool) (a : Act) (w : World) : Prop where
  inv : HeadInv .any l.toArray n listed
  defers : a.defers = a0.defers
  size : a.tmps.size = a0.tmps.size
  frame : ∀ k, (∀ t ∈ T, t.d ≠ k) → a.tmps.getD k undef = a0.tmps.getD k undef
  bel : Below w0.heap.size w0 w
  facts : ∀ t ∈ T, listed.getD t.i false = true → t.fact a w

def todo (listed : Array Bool) (n : Nat) : Nat := ((List.range n).filter fun j => !listed.getD j true).length
theorem todo_set {listed : Array Bool} {n i : Nat} (hi : i < n) (hl : listed.getD i true = false) : todo (listed.setIfInBounds i true) n + 1 = todo listed n := by
  unfold todo
  have hlt : i < listed.size := by
    rcases Nat.lt_or_ge i listed.size with h | h
    · exact h
    · simp [Array.getElem?_eq_none h] at hl
  have key : ∀ m, ((List.range m).filter fun j => !(listed.setIfInBounds i true).getD j true).length + (if i < m then 1 else 0) = ((List.range m).filter fun j => !listed.getD j true).length := by
    intro m
    induction m with
    | zero => simp
    | succ m ih =>
      rw [List.range_succ, List.filter_append, List.filter_append, List.length_append, List.length_append]
      by_cases him : i = m
      · subst him
        have e1 : (listed.setIfInBounds i true).getD i true = true := by simp [hlt]
        rw [if_neg (Nat.lt_irrefl _)] at ih
        rw [if_pos (Nat.lt_succ_self _), ← ih]
        simp only [List.filter_cons, List.filter_nil, e1, hl, Bool.not_true, Bool.not_false, Bool.false_eq_true, if_false, if_true, List.length_nil, List.length_singleton]
      · have e2 : (List.filter (fun j => !(listed.setIfInBounds i true).getD j true) [m]) = List.filter (fun j => !listed.getD j true) [m] := by simp only [List.filter_cons, List.filter_nil, getD_set_ne true him]
        rw [e2]
        by_cases h : i < m
        · rw [if_pos h] at ih; rw [if_pos (by omega)]; omega
        · rw [if_neg h] at ih; rw [if_neg (by omega)]; omega
  have := key n
  rw [if_pos hi] at this
  exact this

theorem wp_region_free {id : Nat} {Q : Exit → Act → World → Prop} {a0 : Act} {w0 : World} {l : List Oper} (n : Nat) (T : List HOp) (hm : P.follows .mixedOrders = true)
    (hB : headOk l n (T.map fun t => (t.i, t.d, t.s)) a0.tmps.size = true)
    (hmono : All (fun t : HOp => ∀ vs w w', Below w.heap.size w w' → t.p vs w → t.p vs w') T)
    (hop : All (fun t : HOp => ∀ o, l[t.i]? = some o → ∀ (a : Act) (w : World), Below w0.heap.size w0 w →
      (∀ k, (T.map (·.d)).contains k = false → a.tmps.getD k undef = a0.tmps.getD k undef) →
      (∀ (k : Nat) (u : HOp), T[k]? = some u → Region.waitsFor .any l.toArray t.i u.i = true → u.p (u.s.map fun k => a.tmps.getD k undef) w) →
      wpList P l.toArray (OneDone t.d a w fun v w' => t.p (t.s.map fun k => if t.d = k then v else a.tmps.getD k undef) w') [o] a w) T)
    (hend : ∀ (g : Nat → Value) (w : World), Below w0.heap.size w0 w → (∀ (k : Nat) (u : HOp), T[k]? = some u → u.p (u.s.map fun k => if k ∈ T.map (·.d) then g k else a0.tmps.getD k undef) w) →
      wpList P l.toArray Q (l.drop n) (putAll a0 ((T.map (·.d)).map fun d => (d, g d))) w) : (Code.region id l.toArray true).wp P Q a0 w0 := by
  simp only [headOk, Bool.and_eq_true, decide_eq_true_eq] at hB
  obtain ⟨⟨⟨⟨⟨⟨⟨hnd, hn⟩, hs⟩, hc⟩, hseq⟩, hcov⟩, hT⟩, hpair⟩ := hB
  have hnodup : ∀ t ∈ T, ∀ u ∈ T, t.i = u.i → t = u := inj_nodup (·.i) T (by rw [List.map_map] at hnd; exact hnd)
  have hn' : n < l.toArray.size := by simpa using hn
  have cover : ∀ j, j < n → ∃ t ∈ T, t.i = j := by
    intro j hj
    have h := List.all_eq_true.1 hcov j (List.mem_range.2 hj)
    obtain ⟨x, hx, he⟩ := List.any_eq_true.1 h
    obtain ⟨t, ht, rfl⟩ := List.mem_map.1 hx
    exact ⟨t, ht, by simpa using he⟩
  have own : ∀ t ∈ T, t.i < n ∧ t.d < a0.tmps.size ∧ ∃ o, l[t.i]? = some o ∧ o.dst = some t.d ∧ ∀ e ∈ o.after, Region.binds .any e = true → e.on < t.i := by
    intro t ht
    have h := List.all_eq_true.1 hT _ (List.mem_map.2 ⟨t, ht, rfl⟩)
    simp only [Bool.and_eq_true, decide_eq_true_eq] at h
    obtain ⟨⟨h1, h2⟩, h3⟩ := h
    refine ⟨h1, h2, ?_⟩
    cases ho : l[t.i]? with
    | none => rw [ho] at h3; cases h3
    | some o =>
      rw [ho] at h3
      simp only [Bool.and_eq_true, beq_iff_eq] at h3
      refine ⟨o, rfl, h3.1, fun e he hb => ?_⟩
      have := Array.all_eq_true_iff_forall_mem.1 h3.2 e he
      simpa [hb] using this
  have pair : ∀ t ∈ T, ∀ u ∈ T, t.i ≠ u.i → t.d ≠ u.d ∧ (t.d ∈ u.s → Region.waitsFor .any l.toArray u.i t.i = true) := by
    intro t ht u hu hne
    have h := List.all_eq_true.1 (List.all_eq_true.1 hpair _ (List.mem_map.2 ⟨t, ht, rfl⟩)) _ (List.mem_map.2 ⟨u, hu, rfl⟩)
    simp only [Bool.or_eq_true, beq_iff_eq, hne, false_or, Bool.and_eq_true, bne_iff_ne, ne_eq, Bool.not_eq_true'] at h
    refine ⟨h.1, fun hin => ?_⟩
    rcases h.2 with h2 | h2
    · have : u.s.contains t.d = true := by simpa using hin
      rw [this] at h2; cases h2
    · exact h2
  have key : ∀ (f : Nat) (listed : Array Bool) (a : Act) (w : World), FreeInv l n T a0 w0 listed a w → todo listed n = f → wpAny P .any l.toArray Q (f + (l.length - n)) listed a w := by
    intro f
    induction f with
    | zero =>
      intro listed a w I h0
      have hall : ∀ j, j < n → listed.getD j true = true := by
        intro j hj
        cases hb : listed.getD j true with
        | true => rfl
        | false =>
          have : j ∈ (List.range n).filter fun j => !listed.getD j true := List.mem_filter.2 ⟨List.mem_range.2 hj, by rw [hb]; rfl⟩
          unfold todo at h0
          rw [List.eq_nil_of_length_eq_zero h0] at this
          cases this
      have hlist : listed = (List.replicate n true ++ List.replicate (l.length - n) false).toArray := by
        have hsz := I.inv.size
        apply Array.ext
        · simp at hsz ⊢; omega
        · intro j h1 h2
          by_cases hj : j < n
          · have := hall j hj
            simp [Array.getD, h1] at this
            simp [this, List.getElem_append_left, hj]
          · have := I.inv.tail j (by omega) (by rw [← hsz]; exact h1)
            simp [Array.getD, h1] at this
            simp only [this, List.getElem_toArray]
            rw [List.getElem_append_right (by simp; omega)]
            simp
      have ha : a = putAll a0 ((T.map (·.d)).map fun d => (d, a.tmps.getD d undef)) := by
        have hd : ∀ d ∈ T.map (·.d), d < a0.tmps.size := by
          intro d hd
          obtain ⟨t, ht, rfl⟩ := List.mem_map.1 hd
          exact (own t ht).2.1
        refine act_ext (by rw [putAll_defers]; exact I.defers) (by rw [putAll_size]; exact I.size) (fun k => ?_)
        rw [putAll_get (fun d => a.tmps.getD d undef) _ _ _ hd]
        by_cases h : k ∈ T.map (·.d)
        · rw [if_pos h]
        · rw [if_neg h]
          exact I.frame k (fun t ht e => h (List.mem_map.2 ⟨t, ht, e⟩))
      have hfin := hend (fun d => a.tmps.getD d undef) w I.bel (fun k u hu => by
        have hu' := List.mem_of_getElem? hu
        have h1 := I.facts u hu' (by
          have := hall u.i (own u hu').1
          rcases Nat.lt_or_ge u.i listed.size with h' | h'
          · simp [h'] at this ⊢; exact this
          · have := I.inv.size; have := (own u hu').1; omega)
        unfold HOp.fact at h1
        have e : (u.s.map fun k => if k ∈ T.map (·.d) then a.tmps.getD k undef else a0.tmps.getD k undef) = u.s.map fun k => a.tmps.getD k undef := by
          apply List.map_congr_left
          intro k _
          by_cases h : k ∈ T.map (·.d)
          · rw [if_pos h]
          · rw [if_neg h]
            exact (I.frame k (fun t ht e => h (List.mem_map.2 ⟨t, ht, e⟩))).symm
        rw [e]
        exact h1)
      rw [← ha] at hfin
      rw [Nat.zero_add]
      have hseq' : Region.seqB .any l.toArray (l.drop n).length n listed = true := by rw [hlist, List.length_drop]; exact hseq
      have := wpAny_of_seq (md := .any) (Q' := Q) (l.drop n) n listed a w (fun j => by simp [List.getElem?_drop]) hseq' hfin
      rwa [List.length_drop] at this
    | succ f ih =>
      intro listed a w I hf
      have hex : ∃ j, j < n ∧ listed.getD j true = false := by
        cases hL : (List.range n).filter fun j => !listed.getD j true with
        | nil => unfold todo at hf; rw [hL] at hf; cases hf
        | cons j L =>
          have : j ∈ (List.range n).filter fun j => !listed.getD j true := by rw [hL]; exact List.mem_cons_self
          obtain ⟨h1, h2⟩ := List.mem_filter.1 this
          exact ⟨j, List.mem_range.1 h1, by simpa using h2⟩
      have hready : Region.ready .any l.toArray listed ≠ [] := by
        have hmin : ∀ m j, j ≤ m → j < n → listed.getD j true = false → ∃ i, i ∈ Region.ready .any l.toArray listed := by
          intro m
          induction m with
          | zero =>
            intro j hj hjn hjl
            have hj0 : j = 0 := by omega
            subst hj0
            obtain ⟨t, ht, hti⟩ := cover 0 hjn
            obtain ⟨_, _, o, ho, _, hb⟩ := own t ht
            rw [hti] at ho hb
            exact ⟨0, mem_ready.2 ⟨hjl, o, by simpa using ho, fun e he hbe => absurd (hb e he hbe) (by omega)⟩⟩
          | succ m ihm =>
            intro j hj hjn hjl
            obtain ⟨t, ht, hti⟩ := cover j hjn
            obtain ⟨_, _, o, ho, _, hb⟩ := own t ht
            rw [hti] at ho hb
            by_cases hall : ∀ e ∈ o.after, Region.binds .any e = true → listed.getD e.on false = true
            · exact ⟨j, mem_ready.2 ⟨hjl, o, by simpa using ho, hall⟩⟩
            · simp only [Classical.not_forall] at hall
              obtain ⟨e, he, hbe, hne⟩ := hall
              have hlt := hb e he hbe
              have hes : e.on < listed.size := by rw [I.inv.size]; simp; omega
              exact ihm e.on (by omega) (by omega) (getD_in hes (by simpa using hne))
        obtain ⟨j, hj, hjl⟩ := hex
        obtain ⟨i, hi⟩ := hmin j j (Nat.le_refl _) hj hjl
        intro h
        rw [h] at hi
        cases hi
      rw [show f + 1 + (l.length - n) = (f + (l.length - n)) + 1 by omega]
      refine ⟨fun h => absurd h hready, fun i hi => ?_⟩
      have hin : i < n := by
        rcases Nat.lt_or_ge i n with h | h
        · exact h
        · obtain ⟨j, hj, hjl⟩ := hex
          exact absurd hi (tail_waits hs hc hn' I.inv _ j rfl hj hjl i h)
      obtain ⟨t, ht, hti⟩ := cover i hin
      obtain ⟨_, htd, o, ho, hdst, _⟩ := own t ht
      obtain ⟨hil, oi, hoi, hafter⟩ := mem_ready.1 hi
      have hoo : oi = o := by rw [hti] at ho; exact Option.some.inj (hoi.symm.trans (by simpa using ho))
      subst hoo
      have H := hop.mem t ht oi ho a w I.bel (fun k hk => I.frame k (fun u hu e => by
          have : (T.map (·.d)).contains k = true := by simpa using ⟨u, hu, e⟩
          rw [this] at hk; cases hk)) (fun k u hu hw => by
        have hu' := List.mem_of_getElem? hu
        obtain ⟨oj, hoj, e, he, hb, hon⟩ := Region.waitsFor_spec hw
        have : oj = oi := by rw [hti] at hoj; exact Option.some.inj (hoj.symm.trans hoi)
        subst this
        have h1 := hafter e he hb
        rw [hon] at h1
        exact I.facts u hu' h1)
      have step : ∀ (a' : Act) (w' : World), OneDone t.d a w (fun v w' => t.p (t.s.map fun k => if t.d = k then v else a.tmps.getD k undef) w') .normal a' w' → wpAny P .any l.toArray Q (f + (l.length - n)) (listed.setIfInBounds i true) a' w' := by
        intro a' w' h
        obtain ⟨_, v, rfl, hbel, hp⟩ := h
        refine ih _ _ _ ⟨I.inv.set hi hin, I.defers, ?_, ?_, ?_, ?_⟩ ?_
        · rw [← I.size]; simp [Act.put]
        · intro k hk
          rw [put_get, if_neg (fun h => hk t ht h.1)]
          exact I.frame k hk
        · exact I.bel.trans (hbel.mono I.bel.size)
        · intro u hu hul
          by_cases hui : t.i = u.i
          · have hd : u.d = t.d ∨ True := .inr trivial
            unfold HOp.fact
            by_cases hut : u = t
            · subst hut
              have e : (u.s.map fun k => (a.put (some u.d) v).tmps.getD k undef) = u.s.map fun k => if u.d = k then v else a.tmps.getD k undef := by
                apply List.map_congr_left
                intro k _
                rw [put_get, I.size]
                by_cases hk : u.d = k
                · rw [if_pos ⟨hk, htd⟩, if_pos hk]
                · rw [if_neg (fun h => hk h.1), if_neg hk]
              rw [e]
              exact hp
            · exact absurd (hnodup t ht u hu hui).symm hut
          · unfold HOp.fact
            have hul2 : listed.getD u.i false = true := by rw [← getD_set_ne false (i := i) (j := u.i) (by rw [← hti]; exact hui)]; exact hul
            have h1 := hmono.mem u hu _ _ _ hbel (I.facts u hu hul2)
            have hnot : t.d ∉ u.s := by
              intro hin2
              have hw := (pair t ht u hu hui).2 hin2
              obtain ⟨ou, hou, e, he, hb, hon⟩ := Region.waitsFor_spec hw
              have := I.inv.closed u.i ou hou hul2 e he hb
              rw [hon, hti, getD_both hil] at this
              cases this
            have e : (u.s.map fun k => (a.put (some t.d) v).tmps.getD k undef) = u.s.map fun k => a.tmps.getD k undef := by
              apply List.map_congr_left
              intro k hk
              rw [put_get, if_neg (fun (h : t.d = k ∧ t.d < a.tmps.size) => hnot (by rw [h.1]; exact hk))]
            rw [e]
            exact h1
        · have := todo_set hin hil; omega
      unfold wpList at H
      unfold wpOp
      rw [hoi]
      simp only
      by_cases hwant : Region.wanted oi (yielded l.toArray a.tmps) = true
      · rw [if_pos hwant] at H
        rw [if_pos hwant]
        left
        rcases H with H | ⟨_, a1, w1, h1, _⟩
        · exact wp_both (fun a' w' h => step a' w' h) (fun e a' w' he h => absurd h.1 he) H
        · cases h1
      · rw [if_neg hwant] at H
        rw [if_neg hwant]
        exact step _ _ H
  refine wp_region_any hm ?_
  have inv0 : HeadInv .any l.toArray n (Array.replicate l.toArray.size false) :=
    ⟨by simp, fun j oj _ hl => (by rw [getD_replicate_false] at hl; cases hl), fun t _ ht => getD_in (by simpa using ht) (getD_replicate_false _ _)⟩
  have I0 : FreeInv l n T a0 w0 (Array.replicate l.toArray.size false) a0 { w0 with drawn := w0.drawn + 1 } :=
    ⟨inv0, rfl, rfl, fun _ _ => rfl, Still.below 1, fun t _ hl => (by rw [getD_replicate_false] at hl; cases hl)⟩
  have ht0 : todo (Array.replicate l.toArray.size false) n = n := by
    unfold todo
    rw [List.filter_eq_self.2 (fun j hj => by
      have hj' := List.mem_range.1 hj
      have : (Array.replicate l.toArray.size false).getD j true = false := getD_in (by simp; omega) (getD_replicate_false _ _)
      rw [this]; rfl), List.length_range]
  have := key n _ _ _ I0 ht0
  rwa [show n + (l.length - n) = l.toArray.size by simp; omega] at this
end
end Go.Dx
end

/- the text C19 -/
section
namespace Go.Proofs.Ytdeknimelkdaeaa
open Go.RowKit Go.Dx

end Go.Proofs.Ytdeknimelkdaeaa
end

/- the text C20 -/
section
namespace Go.Proofs.Ytdeknimelkdaeaa
open Go.RowKit Go.Dx

end Go.Proofs.Ytdeknimelkdaeaa
end

/- the text C21 -/
section
namespace Go.Proofs.Ytdeknimelkdaeaa
open Go.RowKit Go.Dx

/-- Pack: the page and the error -/
def packR (W H : Int) (b : List Bool) : List (List UInt8) × Int := if properB W H b.length then (packL W.toNat H.toNat b, 0) else ([], 1)
theorem packR_no {W H : Int} {b : List Bool} (h : properB W H b.length = false) : packR W H b = ([], 1) := by unfold packR; rw [if_neg (by simp [h])]
theorem packR_yes {W H : Int} {b : List Bool} (h : properB W H b.length = true) : packR W H b = (packL W.toNat H.toNat b, 0) := by unfold packR; rw [if_pos h]
theorem proper_get {W H n : Int} (h : properB W H n = true) : 0 ≤ W ∧ 0 ≤ H ∧ W ≤ 65536 ∧ H ≤ 65536 ∧ W * H ≤ 65536 ∧ n = W * H := of_decide_eq_true h
theorem pg_nil (w : World) : Pg w none 0 0 [] [] := ⟨Sl.empty w 1, rfl, fun i h r h1 => by cases h1⟩

/-- What a call hands back that returns a raster and an error. -/
def GivesR (u : Nat × Nat × List Bool × Int) (w : World) (r : Ending) (w' : World) : Prop :=
  ∃ a n c, r = .returned (.tuple #[RV u.1 u.2.1 a n c, .int .i64 u.2.2.2]) ∧ Sl w' 1 a n c (u.2.2.1.map Value.bool) ∧ Below w.heap.size w w'
theorem unpackL_bad {p : List (List UInt8)} (h : p.any (fun l => !validB l) = true) : unpackL p = (0, 0, [], 1) := by unfold unpackL; rw [if_pos h]
theorem unpackL_limit {p : List (List UInt8)} (h : p.any (fun l => !validB l) = false) (h2 : 65536 < 2 * wideL p ∨ 65536 < 3 * p.length ∨ 65536 < 2 * wideL p * (3 * p.length)) : unpackL p = (0, 0, [], 4) := by
  unfold unpackL; rw [if_neg (by simp [h]), if_pos h2]
theorem unpackL_yes {p : List (List UInt8)} (h : p.any (fun l => !validB l) = false) (h2 : ¬ (65536 < 2 * wideL p ∨ 65536 < 3 * p.length ∨ 65536 < 2 * wideL p * (3 * p.length))) :
    unpackL p = (2 * wideL p, 3 * p.length, rbits p (2 * wideL p) (2 * wideL p * (3 * p.length)), 0) := by
  unfold unpackL; rw [if_neg (by simp [h]), if_neg h2]
end Go.Proofs.Ytdeknimelkdaeaa
end

/- the text CP2 -/
section
/- Plain laws on the written form of cells: no program in sight. -/
namespace Go.Proofs.Ytdeknimelkdaeaa
open Go.RowKit Go.Dx

/-- a cell's character; a character's cell -/
def chr (c : UInt8) : UInt8 := UInt8.ofNat (c.toNat + 32)
def unchr (c : UInt8) : UInt8 := UInt8.ofNat (c.toNat - 32)
def textL (l : List UInt8) : List UInt8 := if validB l = true then l.map chr else []
def noChr (c : UInt8) : Bool := decide (c.toNat < 32) || decide (96 ≤ c.toNat)
/-- Parse: the cells, and the error -/
def parseL (l : List UInt8) : List UInt8 × Int := if l.any noChr then ([], 2) else (l.map unchr, 0)
theorem textL_yes {l : List UInt8} (h : validB l = true) : textL l = l.map chr := by unfold textL; rw [if_pos h]
theorem textL_no {l : List UInt8} (h : validB l = false) : textL l = [] := by unfold textL; rw [if_neg (by simp [h])]
theorem parseL_no {l : List UInt8} (h : l.any noChr = true) : parseL l = ([], 2) := by unfold parseL; rw [if_pos h]
theorem parseL_yes {l : List UInt8} (h : l.any noChr = false) : parseL l = (l.map unchr, 0) := by unfold parseL; rw [if_neg (by simp [h])]
theorem chr_nat {c : UInt8} (h : noCell c = false) : (chr c).toNat = c.toNat + 32 := by
  unfold noCell at h; unfold chr
  have : ¬ 64 ≤ c.toNat := by simpa using h
  rw [UInt8.toNat_ofNat']; omega
theorem unchr_nat {c : UInt8} (h : noChr c = false) : (unchr c).toNat = c.toNat - 32 ∧ 32 ≤ c.toNat ∧ c.toNat < 96 := by
  unfold noChr at h; unfold unchr
  simp at h
  rw [UInt8.toNat_ofNat']; omega
theorem valid_get {l : List UInt8} (h : validB l = true) {i : Nat} {c : UInt8} (hc : l[i]? = some c) : noCell c = false := by
  unfold validB at h
  have h' : l.any noCell = false := by simpa using h
  have := List.any_eq_false.1 h' c (List.mem_of_getElem? hc)
  simpa using this
theorem chr_ok {c : UInt8} (h : noCell c = false) : noChr (chr c) = false ∧ unchr (chr c) = c := by
  have h1 := chr_nat h
  have h2 : ¬ 64 ≤ c.toNat := by unfold noCell at h; simpa using h
  have h3 : noChr (chr c) = false := by unfold noChr; rw [h1]; simp; omega
  refine ⟨h3, ?_⟩
  apply UInt8.toNat_inj.1
  rw [(unchr_nat h3).1, h1]; omega
theorem unchr_ok {c : UInt8} (h : noChr c = false) : noCell (unchr c) = false ∧ chr (unchr c) = c := by
  obtain ⟨h1, h2, h3⟩ := unchr_nat h
  have h4 : noCell (unchr c) = false := by unfold noCell; rw [h1]; simp; omega
  refine ⟨h4, ?_⟩
  apply UInt8.toNat_inj.1
  rw [chr_nat h4, h1]; omega
theorem parse_text {l : List UInt8} (h : validB l = true) : parseL (textL l) = (l, 0) := by
  rw [textL_yes h]
  have hv : ∀ c ∈ l, noCell c = false := by
    intro c hc
    obtain ⟨i, hi⟩ := List.getElem?_of_mem hc
    exact valid_get h hi
  have h1 : (l.map chr).any noChr = false := by
    rw [List.any_map]
    apply List.any_eq_false.2
    intro c hc
    simp [(chr_ok (hv c hc)).1]
  rw [parseL_yes h1, List.map_map]
  congr 1
  refine (List.map_congr_left (g := id) ?_).trans (List.map_id l)
  intro c hc
  exact (chr_ok (hv c hc)).2
theorem text_parse {l : List UInt8} (h : (parseL l).2 = 0) : textL (parseL l).1 = l := by
  cases hc : l.any noChr
  · rw [parseL_yes hc]
    have hv : ∀ c ∈ l, noChr c = false := by intro c hm; simpa using List.any_eq_false.1 hc c hm
    have h1 : validB (l.map unchr) = true := by
      unfold validB
      rw [List.any_map]
      have : l.any (noCell ∘ unchr) = false := by
        apply List.any_eq_false.2
        intro c hm
        simp [(unchr_ok (hv c hm)).1]
      rw [this]; rfl
    rw [textL_yes h1, List.map_map]
    refine (List.map_congr_left (g := id) ?_).trans (List.map_id l)
    intro c hm
    exact (unchr_ok (hv c hm)).2
  · rw [parseL_no hc] at h; simp at h
theorem text_parses (l : List UInt8) : (parseL (textL l)).2 = 0 := by
  cases h : validB l
  · rw [textL_no h]; rfl
  · rw [parse_text h]
end Go.Proofs.Ytdeknimelkdaeaa
end

/- the text C11 -/
section
namespace Go.Proofs.Ytdeknimelkdaeaa
open Go.RowKit Go.Dx

/-- What a call hands back that returns a slice of its own and an error. -/
def Gives2 (t : TypeId) (sz n : Nat) (cs : List Value) (x : Int) (w : World) (r : Ending) (w' : World) : Prop :=
  ∃ a c, r = .returned (.tuple #[.slice a n c, .int .i64 x]) ∧ Own w' w.heap.size t sz a n c cs ∧ Below w.heap.size w w'

theorem str_get {s : ByteArray} {k : Nat} (h : k < s.size) : s.data.toList[k]? = some s[k] := by
  rw [List.getElem?_eq_getElem (by rw [Array.length_toList]; exact h)]
  rfl
theorem str_len (s : ByteArray) : s.data.toList.length = s.size := by rw [Array.length_toList]; rfl
theorem lo_ok {c : UInt8} (h : noChr c = false) : decide ((c.toNat : Int) < 32) = false ∧ decide (96 ≤ (c.toNat : Int)) = false ∧ decide (95 < (c.toNat : Int)) = false ∧ (c.toNat : Int) - 32 = ((unchr c).toNat : Int) ∧ 32 ≤ (c.toNat : Int) ∧ (c.toNat : Int) < 96 := by
  obtain ⟨h1, h2, h3⟩ := unchr_nat h
  rw [h1]
  exact ⟨by simp; omega, by simp; omega, by simp; omega, by omega, by omega, by omega⟩
theorem lo_bad {c : UInt8} (h : noChr c = true) : decide ((c.toNat : Int) < 32) = true ∨ (decide ((c.toNat : Int) < 32) = false ∧ decide (96 ≤ (c.toNat : Int)) = true ∧ decide (95 < (c.toNat : Int)) = true) := by
  unfold noChr at h
  simp at h
  by_cases h1 : c.toNat < 32
  · left; simp; omega
  · right; refine ⟨by simp; omega, by simp; omega, by simp; omega⟩
theorem unchr_snoc (l : List UInt8) (c : UInt8) : (l ++ [c]).map unchr = l.map unchr ++ [unchr c] := by rw [List.map_append]; rfl

theorem chr_raw {c : UInt8} (h : noCell c = false) : (c.toNat : Int) + 32 = ((chr c).toNat : Int) ∧ 0 ≤ (c.toNat : Int) ∧ (c.toNat : Int) < 64 := by
  rw [chr_nat h]
  have : ¬ 64 ≤ c.toNat := by unfold noCell at h; simpa using h
  exact ⟨by omega, by omega, by omega⟩
theorem chr_snoc (l : List UInt8) (c : UInt8) : (l ++ [c]).map chr = l.map chr ++ [chr c] := by rw [List.map_append]; rfl
end Go.Proofs.Ytdeknimelkdaeaa
end

/- the text Shelf -/
section
/-
  DERIVED: THE SHELF's CONTRACTS AT THIS DUMP, IN PLAIN WORDS (tools/lay-plain.mjs out of 'TryShelf.lean', which tools/lay-shelf.mjs wrote): THE SAME DECLARATIONS UNDER THE SAME NAMES: 'import', 'namespace', 'open', 'def', 'theorem' AND NOTHING ELSE: no command of the shelf's: FOR A HAND-IN. Each laying: the table of numbers ('.._ren') and one theorem, a field a fact of the dump's own or the kernel's comparison; each contract: ONE APPLICATION.
-/
namespace Go.Proofs
open Go.Shelf
end Go.Proofs
end

/- the text CB1 -/
section
/- strings.Builder at this program: copyCheck and WriteByte, walked here (the shelf's laying of these two does not fit this dump); String is laid by the shelf. -/
namespace Go.Proofs.Ytdeknimelkdaeaa
open Go.RowKit Go.Dx

end Go.Proofs.Ytdeknimelkdaeaa
end

/- the text C12 -/
section
namespace Go.Proofs.Ytdeknimelkdaeaa
open Go.RowKit Go.Dx

theorem bytes_are (l : List UInt8) : Lib.byteCells l = l.map B8 := rfl
theorem chr_raw' {c : UInt8} (h : noCell c = false) : 32 + (c.toNat : Int) = ((chr c).toNat : Int) := by have := (chr_raw h).1; omega
end Go.Proofs.Ytdeknimelkdaeaa
end

/- the text C22 -/
section
namespace Go.Proofs.Ytdeknimelkdaeaa
open Go.RowKit Go.Dx

theorem lives_of : ofL [5, 1] = (17, 0) := by decide
theorem lives_pack : packR 3 1 [true, true, true] = ([[9, 1]], 0) := by decide +kernel
theorem lives_unpack : unpackL [[9, 1]] = (4, 3, [true, true, true, false, false, false, false, false, false, false, false, false], 0) := by decide +kernel
theorem lives_count : ((cN (List.flatten [[9, 0, 1]]) : Nat) : Int) = 2 ∧ ((cM (List.flatten [[9, 0, 1]]) : Nat) : Int) = 3 := by decide +kernel
theorem lives_dots : dotsL 25 = [1, 4, 5] := by decide +kernel
theorem lives_text : textL [0, 1, 63] = [32, 33, 95] := by decide +kernel
theorem lives_back : ((backC 1).toNat : Int) = 8 ∧ ((backC 14).toNat : Int) = 49 := by decide +kernel
theorem lit_v {w : World} {t : TypeId} {b : Nat} (hb : b = w.heap.size) {L : Array Value} (cs : List Value) (hL : L = cs.toArray) (n : Nat) (hn : cs.length = n) (hm : n ≤ maxLen) : Sl (w.alloc (.cells L t)) 1 (some ⟨b, 0, none⟩) n n cs := by
  subst hL hb; exact Sl.fresh w t 1 n cs (by omega) hm
/-- a page of one row, as a literal -/
theorem lit_pg {w : World} {t1 t2 : TypeId} {b b2 : Nat} (hb : b = w.heap.size) (hb2 : b2 = w.heap.size + 1) {L : Array Value} (r : List UInt8) (hL : L = (r.map B8).toArray) (n : Nat) (hn : r.length = n) (hm : n ≤ maxLen) :
    Pg ((w.alloc (.cells L t1)).alloc (.cells #[.slice (some ⟨b, 0, none⟩) n n] t2)) (some ⟨b2, 0, none⟩) 1 1 [(some ⟨b, 0, none⟩, n, n)] [r] := by
  subst hb hb2
  refine ⟨?_, rfl, ?_⟩
  · exact lit_v (w := w.alloc (.cells L t1)) (t := t2) (by simp) [.slice (some ⟨w.heap.size, 0, none⟩) n n] rfl 1 rfl (by unfold maxLen; omega)
  · intro i h s h1 h2
    cases i with
    | zero =>
      cases h1; cases h2
      exact (lit_v (w := w) (t := t1) rfl (r.map B8) hL n (by simp [hn]) hm).alloc _
    | succ i => cases h1
theorem Count_at {p : List (List UInt8)} {N M : Int} (h1 : (cN p.flatten : Int) = N) (h2 : (cM p.flatten : Int) = M) (h3 : p.flatten.length ≤ 1000000) {a : Option Addr} {n c : Nat} {hs : List Hd} {w : World} (hp : Pg w a n c hs p) :
    Calls Try.prog 33 #[.slice a n c] w fun e w' => e = .returned (.tuple #[.int .i64 N, .int .i64 M]) ∧ Below w.heap.size w w' := by subst h1 h2; exact cell_Count p hs a n c w hp h3
theorem Back_at {u : UInt8} {v k : Int} (hv : (u.toNat : Int) = v) (h : ((backC u).toNat : Int) = k) {w : World} :
    Calls Try.prog 62 #[.int .u8 v] w fun e w' => e = .returned (.int .u8 k) ∧ w = w' := by subst hv h; exact cell_Back u w
theorem Dots_at {u : UInt8} {v : Int} {l : List Int} (hv : (u.toNat : Int) = v) (h : dotsL u = l) {w : World} :
    Calls Try.prog 53 #[.int .u8 v] w (Gives 3 1 l.length (l.map I64) w) := by subst hv h; exact cell_Dots u w
theorem Equal_at {p q : List (List UInt8)} {v : Bool} (h : decide (p = q) = v) {h1 h2 : List Hd} {a1 a2 : Option Addr} {n1 n2 c1 c2 : Nat} {w : World} (hp : Pg w a1 n1 c1 h1 p) (hq : Pg w a2 n2 c2 h2 q) :
    Calls Try.prog 32 #[.slice a1 n1 c1, .slice a2 n2 c2] w fun e w' => e = .returned (.bool v) ∧ Below w.heap.size w w' := by
  subst h; exact (ref_Equal p q h1 h2 a1 a2 n1 n2 c1 c2 w hp hq).mono fun e w' ⟨h1, n, h2⟩ => ⟨h1, h2 ▸ Still.below n⟩
end Go.Proofs.Ytdeknimelkdaeaa
end

/- the text CP5 -/
section
/- A page without what counts as nothing: zeros at the ends of lines, empty lines at the end. Plain; no program in sight. -/
set_option linter.unusedVariables false
namespace Go.Proofs.Ytdeknimelkdaeaa

def trimEnd {α : Type} [DecidableEq α] (z : α) : List α → List α
  | [] => []
  | x :: l => if trimEnd z l = [] ∧ x = z then [] else x :: trimEnd z l
section
variable {α : Type} [DecidableEq α] {z : α}
theorem trim_nil_iff : ∀ (l : List α), trimEnd z l = [] ↔ ∀ k : Nat, l[k]?.getD z = z := by
  intro l
  induction l with
  | nil => simp [trimEnd]
  | cons x l ih =>
    unfold trimEnd
    constructor
    · intro h
      split at h
      · rename_i hh
        intro k
        cases k with
        | zero => simp [hh.2]
        | succ k => simpa using (ih.1 hh.1) k
      · cases h
    · intro h
      have h0 : x = z := by simpa using h 0
      have h1 : trimEnd z l = [] := ih.2 (fun k => by simpa using h (k + 1))
      rw [if_pos ⟨h1, h0⟩]
theorem trim_cons_eq (x y : α) (l m : List α) : trimEnd z (x :: l) = trimEnd z (y :: m) ↔ x = y ∧ trimEnd z l = trimEnd z m := by
  show (if trimEnd z l = [] ∧ x = z then [] else x :: trimEnd z l) = (if trimEnd z m = [] ∧ y = z then [] else y :: trimEnd z m) ↔ _
  split <;> split
  · rename_i h1 h2
    exact ⟨fun _ => ⟨h1.2.trans h2.2.symm, h1.1.trans h2.1.symm⟩, fun _ => rfl⟩
  · rename_i h1 h2
    refine ⟨fun h => (by cases h), fun h => absurd ⟨h.2.symm.trans h1.1, h.1.symm.trans h1.2⟩ h2⟩
  · rename_i h1 h2
    refine ⟨fun h => (by cases h), fun h => absurd ⟨h.2.trans h2.1, h.1.trans h2.2⟩ h1⟩
  · exact ⟨fun h => (by injection h with a b; exact ⟨a, b⟩), fun h => by rw [h.1, h.2]⟩
theorem trim_eq_iff : ∀ (l m : List α), trimEnd z l = trimEnd z m ↔ ∀ k : Nat, l[k]?.getD z = m[k]?.getD z := by
  intro l
  induction l with
  | nil =>
    intro m
    have := trim_nil_iff (z := z) m
    constructor
    · intro h k
      rw [this.1 h.symm k]; rfl
    · intro h
      exact (this.2 (fun k => (h k).symm)).symm
  | cons x l ih =>
    intro m
    cases m with
    | nil =>
      have := trim_nil_iff (z := z) (x :: l)
      constructor
      · intro h k
        rw [this.1 h k]; rfl
      · intro h
        exact this.2 (fun k => h k)
    | cons y m =>
      rw [trim_cons_eq, ih m]
      constructor
      · rintro ⟨rfl, h⟩ k
        cases k with
        | zero => rfl
        | succ k => simpa using h k
      · intro h
        exact ⟨by simpa using h 0, fun k => by simpa using h (k + 1)⟩
theorem trim_snoc_z (l : List α) : trimEnd z (l ++ [z]) = trimEnd z l := by
  rw [trim_eq_iff]
  intro k
  rw [List.getElem?_append]
  split
  · rfl
  · rename_i h
    rw [List.getElem?_eq_none (by omega : l.length ≤ k)]
    cases e : k - l.length with
    | zero => rfl
    | succ j => rfl
theorem trim_snoc_ne {x : α} (h : x ≠ z) : ∀ l : List α, trimEnd z (l ++ [x]) = l ++ [x] := by
  intro l
  induction l with
  | nil => simp [trimEnd, h]
  | cons y l ih =>
    rw [List.cons_append]
    unfold trimEnd
    rw [ih, if_neg (by simp)]
theorem trim_len (l : List α) : (trimEnd z l).length ≤ l.length := by
  induction l with
  | nil => simp [trimEnd]
  | cons x l ih => unfold trimEnd; split <;> simp <;> omega
end
def plainL (p : List (List UInt8)) : List (List UInt8) := trimEnd [] (p.map (trimEnd 0))
theorem plain_eq_iff (p q : List (List UInt8)) : plainL p = plainL q ↔ ∀ Y X, pcell p Y X = pcell q Y X := by
  unfold plainL
  rw [trim_eq_iff]
  have key : ∀ (r : List (List UInt8)) Y, (r.map (trimEnd 0))[Y]?.getD [] = trimEnd 0 (r.getD Y []) := by
    intro r Y
    rw [List.getElem?_map, List.getD_eq_getElem?_getD]
    cases r[Y]? <;> rfl
  constructor
  · intro h Y X
    have := h Y
    rw [key, key, trim_eq_iff] at this
    unfold pcell
    rw [List.getD_eq_getElem?_getD, List.getD_eq_getElem?_getD]
    exact this X
  · intro h Y
    rw [key, key, trim_eq_iff]
    intro X
    have := h Y X
    unfold pcell at this
    rw [List.getD_eq_getElem?_getD, List.getD_eq_getElem?_getD] at this
    exact this
def fitsB (p : List (List UInt8)) (long : List UInt8 → Bool) : Bool := decide (p.length ≤ 25) && !p.any long
end Go.Proofs.Ytdeknimelkdaeaa
end

/- the text C28 -/
section
namespace Go.Proofs.Ytdeknimelkdaeaa
open Go.RowKit Go.Dx

/-- a line that does not fit -/
def longRow (r : List UInt8) : Bool := decide (40 < r.length) || !validB r
def fits (p : List (List UInt8)) : Bool := fitsB p longRow

set_option maxHeartbeats 400000 in
theorem cell_Fits1 (l : List UInt8) (a : Option Addr) (n c : Nat) (w : World) (hs : Sl w 1 a n c (l.map B8)) :
    Calls Try.prog 55 #[.slice a n c] w fun e w' => e = .returned (.bool (longRow l)) ∧ w = w' := by
  unfold longRow
  have hc := cell_Valid l a n c w hs
  obtain rfl := hs.n_eq
  generalize validB l = v at hc ⊢
  by_cases h : 40 < l.length
  · have e : decide (40 < (l.length : Int)) = true := decide_eq_true (by omega)
    have e2 : decide (40 < l.length) = true := decide_eq_true h
    go_enter Try.func55, Try.ntmps55
    go_wp2_with fail
    go_ret
    exact ⟨by simp [e2], rfl⟩
  · have e : decide (40 < (l.length : Int)) = false := decide_eq_false (by omega)
    have e2 : decide (40 < l.length) = false := decide_eq_false h
    go_enter Try.func55, Try.ntmps55
    go_wp2_with (go_at_call 56; refine hc.mono ?_; rintro e w2 ⟨rfl, rfl⟩)
    go_ret
    exact ⟨by simp [e2], rfl⟩

set_option maxHeartbeats 400000 in
theorem index_pages (p : List (List UInt8)) (hs : List Hd) (a : Option Addr) (n c : Nat) (w : World) (hp : Pg w a n c hs p) :
    Calls Try.prog 67 #[.slice a n c, fnv 55] w fun e w' => ∃ i : Int, e = .returned (.int .i64 i) ∧ decide (0 ≤ i) = p.any longRow ∧ w = w' := by
  unfold fnv
  obtain rfl := hp.n_eq
  have hm1 := Nat.le_trans hp.top.le hp.top.cap
  unfold maxLen at hm1
  go_enter Try.func67, Try.ntmps67
  go_wp2_with fail
  go_loopg [8] p.length (fun g i w' => ∃ (k : Nat), k ≤ p.length ∧ g = p.length - k ∧ (p.take k).any longRow = false ∧ i = .int .i64 k ∧ w = w')
  case atStart => exact ⟨0, by omega, by omega, rfl, rfl, rfl⟩
  case round =>
    obtain ⟨k, hk, hg, ht, rfl, rfl⟩ := hrel
    have HG := hide hg
    have HT := hide ht
    clear hg ht
    by_cases hkl : k < p.length
    · obtain ⟨x, hx⟩ : ∃ x, p[k]? = some x := ⟨p[k], by simp [hkl]⟩
      obtain ⟨a', c', hu, hsx⟩ := hp.get hx
      have HH := hide hx
      have HU := hide hu
      clear hx hu
      cases hq : longRow x
      · have HN := hide (any_take_no HH.out HT.out hq)
        have hc := cell_Fits1 x _ _ _ w hsx
        rw [hq] at hc
        clear hq
        go_wp2_with (first
          | (with_reducible refine idx_p 14 _ _ _ _ _ hs rfl hp.top _ _ k rfl rfl _ HU.out ?_; intro b o hcell hbo)
          | (go_at_call 55; refine hc.mono ?_; rintro e w2 ⟨rfl, rfl⟩))
        go_roundg (p.length - (k + 1))
        case measure => have := HG.out; omega
        case rel => exact ⟨k + 1, by omega, rfl, HN.out, by go_num, rfl⟩
      · have HN := hide (any_of_get HH.out hq)
        have hc := cell_Fits1 x _ _ _ w hsx
        rw [hq] at hc
        clear hq
        go_wp2_with (first
          | (with_reducible refine idx_p 14 _ _ _ _ _ hs rfl hp.top _ _ k rfl rfl _ HU.out ?_; intro b o hcell hbo)
          | (go_at_call 55; refine hc.mono ?_; rintro e w2 ⟨rfl, rfl⟩))
        go_ret
        exact ⟨_, rfl, by rw [HN.out]; exact decide_eq_true (by omega), rfl⟩
    · obtain rfl : k = p.length := by omega
      go_wp2
      go_ret
      have := HT.out
      rw [List.take_length] at this
      exact ⟨_, rfl, by rw [this]; rfl, rfl⟩
set_option maxHeartbeats 400000 in
theorem contains_pages (p : List (List UInt8)) (hs : List Hd) (a : Option Addr) (n c : Nat) (w : World) (hp : Pg w a n c hs p) :
    Calls Try.prog 54 #[.slice a n c, fnv 55] w fun e w' => e = .returned (.bool (p.any longRow)) ∧ w = w' := by
  have hc := index_pages p hs a n c w hp
  unfold fnv at hc ⊢
  go_enter Try.func54, Try.ntmps54
  go_wp2_with (go_at_call 67; refine hc.mono ?_; rintro e w2 ⟨i, rfl, hi, rfl⟩)
  go_ret
  exact ⟨by rw [← hi]; rfl, rfl⟩
set_option maxHeartbeats 400000 in
theorem cell_Fits (p : List (List UInt8)) (hs : List Hd) (a : Option Addr) (n c : Nat) (w : World) (hp : Pg w a n c hs p) :
    Calls Try.prog 34 #[.slice a n c] w fun e w' => e = .returned (.bool (fits p)) ∧ w = w' := by
  unfold fits fitsB
  have hc := contains_pages p hs a n c w hp
  unfold fnv at hc
  obtain rfl := hp.n_eq
  generalize p.any longRow = v at hc ⊢
  by_cases h : p.length ≤ 25
  · have e : decide ((p.length : Int) ≤ 25) = true := decide_eq_true (by omega)
    have e2 : decide (p.length ≤ 25) = true := decide_eq_true h
    go_enter Try.func34, Try.ntmps34
    go_wp2_with (go_at_call 54; refine hc.mono ?_; rintro e w2 ⟨rfl, rfl⟩)
    go_ret
    exact ⟨by simp [e2], rfl⟩
  · have e : decide ((p.length : Int) ≤ 25) = false := decide_eq_false (by omega)
    have e2 : decide (p.length ≤ 25) = false := decide_eq_false h
    go_enter Try.func34, Try.ntmps34
    go_wp2_with fail
    go_ret
    exact ⟨by simp [e2], rfl⟩
theorem longRow_len {x : List UInt8} (h : 40 < x.length) : longRow x = true := by unfold longRow; simp [h]
theorem longRow_of {x : List UInt8} (h : ¬ 40 < x.length) : longRow x = !validB x := by unfold longRow; simp [h]
set_option maxHeartbeats 800000 in
theorem ref4_Fits (p : List (List UInt8)) (hs : List Hd) (a : Option Addr) (n c : Nat) (w : World) (hp : Pg w a n c hs p) :
    Calls Try.prog 49 #[.slice a n c] w fun e w' => e = .returned (.bool (fits p)) ∧ w = w' := by
  unfold fits fitsB
  obtain rfl := hp.n_eq
  have hm1 := Nat.le_trans hp.top.le hp.top.cap
  unfold maxLen at hm1
  by_cases h : p.length ≤ 25
  · have HE := hide (decide_eq_true h)
    go_enter Try.func49, Try.ntmps49
    go_wp2_with fail
    go_loopg [3] p.length (fun g i w' => ∃ (k : Nat), k ≤ p.length ∧ g = p.length - k ∧ (p.take k).any longRow = false ∧ i = .int .i64 k ∧ w = w')
    case atStart => exact ⟨0, by omega, by omega, rfl, rfl, rfl⟩
    case round =>
      obtain ⟨k, hk, hg, ht, rfl, rfl⟩ := hrel
      have HG := hide hg
      have HT := hide ht
      clear hg ht
      by_cases hkl : k < p.length
      · obtain ⟨x, hx⟩ : ∃ x, p[k]? = some x := ⟨p[k], by simp [hkl]⟩
        obtain ⟨a', c', hu, hsx⟩ := hp.get hx
        have HH := hide hx
        have HU := hide hu
        clear hx hu
        have hxm := Nat.le_trans hsx.le hsx.cap
        unfold maxLen at hxm
        by_cases h40 : 40 < x.length
        · have HN := hide (any_of_get HH.out (longRow_len h40))
          have e : decide (40 < (x.length : Int)) = true := decide_eq_true (by omega)
          go_wp2_with (with_reducible refine idx_p 15 _ _ _ _ _ hs rfl hp.top _ _ k rfl rfl _ HU.out ?_; intro b o hcell hbo)
          go_ret
          exact ⟨by rw [HN.out, HE.out]; rfl, rfl⟩
        · have HV := longRow_of h40
          have e : decide (40 < (x.length : Int)) = false := decide_eq_false (by omega)
          have hc := ref_Valid x _ _ _ w hsx
          obtain ⟨b1, o1, hab, hb1, hc1⟩ := hp.top.ex (by rw [List.length_map, hp.len]; omega)
          subst hab
          have hx1 : w.cell? ⟨b1, o1 + k, none⟩ = some (.slice a' x.length c') := hc1 k _ HU.out
          clear hc1
          cases hv : validB x
          · rw [hv] at HV hc
            have HN := hide (any_of_get HH.out HV)
            clear hv HV
            go_wp2_with (go_at_call 64; refine hc.mono ?_; rintro e w2 ⟨rfl, rfl⟩)
            go_ret
            exact ⟨by rw [HN.out, HE.out]; rfl, rfl⟩
          · rw [hv] at HV hc
            have HN := hide (any_take_no HH.out HT.out HV)
            clear hv HV
            go_wp2_with (go_at_call 64; refine hc.mono ?_; rintro e w2 ⟨rfl, rfl⟩)
            go_roundg (p.length - (k + 1))
            case measure => have := HG.out; omega
            case rel => exact ⟨k + 1, by omega, rfl, HN.out, by go_num, rfl⟩
      · obtain rfl : k = p.length := by omega
        go_wp2
        go_ret
        have := HT.out
        rw [List.take_length] at this
        exact ⟨by rw [this, HE.out]; rfl, rfl⟩
  · have HE := hide (decide_eq_false h)
    go_enter Try.func49, Try.ntmps49
    go_wp2_with fail
    go_ret
    exact ⟨by rw [HE.out]; rfl, rfl⟩
theorem ref_Fits (p : List (List UInt8)) (hs : List Hd) (a : Option Addr) (n c : Nat) (w : World) (hp : Pg w a n c hs p) :
    Calls Try.prog 49 #[.slice a n c] w fun e w' => e = .returned (.bool (fits p)) ∧ w = w' := ref4_Fits p hs a n c w hp
end Go.Proofs.Ytdeknimelkdaeaa
end

/- the text C29 -/
section
namespace Go.Proofs.Ytdeknimelkdaeaa
open Go.RowKit Go.Dx

set_option maxHeartbeats 400000 in
theorem eq_bytes (l1 l2 : List UInt8) (a1 a2 : Option Addr) (n1 n2 c1 c2 : Nat) (w : World) (h1 : Sl w 1 a1 n1 c1 (l1.map B8)) (h2 : Sl w 1 a2 n2 c2 (l2.map B8)) :
    Calls Try.prog 59 #[.slice a1 n1 c1, .slice a2 n2 c2] w (Still (.bool (decide (l1 = l2))) w) := by
  obtain rfl := h1.n_eq
  obtain rfl := h2.n_eq
  have hm1 := Nat.le_trans h1.le h1.cap
  have hm2 := Nat.le_trans h2.le h2.cap
  unfold maxLen at hm1 hm2
  by_cases hlen : l1.length = l2.length
  · have hb := eq_nat hlen
    have hle1 : l1.length ≤ l2.length := by omega
    have hle2 : l2.length ≤ l1.length := by omega
    have HL := hide hlen
    clear hlen
    go_enter Try.func59, Try.ntmps59
    go_wp2
    go_loopg [13] l1.length (fun g i w' => ∃ (k n : Nat), k ≤ l1.length ∧ g = l1.length - k ∧ l1.take k = l2.take k ∧ i = .int .i64 k ∧ w' = w.drewN n)
    case atStart => exact ⟨0, 0, by omega, by omega, rfl, rfl, rfl⟩
    case round =>
      obtain ⟨k, nq, hk, hg, ht, rfl, rfl⟩ := hrel
      have HG := hide hg
      have HT := hide ht
      clear hg ht
      by_cases hkl : k < l1.length
      · obtain ⟨b1, o1, rfl, hb1, hc1⟩ := h1.ex (by simp; omega)
        obtain ⟨b2, o2, rfl, hb2, hc2⟩ := h2.ex (by simp; omega)
        obtain ⟨x, hx⟩ : ∃ x, l1[k]? = some x := ⟨l1[k], by simp [hkl]⟩
        obtain ⟨y, hy⟩ : ∃ y, l2[k]? = some y := ⟨l2[k]'(by omega), by simp⟩
        have hx1 : w.cell? ⟨b1, o1 + k, none⟩ = some (.int .u8 (x.toNat : Int)) := hc1 k _ (by rw [List.getElem?_map, hx]; rfl)
        have hy1 : w.cell? ⟨b2, o2 + k, none⟩ = some (.int .u8 (y.toNat : Int)) := hc2 k _ (by rw [List.getElem?_map, hy]; rfl)
        have HX := hide (same_step hx hy HT.out)
        clear hc1 hc2 hx hy
        by_cases hxy : x = y
        · have HE := hide (HX.out.1 hxy)
          subst hxy
          have hn : ((x.toNat : Int) != (x.toNat : Int)) = false := by simp
          go_wp2
          go_quiet (fail)
          go_wp2
          go_roundg (l1.length - (k + 1))
          case measure => have := HG.out; omega
          case rel => exact ⟨k + 1, _, by omega, rfl, HE.out, by go_num, by first | rfl | exact World.drewN_drewN _ _ _⟩
        · have hn : ((x.toNat : Int) != (y.toNat : Int)) = true := neq_nat (fun e => hxy (UInt8.toNat_inj.1 e))
          have HE := hide (ne_of_take (fun e => hxy (HX.out.2 e)))
          have hne : Value.bool (decide (l1 = l2)) = .bool false := by rw [decide_eq_false HE.out]
          have HN := hide hne
          clear hne hxy
          go_wp2
          go_quiet (fail)
          go_wp2
          go_ret
          exact ⟨by rw [HN.out]; rfl, _, World.drewN_drewN _ _ _⟩
      · obtain rfl : k = l1.length := by omega
        go_wp2
        go_ret
        have : l1 = l2 := by have := HT.out; rw [List.take_length, List.take_of_length_le (by omega)] at this; exact this
        exact ⟨by rw [decide_eq_true this]; rfl, _, rfl⟩
  · have hb := neq_nat hlen
    have HN := hide (decide_eq_false (fun e : l1 = l2 => hlen (by rw [e])))
    clear hlen
    go_enter Try.func59, Try.ntmps59
    go_wp2
    go_ret
    exact ⟨by rw [HN.out]; rfl, 0, rfl⟩




theorem cuthi_p {w : World} {ops : Array Oper} {rest : List Oper} {act : Act} {Q : Exit → Act → World → Prop} {ty : TypeId} {pos : String} {after : Array Edge} (d : Nat) (x hi : Operand) (a : Option Addr) (n c : Nat) (hs : List Hd) (hx : act.eval x = .slice a n c) (ht : Sl w 1 a n c (hs.map hv)) (ku : IntKind) (uv : Int) (u : Nat) (hu : act.eval hi = .int ku uv)
    (huv : uv = (u : Int)) (hun : u ≤ n) (hK : Sl w 1 a u c ((hs.take u).map hv) → wpList Try.prog ops Q rest (act.put (some d) (.slice a u c)) w) :
    wpList Try.prog ops Q ({ dst := some d, op := .slice 28 x none (some hi) none, type := ty, pos := pos, after := after, guard := none } :: rest) act w :=
  cut_hi d 28 x hi 31 Try.underlying28 1 size_row a n c _ hx ht ku uv u hu huv hun (fun h => hK (by rw [Nat.mul_one, ← List.map_take] at h; exact h))

set_option maxHeartbeats 400000 in
theorem eqf_pages (p q : List (List UInt8)) (h1 h2 : List Hd) (a1 a2 : Option Addr) (n1 n2 c1 c2 : Nat) (w : World) (hp : Pg w a1 n1 c1 h1 p) (hq : Pg w a2 n2 c2 h2 q) :
    Calls Try.prog 57 #[.slice a1 n1 c1, .slice a2 n2 c2, fnv 59] w fun e w' => e = .returned (.bool (decide (p = q))) ∧ Below w.heap.size w w' := by
  unfold fnv
  obtain rfl := hp.n_eq
  obtain rfl := hq.n_eq
  have hm1 := Nat.le_trans hp.top.le hp.top.cap
  have hm2 := Nat.le_trans hq.top.le hq.top.cap
  unfold maxLen at hm1 hm2
  by_cases hlen : p.length = q.length
  · have hb := eq_nat hlen
    have hle1 : p.length ≤ q.length := by omega
    have hle2 : q.length ≤ p.length := by omega
    have HL := hide hlen
    clear hlen
    go_enter Try.func57, Try.ntmps57
    go_wp2_with fail
    go_loopg [17] p.length (fun g i w' => ∃ (k : Nat), k ≤ p.length ∧ g = p.length - k ∧ p.take k = q.take k ∧ i = .int .i64 k ∧ Below w.heap.size w w')
    case atStart => exact ⟨0, by omega, by omega, rfl, rfl, Below.refl _ _⟩
    case round =>
      obtain ⟨k, hk, hg, ht, rfl, hbk⟩ := hrel
      have HG := hide hg
      have HT := hide ht
      clear hg ht
      by_cases hkl : k < p.length
      · obtain ⟨x, hx⟩ : ∃ x, p[k]? = some x := ⟨p[k], by simp [hkl]⟩
        obtain ⟨y, hy⟩ : ∃ y, q[k]? = some y := ⟨q[k]'(by omega), by simp⟩
        obtain ⟨ax, cx, hux, hsx⟩ := hp.get hx
        obtain ⟨ay, cy, huy, hsy⟩ := hq.get hy
        have HX := hide (same_step' hx hy HT.out)
        have HUX := hide hux
        have HUY := hide huy
        have hcall := (eq_bytes x y _ _ _ _ _ _ wr (hsx.below hbk) (hsy.below hbk)).mono (R' := fun e w' => e = .returned (.bool (decide (x = y))) ∧ Below wr.heap.size wr w') (fun e w' ⟨g1, m, g2⟩ => ⟨g1, g2 ▸ Still.below m⟩)
        have ht1 := hp.top.below hbk
        have ht2 := hq.top.below hbk
        clear hx hy hux huy
        by_cases hxy : x = y
        · have HE := hide (HX.out.1 hxy)
          rw [decide_eq_true hxy] at hcall
          clear hxy
          go_wp2_with (first
            | (with_reducible refine idx_p 20 _ _ _ _ _ h1 rfl ht1 _ _ k rfl rfl _ HUX.out ?_; intro b o hcell hbo)
            | (with_reducible refine idx_p 24 _ _ _ _ _ h2 rfl ht2 _ _ k rfl rfl _ HUY.out ?_; intro b2 o2 hcell2 hbo2)
            | (go_at_call 59; refine hcall.mono ?_; rintro e w2 ⟨rfl, hb2⟩))
          go_roundg (p.length - (k + 1))
          case measure => have := HG.out; omega
          case rel => exact ⟨k + 1, by omega, rfl, HE.out, by go_num, hbk.trans (hb2.mono hbk.size)⟩
        · have HE := hide (ne_of_take' (fun e => hxy (HX.out.2 e)))
          have HN := hide (decide_eq_false HE.out)
          rw [decide_eq_false hxy] at hcall
          clear hxy
          go_wp2_with (first
            | (with_reducible refine idx_p 20 _ _ _ _ _ h1 rfl ht1 _ _ k rfl rfl _ HUX.out ?_; intro b o hcell hbo)
            | (with_reducible refine idx_p 24 _ _ _ _ _ h2 rfl ht2 _ _ k rfl rfl _ HUY.out ?_; intro b2 o2 hcell2 hbo2)
            | (go_at_call 59; refine hcall.mono ?_; rintro e w2 ⟨rfl, hb2⟩))
          go_ret
          exact ⟨by rw [HN.out]; rfl, hbk.trans (hb2.mono hbk.size)⟩
      · obtain rfl : k = p.length := by omega
        go_wp2
        go_ret
        have : p = q := by have := HT.out; rw [List.take_length, List.take_of_length_le (by omega)] at this; exact this
        exact ⟨by rw [decide_eq_true this]; rfl, hbk⟩
  · have hb := neq_nat hlen
    have HN := hide (decide_eq_false (fun e : p = q => hlen (by rw [e])))
    clear hlen
    go_enter Try.func57, Try.ntmps57
    go_wp2
    go_ret
    exact ⟨by rw [HN.out]; rfl, Below.refl _ _⟩

/-- What a call hands back that returns a page. -/
def GivesP (q : List (List UInt8)) (w : World) (r : Ending) (w' : World) : Prop := ∃ a c hs, r = .returned (.slice a q.length c) ∧ Pg w' a q.length c hs q ∧ Below w.heap.size w w'
/-- the lines that some headers show -/
def RowsOf (w : World) (hs : List Hd) (q : List (List UInt8)) : Prop := ∀ (i : Nat) (h : Hd) (r : List UInt8), hs[i]? = some h → q[i]? = some r → Sl w 1 h.1 h.2.1 h.2.2 (r.map B8)
theorem RowsOf.push {w : World} {hs : List Hd} {q : List (List UInt8)} {h : Hd} {r : List UInt8} (H : RowsOf w hs q) (hl : hs.length = q.length) (hr : Sl w 1 h.1 h.2.1 h.2.2 (r.map B8)) : RowsOf w (hs ++ [h]) (q ++ [r]) := by
  intro i x s hx hs'
  rw [List.getElem?_append] at hx hs'
  by_cases hi : i < hs.length
  · rw [if_pos hi] at hx
    rw [if_pos (by rw [← hl]; exact hi)] at hs'
    exact H i x s hx hs'
  · rw [if_neg hi] at hx
    rw [if_neg (by rw [← hl]; exact hi), ← hl] at hs'
    have e : i - hs.length = 0 := by have := (List.getElem?_eq_some_iff.1 hx).1; simp at this; omega
    rw [e] at hx hs'
    simp at hx hs'
    subst hx hs'
    exact hr
theorem map_snoc {α β : Type} {f : α → β} {l : List α} {k : Nat} {x : α} (h : l[k]? = some x) : (l.take (k + 1)).map f = (l.take k).map f ++ [f x] := by rw [take_snoc h, List.map_append]; rfl

theorem RowsOf.take {w : World} {hs : List Hd} {q : List (List UInt8)} (H : RowsOf w hs q) (m : Nat) : RowsOf w (hs.take m) (q.take m) := by
  intro i h r hh hr
  rw [List.getElem?_take] at hh hr
  by_cases hi : i < m
  · rw [if_pos hi] at hh hr
    exact H i h r hh hr
  · rw [if_neg hi] at hh
    cases hh
theorem plain_exit {w w' : World} {B : Nat} {p Q : List (List UInt8)} {hs2 : List Hd} {a2 : Option Addr} {n c2 m : Nat} (hQ : p.map (trimEnd 0) = Q) (hn : p.length = n) (hm : m ≤ n) (hl : hs2.length = n) (hS : Q.take m = trimEnd [] Q) (hown : Own w' B 31 1 a2 n c2 (hs2.map hv)) (hrows : RowsOf w hs2 Q) (hbk : Below w.heap.size w w') :
    GivesP (plainL p) w (.returned (.slice a2 m c2)) w' := by
  have e : plainL p = Q.take m := by unfold plainL; rw [hQ, hS]
  have hql : Q.length = n := by rw [← hQ, List.length_map]; exact hn
  have hlen : (Q.take m).length = m := by rw [List.length_take]; omega
  rw [e]
  refine ⟨a2, c2, hs2.take m, by rw [hlen], ?_, hbk⟩
  rw [hlen]
  refine ⟨?_, by rw [hlen, List.length_take]; omega, fun i h r hh hr => (hrows.take m i h r hh hr).below hbk⟩
  have := hown.sl.take m hm
  rw [← List.map_take] at this
  exact this

set_option maxRecDepth 100000 in
set_option maxHeartbeats 1000000 in
theorem cell_plain (p : List (List UInt8)) (hs : List Hd) (a : Option Addr) (n c : Nat) (w : World) (hp : Pg w a n c hs p) (hpl : p.length ≤ 5864062014634) :
    Calls Try.prog 58 #[.slice a n c] w (GivesP (plainL p) w) := by
  obtain rfl := hp.n_eq
  have hm1 := Nat.le_trans hp.top.le hp.top.cap
  unfold maxLen at hm1
  go_enter Try.func58, Try.ntmps58
  go_wp2_with fail
  go_loopg [3, 9] p.length (fun g s i w' => ∃ (k : Nat) (a2 : Option Addr) (c2 : Nat) (hs2 : List Hd), k ≤ p.length ∧ g = p.length - k ∧ hs2.length = k ∧ i = .int .i64 k ∧ s = .slice a2 k c2 ∧ Own w' w.heap.size 31 1 a2 k c2 (hs2.map hv) ∧ RowsOf w hs2 ((p.take k).map (trimEnd 0)) ∧ Below w.heap.size w w')
  case atStart => exact ⟨0, none, 0, [], by omega, by omega, rfl, rfl, rfl, Own.nil _ _ _ _, (fun i h r h1 => by cases h1), Below.refl _ _⟩
  case round =>
    obtain ⟨k, a2, c2, hs2, hk, hg, hl2, rfl, rfl, hown, hrows, hbk⟩ := hrel
    have HG := hide hg
    have HL2 := hide hl2
    have HR := hide hrows
    clear hg hl2 hrows
    by_cases hkl : k < p.length
    · obtain ⟨x, hx⟩ : ∃ x, p[k]? = some x := ⟨p[k], by simp [hkl]⟩
      obtain ⟨ax, cx, hux, hsx⟩ := hp.get hx
      have HX := hide hx
      have HUX := hide hux
      have ht1 := hp.top.below hbk
      have hsw := hsx.below hbk
      have hxm := Nat.le_trans hsx.le hsx.cap
      unfold maxLen at hxm
      clear hx hux
      go_wp2_with (with_reducible refine idx_p 11 _ _ _ _ _ hs rfl ht1 _ _ k rfl rfl _ HUX.out ?_; intro b o hcell hbo)
      clear hcell hbo
      go_loopg [6] x.length (fun g i w' => ∃ (m : Nat), m ≤ x.length ∧ g = m ∧ i = .int .i64 m ∧ Hid (trimEnd 0 (x.take m) = trimEnd 0 x) ∧ wr = w')
      case atStart => exact ⟨x.length, Nat.le_refl _, rfl, rfl, hide (by rw [List.take_length]), rfl⟩
      case round =>
        obtain ⟨m, hm, hg1, rfl, HT, rfl⟩ := hrel
        have HG1 := hide hg1
        clear hg1
        have stop : Hid (x.take m = trimEnd 0 x) → True := fun _ => trivial
        rcases Nat.eq_zero_or_pos m with hm0 | hm0
        · subst hm0
          have HS : Hid (x.take 0 = trimEnd 0 x) := by show _ = _; rw [← HT.out]; rfl
          clear HT
          go_wp2_with (at_builtin; refine append_lit rfl _ _ 28 rfl 31 (.slice none 0 0) 1 24 Try.underlying28 info_row rfl w w.heap.size a2 k c2 _ rfl hown 1 [hv (ax, 0, cx)] rfl rfl (by simp [hv, Value.oneCell']) (by omega) (by unfold maxLen; omega) hbk.size hbk ?_; intro a' c' w' ho' hgr' hb')
          go_roundg (p.length - (k + 1))
          case measure => have := HG.out; omega
          case rel =>
            have hrow := hsx.take (0) hm
            rw [← List.map_take, HS.out] at hrow
            refine ⟨k + 1, a', c', hs2 ++ [(ax, 0, cx)], by omega, rfl, by rw [List.length_append, HL2.out]; rfl, by go_num, rfl, by rw [List.map_append]; exact ho', ?_, hb'⟩
            rw [map_snoc HX.out]
            exact HR.out.push (by rw [HL2.out, List.length_map, List.length_take]; omega) hrow
        · obtain ⟨kk, rfl⟩ : ∃ kk, m = kk + 1 := ⟨m - 1, by omega⟩
          obtain ⟨u, hu⟩ : ∃ u, x[kk]? = some u := ⟨x[kk]'(by omega), by simp⟩
          obtain ⟨b1, o1, hab, hb1, hc1⟩ := hsw.ex (by rw [List.length_map]; omega)
          subst hab
          have hx1 : wr.cell? ⟨b1, o1 + kk, none⟩ = some (.int .u8 (u.toNat : Int)) := hc1 kk _ (by rw [List.getElem?_map, hu]; rfl)
          have HU := hide hu
          clear hc1 hu
          by_cases hu0 : u = 0
          · have HN : Hid (trimEnd 0 (x.take kk) = trimEnd 0 x) := by show _ = _; rw [← HT.out, take_snoc HU.out, hu0, trim_snoc_z]
            subst hu0
            go_wp2_with fail
            go_roundg kk
            case measure => have := HG1.out; omega
            case rel => exact ⟨kk, by omega, rfl, by go_num, HN, rfl⟩
          · have HS : Hid (x.take (kk + 1) = trimEnd 0 x) := by show _ = _; rw [← HT.out, take_snoc HU.out, trim_snoc_ne hu0]
            have hne : ((u.toNat : Int) == 0) = false := by have : u.toNat ≠ 0 := fun e => hu0 (UInt8.toNat_inj.1 e); simp; exact this
            go_wp2_with (first
              | (with_reducible refine cuthi_b 30 _ _ _ _ _ x rfl hsw _ _ (kk + 1) rfl rfl (by omega) ?_; intro hcut)
              | (at_builtin; refine append_lit rfl _ _ 28 rfl 31 (.slice none 0 0) 1 24 Try.underlying28 info_row rfl w w.heap.size a2 k c2 _ rfl hown 1 [hv (some ⟨b1, o1, none⟩, kk + 1, cx)] rfl rfl (by simp [hv, Value.oneCell']) (by omega) (by unfold maxLen; omega) hbk.size hbk ?_; intro a' c' w' ho' hgr' hb'))
            go_roundg (p.length - (k + 1))
            case measure => have := HG.out; omega
            case rel =>
              have hrow := hsx.take (kk + 1) hm
              rw [← List.map_take, HS.out] at hrow
              refine ⟨k + 1, a', c', hs2 ++ [(some ⟨b1, o1, none⟩, kk + 1, cx)], by omega, rfl, by rw [List.length_append, HL2.out]; rfl, by go_num, rfl, by rw [List.map_append]; exact ho', ?_, hb'⟩
              rw [map_snoc HX.out]
              exact HR.out.push (by rw [HL2.out, List.length_map, List.length_take]; omega) hrow
    · obtain rfl : k = p.length := by omega
      have hrows := HR.out
      rw [List.take_length] at hrows
      obtain ⟨Q, HQ⟩ : ∃ Q, Hid (p.map (trimEnd 0) = Q) := ⟨_, hide rfl⟩
      rw [HQ.out] at hrows
      have HQL : Hid (Q.length = p.length) := by show _ = _; rw [← HQ.out, List.length_map]
      clear HR
      go_wp2_with fail
      go_loopg [3] p.length (fun g s w' => ∃ (m : Nat), m ≤ p.length ∧ g = m ∧ s = .slice a2 m c2 ∧ Hid (trimEnd [] (Q.take m) = trimEnd [] Q) ∧ wr = w')
      case atStart => exact ⟨p.length, Nat.le_refl _, rfl, rfl, hide (by rw [← HQL.out, List.take_length]), rfl⟩
      case round =>
        obtain ⟨m, hm, hg1, rfl, HT, rfl⟩ := hrel
        have HG1 := hide hg1
        clear hg1
        rcases Nat.eq_zero_or_pos m with hm0 | hm0
        · subst hm0
          have HS : Hid (Q.take 0 = trimEnd [] Q) := by show _ = _; rw [← HT.out]; rfl
          clear HT
          go_wp2_with fail
          go_ret
          exact plain_exit HQ.out rfl hm HL2.out HS.out hown hrows hbk
        · obtain ⟨kk, rfl⟩ : ∃ kk, m = kk + 1 := ⟨m - 1, by omega⟩
          obtain ⟨r, hr⟩ : ∃ r, Q[kk]? = some r := ⟨Q[kk]'(by rw [HQL.out]; omega), by simp⟩
          obtain ⟨⟨xa, xn, xc⟩, hh⟩ : ∃ h, hs2[kk]? = some h := ⟨hs2[kk]'(by rw [HL2.out]; omega), by simp⟩
          have hsr := hrows kk _ _ hh hr
          obtain rfl : xn = r.length := hsr.n_eq
          obtain ⟨b1, o1, hab, hb1, hc1⟩ := hown.sl.ex (by rw [List.length_map, HL2.out]; omega)
          subst hab
          have hx1 : wr.cell? ⟨b1, o1 + kk, none⟩ = some (.slice xa r.length xc) := hc1 kk _ (by rw [List.getElem?_map, hh]; rfl)
          have ht1 := hown.sl.take (kk + 1) hm
          rw [← List.map_take] at ht1
          have HRR := hide hr
          clear hc1 hr hh
          by_cases hr0 : r = []
          · have HN : Hid (trimEnd [] (Q.take kk) = trimEnd [] Q) := by show _ = _; rw [← HT.out, take_snoc HRR.out, hr0, trim_snoc_z]
            subst hr0
            go_wp2_with (with_reducible refine cuthi_p 51 _ _ _ _ _ (hs2.take (kk + 1)) rfl ht1 _ _ kk rfl (by go_num) (by omega) ?_; intro hcut)
            go_roundg kk
            case measure => have := HG1.out; omega
            case rel => exact ⟨kk, by omega, rfl, rfl, HN, rfl⟩
          · have HS : Hid (Q.take (kk + 1) = trimEnd [] Q) := by show _ = _; rw [← HT.out, take_snoc HRR.out, trim_snoc_ne hr0]
            have hne : ((r.length : Int) == 0) = false := by have : r.length ≠ 0 := fun e => hr0 (List.eq_nil_of_length_eq_zero e); simp; exact hr0
            have hne0 : 0 < r.length := Nat.pos_of_ne_zero (fun e => hr0 (List.eq_nil_of_length_eq_zero e))
            go_wp2_with fail
            go_ret
            exact plain_exit HQ.out rfl hm HL2.out HS.out hown hrows hbk

set_option maxHeartbeats 400000 in
theorem cell_Same (p q : List (List UInt8)) (h1 h2 : List Hd) (a1 a2 : Option Addr) (n1 n2 c1 c2 : Nat) (w : World) (hp : Pg w a1 n1 c1 h1 p) (hq : Pg w a2 n2 c2 h2 q) (hpl : p.length ≤ 5864062014634) (hql : q.length ≤ 5864062014634) :
    Calls Try.prog 36 #[.slice a1 n1 c1, .slice a2 n2 c2] w fun e w' => e = .returned (.bool (decide (plainL p = plainL q))) ∧ Below w.heap.size w w' := by
  go_enter Try.func36, Try.ntmps36
  go_wp2_with fail
  refine (cell_plain p h1 a1 n1 c1 w hp hpl).mono ?_
  rintro e w1 ⟨a3, c3, h3, rfl, hpp, hb⟩
  have hq1 := hq.below hb
  go_wp2_with fail
  refine (cell_plain q h2 a2 n2 c2 w1 hq1 hql).mono ?_
  rintro e w2 ⟨a4, c4, h4, rfl, hpq, hb2⟩
  have hpp2 := hpp.below hb2
  have hb3 := hb.trans (hb2.mono hb.size)
  have hc := eqf_pages (plainL p) (plainL q) h3 h4 _ _ _ _ _ _ w2 hpp2 hpq
  unfold fnv at hc
  go_wp2_with fail
  refine hc.mono ?_
  rintro e w3 ⟨rfl, hb4⟩
  go_wp2_with fail
  go_ret
  exact ⟨rfl, hb3.trans (hb4.mono hb3.size)⟩
end Go.Proofs.Ytdeknimelkdaeaa
end

/- the text C30 -/
section
namespace Go.Proofs.Ytdeknimelkdaeaa
open Go.RowKit Go.Dx

def rl (p : List (List UInt8)) (i : Nat) : Nat := (p.getD i []).length
theorem pc_out {p : List (List UInt8)} {i X : Nat} (h : rl p i ≤ X) : pcell p i X = 0 := by
  unfold pcell
  rw [List.getD_eq_getElem?_getD (l := p.getD i []), List.getElem?_eq_none h]; rfl
theorem rl_out {p : List (List UInt8)} {i : Nat} (h : p.length ≤ i) : rl p i = 0 := by
  unfold rl
  rw [List.getD_eq_getElem?_getD, List.getElem?_eq_none h]; rfl

set_option maxRecDepth 100000 in
set_option maxHeartbeats 2000000 in
theorem ref4_Same (p q : List (List UInt8)) (h1 h2 : List Hd) (a1 a2 : Option Addr) (n1 n2 c1 c2 : Nat) (w : World) (hp : Pg w a1 n1 c1 h1 p) (hq : Pg w a2 n2 c2 h2 q) (hpl : p.length ≤ 5864062014634) (hql : q.length ≤ 5864062014634) (hpr : ∀ r ∈ p, r.length ≤ 140737488351232) (hqr : ∀ r ∈ q, r.length ≤ 140737488351232) :
    Calls Try.prog 47 #[.slice a1 n1 c1, .slice a2 n2 c2] w fun e w' => e = .returned (.bool (decide (plainL p = plainL q))) ∧ w = w' := by
  obtain rfl := hp.n_eq
  obtain rfl := hq.n_eq
  obtain ⟨M, hM1, hM2, hM3⟩ : ∃ M, p.length ≤ M ∧ q.length ≤ M ∧ (M ≤ p.length ∨ M ≤ q.length) := ⟨max p.length q.length, by omega, by omega, by omega⟩
  go_enter Try.func47, Try.ntmps47
  go_wp2_with fail
  go_loopg [5] M (fun g i' w' => ∃ (i : Nat), i ≤ M ∧ g = M - i ∧ i' = .int .i64 i ∧ Hid (∀ Y, Y < i → ∀ X, pcell p Y X = pcell q Y X) ∧ w = w')
  case atStart => exact ⟨0, by omega, by omega, rfl, hide (fun Y h => absurd h (by omega)), rfl⟩
  case round =>
    obtain ⟨i, hi, hg, rfl, HT, rfl⟩ := hrel
    have HG := hide hg
    clear hg
    rcases (by omega : (i < p.length ∧ i < q.length) ∨ (i < p.length ∧ ¬ i < q.length) ∨ (¬ i < p.length ∧ i < q.length) ∨ (¬ i < p.length ∧ ¬ i < q.length)) with ⟨hip, hiq⟩ | ⟨hip, hiq⟩ | ⟨hip, hiq⟩ | ⟨hip, hiq⟩
    · have d1 : decide ((i : Int) < (p.length : Int)) = true := decide_eq_true (by omega)
      have d2 : decide ((i : Int) < (q.length : Int)) = true := decide_eq_true (by omega)
      obtain ⟨x, hx⟩ : ∃ x, p[i]? = some x := ⟨p[i]'(by omega), by simp⟩
      obtain ⟨ax, cx, hux, hsx⟩ := hp.get hx
      have HUx := hide hux
      have Rx : Hid (rl p i = x.length) := by show _ = _; unfold rl; rw [List.getD_eq_getElem?_getD, hx]; rfl
      have Lx : x.length ≤ 140737488351232 := hpr x (List.mem_of_getElem? hx)
      clear hx hux
      obtain ⟨y, hy⟩ : ∃ y, q[i]? = some y := ⟨q[i]'(by omega), by simp⟩
      obtain ⟨ay, cy, huy, hsy⟩ := hq.get hy
      have HUy := hide huy
      have Ry : Hid (rl q i = y.length) := by show _ = _; unfold rl; rw [List.getD_eq_getElem?_getD, hy]; rfl
      have Ly : y.length ≤ 140737488351232 := hqr y (List.mem_of_getElem? hy)
      clear hy huy
      obtain ⟨W, HW⟩ : ∃ W : Nat, Hid (max (x.length : Int) (y.length : Int) = (W : Int)) := ⟨max x.length y.length, hide (by omega)⟩
      have hW : W ≤ 140737488351232 := by have := HW.out; omega
      have hWp : rl p i ≤ W := by have := HW.out; rw [Rx.out]; omega
      have hWq : rl q i ≤ W := by have := HW.out; rw [Ry.out]; omega
      go_wp2_with (first
        | (with_reducible refine idx_p 26 _ _ _ _ _ h1 rfl hp.top _ _ i rfl rfl _ HUx.out ?_; intro bbx oox hcellx hbox)
        | (with_reducible refine idx_p 36 _ _ _ _ _ h2 rfl hq.top _ _ i rfl rfl _ HUy.out ?_; intro bby ooy hcelly hboy))
      rw [HW.out]
      clear hcellx hbox HUx hsx
      clear hcelly hboy HUy hsy
      go_loopg [7] W (fun g k' w' => ∃ (k : Nat), k ≤ W ∧ g = W - k ∧ k' = .int .i64 k ∧ Hid (∀ X, X < k → pcell p i X = pcell q i X) ∧ w = w')
      case atStart => exact ⟨0, by omega, by omega, rfl, hide (fun X h => absurd h (by omega)), rfl⟩
      case round =>
        obtain ⟨k, hk, hg1, rfl, HT1, rfl⟩ := hrel
        have HG1 := hide hg1
        clear hg1
        by_cases hkW : k < W
        · have hc1 := ref_Cell p h1 _ _ _ i k w hp (by omega) (by omega)
          have hc2 := ref_Cell q h2 _ _ _ i k w hq (by omega) (by omega)
          obtain ⟨u, HU⟩ : ∃ u, Hid (pcell p i k = u) := ⟨_, hide rfl⟩
          obtain ⟨v, HV⟩ : ∃ v, Hid (pcell q i k = v) := ⟨_, hide rfl⟩
          rw [HU.out] at hc1
          rw [HV.out] at hc2
          by_cases huv : u = v
          · have e : ((u.toNat : Int) != (v.toNat : Int)) = false := by rw [huv]; simp
            have HN : Hid (∀ X, X < k + 1 → pcell p i X = pcell q i X) := hide (fun X h => by
              by_cases hX : X < k
              · exact HT1.out X hX
              · obtain rfl : X = k := by omega
                rw [HU.out, HV.out, huv])
            clear huv
            go_wp2_with fail
            refine hc1.mono ?_
            rintro e w2 ⟨rfl, rfl⟩
            go_wp2_with fail
            refine hc2.mono ?_
            rintro e w2 ⟨rfl, rfl⟩
            go_wp2_with fail
            go_roundg (W - (k + 1))
            case measure => have := HG1.out; omega
            case rel => exact ⟨k + 1, by omega, rfl, by go_num, HN, rfl⟩
          · have e : ((u.toNat : Int) != (v.toNat : Int)) = true := neq_nat (fun e => huv (UInt8.toNat_inj.1 e))
            have HN : Hid (decide (plainL p = plainL q) = false) := hide (decide_eq_false (fun h => huv (by
              have := (plain_eq_iff p q).1 h i k
              rw [HU.out, HV.out] at this
              exact this)))
            clear huv
            go_wp2_with fail
            refine hc1.mono ?_
            rintro e w2 ⟨rfl, rfl⟩
            go_wp2_with fail
            refine hc2.mono ?_
            rintro e w2 ⟨rfl, rfl⟩
            go_wp2_with fail
            go_ret
            exact ⟨by rw [HN.out]; rfl, rfl⟩
        · obtain rfl : W = k := by omega
          have HN : Hid (∀ Y, Y < i + 1 → ∀ X, pcell p Y X = pcell q Y X) := hide (fun Y h X => by
            by_cases hY : Y < i
            · exact HT.out Y hY X
            · obtain rfl : Y = i := by omega
              by_cases hX : X < W
              · exact HT1.out X hX
              · rw [pc_out (by omega), pc_out (by omega)])
          go_wp2_with fail
          go_roundg (M - (i + 1))
          case measure => have := HG.out; omega
          case rel => exact ⟨i + 1, by omega, rfl, by go_num, HN, rfl⟩
    · have d1 : decide ((i : Int) < (p.length : Int)) = true := decide_eq_true (by omega)
      have d2 : decide ((i : Int) < (q.length : Int)) = false := decide_eq_false (by omega)
      obtain ⟨x, hx⟩ : ∃ x, p[i]? = some x := ⟨p[i]'(by omega), by simp⟩
      obtain ⟨ax, cx, hux, hsx⟩ := hp.get hx
      have HUx := hide hux
      have Rx : Hid (rl p i = x.length) := by show _ = _; unfold rl; rw [List.getD_eq_getElem?_getD, hx]; rfl
      have Lx : x.length ≤ 140737488351232 := hpr x (List.mem_of_getElem? hx)
      clear hx hux
      have Ry : Hid (rl q i = 0) := by show _ = _; unfold rl; rw [List.getD_eq_getElem?_getD, List.getElem?_eq_none (by omega)]; rfl
      obtain ⟨W, HW⟩ : ∃ W : Nat, Hid ((x.length : Int) = (W : Int)) := ⟨x.length, hide rfl⟩
      have hW : W ≤ 140737488351232 := by have := HW.out; omega
      have hWp : rl p i ≤ W := by have := HW.out; rw [Rx.out]; omega
      have hWq : rl q i ≤ W := by rw [Ry.out]; omega
      go_wp2_with (first
        | (with_reducible refine idx_p 26 _ _ _ _ _ h1 rfl hp.top _ _ i rfl rfl _ HUx.out ?_; intro bbx oox hcellx hbox))
      rw [HW.out]
      clear hcellx hbox HUx hsx
      go_loopg [7] W (fun g k' w' => ∃ (k : Nat), k ≤ W ∧ g = W - k ∧ k' = .int .i64 k ∧ Hid (∀ X, X < k → pcell p i X = pcell q i X) ∧ w = w')
      case atStart => exact ⟨0, by omega, by omega, rfl, hide (fun X h => absurd h (by omega)), rfl⟩
      case round =>
        obtain ⟨k, hk, hg1, rfl, HT1, rfl⟩ := hrel
        have HG1 := hide hg1
        clear hg1
        by_cases hkW : k < W
        · have hc1 := ref_Cell p h1 _ _ _ i k w hp (by omega) (by omega)
          have hc2 := ref_Cell q h2 _ _ _ i k w hq (by omega) (by omega)
          obtain ⟨u, HU⟩ : ∃ u, Hid (pcell p i k = u) := ⟨_, hide rfl⟩
          obtain ⟨v, HV⟩ : ∃ v, Hid (pcell q i k = v) := ⟨_, hide rfl⟩
          rw [HU.out] at hc1
          rw [HV.out] at hc2
          by_cases huv : u = v
          · have e : ((u.toNat : Int) != (v.toNat : Int)) = false := by rw [huv]; simp
            have HN : Hid (∀ X, X < k + 1 → pcell p i X = pcell q i X) := hide (fun X h => by
              by_cases hX : X < k
              · exact HT1.out X hX
              · obtain rfl : X = k := by omega
                rw [HU.out, HV.out, huv])
            clear huv
            go_wp2_with fail
            refine hc1.mono ?_
            rintro e w2 ⟨rfl, rfl⟩
            go_wp2_with fail
            refine hc2.mono ?_
            rintro e w2 ⟨rfl, rfl⟩
            go_wp2_with fail
            go_roundg (W - (k + 1))
            case measure => have := HG1.out; omega
            case rel => exact ⟨k + 1, by omega, rfl, by go_num, HN, rfl⟩
          · have e : ((u.toNat : Int) != (v.toNat : Int)) = true := neq_nat (fun e => huv (UInt8.toNat_inj.1 e))
            have HN : Hid (decide (plainL p = plainL q) = false) := hide (decide_eq_false (fun h => huv (by
              have := (plain_eq_iff p q).1 h i k
              rw [HU.out, HV.out] at this
              exact this)))
            clear huv
            go_wp2_with fail
            refine hc1.mono ?_
            rintro e w2 ⟨rfl, rfl⟩
            go_wp2_with fail
            refine hc2.mono ?_
            rintro e w2 ⟨rfl, rfl⟩
            go_wp2_with fail
            go_ret
            exact ⟨by rw [HN.out]; rfl, rfl⟩
        · obtain rfl : W = k := by omega
          have HN : Hid (∀ Y, Y < i + 1 → ∀ X, pcell p Y X = pcell q Y X) := hide (fun Y h X => by
            by_cases hY : Y < i
            · exact HT.out Y hY X
            · obtain rfl : Y = i := by omega
              by_cases hX : X < W
              · exact HT1.out X hX
              · rw [pc_out (by omega), pc_out (by omega)])
          go_wp2_with fail
          go_roundg (M - (i + 1))
          case measure => have := HG.out; omega
          case rel => exact ⟨i + 1, by omega, rfl, by go_num, HN, rfl⟩
    · have d1 : decide ((i : Int) < (p.length : Int)) = false := decide_eq_false (by omega)
      have d2 : decide ((i : Int) < (q.length : Int)) = true := decide_eq_true (by omega)
      have Rx : Hid (rl p i = 0) := by show _ = _; unfold rl; rw [List.getD_eq_getElem?_getD, List.getElem?_eq_none (by omega)]; rfl
      obtain ⟨y, hy⟩ : ∃ y, q[i]? = some y := ⟨q[i]'(by omega), by simp⟩
      obtain ⟨ay, cy, huy, hsy⟩ := hq.get hy
      have HUy := hide huy
      have Ry : Hid (rl q i = y.length) := by show _ = _; unfold rl; rw [List.getD_eq_getElem?_getD, hy]; rfl
      have Ly : y.length ≤ 140737488351232 := hqr y (List.mem_of_getElem? hy)
      clear hy huy
      obtain ⟨W, HW⟩ : ∃ W : Nat, Hid ((y.length : Int) = (W : Int)) := ⟨y.length, hide rfl⟩
      have hW : W ≤ 140737488351232 := by have := HW.out; omega
      have hWp : rl p i ≤ W := by rw [Rx.out]; omega
      have hWq : rl q i ≤ W := by have := HW.out; rw [Ry.out]; omega
      go_wp2_with (first
        | (with_reducible refine idx_p 36 _ _ _ _ _ h2 rfl hq.top _ _ i rfl rfl _ HUy.out ?_; intro bby ooy hcelly hboy))
      rw [HW.out]
      clear hcelly hboy HUy hsy
      go_loopg [7] W (fun g k' w' => ∃ (k : Nat), k ≤ W ∧ g = W - k ∧ k' = .int .i64 k ∧ Hid (∀ X, X < k → pcell p i X = pcell q i X) ∧ w = w')
      case atStart => exact ⟨0, by omega, by omega, rfl, hide (fun X h => absurd h (by omega)), rfl⟩
      case round =>
        obtain ⟨k, hk, hg1, rfl, HT1, rfl⟩ := hrel
        have HG1 := hide hg1
        clear hg1
        by_cases hkW : k < W
        · have hc1 := ref_Cell p h1 _ _ _ i k w hp (by omega) (by omega)
          have hc2 := ref_Cell q h2 _ _ _ i k w hq (by omega) (by omega)
          obtain ⟨u, HU⟩ : ∃ u, Hid (pcell p i k = u) := ⟨_, hide rfl⟩
          obtain ⟨v, HV⟩ : ∃ v, Hid (pcell q i k = v) := ⟨_, hide rfl⟩
          rw [HU.out] at hc1
          rw [HV.out] at hc2
          by_cases huv : u = v
          · have e : ((u.toNat : Int) != (v.toNat : Int)) = false := by rw [huv]; simp
            have HN : Hid (∀ X, X < k + 1 → pcell p i X = pcell q i X) := hide (fun X h => by
              by_cases hX : X < k
              · exact HT1.out X hX
              · obtain rfl : X = k := by omega
                rw [HU.out, HV.out, huv])
            clear huv
            go_wp2_with fail
            refine hc1.mono ?_
            rintro e w2 ⟨rfl, rfl⟩
            go_wp2_with fail
            refine hc2.mono ?_
            rintro e w2 ⟨rfl, rfl⟩
            go_wp2_with fail
            go_roundg (W - (k + 1))
            case measure => have := HG1.out; omega
            case rel => exact ⟨k + 1, by omega, rfl, by go_num, HN, rfl⟩
          · have e : ((u.toNat : Int) != (v.toNat : Int)) = true := neq_nat (fun e => huv (UInt8.toNat_inj.1 e))
            have HN : Hid (decide (plainL p = plainL q) = false) := hide (decide_eq_false (fun h => huv (by
              have := (plain_eq_iff p q).1 h i k
              rw [HU.out, HV.out] at this
              exact this)))
            clear huv
            go_wp2_with fail
            refine hc1.mono ?_
            rintro e w2 ⟨rfl, rfl⟩
            go_wp2_with fail
            refine hc2.mono ?_
            rintro e w2 ⟨rfl, rfl⟩
            go_wp2_with fail
            go_ret
            exact ⟨by rw [HN.out]; rfl, rfl⟩
        · obtain rfl : W = k := by omega
          have HN : Hid (∀ Y, Y < i + 1 → ∀ X, pcell p Y X = pcell q Y X) := hide (fun Y h X => by
            by_cases hY : Y < i
            · exact HT.out Y hY X
            · obtain rfl : Y = i := by omega
              by_cases hX : X < W
              · exact HT1.out X hX
              · rw [pc_out (by omega), pc_out (by omega)])
          go_wp2_with fail
          go_roundg (M - (i + 1))
          case measure => have := HG.out; omega
          case rel => exact ⟨i + 1, by omega, rfl, by go_num, HN, rfl⟩
    · have d1 : decide ((i : Int) < (p.length : Int)) = false := decide_eq_false (by omega)
      have d2 : decide ((i : Int) < (q.length : Int)) = false := decide_eq_false (by omega)
      have HN : Hid (decide (plainL p = plainL q) = true) := hide (decide_eq_true ((plain_eq_iff p q).2 (fun Y X => by
        by_cases hY : Y < i
        · exact HT.out Y hY X
        · rw [pc_out (by rw [rl_out (by omega)]; omega), pc_out (by rw [rl_out (by omega)]; omega)])))
      go_wp2_with fail
      go_ret
      exact ⟨by rw [HN.out]; rfl, rfl⟩
end Go.Proofs.Ytdeknimelkdaeaa
end

/- the text CL1 -/
section
namespace Go.Proofs.Ytdeknimelkdaeaa
open Go.RowKit Go.Dx

theorem of_dots_fin : ∀ n : Fin 256, ofL (dotsL (UInt8.ofNat n.val)) = (n.val % 64, 0) := by decide +kernel
theorem of_dots (u : UInt8) : ofL (dotsL u) = (u.toNat % 64, 0) := by
  have h := of_dots_fin ⟨u.toNat, u.toNat_lt⟩
  rw [of_u8] at h; exact h
theorem back_back_fin : ∀ n : Fin 256, (backC (backC (UInt8.ofNat n.val))).toNat = n.val % 64 := by decide +kernel
theorem back_back (u : UInt8) : (backC (backC u)).toNat = u.toNat % 64 := by
  have h := back_back_fin ⟨u.toNat, u.toNat_lt⟩
  rw [of_u8] at h; exact h
theorem back_dots_fin : ∀ n : Fin 256, (dotsL (backC (UInt8.ofNat n.val))).length = (dotsL (UInt8.ofNat n.val)).length := by decide +kernel
theorem back_dots (u : UInt8) : (dotsL (backC u)).length = (dotsL u).length := by
  have h := back_dots_fin ⟨u.toNat, u.toNat_lt⟩
  rw [of_u8] at h; exact h
theorem refOf_at {l : List Int} {r : Nat × Int} (h : ofL l = r) {a : Option Addr} {n c : Nat} {w : World} (hs : Sl w 1 a n c (l.map I64)) :
    Calls Try.prog 71 #[.slice a n c] w fun e w' => e = .returned (ROf r) ∧ Below w.heap.size w w' := by
  subst h; exact (ref_Of l a n c w hs).mono fun e w' ⟨h1, n, h2⟩ => ⟨h1, h2 ▸ Still.below n⟩
theorem refDots_at {u : UInt8} {v : Int} {l : List Int} (hv : (u.toNat : Int) = v) (h : dotsL u = l) {w : World} :
    Calls Try.prog 65 #[.int .u8 v] w (Gives 3 1 l.length (l.map I64) w) := by subst hv h; exact ref_Dots u w
theorem refBack_at {u : UInt8} {v k : Int} (hv : (u.toNat : Int) = v) (h : ((backC u).toNat : Int) = k) {w : World} :
    Calls Try.prog 66 #[.int .u8 v] w fun e w' => e = .returned (.int .u8 k) ∧ Below w.heap.size w w' := by subst hv h; exact ref_Back u w
theorem Valid_at {l : List UInt8} {v : Bool} (h : validB l = v) {a : Option Addr} {n c : Nat} {w : World} (hs : Sl w 1 a n c (l.map B8)) :
    Calls Try.prog 56 #[.slice a n c] w fun e w' => e = .returned (.bool v) ∧ w = w' := by subst h; exact cell_Valid l a n c w hs
theorem refValid_at {l : List UInt8} {v : Bool} (h : validB l = v) {a : Option Addr} {n c : Nat} {w : World} (hs : Sl w 1 a n c (l.map B8)) :
    Calls Try.prog 64 #[.slice a n c] w fun e w' => e = .returned (.bool v) ∧ w = w' := by subst h; exact ref_Valid l a n c w hs

end Go.Proofs.Ytdeknimelkdaeaa
end

/- the text C23 -/
section
namespace Go.Proofs.Ytdeknimelkdaeaa
open Go.RowKit Go.Dx

/-- a number below m out of another, out of a list -/
def aroundF (n : Int) (m : Nat) : Nat := ((if n < 0 then -(n + 1) else n) % (m : Int)).toNat
def atF (l : List Int) (i : Int) (m : Nat) : Nat := if i < 0 ∨ (l.length : Int) ≤ i then 0 else aroundF (l.getD i.toNat 0) m
theorem aroundF_eq {n : Int} {m : Nat} (hm : 1 ≤ m) : (if n < 0 then -(n + 1) else n) % (m : Int) = (aroundF n m : Int) := by
  have h3 := Int.emod_nonneg (if n < 0 then -(n + 1) else n) (show (m : Int) ≠ 0 by omega)
  unfold aroundF; omega
theorem aroundF_lt {n : Int} {m : Nat} (hm : 1 ≤ m) : aroundF n m < m := by
  have h2 := Int.emod_lt_of_pos (if n < 0 then -(n + 1) else n) (show (0 : Int) < m by omega)
  have h3 := aroundF_eq (n := n) hm
  omega
theorem atF_lt {l : List Int} {i : Int} {m : Nat} (hm : 1 ≤ m) : atF l i m < m := by
  unfold atF; split
  · omega
  · exact aroundF_lt hm
set_option maxHeartbeats 400000 in
theorem ref_Around (n v : Int) (m : Nat) (w : World) (hv : (m : Int) = v) (h0 : -9223372036854775808 ≤ n) (h1 : n ≤ 9223372036854775807) (hm : 1 ≤ m) (hm2 : m ≤ 1000000000) :
    Calls Try.prog 10 #[.int .i64 n, .int .i64 v] w fun e w' => e = .returned (.int .i64 (aroundF n m : Nat)) ∧ w = w' := by
  subst hv
  have hr := aroundF_eq (n := n) hm
  obtain ⟨r, HR⟩ : ∃ r, Hid (aroundF n m = r) := ⟨_, hide rfl⟩
  rw [HR.out] at hr ⊢
  by_cases hn : n < 0
  · rw [if_pos hn] at hr
    have HH := hide hr
    clear hr
    go_enter Try.func10, Try.ntmps10
    go_wp2
    go_ret
    exact ⟨by rw [← HH.out, ← Int.tmod_eq_emod_of_nonneg (by omega), Int.neg_tmod]; rfl, rfl⟩
  · rw [if_neg hn] at hr
    have HH := hide hr
    clear hr
    go_enter Try.func10, Try.ntmps10
    go_wp2
    go_ret
    exact ⟨by rw [← HH.out]; rfl, rfl⟩
set_option maxHeartbeats 400000 in
theorem ref_At (l : List Int) (a : Option Addr) (n c : Nat) (i v : Int) (m : Nat) (w : World) (hs : Sl w 1 a n c (l.map I64)) (hl : ∀ x ∈ l, -9223372036854775808 ≤ x ∧ x ≤ 9223372036854775807) (hv : (m : Int) = v) (hm : 1 ≤ m) (hm2 : m ≤ 1000000000) :
    Calls Try.prog 22 #[.slice a n c, .int .i64 i, .int .i64 v] w fun e w' => e = .returned (.int .i64 (atF l i m : Nat)) ∧ w = w' := by
  obtain rfl := hs.n_eq
  have hcap := Nat.le_trans hs.le hs.cap
  unfold maxLen at hcap
  obtain ⟨r, HR⟩ : ∃ r, Hid (atF l i m = r) := ⟨_, hide rfl⟩
  rw [HR.out]
  by_cases h1 : i < 0
  · have d1 : decide (i < 0) = true := decide_eq_true h1
    have HE : Hid (r = 0) := by show _ = _; rw [← HR.out]; exact if_pos (.inl h1)
    go_enter Try.func22, Try.ntmps22
    go_wp2
    go_ret
    exact ⟨by rw [HE.out]; first | done | rfl, rfl⟩
  · have d1 : decide (i < 0) = false := decide_eq_false h1
    by_cases h2 : (l.length : Int) ≤ i
    · have d2 : decide ((l.length : Int) ≤ i) = true := decide_eq_true h2
      have HE : Hid (r = 0) := by show _ = _; rw [← HR.out]; exact if_pos (.inr h2)
      go_enter Try.func22, Try.ntmps22
      go_wp2
      go_ret
      exact ⟨by rw [HE.out]; first | done | rfl, rfl⟩
    · have d2 : decide ((l.length : Int) ≤ i) = false := decide_eq_false h2
      have HE0 : Hid (r = aroundF (l.getD i.toNat 0) m) := by
        show _ = _; rw [← HR.out]; exact if_neg (by omega)
      obtain ⟨k, rfl⟩ := Int.eq_ofNat_of_zero_le (show 0 ≤ i by omega)
      have hk : k < l.length := by omega
      obtain ⟨x, hx⟩ : ∃ x, l[k]? = some x := ⟨l[k], by simp [hk]⟩
      obtain ⟨hx1, hx2⟩ := hl x (List.mem_of_getElem? hx)
      have HE : Hid (r = aroundF x m) := by
        show _ = _; rw [HE0.out, Int.toNat_natCast, List.getD_eq_getElem?_getD, hx]; rfl
      have HX := hide hx
      clear hx HE0
      go_enter Try.func22, Try.ntmps22
      go_wp2_with (first
        | (with_reducible refine idx_i 17 _ _ _ _ _ l rfl hs _ _ k rfl rfl x HX.out ?_; intro b o hcell hbo)
        | (go_at_call 10; refine (ref_Around x _ m _ hv hx1 hx2 hm hm2).mono ?_; rintro e w2 ⟨rfl, rfl⟩))
      go_ret
      exact ⟨by rw [HE.out]; first | done | rfl, rfl⟩
theorem At_at {l : List Int} {i v : Int} {m r : Nat} (h : atF l i m = r) (hv : (m : Int) = v) (hm : 1 ≤ m) (hm2 : m ≤ 1000000000) (hl : ∀ x ∈ l, -9223372036854775808 ≤ x ∧ x ≤ 9223372036854775807) {a : Option Addr} {n c : Nat} {w : World} (hs : Sl w 1 a n c (l.map I64)) :
    Calls Try.prog 22 #[.slice a n c, .int .i64 i, .int .i64 v] w fun e w' => e = .returned (.int .i64 (r : Int)) ∧ w = w' := by
  subst h; exact ref_At l a n c i v m w hs hl hv hm hm2
theorem Around_at {n v : Int} {m r : Nat} (h : aroundF n m = r) (hv : (m : Int) = v) (hm : 1 ≤ m) (hm2 : m ≤ 1000000000) (h0 : -9223372036854775808 ≤ n) (h1 : n ≤ 9223372036854775807) {w : World} :
    Calls Try.prog 10 #[.int .i64 n, .int .i64 v] w fun e w' => e = .returned (.int .i64 (r : Int)) ∧ w = w' := by
  subst h; exact ref_Around n v m w hv h0 h1 hm hm2
end Go.Proofs.Ytdeknimelkdaeaa
end

/- the text B1 -/
section
/- Chapter 06, in plain Lean: characters, cells, rules, tables, and the error of tables. No program in sight. -/
namespace Go.Dx

def isS (c : UInt8) : Bool := decide (97 ≤ c.toNat) && decide (c.toNat ≤ 122)
def isC (c : UInt8) : Bool := decide (65 ≤ c.toNat) && decide (c.toNat ≤ 90)
def isL (c : UInt8) : Bool := isS c || isC c
def low (c : UInt8) : UInt8 := if isC c then c + 32 else c
def isD (c : UInt8) : Bool := decide (48 ≤ c.toNat) && decide (c.toNat ≤ 57)
def isW (c : UInt8) : Bool := decide (32 ≤ c.toNat) && decide (c.toNat ≤ 126)
def cellOk (c : UInt8) : Bool := decide (1 ≤ c.toNat) && decide (c.toNat ≤ 63)
def okCells (l : List UInt8) : Bool := l.all cellOk
def indic (l : List UInt8) : Bool := decide (1 ≤ l.length) && decide (l.length ≤ 4) && okCells l
def chars (s : ByteArray) : List UInt8 := s.data.toList
def small (s : ByteArray) : Bool := (chars s).all isS

structure Ru where
  text : ByteArray
  whr : Int
  cells : List UInt8

def oneMark (s : ByteArray) : Bool := match chars s with
  | [c] => isW c && !isL c && !isD c
  | _ => false
def ruOk (r : Ru) : Bool :=
  decide (1 ≤ r.text.size) && decide (r.text.size ≤ 8) && decide (0 ≤ r.whr) && decide (r.whr ≤ 3) && indic r.cells && (small r.text || oneMark r.text && decide (r.whr = 0))

structure Ta where
  l0 : List Ru
  l1 : List Ru
  dig : List UInt8
  cap : List UInt8
  num : List UInt8
  fin : List UInt8
  sw : List UInt8

def nameOf (r : Ru) : List UInt8 × Int := (chars r.text, r.whr)
def dupB (l : List Ru) : Bool := !decide (l.map nameOf).Nodup
def ownB (l : List Ru) (c : UInt8) : Bool := decide (([c], (0 : Int)) ∈ l.map nameOf)
def missB (l : List Ru) : Bool := (List.range 26).any fun k => !ownB l (UInt8.ofNat (97 + k))
def goodT (t : Ta) : Bool :=
  decide (t.dig.length = 10) && okCells t.dig && indic t.cap && indic t.num && indic t.fin && indic t.sw && t.l0.all ruOk && t.l1.all ruOk
def validE (t : Ta) : Int :=
  if 96 < t.l0.length ∨ 96 < t.l1.length then 4
  else if goodT t = false then 1
  else if (dupB t.l0 || dupB t.l1) = true then 7
  else if (missB t.l0 || missB t.l1) = true then 6 else 0

structure Sy where
  lang : Int
  c : UInt8
  deriving DecidableEq
def symOk (x : Sy) : Bool := (decide (x.lang = 0) || decide (x.lang = 1)) && isW x.c
def goodS (l : List Sy) : Bool := l.all symOk

/-- the characters at i - 1 and i belong to one word -/
def inWord (l : List Sy) (i : Nat) : Bool := match i with
  | 0 => false
  | k + 1 => match l[k]?, l[k + 1]? with
    | some x, some y => isL x.c && isL y.c && decide (x.lang = y.lang)
    | _, _ => false
/-- the characters of a rule stand at a place: the first one may be a capital -/
def sameAt (g : Int) : Bool → List UInt8 → List Sy → Bool
  | _, [], _ => true
  | _, _ :: _, [] => false
  | b, u :: s, x :: l => decide (low x.c = u) && decide (x.lang = g) && (b || !isC x.c) && sameAt g false s l
def placeOk (r : Ru) (l : List Sy) (i : Nat) : Bool :=
  !small r.text || (if r.whr = 1 then !inWord l i && !inWord l (i + r.text.size) else if r.whr = 2 then !inWord l i && inWord l (i + r.text.size) else if r.whr = 3 then inWord l i else true)
def fitsB (r : Ru) (l : List Sy) (i : Nat) : Bool :=
  match l[i]? with
  | none => decide (r.text.size = 0)
  | some x => sameAt x.lang true (chars r.text) (l.drop i) && placeOk r l i

structure St where
  lang : Int
  num : Bool
  wrd : Bool
  deriving DecidableEq
structure Stp where
  dst : St
  len : Int
  cells : List UInt8
  rule : Int
  deriving DecidableEq
def headC (t : Ta) (s : St) (x : Sy) : List UInt8 := (if s.num && isL x.c then t.fin else []) ++ (if isC x.c then t.cap else [])
def ruleSteps (t : Ta) (s : St) (x : Sy) (l : List Sy) (i : Nat) : Nat → List Ru → List Stp
  | _, [] => []
  | k, r :: rs => (if fitsB r l i then [⟨⟨x.lang, false, isL x.c⟩, (r.text.size : Int), headC t s x ++ r.cells, (k : Int)⟩] else []) ++ ruleSteps t s x l i (k + 1) rs
def langOf (t : Ta) (g : Int) : List Ru := if g = 0 then t.l0 else t.l1
def nextL (t : Ta) (s : St) (l : List Sy) (i : Nat) (x : Sy) : List Stp :=
  if x.lang ≠ s.lang then [⟨⟨x.lang, false, false⟩, 0, t.sw, -1⟩]
  else if isD x.c then [⟨⟨x.lang, true, false⟩, 1, (if s.num then [] else t.num) ++ [t.dig.getD (x.c.toNat - 48) 0], -1⟩]
  else ruleSteps t s x l i 0 (langOf t x.lang)
def stepsL (t : Ta) (s : St) (l : List Sy) (i : Int) : List Stp :=
  if validE t = 0 ∧ (s.lang = 0 ∨ s.lang = 1) ∧ 0 ≤ i ∧ goodS l = true then
    match l[i.toNat]? with
    | none => []
    | some x => nextL t s l i.toNat x
  else []
end Go.Dx
end

/- the text BMap -/
section
/- A map that the call makes, whose keys are structs of a string and a number, and whose elements are all true: a set. No program in sight. -/
set_option linter.unusedSimpArgs false
set_option linter.unusedVariables false
namespace Go.Dx
open Go.RowKit

abbrev nameV (n : ByteArray × Int) : Value := .agg #[.string n.1, .int .i64 n.2]
/-- the key type is a struct of a string and an int -/
structure NameKey (P : Program) (K : TypeId) : Prop where
  ex : ∃ f0 f1 : Field, P.underlying K = some (.struct #[f0, f1]) ∧ f0.name ≠ "_" ∧ f1.name ≠ "_" ∧ f0.offset = 0 ∧ f1.offset = 1 ∧ P.underlying f0.type = some .string ∧ P.underlying f1.type = some (.int .i64)
  held : P.stoodInHeld K = false

theorem run_part_one {P : Program} {w : World} {t : TypeId} {xs : Array Value} {off : Nat} {v : Value} {d : TypeDesc} (hd : P.underlying t = some d) (hp : d = .string ∨ d = .int .i64) (hx : xs[off]? = some v) : (part t xs off).run P w = .ok v w := by
  rcases hp with rfl | rfl <;> simp [part, isAgg, run_underlying hd, hx]

theorem name_eq {P : Program} {K : TypeId} (h : NameKey P K) (w : World) (n m : ByteArray × Int) : (Op.equal K (nameV n) (nameV m)).run P w = .ok (n.1.toList == m.1.toList && n.2 == m.2) w := by
  obtain ⟨f0, f1, hu, h0, h1, o0, o1, u0, u1⟩ := h.ex
  have hf : P.fieldsOf K = #[f0, f1] := by simp [Program.fieldsOf, hu]
  have hrun := run_equalIn_struct w (P := P) 9999 K #[.string n.1, .int .i64 n.2] #[.string m.1, .int .i64 m.2] (by rw [hf]; exact hu) h.held
  rw [hf] at hrun
  have a0 := fun (xs : Array Value) (v : Value) (hx : xs[0]? = some v) => run_part_one (w := w) u0 (.inl rfl) hx
  have a1 := fun (xs : Array Value) (v : Value) (hx : xs[1]? = some v) => run_part_one (w := w) u1 (.inr rfl) hx
  have e1 := a0 #[.string n.1, .int .i64 n.2] (.string n.1) rfl
  have e2 := a0 #[.string m.1, .int .i64 m.2] (.string m.1) rfl
  have e3 := a1 #[.string n.1, .int .i64 n.2] (.int .i64 n.2) rfl
  have e4 := a1 #[.string m.1, .int .i64 m.2] (.int .i64 m.2) rfl
  have q1 := run_equalIn_string w (P := P) 9998 f0.type n.1 m.1 u0
  have q2 := run_equalIn_int w (P := P) 9998 f1.type .i64 .i64 n.2 m.2 u1
  show (Op.equalIn 10000 K (nameV n) (nameV m)).run P w = _
  rw [hrun]
  simp only [Op.eqFields, h0, h1, o0, o1, e1, e2, e3, e4, q1, q2, Sem.run_bind, Result.andThen_ok, ne_eq, not_false_eq_true, if_true]
  simp only [show (9999 : Nat) = 9998 + 1 from rfl, q1, q2, Result.andThen_ok]
  cases hq : (n.1.toList == m.1.toList)
  · simp
  · cases hq2 : (n.2 == m.2) <;> simp [e3, e4, q2, hq2]

theorem name_key {P : Program} {K : TypeId} (h : NameKey P K) (w : World) (b : Bool) (n : ByteArray × Int) : (Instr.checkKey b 10000 K (nameV n)).run P w = .ok () w := by
  obtain ⟨f0, f1, hu, h0, h1, o0, o1, u0, u1⟩ := h.ex
  have e1 := run_part_one (P := P) (w := w) (xs := #[.string n.1, .int .i64 n.2]) u0 (.inl rfl) (off := 0) (v := .string n.1) rfl
  have e3 := run_part_one (P := P) (w := w) (xs := #[.string n.1, .int .i64 n.2]) u1 (.inr rfl) (off := 1) (v := .int .i64 n.2) rfl
  have c1 : ∀ k, (Instr.checkKey b (k + 1) f0.type (.string n.1)).run P w = .ok () w := fun k => by simp [Instr.checkKey, run_underlying u0]
  have c2 : ∀ k, (Instr.checkKey b (k + 1) f1.type (.int .i64 n.2)).run P w = .ok () w := fun k => by simp [Instr.checkKey, run_underlying u1]
  have key : ∀ k, (Instr.checkKey b (k + 2) K (nameV n)).run P w = .ok () w := fun k => by
    rw [Instr.checkKey]
    simp [run_underlying hu, h0, h1, o0, o1, e1, e3, c1, c2]
  exact key 9998

/-- a set that the call has made -/
structure NSet (w : World) (b : Nat) (ns : List (ByteArray × Int)) : Prop where
  ex : ∃ es clock, w.heap[b]? = some (.map es clock) ∧ es.toList.map (fun e => (e.key, e.val)) = ns.map (fun n => (nameV n, Value.bool true))
def isIn (ns : List (ByteArray × Int)) (n : ByteArray × Int) : Bool := ns.any fun m => n.1.toList == m.1.toList && n.2 == m.2

theorem NSet.new (w : World) : NSet (w.alloc (.map #[] 0)) w.heap.size [] := ⟨#[], 0, heap_alloc_new w _, rfl⟩
theorem NSet.lt {w : World} {b : Nat} {ns : List (ByteArray × Int)} (h : NSet w b ns) : b < w.heap.size := by
  obtain ⟨es, clock, hb, _⟩ := h.ex
  exact (Array.getElem?_eq_some_iff.1 hb).1
theorem NSet.kept {w w' : World} {row : Option Nat} {b : Nat} {ns : List (ByteArray × Int)} (h : NSet w b ns) (hg : w.grownBy w' row) (hne : some b ≠ row) : NSet w' b ns := by
  have hlt := h.lt
  obtain ⟨es, clock, hb, he⟩ := h.ex
  exact ⟨es, clock, (hg.block b hlt hne).trans hb, he⟩
theorem NSet.below {w w' : World} {b : Nat} {ns : List (ByteArray × Int)} (h : NSet w b ns) (hg : Below w.heap.size w w') : NSet w' b ns := by
  have hlt := h.lt
  obtain ⟨es, clock, hb, he⟩ := h.ex
  exact ⟨es, clock, (hg.block b hlt).trans hb, he⟩
theorem NSet.alloc {w : World} {b : Nat} {ns : List (ByteArray × Int)} (h : NSet w b ns) (o : Obj) : NSet (w.alloc o) b ns := h.below ((Below.refl _ _).alloc (Nat.le_refl _) _)
theorem NSet.set {w : World} {b : Nat} {ns : List (ByteArray × Int)} (h : NSet w b ns) (p : Addr) (v : Value) (hp : p.block ≠ b) : NSet (w.setCell p v) b ns := by
  obtain ⟨es, clock, hb, he⟩ := h.ex
  exact ⟨es, clock, (Below.heap_setCell w p v b (fun e => hp e.symm)).trans hb, he⟩

theorem find_names {P : Program} {K : TypeId} (h : NameKey P K) (w : World) (n : ByteArray × Int) : ∀ (es : List MapEntry) (ns : List (ByteArray × Int)) (i : Nat), es.map (fun e => (e.key, e.val)) = ns.map (fun n => (nameV n, Value.bool true)) →
    ∃ r, (Instr.findAsking K (nameV n) es i).run P w = .ok r w ∧ r.map (·.2) = if isIn ns n then some (Value.bool true) else none := by
  intro es
  induction es with
  | nil =>
    intro ns i he
    cases ns with
    | nil => exact ⟨none, by simp [Instr.findAsking], rfl⟩
    | cons m ns => cases he
  | cons e es ih =>
    intro ns i he
    cases ns with
    | nil => cases he
    | cons m ns =>
      rw [List.map_cons, List.map_cons] at he
      injection he with h1 h2
      injection h1 with hk hv
      have hq := name_eq h w n m
      cases hc : (n.1.toList == m.1.toList && n.2 == m.2)
      · obtain ⟨r, hr, hr2⟩ := ih ns (i + 1) h2
        refine ⟨r, ?_, ?_⟩
        · rw [hc] at hq
          simp only [Instr.findAsking, hk, Sem.run_bind, hq, Result.andThen_ok, Bool.false_eq_true, if_false]
          exact hr
        · rw [hr2]; simp only [isIn, List.any_cons, hc, Bool.false_or]; rfl
      · refine ⟨some (i, e.val), ?_, ?_⟩
        · rw [hc] at hq
          simp only [Instr.findAsking, hk, Sem.run_bind, hq, Result.andThen_ok, if_true, Sem.run_pure]
        · simp only [isIn, List.any_cons, hc, Bool.true_or, if_true, Option.map_some, hv]

theorem find_key {P : Program} {K : TypeId} (h : NameKey P K) (w : World) (n : ByteArray × Int) (es : List MapEntry) (ns : List (ByteArray × Int)) (he : es.map (fun e => (e.key, e.val)) = ns.map (fun n => (nameV n, Value.bool true))) :
    ∃ r, (Instr.findKey K (nameV n) es).run P w = .ok r w ∧ r.map (·.2) = if isIn ns n then some (Value.bool true) else none := by
  obtain ⟨f0, f1, hu, _⟩ := h.ex
  cases es with
  | nil =>
    cases ns with
    | nil => exact ⟨none, by simp [Instr.findKey, run_underlying hu, Instr.findNow], rfl⟩
    | cons m ns => cases he
  | cons e es =>
    obtain ⟨r, hr, hr2⟩ := find_names h w n (e :: es) ns 0 he
    refine ⟨r, ?_, hr2⟩
    have hk : e.key = nameV (ns.headD n) := by
      cases ns with
      | nil => cases he
      | cons m ns => injection he with h1 _; injection h1
    have hf : Instr.findNow (.struct #[f0, f1]) (nameV n) (e :: es) 0 = none := by
      simp [Instr.findNow, hk, Instr.sameNow]
    simp only [Instr.findKey, Sem.run_bind, run_underlying hu, Result.andThen_ok, hf]
    exact hr

section
variable {P : Program} {w : World} {ops : Array Oper} {rest : List Oper} {o : Oper} {a : Act} {Q : Exit → Act → World → Prop}
/-- 'm[k]' -/
theorem look_name {K : TypeId} (hK0 : NameKey P K) (hg : o.guard = none) (m x : Operand) (t e : TypeId) (hop : o.op = Op.lookup t m x false) (ht : P.underlying t = some (.map K e))
    (hz : ∀ w, (zeroValue e).run P w = .ok (.bool false) w) (b : Nat) (ns : List (ByteArray × Int)) (hm : a.eval m = .map (some b)) (hown : NSet w b ns) (n : ByteArray × Int) (hx : a.eval x = nameV n)
    (hK : wpList P ops Q rest (a.put o.dst (.bool (isIn ns n))) w) : wpList P ops Q (o :: rest) a w := by
  refine wpList_plain hg fun K' hK' => ?_
  obtain ⟨es, clock, hb, he⟩ := hown.ex
  obtain ⟨r, hr, hr2⟩ := find_key hK0 w n es.toList ns he
  have hrun : (Instr.lookup t (.map (some b)) (nameV n) false).run P w = .ok (.bool (isIn ns n)) w := by
    have hck := name_key hK0 w es.isEmpty n
    cases r with
    | none =>
      cases hi : isIn ns n
      · simp [Instr.lookup, run_underlying ht, MapKept.run_getObj_map hb, hck, hr, hz]
      · rw [hi] at hr2; cases hr2
    | some q =>
      cases hi : isIn ns n
      · rw [hi] at hr2; cases hr2
      · rw [hi] at hr2
        have : q.2 = .bool true := by simpa using hr2
        obtain ⟨q1, q2⟩ := q
        subst this
        simp [Instr.lookup, run_underlying ht, MapKept.run_getObj_map hb, hck, hr]
  unfold Oper.wp
  simp [execOp, hop, hm, hx, hrun, Result.andThen]
  exact hK' _ _ hK
/-- 'm[k] = true', k new -/
theorem put_name {K : TypeId} (hK0 : NameKey P K) (hg : o.guard = none) (m x v : Operand) (t e : TypeId) (hop : o.op = Op.mapUpdate t m x v) (ht : P.underlying t = some (.map K e))
    (b : Nat) (ns : List (ByteArray × Int)) (hm : a.eval m = .map (some b)) (hown : NSet w b ns) (n : ByteArray × Int) (hx : a.eval x = nameV n) (hv : a.eval v = .bool true) (hnew : isIn ns n = false)
    (hK : ∀ w', NSet w' b (ns ++ [n]) → w.grownBy w' (some b) → w'.heap.size = w.heap.size → wpList P ops Q rest (a.put o.dst undef) w') : wpList P ops Q (o :: rest) a w := by
  refine wpList_plain hg fun K' hK' => ?_
  obtain ⟨es, clock, hb, he⟩ := hown.ex
  obtain ⟨r, hr, hr2⟩ := find_key hK0 w n es.toList ns he
  rw [hnew] at hr2
  have hrn : r = none := by cases r with
    | none => rfl
    | some q => cases hr2
  subst hrn
  have hck := name_key hK0 w false n
  have hlt := hown.lt
  obtain ⟨w', hw'⟩ : ∃ w', w' = { w with heap := w.heap.setIfInBounds b (.map (es.push { key := nameV n, val := .bool true, born := clock }) (clock + 1)) } := ⟨_, rfl⟩
  have hrun : (Instr.mapUpdate t (.map (some b)) (nameV n) (.bool true)).run P w = .ok () w' := by
    subst hw'
    simp [Instr.mapUpdate, run_underlying ht, MapKept.run_getObj_map hb, MapKept.run_setObj_map _ hb, hck, hr]
  unfold Oper.wp
  simp [execOp, hop, hm, hx, hv, hrun, Result.andThen]
  refine hK' _ _ (hK w' ?_ ?_ ?_)
  · refine ⟨_, clock + 1, by rw [hw']; simp [Array.getElem?_setIfInBounds, hlt]; rfl, ?_⟩
    simp [he]
  · rw [hw']
    refine ⟨rfl, rfl, rfl, by simp, fun k hk hne => ?_⟩
    simp only [Array.getElem?_setIfInBounds]
    rw [if_neg (fun e => hne (by rw [e]))]
  · rw [hw']; simp
end
end Go.Dx
end

/- the text B2 -/
section
/- Chapter 06, in plain Lean: laws on names, on the error of tables, and on where a rule fits. No program in sight. -/
namespace Go.Dx

abbrev nmOf (r : Ru) : ByteArray × Int := (r.text, r.whr)
theorem isIn_eq (l : List Ru) (n : ByteArray × Int) : isIn (l.map nmOf) n = decide ((chars n.1, n.2) ∈ l.map nameOf) := by
  rw [Bool.eq_iff_iff]
  simp only [isIn, List.any_map, List.any_eq_true, decide_eq_true_eq, List.mem_map, nameOf, Function.comp, Bool.and_eq_true, beq_iff_eq, ByteArray.toList_eq, chars, Prod.mk.injEq]
  constructor
  · rintro ⟨r, hr, h1, h2⟩; exact ⟨r, hr, h1.symm, h2.symm⟩
  · rintro ⟨r, hr, h1, h2⟩; exact ⟨r, hr, h1.symm, h2.symm⟩
/-- the first k names are all different -/
def apart (l : List Ru) (k : Nat) : Prop := ((l.take k).map nameOf).Nodup
theorem apart_zero (l : List Ru) : apart l 0 := by simp [apart]
theorem take_succ_get {α : Type} {l : List α} {k : Nat} {x : α} (h : l[k]? = some x) : l.take (k + 1) = l.take k ++ [x] := by
  rw [List.take_add_one, h]; rfl
theorem apart_step {l : List Ru} {k : Nat} {r : Ru} (h : l[k]? = some r) (ha : apart l k) (hn : isIn ((l.take k).map nmOf) (nmOf r) = false) : apart l (k + 1) := by
  rw [isIn_eq] at hn
  simp only [decide_eq_false_iff_not] at hn
  unfold apart at ha ⊢
  rw [take_succ_get h, List.map_append, List.nodup_append]
  refine ⟨ha, by simp, ?_⟩
  intro a h1 b h2 e
  simp only [List.map_cons, List.map_nil, List.mem_singleton] at h2
  subst h2; subst e
  exact hn h1
theorem dup_of {l : List Ru} {k : Nat} {r : Ru} (h : l[k]? = some r) (hn : isIn ((l.take k).map nmOf) (nmOf r) = true) : dupB l = true := by
  rw [isIn_eq] at hn
  simp only [decide_eq_true_eq] at hn
  unfold dupB
  simp only [Bool.not_eq_true', decide_eq_false_iff_not]
  intro hd
  have hk := (List.getElem?_eq_some_iff.1 h).1
  have hs : (l.take (k + 1)).Sublist l := List.take_sublist _ _
  have := (hs.map nameOf).nodup hd
  rw [take_succ_get h, List.map_append, List.nodup_append] at this
  exact this.2.2 _ hn _ (by simp [nameOf]) rfl
theorem apart_all {l : List Ru} (h : apart l l.length) : dupB l = false := by
  unfold apart at h
  rw [List.take_length] at h
  simp [dupB, h]
theorem own_in (l : List Ru) (c : UInt8) (s : ByteArray) (hs : chars s = [c]) : isIn (l.map nmOf) (s, 0) = ownB l c := by
  rw [isIn_eq]
  simp only [hs, ownB]
/-- the first k letters have rules of their own in both languages -/
def ownTo (l : List Ru) (k : Nat) : Prop := ∀ j, j < k → ownB l (UInt8.ofNat (97 + j)) = true
theorem ownTo_step {l : List Ru} {k : Nat} (h : ownTo l k) (h2 : ownB l (UInt8.ofNat (97 + k)) = true) : ownTo l (k + 1) := by
  intro j hj
  by_cases e : j = k
  · subst e; exact h2
  · exact h j (by omega)
theorem miss_of {l : List Ru} {k : Nat} (hk : k < 26) (h : ownB l (UInt8.ofNat (97 + k)) = false) : missB l = true := by
  unfold missB
  rw [List.any_eq_true]
  exact ⟨k, by simpa using hk, by rw [h]; rfl⟩
theorem miss_no {l : List Ru} (h : ownTo l 26) : missB l = false := by
  unfold missB
  rw [List.any_eq_false]
  intro k hk
  rw [h k (by simpa using hk)]; simp

/-- 'i is a place of a letter in the language g' -/
def inAt (l : List Sy) (g : Int) (i : Int) : Bool := decide (0 ≤ i) && match l[i.toNat]? with
  | some x => decide (x.lang = g) && isL x.c
  | none => false
structure IsLo (l : List Sy) (g : Int) (i a : Int) : Prop where
  le : a ≤ i
  all : ∀ j, a ≤ j → j < i → inAt l g j = true
  no : inAt l g (a - 1) = false
structure IsHi (l : List Sy) (g : Int) (i b : Int) : Prop where
  le : i ≤ b
  all : ∀ j, i ≤ j → j < b → inAt l g j = true
  no : inAt l g b = false
theorem lo_cmp {l : List Sy} {g : Int} {i a : Int} (h : IsLo l g i a) : decide (a < i) = inAt l g (i - 1) := by
  cases hi : inAt l g (i - 1)
  · have : ¬ a < i := fun hl => by rw [h.all (i - 1) (by omega) (by omega)] at hi; cases hi
    simp [this]
  · have : a < i := by
      have := h.le
      have hn := h.no
      by_cases e : a = i
      · rw [e, hi] at hn; cases hn
      · omega
    simp [this]
theorem hi_cmp {l : List Sy} {g : Int} {i b : Int} (h : IsHi l g i b) (n : Nat) (hn : ∀ j, i ≤ j → j < i + n → inAt l g j = true) : i + n ≤ b ∧ decide (i + n < b) = inAt l g (i + n) := by
  have hb : i + n ≤ b := by
    have h1 := h.no
    have h2 := h.le
    by_cases e : b < i + n
    · rw [hn b h2 e] at h1; cases h1
    · omega
  refine ⟨hb, ?_⟩
  cases hi : inAt l g (i + n)
  · have : ¬ i + n < b := fun hl => by rw [h.all (i + n) (by omega) hl] at hi; cases hi
    simp [this]
  · have : i + n < b := by
      have hn := h.no
      by_cases e : b = i + n
      · rw [e, hi] at hn; cases hn
      · omega
    simp [this]
theorem inAt_nat (l : List Sy) (g : Int) (k : Nat) : inAt l g (k : Int) = match l[k]? with
  | some x => decide (x.lang = g) && isL x.c
  | none => false := by
  unfold inAt
  simp
theorem isS_low {c : UInt8} (h : isS (low c) = true) : isL c = true := by
  unfold low at h
  by_cases hc : isC c = true
  · simp [isL, hc]
  · rw [if_neg hc] at h
    simp [isL, h]
theorem same_letters {g : Int} : ∀ (s : List UInt8) (b : Bool) (l : List Sy), sameAt g b s l = true → s.all isS = true → ∀ j, j < s.length → ∃ x, l[j]? = some x ∧ x.lang = g ∧ isL x.c = true := by
  intro s
  induction s with
  | nil => intro b l _ _ j hj; cases hj
  | cons u s ih =>
    intro b l h hs j hj
    cases l with
    | nil => cases h
    | cons x l =>
      simp only [sameAt, Bool.and_eq_true, decide_eq_true_eq] at h
      obtain ⟨⟨⟨h1, h2⟩, h3⟩, h4⟩ := h
      rw [List.all_cons, Bool.and_eq_true] at hs
      cases j with
      | zero => exact ⟨x, rfl, h2, isS_low (by rw [h1]; exact hs.1)⟩
      | succ j =>
        obtain ⟨y, hy, h5⟩ := ih false l h4 hs.2 j (by simpa using hj)
        exact ⟨y, by simpa using hy, h5⟩
/-- what the program asks of the word at a place is what the reference asks -/
theorem place_eq {r : Ru} {l : List Sy} {i : Nat} {x : Sy} (hx : l[i]? = some x) (hs : sameAt x.lang true (chars r.text) (l.drop i) = true) (hm : small r.text = true) (h1 : 1 ≤ r.text.size)
    {a b : Int} (ha : IsLo l x.lang i a) (hb : IsHi l x.lang i b) :
    inWord l i = decide (a < (i : Int)) ∧ (i : Int) + r.text.size ≤ b ∧ inWord l (i + r.text.size) = decide ((i : Int) + r.text.size < b) := by
  have hlen : (chars r.text).length = r.text.size := Array.length_toList
  have hin : ∀ j, j < r.text.size → ∃ y, l[i + j]? = some y ∧ y.lang = x.lang ∧ isL y.c = true := by
    intro j hj
    obtain ⟨y, hy, h2⟩ := same_letters _ _ _ hs hm j (by rw [hlen]; exact hj)
    exact ⟨y, by rw [← List.getElem?_drop]; exact hy, h2⟩
  have hall : ∀ j, (i : Int) ≤ j → j < (i : Int) + r.text.size → inAt l x.lang j = true := by
    intro j h2 h3
    obtain ⟨y, hy, h4, h5⟩ := hin (j - i).toNat (by omega)
    have e : j = ((i + (j - i).toNat : Nat) : Int) := by omega
    rw [e, inAt_nat, hy]
    simp [h4, h5]
  obtain ⟨hb1, hb2⟩ := hi_cmp hb r.text.size hall
  obtain ⟨y0, hy0, g0, k0⟩ := hin 0 (by omega)
  rw [Nat.add_zero, hx] at hy0
  obtain rfl := Option.some.inj hy0
  refine ⟨?_, hb1, ?_⟩
  · rw [lo_cmp ha]
    cases i with
    | zero => simp [inWord, inAt]
    | succ k =>
      have e : ((k + 1 : Nat) : Int) - 1 = (k : Int) := by omega
      rw [e, inAt_nat]
      simp only [inWord, hx]
      cases l[k]? with
      | none => rfl
      | some z => simp only [k0, Bool.and_true]; rw [Bool.and_comm]
  · rw [hb2]
    obtain ⟨z, hz, g1, k1⟩ := hin (r.text.size - 1) (by omega)
    have e1 : i + r.text.size = (i + (r.text.size - 1)) + 1 := by omega
    have e2 : (i : Int) + r.text.size = (((i + (r.text.size - 1)) + 1 : Nat) : Int) := by omega
    rw [e2, inAt_nat, e1]
    simp only [inWord, hz]
    cases hq : l[i + (r.text.size - 1) + 1]? with
    | none => rfl
    | some q =>
      simp only [g1]
      rw [k1, Bool.true_and, Bool.and_comm]
      congr 1
      rw [decide_eq_decide]
      exact ⟨fun h => h.symm, fun h => h.symm⟩
theorem same_len {g : Int} : ∀ (s : List UInt8) (b : Bool) (l : List Sy), sameAt g b s l = true → s.length ≤ l.length := by
  intro s
  induction s with
  | nil => intro b l _; exact Nat.zero_le _
  | cons u s ih =>
    intro b l h
    cases l with
    | nil => cases h
    | cons x l =>
      simp only [sameAt, Bool.and_eq_true] at h
      have := ih false l h.2
      simp; omega
end Go.Dx
end

/- the text B3 -/
section
/- Chapter 06, in plain Lean: what the steps of valid tables are like (Always). No program in sight. -/
namespace Go.Dx

theorem ruleSteps_mem (t : Ta) (s : St) (x : Sy) (l : List Sy) (i : Nat) : ∀ (rs : List Ru) (k : Nat) (st : Stp), st ∈ ruleSteps t s x l i k rs →
    ∃ r, r ∈ rs ∧ fitsB r l i = true ∧ st.dst = ⟨x.lang, false, isL x.c⟩ ∧ st.len = (r.text.size : Int) ∧ st.cells = headC t s x ++ r.cells := by
  intro rs
  induction rs with
  | nil => intro k st h; cases h
  | cons r rs ih =>
    intro k st h
    simp only [ruleSteps, List.mem_append] at h
    rcases h with h | h
    · by_cases hf : fitsB r l i = true
      · rw [if_pos hf, List.mem_singleton] at h
        subst h
        exact ⟨r, by simp, hf, rfl, rfl, rfl⟩
      · rw [if_neg hf] at h; cases h
    · obtain ⟨q, hq, h2⟩ := ih (k + 1) st h
      exact ⟨q, List.mem_cons_of_mem _ hq, h2⟩
theorem ruleSteps_some (t : Ta) (s : St) (x : Sy) (l : List Sy) (i : Nat) : ∀ (rs : List Ru) (k : Nat), (∃ r, r ∈ rs ∧ fitsB r l i = true) → ruleSteps t s x l i k rs ≠ [] := by
  intro rs
  induction rs with
  | nil => rintro k ⟨r, h, _⟩; cases h
  | cons r rs ih =>
    rintro k ⟨q, hq, hf⟩ he
    simp only [ruleSteps, List.append_eq_nil_iff] at he
    rcases List.mem_cons.1 hq with rfl | hq
    · rw [if_pos hf] at he; exact absurd he.1 (by simp)
    · exact ih (k + 1) ⟨q, hq, hf⟩ he.2

theorem valid_parts {t : Ta} (h : validE t = 0) : t.l0.length ≤ 96 ∧ t.l1.length ≤ 96 ∧ goodT t = true ∧ dupB t.l0 = false ∧ dupB t.l1 = false ∧ missB t.l0 = false ∧ missB t.l1 = false := by
  unfold validE at h
  split at h
  · cases h
  · rename_i h1
    split at h
    · cases h
    · rename_i h2
      split at h
      · cases h
      · rename_i h3
        split at h
        · cases h
        · rename_i h4
          simp only [Bool.or_eq_true, not_or, Bool.not_eq_true] at h2 h3 h4
          refine ⟨by omega, by omega, by simpa using h2, h3.1, h3.2, h4.1, h4.2⟩
theorem good_parts {t : Ta} (h : goodT t = true) : t.dig.length = 10 ∧ indic t.cap = true ∧ indic t.num = true ∧ indic t.fin = true ∧ indic t.sw = true ∧ (∀ r ∈ t.l0, ruOk r = true) ∧ (∀ r ∈ t.l1, ruOk r = true) := by
  unfold goodT at h
  simp only [Bool.and_eq_true, decide_eq_true_eq, List.all_eq_true] at h
  obtain ⟨⟨⟨⟨⟨⟨⟨h1, _⟩, h2⟩, h3⟩, h4⟩, h5⟩, h6⟩, h7⟩ := h
  exact ⟨h1, h2, h3, h4, h5, h6, h7⟩
theorem lang_ok {t : Ta} (h : goodT t = true) (g : Int) : ∀ r ∈ langOf t g, ruOk r = true := by
  intro r hr
  obtain ⟨_, _, _, _, _, h0, h1⟩ := good_parts h
  unfold langOf at hr
  split at hr
  · exact h0 r hr
  · exact h1 r hr
theorem ru_parts {r : Ru} (h : ruOk r = true) : 1 ≤ r.text.size ∧ r.text.size ≤ 8 ∧ 0 ≤ r.whr ∧ r.whr ≤ 3 ∧ indic r.cells = true ∧ (small r.text = true ∨ oneMark r.text = true ∧ r.whr = 0) := by
  unfold ruOk at h
  simp only [Bool.and_eq_true, Bool.or_eq_true, decide_eq_true_eq] at h
  obtain ⟨⟨⟨⟨⟨h1, h2⟩, h3⟩, h4⟩, h5⟩, h6⟩ := h
  exact ⟨h1, h2, h3, h4, h5, h6⟩
theorem indic_pos {l : List UInt8} (h : indic l = true) : l ≠ [] := by
  unfold indic at h
  simp only [Bool.and_eq_true, decide_eq_true_eq] at h
  intro e
  rw [e] at h
  simp at h
theorem indic_le {l : List UInt8} (h : indic l = true) : l.length ≤ 4 := by
  unfold indic at h
  simp only [Bool.and_eq_true, decide_eq_true_eq] at h
  exact h.1.2
theorem own_fits {l : List Ru} {x : Sy} (h : ownB l (low x.c) = true) {L : List Sy} {i : Nat} (hx : L[i]? = some x) : ∃ r, r ∈ l ∧ fitsB r L i = true := by
  unfold ownB at h
  simp only [decide_eq_true_eq, List.mem_map, nameOf, Prod.mk.injEq] at h
  obtain ⟨r, hr, h1, h2⟩ := h
  refine ⟨r, hr, ?_⟩
  have hi := (List.getElem?_eq_some_iff.1 hx).1
  have hd : L.drop i = x :: L.drop (i + 1) := by
    rw [List.drop_eq_getElem_cons hi]
    congr 1
    have := (List.getElem?_eq_some_iff.1 hx).2
    exact this
  unfold fitsB placeOk
  rw [hx]
  simp [h1, hd, sameAt, h2]
/-- the other characters for which all tables of the chapter have a rule -/
def isM (c : UInt8) : Bool := decide (c ∈ ([32, 46, 44, 63, 39, 45] : List UInt8))
structure GoodTa (t : Ta) : Prop where
  ok : validE t = 0
  mark : ∀ g c, isM c = true → ownB (langOf t g) c = true
def plainSy (x : Sy) : Bool := symOk x && (isL x.c || isD x.c || isM x.c)
theorem low_small {c : UInt8} (h : isL c = true) : isS (low c) = true := by
  revert h
  have : ∀ c : UInt8, isL c = true → isS (low c) = true := by
    intro c
    rw [← UInt8.ofNat_toNat (x := c)]
    have hc := c.toNat_lt
    generalize c.toNat = n at hc ⊢
    revert n
    decide +kernel
  exact this c
theorem mark_low {c : UInt8} (h : isM c = true) : low c = c := by
  unfold isM at h
  simp only [List.mem_cons, List.not_mem_nil, or_false, decide_eq_true_eq] at h
  rcases h with rfl | rfl | rfl | rfl | rfl | rfl <;> decide
theorem own_small {l : List Ru} (h : missB l = false) {c : UInt8} (hc : isS c = true) : ownB l c = true := by
  unfold missB at h
  rw [List.any_eq_false] at h
  unfold isS at hc
  simp only [Bool.and_eq_true, decide_eq_true_eq] at hc
  have := h (c.toNat - 97) (by simp; omega)
  have e : 97 + (c.toNat - 97) = c.toNat := by omega
  rw [e, UInt8.ofNat_toNat] at this
  simpa using this
theorem miss_lang {t : Ta} (h : validE t = 0) (g : Int) : missB (langOf t g) = false := by
  obtain ⟨_, _, _, _, _, h0, h1⟩ := valid_parts h
  unfold langOf
  split
  · exact h0
  · exact h1
theorem some_rule {t : Ta} (ht : GoodTa t) {L : List Sy} {i : Nat} {x : Sy} (hx : L[i]? = some x) (hp : isL x.c = true ∨ isM x.c = true) (g : Int) : ∃ r, r ∈ langOf t g ∧ fitsB r L i = true := by
  refine own_fits ?_ hx
  rcases hp with h | h
  · exact own_small (miss_lang ht.ok g) (low_small h)
  · rw [mark_low h]; exact ht.mark g _ h
theorem steps_at {t : Ta} (ht : validE t = 0) {s : St} (hs : s.lang = 0 ∨ s.lang = 1) {l : List Sy} (hl : goodS l = true) {i : Nat} {x : Sy} (hx : l[i]? = some x) : stepsL t s l i = nextL t s l i x := by
  unfold stepsL
  rw [if_pos ⟨ht, hs, by omega, hl⟩]
  simp [hx]
theorem next_some {t : Ta} (ht : GoodTa t) (s : St) {l : List Sy} {i : Nat} {x : Sy} (hx : l[i]? = some x) (hp : plainSy x = true) : nextL t s l i x ≠ [] := by
  unfold nextL
  split
  · simp
  · split
    · simp
    · rename_i hd
      refine ruleSteps_some _ _ _ _ _ _ _ (some_rule ht hx ?_ _)
      unfold plainSy at hp
      simp only [Bool.and_eq_true, Bool.or_eq_true] at hp
      rcases hp.2 with (h | h) | h
      · exact .inl h
      · exact absurd h hd
      · exact .inr h
theorem fits_len {r : Ru} {l : List Sy} {i : Nat} (hi : i < l.length) (h : fitsB r l i = true) : i + r.text.size ≤ l.length := by
  unfold fitsB at h
  rw [List.getElem?_eq_getElem hi] at h
  simp only [Bool.and_eq_true] at h
  have := same_len _ _ _ h.1
  rw [List.length_drop] at this
  have e : (chars r.text).length = r.text.size := Array.length_toList
  omega
/-- what the law asks of a step -/
structure StepOk (t : Ta) (l : List Sy) (i : Nat) (x : Sy) (st : Stp) : Prop where
  pos : 0 ≤ st.len
  le : (i : Int) + st.len ≤ l.length
  cells : st.cells ≠ []
  zero : st.len = 0 → st.dst.lang = x.lang ∧ nextL t st.dst l i x ≠ [] ∧ ∀ q ∈ nextL t st.dst l i x, q.len ≠ 0
theorem rule_len {t : Ta} (ht : validE t = 0) {s : St} {l : List Sy} {i : Nat} {x : Sy} {g : Int} : ∀ q ∈ ruleSteps t s x l i 0 (langOf t g), 1 ≤ q.len ∧ q.cells ≠ [] := by
  intro q hq
  obtain ⟨r, hr, _, _, h2, h3⟩ := ruleSteps_mem _ _ _ _ _ _ _ _ hq
  have hg := (valid_parts ht).2.2.1
  have := ru_parts (lang_ok hg g r hr)
  refine ⟨by rw [h2]; omega, ?_⟩
  rw [h3]
  intro e
  rw [List.append_eq_nil_iff] at e
  exact indic_pos this.2.2.2.2.1 e.2
theorem next_ok {t : Ta} (ht : GoodTa t) (s : St) {l : List Sy} {i : Nat} {x : Sy} (hx : l[i]? = some x) (hp : plainSy x = true) : ∀ st ∈ nextL t s l i x, StepOk t l i x st := by
  intro st hst
  have hi := (List.getElem?_eq_some_iff.1 hx).1
  unfold nextL at hst
  split at hst
  · rw [List.mem_singleton] at hst
    subst hst
    refine ⟨Int.le_refl _, by simp; omega, ?_, fun _ => ⟨rfl, next_some ht _ hx hp, ?_⟩⟩
    · exact indic_pos (good_parts (valid_parts ht.ok).2.2.1).2.2.2.2.1
    · intro q hq
      unfold nextL at hq
      rw [if_neg (by simp)] at hq
      split at hq
      · rw [List.mem_singleton] at hq; subst hq; simp
      · have := (rule_len ht.ok q hq).1; omega
  · split at hst
    · rw [List.mem_singleton] at hst
      subst hst
      refine ⟨by simp, by simp; omega, by simp, fun h => by simp at h⟩
    · have h1 := rule_len ht.ok st hst
      obtain ⟨r, hr, hf, _, h2, _⟩ := ruleSteps_mem _ _ _ _ _ _ _ _ hst
      have := fits_len hi hf
      exact ⟨by omega, by rw [h2]; omega, h1.2, fun h => by omega⟩
end Go.Dx
end
