/- More laws on blocks that are known whole: a copy from a string, whole loads in drawn regions. No program in sight. -/
import Derived.Test.YtalicdpocgomkaaDoorBox
import Derived.Test.YtalicdpocgomkaaDoorQTail
import Derived.Lib.Strings
set_option linter.unusedVariables false
set_option linter.unusedSimpArgs false
namespace Go.Dx
open Go.RowKit
section
variable {P : Program} {w : World} {ops : Array Oper} {rest : List Oper} {o : Oper} {act : Act} {Q : Exit → Act → World → Prop}
/-- 'copy(dst, s)' from a string, dst lying in a block that is known whole -/
theorem copy_str (hgd : o.guard = none) (d s : Operand) (dT sT : TypeId) (hop : o.op = .call { callee := .builtin .copy, args := #[d, s], argTypes := #[dT, sT] }) (elem : TypeId) (hu : P.underlying dT = some (.slice elem)) (hsz : (P.info? elem).map (·.size) = some 1)
    (g off dLen dCap : Nat) (t : TypeId) (old : List Value) (hb : Box w g t old) (hd : act.eval d = .slice (some ⟨g, off, none⟩) dLen dCap) (x : ByteArray) (hs : act.eval s = .string x) (k : Nat) (hk : k = min x.size dLen) (hfit : off + k ≤ old.length)
    (hK : ∀ w', Box w' g t (old.take off ++ (x.data.toList.take k).map B8 ++ old.drop (off + k)) → w.grownBy w' (some g) → w'.heap.size = w.heap.size → wpList P ops Q rest (act.put o.dst (.int .i64 (k : Int))) w') :
    wpList P ops Q (o :: rest) act w := by
  refine wpList_plain hgd fun K hK' => ?_
  have hxl : x.data.toList.length = x.size := Array.length_toList
  have hcl : ((x.data.toList.take k).map B8).length = k := by rw [List.length_map, List.length_take]; omega
  have hst := run_storeCells_at P g off t ((x.data.toList.take k).map B8) 0 old.toArray w hb (by rw [hcl]; simpa using hfit) (one_map _ (fun _ => rfl) _)
  rw [hcl] at hst
  simp only [Nat.add_zero, List.toList_toArray] at hst
  have hmin : Nat.min x.size dLen = k := hk.symm
  have hrun : (Builtin.copy_ #[dT, sT] o.type #[.slice (some ⟨g, off, none⟩) dLen dCap, .string x]).run P w = .ok (.int .i64 (k : Int)) (w.setRow g (old.take off ++ (x.data.toList.take k).map B8 ++ old.drop (off + k)).toArray) := by
    obtain ⟨i, hq, hi⟩ := Option.map_eq_some_iff.1 hsz
    simp [Builtin.copy_, run_underlying hu, Builtin.lenOf, Builtin.firstCells, sizeOf, typeInfo, hq, hmin]
    have e : List.take k (List.map (fun b : UInt8 => Value.int IntKind.u8 (b.toNat : Int)) x.data.toList) = (x.data.toList.take k).map B8 := by rw [List.map_take]
    rw [e, hst]
    simp [Result.andThen]
    rfl
  unfold Oper.wp
  simp [execOp, hop, resolve, invoke, builtin, hd, hs, hrun, Result.andThen]
  refine hK' _ _ (hK _ ?_ ⟨rfl, rfl, rfl, by simp [World.setRow], fun k _ hk => setRow_other w g k _ (fun e => hk (by rw [e]))⟩ (by simp [World.setRow]))
  have := setRow_heap w g old.toArray (old.take off ++ (x.data.toList.take k).map B8 ++ old.drop (off + k)).toArray t (0, 0) hb
  simpa [Box] using this
theorem run_cut_var {P : Program} {w : World} (t e : TypeId) (n : Nat) (ht : P.underlying t = some (.array n e)) (hsz : (P.info? e).map (·.size) = some 1) (g off l u : Nat) (lo hi : Option Value)
    (hl : lo = none ∧ l = 0 ∨ ∃ k, lo = some (.int k (l : Int))) (hu : hi = none ∧ u = n ∨ ∃ k, hi = some (.int k (u : Int))) (hlu : l ≤ u) (hun : u ≤ n) (hln : l < n) :
    (Instr.sliceAt t (.pointer (some ⟨g, off, none⟩)) lo hi none).run P w = .ok (.slice (some ⟨g, off + l, none⟩) (u - l) (n - l)) w := by
  obtain ⟨i0, hi0, hs0⟩ := Option.map_eq_some_iff.1 hsz
  have h2 : (0 : Int) ≤ l ∧ (l : Int) ≤ u := by omega
  have h3 : (0 : Int) ≤ u ∧ (u : Int) ≤ n := by omega
  have hne : ¬ n = l := by omega
  rcases hl with ⟨rfl, rfl⟩ | ⟨k1, rfl⟩ <;> rcases hu with ⟨rfl, rfl⟩ | ⟨k2, rfl⟩ <;>
    simp [Instr.sliceAt, Instr.sureAddr, Instr.sliceBounds, Instr.sliceBound, asIntOf, run_underlying ht, sizeOf, typeInfo, hi0, hs0, h2, h3, Addr.add_lit, hlu, hun, hne]
/-- 'arr[lo:hi]' of an array variable -/
theorem cut_var {ty : TypeId} {pos : String} {after : Array Edge} (d : Nat) (t e : TypeId) (n : Nat) (x : Operand) (lo hi : Option Operand) (ht : P.underlying t = some (.array n e)) (hsz : (P.info? e).map (·.size) = some 1)
    (g off : Nat) (hx : act.eval x = .pointer (some ⟨g, off, none⟩)) (l u : Nat)
    (hl : lo.map act.eval = none ∧ l = 0 ∨ ∃ k, lo.map act.eval = some (.int k (l : Int))) (hu : hi.map act.eval = none ∧ u = n ∨ ∃ k, hi.map act.eval = some (.int k (u : Int))) (hlu : l ≤ u) (hun : u ≤ n) (hln : l < n)
    (hK : wpList P ops Q rest (act.put (some d) (.slice (some ⟨g, off + l, none⟩) (u - l) (n - l))) w) :
    wpList P ops Q ({ dst := some d, op := .slice t x lo hi none, type := ty, pos := pos, after := after, guard := none } :: rest) act w := by
  refine wpList_plain rfl fun K hK' => ?_
  have hrun := run_cut_var (P := P) (w := w) t e n ht hsz g off l u (lo.map act.eval) (hi.map act.eval) hl hu hlu hun hln
  unfold Oper.wp
  simp only [execOp, Option.map_none, hx, Sem.run_bind, hrun, Result.andThen, Sem.run_pure]
  exact hK' _ _ hK
end
/-- the walk stops ahead of a copy -/
theorem hold_copy {P : Program} {w : World} {ops : Array Oper} {rest : List Oper} {act : Act} {Q : Exit → Act → World → Prop} {dst : Option Tmp} {ty : TypeId} {as_ : Array Operand} {ts : Array TypeId} {pos : String} {after : Array Edge} {g : Option (Nat × Bool)}
    (h : Hid (wpList P ops Q ({ dst := dst, op := .call { callee := .builtin .copy, args := as_, argTypes := ts }, type := ty, pos := pos, after := after, guard := g } :: rest) act w)) :
    wpList P ops Q ({ dst := dst, op := .call { callee := .builtin .copy, args := as_, argTypes := ts }, type := ty, pos := pos, after := after, guard := g } :: rest) act w := h
section quiet
variable {P : Program} {w : World} {ops : Array Oper} {rest : List Oper} {act : Act} {Q : Act → Prop} {C : World → Prop} {ty : TypeId} {pos : String} {after : Array Edge}
/-- an operation of a quiet walk whose value is known in every world of the class -/
theorem quiet_in {o : Oper} (v : Value) (hw : Region.wanted o (yielded ops act.tmps) = true) (h : ∀ w', C w' → (execOp act.eval o).run P w' = .ok (.value v) w') (hK : wpQuiet P ops C Q rest (act.put o.dst v)) : wpQuiet P ops C Q (o :: rest) act := by
  refine wpQuiet_step fun K hK' => ?_
  rw [if_pos hw]
  refine ⟨v, ?_, hK' _ hK⟩
  intro w' hC
  unfold Oper.quietAt
  rw [h w' hC]
  exact ⟨rfl, rfl⟩
/-- a call of a quiet walk -/
theorem quiet_call {o : Oper} (f : FuncId) (args : Array Value) (v : Value) (hw : Region.wanted o (yielded ops act.tmps) = true) (h : ∀ w', C w' → (execOp act.eval o).run P w' = .ok (.enter f args) w') (hc : ∀ w', C w' → Calls P f args w' (fun e w'' => e = .returned v ∧ C w''))
    (hK : wpQuiet P ops C Q rest (act.put o.dst v)) : wpQuiet P ops C Q (o :: rest) act := by
  refine wpQuiet_step fun K hK' => ?_
  rw [if_pos hw]
  refine ⟨v, ?_, hK' _ hK⟩
  intro w' hC
  unfold Oper.quietAt
  rw [h w' hC]
  exact ⟨rfl, hc w' hC⟩
/-- a whole array or struct is loaded -/
theorem quiet_load_box (d : Nat) (t : TypeId) (x : Operand) (e : TypeId) (g off : Nat) (old cs : List Value) (hag : IsAgg P t) (hsz : (P.info? t).map (·.size) = some cs.length) (hb : ∀ w', C w' → Box w' g e old) (hx : act.eval x = .pointer (some ⟨g, off, none⟩))
    (hc : ∀ j u, cs[j]? = some u → old[off + j]? = some u) (hK : wpQuiet P ops C Q rest (act.put (some d) (.agg cs.toArray))) :
    wpQuiet P ops C Q ({ dst := some d, op := .load t x, type := ty, pos := pos, after := after, guard := none } :: rest) act := by
  refine quiet_in _ (by simp [Region.wanted]) (fun w' hC => ?_) hK
  simp [execOp, hx, Instr.loadAt, Instr.sureAddr, run_loadVar_box hag hsz (hb w' hC) hc]
theorem quiet_cut_var (d : Nat) (t e : TypeId) (n : Nat) (x : Operand) (lo hi : Option Operand) (ht : P.underlying t = some (.array n e)) (hsz : (P.info? e).map (·.size) = some 1)
    (g off : Nat) (hx : act.eval x = .pointer (some ⟨g, off, none⟩)) (l u : Nat)
    (hl : lo.map act.eval = none ∧ l = 0 ∨ ∃ k, lo.map act.eval = some (.int k (l : Int))) (hu : hi.map act.eval = none ∧ u = n ∨ ∃ k, hi.map act.eval = some (.int k (u : Int))) (hlu : l ≤ u) (hun : u ≤ n) (hln : l < n)
    (hK : wpQuiet P ops C Q rest (act.put (some d) (.slice (some ⟨g, off + l, none⟩) (u - l) (n - l)))) :
    wpQuiet P ops C Q ({ dst := some d, op := .slice t x lo hi none, type := ty, pos := pos, after := after, guard := none } :: rest) act := by
  refine quiet_in _ (by simp [Region.wanted]) (fun w' hC => ?_) hK
  have hrun := run_cut_var (P := P) (w := w') t e n ht hsz g off l u (lo.map act.eval) (hi.map act.eval) hl hu hlu hun hln
  simp only [execOp, Option.map_none, hx, Sem.run_bind, hrun, Result.andThen, Sem.run_pure]
end quiet
theorem run_conv_str {P : Program} {w : World} {src dst e : TypeId} (hsr : P.underlying src = some (.slice e)) (he : P.underlying e = some (.int .u8)) (hd : P.underlying dst = some .string)
    {a : Option Addr} {n c : Nat} {l : List UInt8} (hs : Sl w 1 a n c (l.map B8)) : (convert src dst (.slice a n c)).run P w = .ok (.string ⟨l.toArray⟩) w := by
  obtain rfl := hs.n_eq
  cases a with
  | some p => exact run_convert_bytes_back w src dst e p c l hsr he hd (fun j hj => hs.cell p rfl j _ (by simp [hj]))
  | none =>
    have := hs.nil rfl
    have := hs.le
    have hl : l = [] := List.eq_nil_of_length_eq_zero (by omega)
    subst hl
    simp [convert, run_underlying hsr, run_underlying hd, run_underlying he, Conv.bytesToString]
    rfl
section quiet2
variable {P : Program} {w : World} {ops : Array Oper} {rest : List Oper} {act : Act} {Q : Act → Prop} {C : World → Prop} {ty : TypeId} {pos : String} {after : Array Edge}
theorem quiet_conv_str (d : Nat) (src dst : TypeId) (x : Operand) (e : TypeId) (hsr : P.underlying src = some (.slice e)) (he : P.underlying e = some (.int .u8)) (hd : P.underlying dst = some .string)
    (a : Option Addr) (n c : Nat) (l : List UInt8) (hx : act.eval x = .slice a n c) (hs : ∀ w', C w' → Sl w' 1 a n c (l.map B8))
    (hK : wpQuiet P ops C Q rest (act.put (some d) (.string ⟨l.toArray⟩))) :
    wpQuiet P ops C Q ({ dst := some d, op := .convert src dst x, type := ty, pos := pos, after := after, guard := none } :: rest) act := by
  refine quiet_in _ (by simp [Region.wanted]) (fun w' hC => ?_) hK
  simp [execOp, hx, run_conv_str hsr he hd (hs w' hC), Result.andThen]
end quiet2
section guarded
variable {P : Program} {w : World} {ops : Array Oper} {rest : List Oper} {act : Act} {Q : Exit → Act → World → Prop} {ty : TypeId} {pos : String} {after : Array Edge} {g : Option (Nat × Bool)}
theorem unguard_any {dst : Option Nat} {op : Op} (hw : Region.wanted { dst := dst, op := op, type := ty, pos := pos, after := after, guard := g } (yielded ops act.tmps) = true)
    (h : wpList P ops Q ({ dst := dst, op := op, type := ty, pos := pos, after := after, guard := none } :: rest) act w) :
    wpList P ops Q ({ dst := dst, op := op, type := ty, pos := pos, after := after, guard := g } :: rest) act w := by
  have h2 : Region.wanted { dst := dst, op := op, type := ty, pos := pos, after := after, guard := none } (yielded ops act.tmps) = true := rfl
  unfold wpList at h ⊢
  rw [if_pos h2] at h
  rw [if_pos hw]
  exact h
/-- a whole array or struct is loaded, guarded or not -/
theorem load_box_g (d : Nat) (t : TypeId) (x : Operand) (e : TypeId) (b off : Nat) (old cs : List Value) (hag : IsAgg P t) (hsz : (P.info? t).map (·.size) = some cs.length) (hb : Box w b e old) (hx : act.eval x = .pointer (some ⟨b, off, none⟩))
    (hc : ∀ j u, cs[j]? = some u → old[off + j]? = some u) (hw : Region.wanted { dst := some d, op := .load t x, type := ty, pos := pos, after := after, guard := g } (yielded ops act.tmps) = true)
    (hK : wpList P ops Q rest (act.put (some d) (.agg cs.toArray)) w) :
    wpList P ops Q ({ dst := some d, op := .load t x, type := ty, pos := pos, after := after, guard := g } :: rest) act w :=
  unguard_any hw (load_box d t x e b off old cs hag hsz hb hx hc hK)
/-- '==' of two arrays of bytes, guarded or not -/
theorem eql_bytes_g (d : Nat) (t : TypeId) (x y : Operand) (e n : Nat) (ht : P.underlying t = some (.array n e)) (he : P.underlying e = some (.int .u8)) (hsz : (P.info? e).map (·.size) = some 1) (hgt : P.eqGuardType P.depth t = false)
    (xs ys : List UInt8) (hx : act.eval x = .agg (xs.map B8).toArray) (hy : act.eval y = .agg (ys.map B8).toArray) (hxl : xs.length = n) (hyl : ys.length = n)
    (hw : Region.wanted { dst := some d, op := .binOp .eql t x y t, type := ty, pos := pos, after := after, guard := g } (yielded ops act.tmps) = true)
    (hK : wpList P ops Q rest (act.put (some d) (.bool (decide (xs = ys)))) w) :
    wpList P ops Q ({ dst := some d, op := .binOp .eql t x y t, type := ty, pos := pos, after := after, guard := g } :: rest) act w := by
  refine unguard_any hw (val_at rfl _ ?_ hK)
  have h1 := run_eqGuard_agg (P := P) (w := w) .eql t x y (xs.map B8).toArray (ys.map B8).toArray hgt
  have h2 := run_eql_arr (P := P) w t e n .u8 ht he hsz (xs.map fun d => (d.toNat : Int)) (ys.map fun d => (d.toNat : Int)) (by simpa using hxl) (by simpa using hyl)
  rw [← bytes_ints, ← bytes_ints] at h2
  have h3 : decide ((xs.map fun d => (d.toNat : Int)) = (ys.map fun d => (d.toNat : Int))) = decide (xs = ys) := decide_eq_decide.2 bytes_inj
  rw [h3] at h2
  simp only [execOp, hx, hy, Sem.run_bind, h1, h2, Result.andThen_ok, Sem.run_pure]
end guarded
/-- a string's bytes -/
theorem str_none {y : ByteArray} (h : y.size = 0) : y.toList.isEmpty = true := by
  rw [Lib.toList_data, List.isEmpty_iff, ← List.length_eq_zero_iff]; exact h
theorem str_some {y : ByteArray} (h : y.size ≠ 0) : y.toList.isEmpty = false := by
  rw [Lib.toList_data, Bool.eq_false_iff, ne_eq, List.isEmpty_iff, ← List.length_eq_zero_iff]; exact h
theorem ext_list (y : ByteArray) (k : Nat) : (y.extract k y.size).data.toList = y.data.toList.drop k := by
  rw [Lib.extract_data]
  apply List.take_of_length_le
  rw [List.length_drop]
  exact Nat.le_of_eq rfl
end Go.Dx
