/- Laws of the walk in terms of 'Sl': an index, a cut, a conversion. No program in sight. -/
import Derived.Test.YtalicdpocgomkaaDoorMem
import Derived.Laws.IdiomStrings
set_option linter.unusedVariables false
namespace Go.Dx
open Go.RowKit

theorem sl_add {p : Addr} (i j : Nat) : (p.add i).add j = p.add (i + j) := by
  unfold Addr.add
  by_cases hi : i = 0
  · subst hi; simp
  · by_cases hj : j = 0
    · subst hj; simp
    · simp [hi, hj]; omega

theorem Sl.cut {w : World} {sz : Nat} {a : Option Addr} {n c : Nat} {cs : List Value} (h : Sl w sz a n c cs) (l u : Nat) (hl : l ≤ u) (hu : u ≤ n) :
    Sl w sz (if c = l then a else a.map (·.add (l * sz))) (u - l) (c - l) ((cs.drop (l * sz)).take ((u - l) * sz)) := by
  have h1 := h.len
  have h2 := h.le
  have h3 := h.cap
  have hm : u * sz ≤ n * sz := Nat.mul_le_mul_right _ hu
  have hm2 : l * sz ≤ u * sz := Nat.mul_le_mul_right _ hl
  have hsub : (u - l) * sz = u * sz - l * sz := Nat.sub_mul _ _ _
  refine ⟨?_, by omega, by omega, ?_, ?_⟩
  · rw [List.length_take, List.length_drop]; omega
  · intro ha
    by_cases hc : c = l
    · omega
    · rw [if_neg hc] at ha
      cases a with
      | none => have := h.nil rfl; omega
      | some p => cases ha
  · intro p hp j v hj
    rw [List.getElem?_take] at hj
    split at hj
    · rename_i hlt
      rw [List.getElem?_drop] at hj
      by_cases hc : c = l
      · have : (u - l) * sz = 0 := by have : u - l = 0 := by omega
                                      rw [this, Nat.zero_mul]
        omega
      · rw [if_neg hc] at hp
        cases a with
        | none => cases hp
        | some q =>
          simp only [Option.map_some, Option.some.injEq] at hp
          subst hp
          rw [sl_add]
          exact h.cell q rfl _ _ hj
    · cases hj

theorem Sl.fresh (w : World) (e : TypeId) (sz n : Nat) (us : List Value) (hn : us.length = n * sz) (hm : n ≤ maxLen) : Sl (w.alloc (.cells us.toArray e)) sz (some ⟨w.heap.size, 0, none⟩) n n us :=
  ⟨hn, Nat.le_refl _, hm, (fun h => by cases h), fun p hp j u hj => by
    cases hp
    rw [Addr.add_lit, Nat.zero_add, cell_of_row _ w.heap.size j us.toArray e _ (heap_alloc_new w _)]
    simpa using hj⟩

section ops
variable {P : Program} {w : World} {ops : Array Oper} {rest : List Oper} {act : Act} {Q : Exit → Act → World → Prop}
  {ty : TypeId} {pos : String} {after : Array Edge}

/-- 'xs[i]', the address: a cell that holds u. -/
theorem index_sl (d : Nat) (t : TypeId) (x y : Operand) (e : TypeId) (ht : P.underlying t = some (.slice e)) (hsz : (P.info? e).map (·.size) = some 1)
    (a : Option Addr) (n c : Nat) (cs : List Value) (hx : act.eval x = .slice a n c) (hs : Sl w 1 a n c cs) (k : IntKind) (iv : Int) (i : Nat) (hy : act.eval y = .int k iv) (hiv : iv = (i : Int))
    (u : Value) (hu : cs[i]? = some u)
    (hK : ∀ b o, w.cell? ⟨b, o, none⟩ = some u → b < w.heap.size → wpList P ops Q rest (act.put (some d) (.pointer (some ⟨b, o, none⟩))) w) :
    wpList P ops Q ({ dst := some d, op := .indexAddr t x y, type := ty, pos := pos, after := after, guard := none } :: rest) act w := by
  refine wpList_plain rfl fun K hK' => ?_
  have hil : i < cs.length := (List.getElem?_eq_some_iff.1 hu).1
  have hn : i < n := by have := hs.len; omega
  obtain ⟨b, o, rfl, hb, hc⟩ := hs.ex (by omega)
  obtain ⟨i0, hi0, hs0⟩ := Option.map_eq_some_iff.1 hsz
  subst hiv
  have hrun : (Instr.indexAt t (.slice (some ⟨b, o, none⟩) n c) (.int k (i : Int))).run P w = .ok (.pointer (some ⟨b, o + i, none⟩)) w := by
    simp [Instr.indexAt, asIntOf, run_underlying ht, sizeOf, typeInfo, hi0, hs0, hn, Addr.add_lit]
  unfold Oper.wp
  simp [execOp, hx, hy, hrun, Result.andThen]
  exact hK' _ _ (hK b (o + i) (hc i u hu) hb)

/-- 'xs[l:u]' -/
theorem cut_sl (d : Nat) (t : TypeId) (x lo hi : Operand) (e : TypeId) (ht : P.underlying t = some (.slice e)) (sz : Nat) (hsz : (P.info? e).map (·.size) = some sz)
    (a : Option Addr) (n c : Nat) (cs : List Value) (hx : act.eval x = .slice a n c) (hs : Sl w sz a n c cs) (kl ku : IntKind) (lv uv : Int) (l u : Nat) (hl : act.eval lo = .int kl lv) (hu : act.eval hi = .int ku uv)
    (hlv : lv = (l : Int)) (huv : uv = (u : Int)) (hlu : l ≤ u) (hun : u ≤ n)
    (hK : ∀ a', Sl w sz a' (u - l) (c - l) ((cs.drop (l * sz)).take ((u - l) * sz)) → (∀ p, a' = some p → ∃ q, a = some q ∧ q.block = p.block) → wpList P ops Q rest (act.put (some d) (.slice a' (u - l) (c - l))) w) :
    wpList P ops Q ({ dst := some d, op := .slice t x (some lo) (some hi) none, type := ty, pos := pos, after := after, guard := none } :: rest) act w := by
  refine wpList_plain rfl fun K hK' => ?_
  subst hlv huv
  obtain ⟨i0, hi0, hs0⟩ := Option.map_eq_some_iff.1 hsz
  have hle := hs.le
  have hrun : (Instr.sliceAt t (.slice a n c) (some (.int kl (l : Int))) (some (.int ku (u : Int))) none).run P w = .ok (.slice (if c = l then a else a.map (·.add (l * sz))) (u - l) (c - l)) w := by
    have h2 : (0 : Int) ≤ l ∧ (l : Int) ≤ u := by omega
    have h3 : (0 : Int) ≤ u ∧ (u : Int) ≤ c := by omega
    simp [Instr.sliceAt, Instr.slice, Instr.sliceBounds, Instr.sliceBound, asIntOf, run_underlying ht, sizeOf, typeInfo, hi0, hs0, h2, h3, show u ≤ c by omega, hlu]
  unfold Oper.wp
  simp only [execOp, Option.map_some, Option.map_none, hx, hl, hu, Sem.run_bind, hrun, Result.andThen, Sem.run_pure]
  refine hK' _ _ (hK _ (hs.cut l u hlu hun) ?_)
  intro p hp
  by_cases hc : c = l
  · rw [if_pos hc] at hp; exact ⟨p, hp, rfl⟩
  · rw [if_neg hc] at hp
    cases a with
    | none => cases hp
    | some q =>
      simp only [Option.map_some, Option.some.injEq] at hp
      exact ⟨q, rfl, by rw [← hp]; unfold Addr.add; split <;> rfl⟩

/-- 'xs[l:]' -/
theorem cut_lo (d : Nat) (t : TypeId) (x lo : Operand) (e : TypeId) (ht : P.underlying t = some (.slice e)) (sz : Nat) (hsz : (P.info? e).map (·.size) = some sz)
    (a : Option Addr) (n c : Nat) (cs : List Value) (hx : act.eval x = .slice a n c) (hs : Sl w sz a n c cs) (kl : IntKind) (lv : Int) (l : Nat) (hl : act.eval lo = .int kl lv)
    (hlv : lv = (l : Int)) (hln : l ≤ n)
    (hK : ∀ a', Sl w sz a' (n - l) (c - l) (cs.drop (l * sz)) → (∀ p, a' = some p → ∃ q, a = some q ∧ q.block = p.block) → wpList P ops Q rest (act.put (some d) (.slice a' (n - l) (c - l))) w) :
    wpList P ops Q ({ dst := some d, op := .slice t x (some lo) none none, type := ty, pos := pos, after := after, guard := none } :: rest) act w := by
  refine wpList_plain rfl fun K hK' => ?_
  subst hlv
  obtain ⟨i0, hi0, hs0⟩ := Option.map_eq_some_iff.1 hsz
  have hle := hs.le
  have hrun : (Instr.sliceAt t (.slice a n c) (some (.int kl (l : Int))) none none).run P w = .ok (.slice (if c = l then a else a.map (·.add (l * sz))) (n - l) (c - l)) w := by
    have h2 : (0 : Int) ≤ l ∧ (l : Int) ≤ n := by omega
    simp [Instr.sliceAt, Instr.slice, Instr.sliceBounds, Instr.sliceBound, asIntOf, run_underlying ht, sizeOf, typeInfo, hi0, hs0, h2, hln]
  have hcut := hs.cut l n hln (Nat.le_refl _)
  have e2 : (cs.drop (l * sz)).take ((n - l) * sz) = cs.drop (l * sz) := by
    apply List.take_of_length_le
    have := hs.len
    rw [List.length_drop, this, Nat.sub_mul]; omega
  rw [e2] at hcut
  unfold Oper.wp
  simp only [execOp, Option.map_some, Option.map_none, hx, hl, Sem.run_bind, hrun, Result.andThen, Sem.run_pure]
  refine hK' _ _ (hK _ hcut ?_)
  intro p hp
  by_cases hc : c = l
  · rw [if_pos hc] at hp; exact ⟨p, hp, rfl⟩
  · rw [if_neg hc] at hp
    cases a with
    | none => cases hp
    | some q =>
      simp only [Option.map_some, Option.some.injEq] at hp
      exact ⟨q, rfl, by rw [← hp]; unfold Addr.add; split <;> rfl⟩

/-- 'xs[:u]': the address stays. -/
theorem cut_hi (d : Nat) (t : TypeId) (x hi : Operand) (e : TypeId) (ht : P.underlying t = some (.slice e)) (sz : Nat) (hsz : (P.info? e).map (·.size) = some sz)
    (a : Option Addr) (n c : Nat) (cs : List Value) (hx : act.eval x = .slice a n c) (hs : Sl w sz a n c cs) (ku : IntKind) (uv : Int) (u : Nat) (hu : act.eval hi = .int ku uv)
    (huv : uv = (u : Int)) (hun : u ≤ n)
    (hK : Sl w sz a u c (cs.take (u * sz)) → wpList P ops Q rest (act.put (some d) (.slice a u c)) w) :
    wpList P ops Q ({ dst := some d, op := .slice t x none (some hi) none, type := ty, pos := pos, after := after, guard := none } :: rest) act w := by
  refine wpList_plain rfl fun K hK' => ?_
  subst huv
  obtain ⟨i0, hi0, hs0⟩ := Option.map_eq_some_iff.1 hsz
  have hle := hs.le
  have hrun : (Instr.sliceAt t (.slice a n c) none (some (.int ku (u : Int))) none).run P w = .ok (.slice a u c) w := by
    have h3 : (0 : Int) ≤ u ∧ (u : Int) ≤ c := by omega
    simp [Instr.sliceAt, Instr.slice, Instr.sliceBounds, Instr.sliceBound, asIntOf, run_underlying ht, sizeOf, typeInfo, hi0, h3, show u ≤ c by omega]
    intro _
    cases a with
    | none => rfl
    | some p => simp [Addr.add]
  have hcut := hs.cut 0 u (Nat.zero_le _) hun
  have e2 : (if c = 0 then a else a.map (·.add (0 * sz))) = a := by
    split
    · rfl
    · cases a with
      | none => rfl
      | some p => simp [Addr.add]
  rw [e2] at hcut
  simp only [Nat.sub_zero, Nat.zero_mul, List.drop_zero] at hcut
  unfold Oper.wp
  simp only [execOp, Option.map_some, Option.map_none, hx, hu, Sem.run_bind, hrun, Result.andThen, Sem.run_pure]
  exact hK' _ _ (hK hcut)

/-- 'string(b)' -/
theorem conv_str (d : Nat) (src dst : TypeId) (x : Operand) (e : TypeId) (hsr : P.underlying src = some (.slice e)) (he : P.underlying e = some (.int .u8)) (hd : P.underlying dst = some .string)
    (a : Option Addr) (n c : Nat) (l : List UInt8) (hx : act.eval x = .slice a n c) (hs : Sl w 1 a n c (l.map B8))
    (hK : wpList P ops Q rest (act.put (some d) (.string ⟨l.toArray⟩)) w) :
    wpList P ops Q ({ dst := some d, op := .convert src dst x, type := ty, pos := pos, after := after, guard := none } :: rest) act w := by
  refine wpList_plain rfl fun K hK' => ?_
  obtain rfl := hs.n_eq
  have hrun : (convert src dst (.slice a l.length c)).run P w = .ok (.string ⟨l.toArray⟩) w := by
    cases a with
    | some p =>
      exact run_convert_bytes_back w src dst e p c l hsr he hd (fun j hj => hs.cell p rfl j _ (by simp [hj]))
    | none =>
      have := hs.nil rfl
      have := hs.le
      have hl : l = [] := List.eq_nil_of_length_eq_zero (by omega)
      subst hl
      simp [convert, run_underlying hsr, run_underlying hd, run_underlying he, Conv.bytesToString]
      rfl
  unfold Oper.wp
  simp [execOp, hx, hrun, Result.andThen]
  exact hK' _ _ hK

/-- '[]byte(s)' -/
theorem conv_bytes (d : Nat) (src dst : TypeId) (x : Operand) (e : TypeId) (hsr : P.underlying src = some .string) (hd : P.underlying dst = some (.slice e)) (he : P.underlying e = some (.int .u8))
    (s : ByteArray) (hx : act.eval x = .string s) (hm : s.size ≤ maxLen)
    (hK : ∀ a c w', Sl w' 1 a s.size c (s.data.toList.map B8) → Below w.heap.size w w' → (∀ p, a = some p → w.heap.size ≤ p.block) → wpList P ops Q rest (act.put (some d) (.slice a s.size c)) w') :
    wpList P ops Q ({ dst := some d, op := .convert src dst x, type := ty, pos := pos, after := after, guard := none } :: rest) act w := by
  refine wpList_plain rfl fun K hK' => ?_
  have hrun := run_bytes_of_string (P := P) w src dst e s hsr hd he
  have hge := grownCap_ge w s.size 0 e
  have hcm := grownCap_le_maxLen w s.size 0 e hm
  unfold Oper.wp
  simp only [execOp, hx, Sem.run_bind, hrun, Result.andThen, Sem.run_pure]
  refine hK' _ _ (hK _ _ _ ⟨?_, hge, hcm, (fun h => by cases h), ?_⟩ ((Below.refl _ _).drew.alloc (Nat.le_refl _) _) (fun p hp => by cases hp; exact Nat.le_refl _))
  · rw [List.length_map, Array.length_toList, Nat.mul_one]; rfl
  · intro p hp j u hj
    cases hp
    rw [Addr.add_lit, Nat.zero_add, cell_of_row _ w.heap.size j (bytesRow s (grownCap w s.size 0 e)) e _ (heap_alloc_new w.drew _)]
    have hj2 : j < s.size := by
      have := (List.getElem?_eq_some_iff.1 hj).1
      rw [List.length_map, Array.length_toList] at this
      exact this
    unfold bytesRow
    rw [Array.getElem?_append_left (by rw [Array.size_map]; exact hj2)]
    rw [← hj]
    simp
/-- a whole array or struct is loaded -/
theorem load_agg (d : Nat) (t : TypeId) (x : Operand) (sz : Nat) (hsz : (P.info? t).map (·.size) = some sz) (n e : Nat) (hag : P.underlying t = some (.array n e))
    (p : Addr) (hx : act.eval x = .pointer (some p)) (cs : List Value) (hl : cs.length = sz) (hc : ∀ j u, cs[j]? = some u → w.cell? (p.add j) = some u)
    (hK : wpList P ops Q rest (act.put (some d) (.agg cs.toArray)) w) :
    wpList P ops Q ({ dst := some d, op := .load t x, type := ty, pos := pos, after := after, guard := none } :: rest) act w := by
  refine wpList_plain rfl fun K hK' => ?_
  obtain ⟨i, hi, hs0⟩ := Option.map_eq_some_iff.1 hsz
  subst hs0
  have hrun : (Instr.loadAt t (.pointer (some p))).run P w = .ok (.agg cs.toArray) w := by
    have hl2 := run_loadCells_list (P := P) w p cs hc
    rw [hl] at hl2
    simp [Instr.loadAt, Instr.sureAddr, loadVar, isAgg, run_underlying hag, sizeOf, typeInfo, hi, hl2]
  unfold Oper.wp
  simp [execOp, hx, hrun, Result.andThen]
  exact hK' _ _ hK

/-- a whole value is stored into a block that was laid just before -/
theorem store_fresh (t e : TypeId) (x y : Operand) (sz : Nat) (hsz : (P.info? t).map (·.size) = some sz) (zs : Array Value)
    (hx : act.eval x = .pointer (some ⟨w.heap.size, 0, none⟩)) (v : Value) (cs : List Value) (hy : act.eval y = v) (hv : v.cells = cs.toArray) (hl : cs.length = sz) (hz : zs.size = sz) (h1 : ∀ u ∈ cs, u.oneCell' = true)
    (hK : wpList P ops Q rest act (w.alloc (.cells cs.toArray e))) :
    wpList P ops Q ({ dst := none, op := .store t x y, type := ty, pos := pos, after := after, guard := none } :: rest) act (w.alloc (.cells zs e)) := by
  refine wpList_plain rfl fun K hK' => ?_
  obtain ⟨i, hi, hs0⟩ := Option.map_eq_some_iff.1 hsz
  subst hs0
  have hst := run_storeCells_at P w.heap.size 0 e cs 0 zs (w.alloc (.cells zs e)) (heap_alloc_new w _) (by omega) h1
  simp only [Nat.add_zero, Nat.zero_add, List.take_zero, List.nil_append] at hst
  have hd : zs.toList.drop cs.length = [] := by
    apply List.drop_eq_nil_of_le; rw [Array.length_toList]; omega
  rw [hd, List.append_nil] at hst
  have hset : (w.alloc (.cells zs e)).setRow w.heap.size cs.toArray = w.alloc (.cells cs.toArray e) := by
    unfold World.setRow World.alloc
    congr 1
    apply Array.ext
    · simp
    · intro k h1 h2
      simp only [Array.getElem_modify, Array.getElem_push]
      by_cases h : w.heap.size = k
      · subst h; simp
      · have hk : k < w.heap.size := by simp at h1; omega
        simp [h, hk]
  rw [hset] at hst
  have hrun : (Instr.storeAt t (.pointer (some ⟨w.heap.size, 0, none⟩)) v).run P (w.alloc (.cells zs e)) = .ok () (w.alloc (.cells cs.toArray e)) := by
    simp [Instr.storeAt, Instr.sureAddr, storeVar, sizeOf, typeInfo, hi, hv, hl, hst]
  unfold Oper.wp
  simp [execOp, hx, hy, hrun, Result.andThen]
  exact hK' _ _ hK
end ops
end Go.Dx
