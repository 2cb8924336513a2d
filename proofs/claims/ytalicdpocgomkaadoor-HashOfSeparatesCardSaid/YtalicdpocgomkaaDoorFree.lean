/- A region that draws its order and whose operations make memory: shown operation by operation, whatever the order. Each operation of the head leaves a value in its slot and a fact on it that stays true when memory grows; the tail waits for the whole head. No program in sight. -/
import Derived.Test.YtalicdpocgomkaaDoorQTail
set_option linter.unusedVariables false
namespace Go.Dx
open Go.RowKit

theorem wp_both {P : Program} {o : Oper} {a : Act} {w : World} {K K' : Act → World → Prop} {Q Q' : Exit → Act → World → Prop} (h : ∀ a w, K a w → K' a w) (hp : ∀ e a w, e ≠ .normal → Q e a w → Q' e a w)
    (hh : o.wp P a w K Q) : o.wp P a w K' Q' := by
  unfold Oper.wp at *
  generalize (execOp a.eval o).run P w = r at *
  cases r with
  | ok n w' =>
    cases n <;> simp only [Oper.upon] at hh ⊢ <;>
      first
        | exact h _ _ hh
        | exact Calls.mono hh (fun e w'' he => by
            cases e <;> first
              | exact h _ _ he
              | exact hp _ _ _ (by simp) he
              | (obtain ⟨a1, w1, h1⟩ := he; exact ⟨a1, w1, hp _ _ _ (by simp) h1⟩))
        | exact Rows.mono hh (fun _ _ he => h _ _ he)
  | halt x w' => cases x <;> simp only [Oper.upon] at hh ⊢ <;> first | exact hp _ _ _ (by simp) hh | exact hh

theorem opt_bool {x : Option Value} {b : Bool} (h : x.getD undef = .bool b) : x = some (.bool b) := by
  cases x with
  | none => simp [undef] at h
  | some v => rw [← h]; rfl
/-- one operation of the head: its number, its slot, the slots that its fact speaks of, the fact -/
structure HOp where
  i : Nat
  d : Nat
  s : List Nat
  p : List Value → World → Prop

def HOp.fact (t : HOp) (a : Act) (w : World) : Prop := t.p (t.s.map fun k => a.tmps.getD k undef) w
/-- what an operation leaves -/
def OneDone (d : Nat) (a : Act) (w : World) (R : Value → World → Prop) (e : Exit) (a' : Act) (w' : World) : Prop := e = .normal ∧ ∃ v, a' = a.put (some d) v ∧ Below w.heap.size w w' ∧ R v w'

section
variable {P : Program}

def putAll (a : Act) : List (Nat × Value) → Act
  | [] => a
  | (d, v) :: l => putAll (a.put (some d) v) l
theorem putAll_defers (a : Act) : ∀ l, (putAll a l).defers = a.defers := by
  intro l
  induction l generalizing a with
  | nil => rfl
  | cons x l ih => obtain ⟨d, v⟩ := x; rw [putAll, ih]; rfl
theorem putAll_size (a : Act) : ∀ l, (putAll a l).tmps.size = a.tmps.size := by
  intro l
  induction l generalizing a with
  | nil => rfl
  | cons x l ih => obtain ⟨d, v⟩ := x; rw [putAll, ih]; simp [Act.put]
theorem put_get (a : Act) (d k : Nat) (v : Value) : (a.put (some d) v).tmps.getD k undef = if d = k ∧ d < a.tmps.size then v else a.tmps.getD k undef := by
  unfold Act.put
  simp only [Array.getD_eq_getD_getElem?, Array.getElem?_setIfInBounds]
  by_cases h : d = k
  · subst h
    by_cases h2 : d < a.tmps.size
    · simp [h2]
    · simp [h2]
  · simp [h]
theorem putAll_get (g : Nat → Value) : ∀ (L : List Nat) (a : Act) (k : Nat), (∀ d ∈ L, d < a.tmps.size) → (putAll a (L.map fun d => (d, g d))).tmps.getD k undef = if k ∈ L then g k else a.tmps.getD k undef := by
  intro L
  induction L with
  | nil => intro a k _; simp [putAll]
  | cons d L ih =>
    intro a k hs
    have hd := hs d List.mem_cons_self
    rw [List.map_cons, putAll, ih _ _ (fun e he => by simp [Act.put]; exact hs e (List.mem_cons_of_mem _ he)), put_get]
    by_cases h1 : k ∈ L
    · rw [if_pos h1, if_pos (List.mem_cons_of_mem _ h1)]
    · rw [if_neg h1]
      by_cases h2 : d = k
      · subst h2; rw [if_pos ⟨rfl, hd⟩, if_pos List.mem_cons_self]
      · rw [if_neg (fun h => h2 h.1), if_neg (fun h => by rcases List.mem_cons.1 h with h | h; exact h2 h.symm; exact h1 h)]
theorem act_ext {a b : Act} (h1 : a.defers = b.defers) (h2 : a.tmps.size = b.tmps.size) (h3 : ∀ k, a.tmps.getD k undef = b.tmps.getD k undef) : a = b := by
  obtain ⟨x, d⟩ := a
  obtain ⟨y, e⟩ := b
  simp only at h1 h2 h3
  subst h1
  congr 1
  apply Array.ext h2
  intro k hk1 hk2
  have := h3 k
  simpa [Array.getD, hk1, hk2] using this

theorem inj_nodup {α : Type} (f : α → Nat) : ∀ (T : List α), (T.map f).Nodup → ∀ t ∈ T, ∀ u ∈ T, f t = f u → t = u := by
  intro T
  induction T with
  | nil => intro _ t ht; cases ht
  | cons x T ih =>
    intro h t ht u hu e
    rw [List.map_cons, List.nodup_cons] at h
    rcases List.mem_cons.1 ht with h1 | h1 <;> rcases List.mem_cons.1 hu with h2 | h2
    · rw [h1, h2]
    · exact absurd (show f x ∈ T.map f from List.mem_map.2 ⟨u, h2, by rw [← e, h1]⟩) h.1
    · exact absurd (show f x ∈ T.map f from List.mem_map.2 ⟨t, h1, by rw [e, h2]⟩) h.1
    · exact ih h.2 t h1 u h2 e
/-- a property of each element of a list, written out -/
def All {α : Type} (R : α → Prop) : List α → Prop
  | [] => True
  | x :: l => R x ∧ All R l
theorem All.mem {α : Type} {R : α → Prop} : ∀ {l : List α}, All R l → ∀ x ∈ l, R x
  | y :: l, h, x, hx => by
    rcases List.mem_cons.1 hx with rfl | hx
    · exact h.1
    · exact All.mem h.2 x hx
/-- the conditions on the text alone -/
def headOk (l : List Oper) (n : Nat) (T : List (Nat × Nat × List Nat)) (size : Nat) : Bool :=
  let ops := l.toArray
  decide ((T.map (·.1)).Nodup) && decide (n < l.length) && Region.sinkB .any ops n && Region.chainB .any ops n && Region.seqB .any ops (l.length - n) n ((List.replicate n true ++ List.replicate (l.length - n) false).toArray) &&
  (List.range n).all (fun j => T.any fun t => t.1 == j) &&
  T.all (fun t => decide (t.1 < n) && decide (t.2.1 < size) && (match l[t.1]? with | some o => o.dst == some t.2.1 && (o.after.all fun e => !Region.binds .any e || decide (e.on < t.1)) | none => false)) &&
  T.all (fun t => T.all fun u => t.1 == u.1 || (t.2.1 != u.2.1 && (!u.2.2.contains t.2.1 || Region.waitsFor .any ops u.1 t.1)))

structure FreeInv (l : List Oper) (n : Nat) (T : List HOp) (a0 : Act) (w0 : World) (listed : Array Bool) (a : Act) (w : World) : Prop where
  inv : HeadInv .any l.toArray n listed
  defers : a.defers = a0.defers
  size : a.tmps.size = a0.tmps.size
  frame : ∀ k, (∀ t ∈ T, t.d ≠ k) → a.tmps.getD k undef = a0.tmps.getD k undef
  bel : Below w0.heap.size w0 w
  facts : ∀ t ∈ T, listed.getD t.i false = true → t.fact a w

def todo (listed : Array Bool) (n : Nat) : Nat := ((List.range n).filter fun j => !listed.getD j true).length
theorem todo_set {listed : Array Bool} {n i : Nat} (hi : i < n) (hl : listed.getD i true = false) : todo (listed.setIfInBounds i true) n + 1 = todo listed n := by
  unfold todo
  have hlt : i < listed.size := by
    rcases Nat.lt_or_ge i listed.size with h | h
    · exact h
    · simp [Array.getElem?_eq_none h] at hl
  have key : ∀ m, ((List.range m).filter fun j => !(listed.setIfInBounds i true).getD j true).length + (if i < m then 1 else 0) = ((List.range m).filter fun j => !listed.getD j true).length := by
    intro m
    induction m with
    | zero => simp
    | succ m ih =>
      rw [List.range_succ, List.filter_append, List.filter_append, List.length_append, List.length_append]
      by_cases him : i = m
      · subst him
        have e1 : (listed.setIfInBounds i true).getD i true = true := by simp [hlt]
        rw [if_neg (Nat.lt_irrefl _)] at ih
        rw [if_pos (Nat.lt_succ_self _), ← ih]
        simp only [List.filter_cons, List.filter_nil, e1, hl, Bool.not_true, Bool.not_false, Bool.false_eq_true, if_false, if_true, List.length_nil, List.length_singleton]
      · have e2 : (List.filter (fun j => !(listed.setIfInBounds i true).getD j true) [m]) = List.filter (fun j => !listed.getD j true) [m] := by simp only [List.filter_cons, List.filter_nil, getD_set_ne true him]
        rw [e2]
        by_cases h : i < m
        · rw [if_pos h] at ih; rw [if_pos (by omega)]; omega
        · rw [if_neg h] at ih; rw [if_neg (by omega)]; omega
  have := key n
  rw [if_pos hi] at this
  exact this

theorem wp_region_free {id : Nat} {Q : Exit → Act → World → Prop} {a0 : Act} {w0 : World} {l : List Oper} (n : Nat) (T : List HOp) (hm : P.follows .mixedOrders = true)
    (hB : headOk l n (T.map fun t => (t.i, t.d, t.s)) a0.tmps.size = true)
    (hmono : All (fun t : HOp => ∀ vs w w', Below w.heap.size w w' → t.p vs w → t.p vs w') T)
    (hop : All (fun t : HOp => ∀ o, l[t.i]? = some o → ∀ (a : Act) (w : World), Below w0.heap.size w0 w →
      (∀ k, (T.map (·.d)).contains k = false → a.tmps.getD k undef = a0.tmps.getD k undef) →
      (∀ (k : Nat) (u : HOp), T[k]? = some u → Region.waitsFor .any l.toArray t.i u.i = true → u.p (u.s.map fun k => a.tmps.getD k undef) w) →
      wpList P l.toArray (OneDone t.d a w fun v w' => t.p (t.s.map fun k => if t.d = k then v else a.tmps.getD k undef) w') [o] a w) T)
    (hend : ∀ (g : Nat → Value) (w : World), Below w0.heap.size w0 w → (∀ (k : Nat) (u : HOp), T[k]? = some u → u.p (u.s.map fun k => if k ∈ T.map (·.d) then g k else a0.tmps.getD k undef) w) →
      wpList P l.toArray Q (l.drop n) (putAll a0 ((T.map (·.d)).map fun d => (d, g d))) w) : (Code.region id l.toArray true).wp P Q a0 w0 := by
  simp only [headOk, Bool.and_eq_true, decide_eq_true_eq] at hB
  obtain ⟨⟨⟨⟨⟨⟨⟨hnd, hn⟩, hs⟩, hc⟩, hseq⟩, hcov⟩, hT⟩, hpair⟩ := hB
  have hnodup : ∀ t ∈ T, ∀ u ∈ T, t.i = u.i → t = u := inj_nodup (·.i) T (by rw [List.map_map] at hnd; exact hnd)
  have hn' : n < l.toArray.size := by simpa using hn
  have cover : ∀ j, j < n → ∃ t ∈ T, t.i = j := by
    intro j hj
    have h := List.all_eq_true.1 hcov j (List.mem_range.2 hj)
    obtain ⟨x, hx, he⟩ := List.any_eq_true.1 h
    obtain ⟨t, ht, rfl⟩ := List.mem_map.1 hx
    exact ⟨t, ht, by simpa using he⟩
  have own : ∀ t ∈ T, t.i < n ∧ t.d < a0.tmps.size ∧ ∃ o, l[t.i]? = some o ∧ o.dst = some t.d ∧ ∀ e ∈ o.after, Region.binds .any e = true → e.on < t.i := by
    intro t ht
    have h := List.all_eq_true.1 hT _ (List.mem_map.2 ⟨t, ht, rfl⟩)
    simp only [Bool.and_eq_true, decide_eq_true_eq] at h
    obtain ⟨⟨h1, h2⟩, h3⟩ := h
    refine ⟨h1, h2, ?_⟩
    cases ho : l[t.i]? with
    | none => rw [ho] at h3; cases h3
    | some o =>
      rw [ho] at h3
      simp only [Bool.and_eq_true, beq_iff_eq] at h3
      refine ⟨o, rfl, h3.1, fun e he hb => ?_⟩
      have := Array.all_eq_true_iff_forall_mem.1 h3.2 e he
      simpa [hb] using this
  have pair : ∀ t ∈ T, ∀ u ∈ T, t.i ≠ u.i → t.d ≠ u.d ∧ (t.d ∈ u.s → Region.waitsFor .any l.toArray u.i t.i = true) := by
    intro t ht u hu hne
    have h := List.all_eq_true.1 (List.all_eq_true.1 hpair _ (List.mem_map.2 ⟨t, ht, rfl⟩)) _ (List.mem_map.2 ⟨u, hu, rfl⟩)
    simp only [Bool.or_eq_true, beq_iff_eq, hne, false_or, Bool.and_eq_true, bne_iff_ne, ne_eq, Bool.not_eq_true'] at h
    refine ⟨h.1, fun hin => ?_⟩
    rcases h.2 with h2 | h2
    · have : u.s.contains t.d = true := by simpa using hin
      rw [this] at h2; cases h2
    · exact h2
  have key : ∀ (f : Nat) (listed : Array Bool) (a : Act) (w : World), FreeInv l n T a0 w0 listed a w → todo listed n = f → wpAny P .any l.toArray Q (f + (l.length - n)) listed a w := by
    intro f
    induction f with
    | zero =>
      intro listed a w I h0
      have hall : ∀ j, j < n → listed.getD j true = true := by
        intro j hj
        cases hb : listed.getD j true with
        | true => rfl
        | false =>
          have : j ∈ (List.range n).filter fun j => !listed.getD j true := List.mem_filter.2 ⟨List.mem_range.2 hj, by rw [hb]; rfl⟩
          unfold todo at h0
          rw [List.eq_nil_of_length_eq_zero h0] at this
          cases this
      have hlist : listed = (List.replicate n true ++ List.replicate (l.length - n) false).toArray := by
        have hsz := I.inv.size
        apply Array.ext
        · simp at hsz ⊢; omega
        · intro j h1 h2
          by_cases hj : j < n
          · have := hall j hj
            simp [Array.getD, h1] at this
            simp [this, List.getElem_append_left, hj]
          · have := I.inv.tail j (by omega) (by rw [← hsz]; exact h1)
            simp [Array.getD, h1] at this
            simp only [this, List.getElem_toArray]
            rw [List.getElem_append_right (by simp; omega)]
            simp
      have ha : a = putAll a0 ((T.map (·.d)).map fun d => (d, a.tmps.getD d undef)) := by
        have hd : ∀ d ∈ T.map (·.d), d < a0.tmps.size := by
          intro d hd
          obtain ⟨t, ht, rfl⟩ := List.mem_map.1 hd
          exact (own t ht).2.1
        refine act_ext (by rw [putAll_defers]; exact I.defers) (by rw [putAll_size]; exact I.size) (fun k => ?_)
        rw [putAll_get (fun d => a.tmps.getD d undef) _ _ _ hd]
        by_cases h : k ∈ T.map (·.d)
        · rw [if_pos h]
        · rw [if_neg h]
          exact I.frame k (fun t ht e => h (List.mem_map.2 ⟨t, ht, e⟩))
      have hfin := hend (fun d => a.tmps.getD d undef) w I.bel (fun k u hu => by
        have hu' := List.mem_of_getElem? hu
        have h1 := I.facts u hu' (by
          have := hall u.i (own u hu').1
          rcases Nat.lt_or_ge u.i listed.size with h' | h'
          · simp [h'] at this ⊢; exact this
          · have := I.inv.size; have := (own u hu').1; omega)
        unfold HOp.fact at h1
        have e : (u.s.map fun k => if k ∈ T.map (·.d) then a.tmps.getD k undef else a0.tmps.getD k undef) = u.s.map fun k => a.tmps.getD k undef := by
          apply List.map_congr_left
          intro k _
          by_cases h : k ∈ T.map (·.d)
          · rw [if_pos h]
          · rw [if_neg h]
            exact (I.frame k (fun t ht e => h (List.mem_map.2 ⟨t, ht, e⟩))).symm
        rw [e]
        exact h1)
      rw [← ha] at hfin
      rw [Nat.zero_add]
      have hseq' : Region.seqB .any l.toArray (l.drop n).length n listed = true := by rw [hlist, List.length_drop]; exact hseq
      have := wpAny_of_seq (md := .any) (Q' := Q) (l.drop n) n listed a w (fun j => by simp [List.getElem?_drop]) hseq' hfin
      rwa [List.length_drop] at this
    | succ f ih =>
      intro listed a w I hf
      have hex : ∃ j, j < n ∧ listed.getD j true = false := by
        cases hL : (List.range n).filter fun j => !listed.getD j true with
        | nil => unfold todo at hf; rw [hL] at hf; cases hf
        | cons j L =>
          have : j ∈ (List.range n).filter fun j => !listed.getD j true := by rw [hL]; exact List.mem_cons_self
          obtain ⟨h1, h2⟩ := List.mem_filter.1 this
          exact ⟨j, List.mem_range.1 h1, by simpa using h2⟩
      have hready : Region.ready .any l.toArray listed ≠ [] := by
        have hmin : ∀ m j, j ≤ m → j < n → listed.getD j true = false → ∃ i, i ∈ Region.ready .any l.toArray listed := by
          intro m
          induction m with
          | zero =>
            intro j hj hjn hjl
            have hj0 : j = 0 := by omega
            subst hj0
            obtain ⟨t, ht, hti⟩ := cover 0 hjn
            obtain ⟨_, _, o, ho, _, hb⟩ := own t ht
            rw [hti] at ho hb
            exact ⟨0, mem_ready.2 ⟨hjl, o, by simpa using ho, fun e he hbe => absurd (hb e he hbe) (by omega)⟩⟩
          | succ m ihm =>
            intro j hj hjn hjl
            obtain ⟨t, ht, hti⟩ := cover j hjn
            obtain ⟨_, _, o, ho, _, hb⟩ := own t ht
            rw [hti] at ho hb
            by_cases hall : ∀ e ∈ o.after, Region.binds .any e = true → listed.getD e.on false = true
            · exact ⟨j, mem_ready.2 ⟨hjl, o, by simpa using ho, hall⟩⟩
            · simp only [Classical.not_forall] at hall
              obtain ⟨e, he, hbe, hne⟩ := hall
              have hlt := hb e he hbe
              have hes : e.on < listed.size := by rw [I.inv.size]; simp; omega
              exact ihm e.on (by omega) (by omega) (getD_in hes (by simpa using hne))
        obtain ⟨j, hj, hjl⟩ := hex
        obtain ⟨i, hi⟩ := hmin j j (Nat.le_refl _) hj hjl
        intro h
        rw [h] at hi
        cases hi
      rw [show f + 1 + (l.length - n) = (f + (l.length - n)) + 1 by omega]
      refine ⟨fun h => absurd h hready, fun i hi => ?_⟩
      have hin : i < n := by
        rcases Nat.lt_or_ge i n with h | h
        · exact h
        · obtain ⟨j, hj, hjl⟩ := hex
          exact absurd hi (tail_waits hs hc hn' I.inv _ j rfl hj hjl i h)
      obtain ⟨t, ht, hti⟩ := cover i hin
      obtain ⟨_, htd, o, ho, hdst, _⟩ := own t ht
      obtain ⟨hil, oi, hoi, hafter⟩ := mem_ready.1 hi
      have hoo : oi = o := by rw [hti] at ho; exact Option.some.inj (hoi.symm.trans (by simpa using ho))
      subst hoo
      have H := hop.mem t ht oi ho a w I.bel (fun k hk => I.frame k (fun u hu e => by
          have : (T.map (·.d)).contains k = true := by simpa using ⟨u, hu, e⟩
          rw [this] at hk; cases hk)) (fun k u hu hw => by
        have hu' := List.mem_of_getElem? hu
        obtain ⟨oj, hoj, e, he, hb, hon⟩ := Region.waitsFor_spec hw
        have : oj = oi := by rw [hti] at hoj; exact Option.some.inj (hoj.symm.trans hoi)
        subst this
        have h1 := hafter e he hb
        rw [hon] at h1
        exact I.facts u hu' h1)
      have step : ∀ (a' : Act) (w' : World), OneDone t.d a w (fun v w' => t.p (t.s.map fun k => if t.d = k then v else a.tmps.getD k undef) w') .normal a' w' → wpAny P .any l.toArray Q (f + (l.length - n)) (listed.setIfInBounds i true) a' w' := by
        intro a' w' h
        obtain ⟨_, v, rfl, hbel, hp⟩ := h
        refine ih _ _ _ ⟨I.inv.set hi hin, I.defers, ?_, ?_, ?_, ?_⟩ ?_
        · rw [← I.size]; simp [Act.put]
        · intro k hk
          rw [put_get, if_neg (fun h => hk t ht h.1)]
          exact I.frame k hk
        · exact I.bel.trans (hbel.mono I.bel.size)
        · intro u hu hul
          by_cases hui : t.i = u.i
          · have hd : u.d = t.d ∨ True := .inr trivial
            unfold HOp.fact
            by_cases hut : u = t
            · subst hut
              have e : (u.s.map fun k => (a.put (some u.d) v).tmps.getD k undef) = u.s.map fun k => if u.d = k then v else a.tmps.getD k undef := by
                apply List.map_congr_left
                intro k _
                rw [put_get, I.size]
                by_cases hk : u.d = k
                · rw [if_pos ⟨hk, htd⟩, if_pos hk]
                · rw [if_neg (fun h => hk h.1), if_neg hk]
              rw [e]
              exact hp
            · exact absurd (hnodup t ht u hu hui).symm hut
          · unfold HOp.fact
            have hul2 : listed.getD u.i false = true := by rw [← getD_set_ne false (i := i) (j := u.i) (by rw [← hti]; exact hui)]; exact hul
            have h1 := hmono.mem u hu _ _ _ hbel (I.facts u hu hul2)
            have hnot : t.d ∉ u.s := by
              intro hin2
              have hw := (pair t ht u hu hui).2 hin2
              obtain ⟨ou, hou, e, he, hb, hon⟩ := Region.waitsFor_spec hw
              have := I.inv.closed u.i ou hou hul2 e he hb
              rw [hon, hti, getD_both hil] at this
              cases this
            have e : (u.s.map fun k => (a.put (some t.d) v).tmps.getD k undef) = u.s.map fun k => a.tmps.getD k undef := by
              apply List.map_congr_left
              intro k hk
              rw [put_get, if_neg (fun (h : t.d = k ∧ t.d < a.tmps.size) => hnot (by rw [h.1]; exact hk))]
            rw [e]
            exact h1
        · have := todo_set hin hil; omega
      unfold wpList at H
      unfold wpOp
      rw [hoi]
      simp only
      by_cases hwant : Region.wanted oi (yielded l.toArray a.tmps) = true
      · rw [if_pos hwant] at H
        rw [if_pos hwant]
        left
        rcases H with H | ⟨_, a1, w1, h1, _⟩
        · exact wp_both (fun a' w' h => step a' w' h) (fun e a' w' he h => absurd h.1 he) H
        · cases h1
      · rw [if_neg hwant] at H
        rw [if_neg hwant]
        exact step _ _ H
  refine wp_region_any hm ?_
  have inv0 : HeadInv .any l.toArray n (Array.replicate l.toArray.size false) :=
    ⟨by simp, fun j oj _ hl => (by rw [getD_replicate_false] at hl; cases hl), fun t _ ht => getD_in (by simpa using ht) (getD_replicate_false _ _)⟩
  have I0 : FreeInv l n T a0 w0 (Array.replicate l.toArray.size false) a0 { w0 with drawn := w0.drawn + 1 } :=
    ⟨inv0, rfl, rfl, fun _ _ => rfl, Still.below 1, fun t _ hl => (by rw [getD_replicate_false] at hl; cases hl)⟩
  have ht0 : todo (Array.replicate l.toArray.size false) n = n := by
    unfold todo
    rw [List.filter_eq_self.2 (fun j hj => by
      have hj' := List.mem_range.1 hj
      have : (Array.replicate l.toArray.size false).getD j true = false := getD_in (by simp; omega) (getD_replicate_false _ _)
      rw [this]; rfl), List.length_range]
  have := key n _ _ _ I0 ht0
  rwa [show n + (l.length - n) = l.toArray.size by simp; omega] at this
end
end Go.Dx
