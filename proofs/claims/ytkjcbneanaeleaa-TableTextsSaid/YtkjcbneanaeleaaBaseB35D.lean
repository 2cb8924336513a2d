/- The contracts of the functions that the law reaches, joined into one text. -/
import Derived.Test.YtkjcbneanaeleaaBaseB35C
set_option linter.unusedVariables false
set_option linter.unusedSimpArgs false

/- the text Free4 -/
section
/- A region that draws its order: some operations follow one another (CH) and may change what they own; the others (TL) may make memory, come at any time, and their facts outlast what the chain does (R). No program in sight. -/
set_option linter.unusedVariables false
namespace Go.Dx
open Go.RowKit

def headOk4 (l : List Oper) (n : Nat) (T : List (Nat × Nat × List Nat)) : Bool :=
  let ops := l.toArray
  decide ((T.map (·.1)).Nodup) && decide (n < l.length) && Region.sinkB .any ops n && Region.chainB .any ops n && Region.seqB .any ops (l.length - n) n ((List.replicate n true ++ List.replicate (l.length - n) false).toArray) &&
  (List.range n).all (fun j => T.any fun t => t.1 == j) &&
  T.all (fun t => decide (t.1 < n) && (match l[t.1]? with | some o => (o.after.all fun e => !Region.binds .any e || decide (e.on < t.1)) | none => false)) &&
  T.all (fun t => T.all fun u => t.1 == u.1 || (t.2.1 != u.2.1 && (!u.2.2.contains t.2.1 || Region.waitsFor .any ops u.1 t.1)))
theorem putAll_get4 (g : Nat → Value) : ∀ (L : List Nat) (a : Act) (k : Nat), (putAll a (L.map fun d => (d, g d))).tmps.getD k undef = if k ∈ L ∧ k < a.tmps.size then g k else a.tmps.getD k undef := by
  intro L
  induction L with
  | nil => intro a k; simp [putAll]
  | cons d L ih =>
    intro a k
    have hz : (a.put (some d) (g d)).tmps.size = a.tmps.size := by simp [Act.put]
    rw [List.map_cons, putAll, ih, put_get, hz]
    by_cases h0 : k < a.tmps.size
    · by_cases h1 : k ∈ L
      · rw [if_pos ⟨h1, h0⟩, if_pos ⟨List.mem_cons_of_mem _ h1, h0⟩]
      · rw [if_neg (fun h => h1 h.1)]
        by_cases h2 : d = k
        · subst h2; rw [if_pos ⟨rfl, h0⟩, if_pos ⟨List.mem_cons_self, h0⟩]
        · rw [if_neg (fun h => h2 h.1), if_neg (fun h => by rcases List.mem_cons.1 h.1 with h | h; exact h2 h.symm; exact h1 h)]
    · rw [if_neg (fun h => h0 h.2), if_neg (fun h => h0 (by omega)), if_neg (fun h => h0 h.2)]
section
variable {P : Program}
/-- one operation of the chain is done -/
def OneTurn4 (c : HOp) (a : Act) (R : Value → World → Prop) (e : Exit) (a' : Act) (w' : World) : Prop := e = .normal ∧ ∃ v, a' = (if c.s = [] then a.put (some c.d) v else a) ∧ R v w'
theorem put_out (a : Act) (d : Nat) (v : Value) (h : a.tmps.size ≤ d) : a.put (some d) v = a := by
  refine act_ext rfl (by simp [Act.put]) (fun k => ?_)
  rw [put_get, if_neg (fun hh => by omega)]
/-- A chain operation without a slot (a store) is given a slot beyond the frame and 's' not []. -/
theorem wp_region_chain4 {id : Nat} {Q : Exit → Act → World → Prop} {a0 : Act} {w0 : World} {l : List Oper} (n : Nat) (R4 : World → World → Prop) (G : Nat → List Value → World → Prop) (CH TL : List HOp) (hm : P.follows .mixedOrders = true)
    (hB : ((TL.all fun t => decide (t.d < a0.tmps.size)) && (CH.all fun c => if c.s = [] then decide (c.d < a0.tmps.size) else decide (a0.tmps.size ≤ c.d)) && headOk4 l n ((CH ++ TL).map fun t => (t.i, t.d, if TL.any (fun u => u.i == t.i) then t.s else [])) && linkOk l.toArray (CH.map (·.i)) && (TL.all fun t => CH.all fun c => t.i != c.i && t.d != c.d)) = true)
    (hG0 : G 0 (CH.map fun c => a0.tmps.getD c.d undef) { w0 with drawn := w0.drawn + 1 })
    (hR : ∀ w w', Below w.heap.size w w' → R4 w w')
    (hGm : ∀ j vs w w', Below w.heap.size w w' → G j vs w → G j vs w')
    (hmono : All (fun t : HOp => ∀ vs w w', R4 w w' → t.p vs w → t.p vs w') TL)
    (hopC : ∀ m c, CH[m]? = some c → ∀ o, l[c.i]? = some o → ∀ (a : Act) (w : World), G m (CH.map fun c => a.tmps.getD c.d undef) w →
      (∀ k, ((CH ++ TL).map (·.d)).contains k = false → a.tmps.getD k undef = a0.tmps.getD k undef) →
      (∀ (k : Nat) (u : HOp), TL[k]? = some u → Region.waitsFor .any l.toArray c.i u.i = true → u.p (u.s.map fun k => a.tmps.getD k undef) w) →
      wpList P l.toArray (OneTurn4 c a fun v w' => R4 w w' ∧ G (m + 1) (CH.map fun e => if e.d = c.d then (if c.s = [] then v else undef) else a.tmps.getD e.d undef) w') [o] a w)
    (hopL : All (fun t : HOp => ∀ o, l[t.i]? = some o → ∀ (a : Act) (w : World),
      (∀ k, ((CH ++ TL).map (·.d)).contains k = false → a.tmps.getD k undef = a0.tmps.getD k undef) →
      (∀ (k : Nat) (u : HOp), TL[k]? = some u → Region.waitsFor .any l.toArray t.i u.i = true → u.p (u.s.map fun k => a.tmps.getD k undef) w) →
      (∃ j, (∀ m c, CH[m]? = some c → Region.waitsFor .any l.toArray t.i c.i = true → m < j) ∧ j ≤ CH.length ∧ G j (CH.map fun c => a.tmps.getD c.d undef) w) →
      wpList P l.toArray (OneDone t.d a w fun v w' => t.p (t.s.map fun k => if t.d = k then v else a.tmps.getD k undef) w') [o] a w) TL)
    (hend : ∀ (g : Nat → Value) (w : World), G CH.length (CH.map fun c => g c.d) w → (∀ (k : Nat) (u : HOp), TL[k]? = some u → u.p (u.s.map fun k => if k ∈ (CH ++ TL).map (·.d) then g k else a0.tmps.getD k undef) w) →
      wpList P l.toArray Q (l.drop n) (putAll a0 (((CH ++ TL).map (·.d)).map fun d => (d, g d))) w) : (Code.region id l.toArray true).wp P Q a0 w0 := by
  obtain ⟨T, hTdef⟩ : ∃ T, CH ++ TL = T := ⟨_, rfl⟩
  have memC : ∀ t ∈ CH, t ∈ T := fun t ht => by rw [← hTdef]; exact List.mem_append_left _ ht
  have memL : ∀ t ∈ TL, t ∈ T := fun t ht => by rw [← hTdef]; exact List.mem_append_right _ ht
  have split : ∀ t ∈ T, t ∈ CH ∨ t ∈ TL := fun t ht => by rw [← hTdef] at ht; exact List.mem_append.1 ht
  rw [hTdef] at hB hopC hopL hend
  rw [Bool.and_eq_true, Bool.and_eq_true] at hB
  obtain ⟨⟨hB, hlink⟩, hdis⟩ := hB
  rw [Bool.and_eq_true, Bool.and_eq_true] at hB
  obtain ⟨⟨hTLd, hCHd⟩, hB⟩ := hB
  have htl : ∀ t ∈ TL, t.d < a0.tmps.size := fun t ht => by simpa using List.all_eq_true.1 hTLd t ht
  have hch : ∀ c ∈ CH, c.s = [] → c.d < a0.tmps.size := fun c hc hs => by have := List.all_eq_true.1 hCHd c hc; simpa [hs] using this
  have hch2 : ∀ c ∈ CH, c.s ≠ [] → a0.tmps.size ≤ c.d := fun c hc hs => by have := List.all_eq_true.1 hCHd c hc; simpa [hs] using this
  have hdis2 : ∀ t ∈ TL, ∀ c ∈ CH, t.i ≠ c.i ∧ t.d ≠ c.d := by
    intro t ht c hc
    have := List.all_eq_true.1 (List.all_eq_true.1 hdis t ht) c hc
    simpa using this
  have hlk : ∀ m c e, CH[m]? = some c → CH[m + 1]? = some e → Region.waitsFor .any l.toArray e.i c.i = true := fun m c e h1 h2 =>
    linkOk_get hlink m c.i e.i (by rw [List.getElem?_map, h1]; rfl) (by rw [List.getElem?_map, h2]; rfl)
  simp only [headOk4, Bool.and_eq_true, decide_eq_true_eq] at hB
  obtain ⟨⟨⟨⟨⟨⟨⟨hnd, hn⟩, hs⟩, hc⟩, hseq⟩, hcov⟩, hT⟩, hpair⟩ := hB
  have hnodup : ∀ t ∈ T, ∀ u ∈ T, t.i = u.i → t = u := inj_nodup (·.i) T (by rw [List.map_map] at hnd; exact hnd)
  have hn' : n < l.toArray.size := by simpa using hn
  have cover : ∀ j, j < n → ∃ t ∈ T, t.i = j := by
    intro j hj
    have h := List.all_eq_true.1 hcov j (List.mem_range.2 hj)
    obtain ⟨x, hx, he⟩ := List.any_eq_true.1 h
    obtain ⟨t, ht, rfl⟩ := List.mem_map.1 hx
    exact ⟨t, ht, by simpa using he⟩
  have own : ∀ t ∈ T, t.i < n ∧ ∃ o, l[t.i]? = some o ∧ ∀ e ∈ o.after, Region.binds .any e = true → e.on < t.i := by
    intro t ht
    have h := List.all_eq_true.1 hT _ (List.mem_map.2 ⟨t, ht, rfl⟩)
    simp only [Bool.and_eq_true, decide_eq_true_eq] at h
    obtain ⟨h1, h3⟩ := h
    refine ⟨h1, ?_⟩
    cases ho : l[t.i]? with
    | none => rw [ho] at h3; cases h3
    | some o =>
      rw [ho] at h3
      refine ⟨o, rfl, fun e he hb => ?_⟩
      have := Array.all_eq_true_iff_forall_mem.1 h3 e he
      simpa [hb] using this
  have pair : ∀ t ∈ T, ∀ u ∈ T, t.i ≠ u.i → t.d ≠ u.d ∧ (u ∈ TL → t.d ∈ u.s → Region.waitsFor .any l.toArray u.i t.i = true) := by
    intro t ht u hu hne
    have h := List.all_eq_true.1 (List.all_eq_true.1 hpair _ (List.mem_map.2 ⟨t, ht, rfl⟩)) _ (List.mem_map.2 ⟨u, hu, rfl⟩)
    simp only [Bool.or_eq_true, beq_iff_eq, hne, false_or, Bool.and_eq_true, bne_iff_ne, ne_eq, Bool.not_eq_true'] at h
    refine ⟨h.1, fun huL hin => ?_⟩
    have hany : (TL.any fun v => v.i == u.i) = true := List.any_eq_true.2 ⟨u, huL, by simp⟩
    rw [hany, if_pos rfl] at h
    rcases h.2 with h2 | h2
    · have : u.s.contains t.d = true := by simpa using hin
      rw [this] at h2; cases h2
    · exact h2
  have key : ∀ (f : Nat) (listed : Array Bool) (a : Act) (w : World), ChInv l n CH TL T a0 G listed a w → todo listed n = f → wpAny P .any l.toArray Q (f + (l.length - n)) listed a w := by
    intro f
    induction f with
    | zero =>
      intro listed a w I h0
      have hall : ∀ j, j < n → listed.getD j true = true := by
        intro j hj
        cases hb : listed.getD j true with
        | true => rfl
        | false =>
          have : j ∈ (List.range n).filter fun j => !listed.getD j true := List.mem_filter.2 ⟨List.mem_range.2 hj, by rw [hb]; rfl⟩
          unfold todo at h0
          rw [List.eq_nil_of_length_eq_zero h0] at this
          cases this
      have hlist : listed = (List.replicate n true ++ List.replicate (l.length - n) false).toArray := by
        have hsz := I.inv.size
        apply Array.ext
        · simp at hsz ⊢; omega
        · intro j h1 h2
          by_cases hj : j < n
          · have := hall j hj
            simp [Array.getD, h1] at this
            simp [this, List.getElem_append_left, hj]
          · have := I.inv.tail j (by omega) (by rw [← hsz]; exact h1)
            simp [Array.getD, h1] at this
            simp only [this, List.getElem_toArray]
            rw [List.getElem_append_right (by simp; omega)]
            simp
      have ha : a = putAll a0 ((T.map (·.d)).map fun d => (d, a.tmps.getD d undef)) := by
        refine act_ext (by rw [putAll_defers]; exact I.defers) (by rw [putAll_size]; exact I.size) (fun k => ?_)
        rw [putAll_get4 (fun d => a.tmps.getD d undef)]
        by_cases h0 : k < a0.tmps.size
        · by_cases h : k ∈ T.map (·.d)
          · rw [if_pos ⟨h, h0⟩]
          · rw [if_neg (fun hh => h hh.1)]
            exact I.frame k (fun t ht e => h (List.mem_map.2 ⟨t, ht, e⟩))
        · rw [if_neg (fun hh => h0 hh.2)]
          have h1 := I.size
          have hk : ¬ k < a.tmps.size := by omega
          simp [Array.getD, hk, h0]
      have hls : ∀ t ∈ T, listed.getD t.i false = true := by
        intro t ht
        have := hall t.i (own t ht).1
        rcases Nat.lt_or_ge t.i listed.size with h' | h'
        · simp [h'] at this ⊢; exact this
        · have := I.inv.size; have := (own t ht).1; omega
      obtain ⟨j, hj, hjs, hG⟩ := I.stage
      have hjl : j = CH.length := by
        rcases Nat.lt_or_ge j CH.length with h | h
        · have h1 : CH[j]? = some CH[j] := by simp [h]
          have := (hjs j _ h1).1 (hls _ (memC _ (List.getElem_mem h)))
          omega
        · omega
      rw [hjl] at hG
      have hfin := hend (fun d => a.tmps.getD d undef) w hG (fun k u hu => by
        have hu' := List.mem_of_getElem? hu
        have h1 := I.facts u hu' (hls u (memL u hu'))
        unfold HOp.fact at h1
        have e : (u.s.map fun k => if k ∈ T.map (·.d) then a.tmps.getD k undef else a0.tmps.getD k undef) = u.s.map fun k => a.tmps.getD k undef := by
          apply List.map_congr_left
          intro k _
          by_cases h : k ∈ T.map (·.d)
          · rw [if_pos h]
          · rw [if_neg h]
            exact (I.frame k (fun t ht e => h (List.mem_map.2 ⟨t, ht, e⟩))).symm
        rw [e]
        exact h1)
      rw [← ha] at hfin
      rw [Nat.zero_add]
      have hseq' : Region.seqB .any l.toArray (l.drop n).length n listed = true := by rw [hlist, List.length_drop]; exact hseq
      have := wpAny_of_seq (md := .any) (Q' := Q) (l.drop n) n listed a w (fun j => by simp [List.getElem?_drop]) hseq' hfin
      rwa [List.length_drop] at this
    | succ f ih =>
      intro listed a w I hf
      have hex : ∃ j, j < n ∧ listed.getD j true = false := by
        cases hL : (List.range n).filter fun j => !listed.getD j true with
        | nil => unfold todo at hf; rw [hL] at hf; cases hf
        | cons j L =>
          have : j ∈ (List.range n).filter fun j => !listed.getD j true := by rw [hL]; exact List.mem_cons_self
          obtain ⟨h1, h2⟩ := List.mem_filter.1 this
          exact ⟨j, List.mem_range.1 h1, by simpa using h2⟩
      have hready : Region.ready .any l.toArray listed ≠ [] := by
        have hmin : ∀ m j, j ≤ m → j < n → listed.getD j true = false → ∃ i, i ∈ Region.ready .any l.toArray listed := by
          intro m
          induction m with
          | zero =>
            intro j hj hjn hjl
            have hj0 : j = 0 := by omega
            subst hj0
            obtain ⟨t, ht, hti⟩ := cover 0 hjn
            obtain ⟨_, o, ho, hb⟩ := own t ht
            rw [hti] at ho hb
            exact ⟨0, mem_ready.2 ⟨hjl, o, by simpa using ho, fun e he hbe => absurd (hb e he hbe) (by omega)⟩⟩
          | succ m ihm =>
            intro j hj hjn hjl
            obtain ⟨t, ht, hti⟩ := cover j hjn
            obtain ⟨_, o, ho, hb⟩ := own t ht
            rw [hti] at ho hb
            by_cases hall : ∀ e ∈ o.after, Region.binds .any e = true → listed.getD e.on false = true
            · exact ⟨j, mem_ready.2 ⟨hjl, o, by simpa using ho, hall⟩⟩
            · simp only [Classical.not_forall] at hall
              obtain ⟨e, he, hbe, hne⟩ := hall
              have hlt := hb e he hbe
              have hes : e.on < listed.size := by rw [I.inv.size]; simp; omega
              exact ihm e.on (by omega) (by omega) (getD_in hes (by simpa using hne))
        obtain ⟨j, hj, hjl⟩ := hex
        obtain ⟨i, hi⟩ := hmin j j (Nat.le_refl _) hj hjl
        intro h
        rw [h] at hi
        cases hi
      rw [show f + 1 + (l.length - n) = (f + (l.length - n)) + 1 by omega]
      refine ⟨fun h => absurd h hready, fun i hi => ?_⟩
      have hin : i < n := by
        rcases Nat.lt_or_ge i n with h | h
        · exact h
        · obtain ⟨j, hj, hjl⟩ := hex
          exact absurd hi (tail_waits hs hc hn' I.inv _ j rfl hj hjl i h)
      obtain ⟨t, ht, hti⟩ := cover i hin
      obtain ⟨_, o, ho, _⟩ := own t ht
      obtain ⟨hil, oi, hoi, hafter⟩ := mem_ready.1 hi
      have hoo : oi = o := by rw [hti] at ho; exact Option.some.inj (hoi.symm.trans (by simpa using ho))
      subst hoo
      have hframe : ∀ k, (T.map (·.d)).contains k = false → a.tmps.getD k undef = a0.tmps.getD k undef := fun k hk => I.frame k (fun u hu e => by
          have : (T.map (·.d)).contains k = true := by simpa using ⟨u, hu, e⟩
          rw [this] at hk; cases hk)
      have hfacts : ∀ (k : Nat) (u : HOp), TL[k]? = some u → Region.waitsFor .any l.toArray t.i u.i = true → u.p (u.s.map fun k => a.tmps.getD k undef) w := fun k u hu hw => by
        have hu' := List.mem_of_getElem? hu
        obtain ⟨oj, hoj, e, he, hb, hon⟩ := Region.waitsFor_spec hw
        have : oj = oi := by rw [hti] at hoj; exact Option.some.inj (hoj.symm.trans hoi)
        subst this
        have h1 := hafter e he hb
        rw [hon] at h1
        exact I.facts u hu' h1
      have step0 : ∀ (v : Value) (w' : World), R4 w w' → (∃ j, j ≤ CH.length ∧ (∀ m c, CH[m]? = some c → ((listed.setIfInBounds i true).getD c.i false = true ↔ m < j)) ∧ G j (CH.map fun c => (a.put (some t.d) v).tmps.getD c.d undef) w') →
          (t ∈ TL → t.p (t.s.map fun k => if t.d = k then v else a.tmps.getD k undef) w') → wpAny P .any l.toArray Q (f + (l.length - n)) (listed.setIfInBounds i true) (a.put (some t.d) v) w' := by
        intro v w' hrr hst hp
        refine ih _ _ _ ⟨I.inv.set hi hin, I.defers, ?_, ?_, hst, ?_⟩ ?_
        · rw [← I.size]; simp [Act.put]
        · intro k hk
          rw [put_get, if_neg (fun h => hk t ht h.1)]
          exact I.frame k hk
        · intro u hu hul
          by_cases hui : t.i = u.i
          · unfold HOp.fact
            have hut : u = t := hnodup u (memL u hu) t ht hui.symm
            subst hut
            have e : (u.s.map fun k => (a.put (some u.d) v).tmps.getD k undef) = u.s.map fun k => if u.d = k then v else a.tmps.getD k undef := by
              apply List.map_congr_left
              intro k _
              rw [put_get, I.size]
              by_cases hk : u.d = k
              · rw [if_pos ⟨hk, htl _ hu⟩, if_pos hk]
              · rw [if_neg (fun h => hk h.1), if_neg hk]
            rw [e]
            exact hp hu
          · unfold HOp.fact
            have hul2 : listed.getD u.i false = true := by rw [← getD_set_ne false (i := i) (j := u.i) (by rw [← hti]; exact hui)]; exact hul
            have h1 := hmono.mem u hu _ w w' hrr (I.facts u hu hul2)
            have hnot : t.d ∉ u.s := by
              intro hin2
              have hw := (pair t ht u (memL u hu) hui).2 hu hin2
              obtain ⟨ou, hou, e, he, hb, hon⟩ := Region.waitsFor_spec hw
              have := I.inv.closed u.i ou hou hul2 e he hb
              rw [hon, hti, getD_both hil] at this
              cases this
            have e : (u.s.map fun k => (a.put (some t.d) v).tmps.getD k undef) = u.s.map fun k => a.tmps.getD k undef := by
              apply List.map_congr_left
              intro k hk
              rw [put_get, if_neg (fun (h : t.d = k ∧ t.d < a.tmps.size) => hnot (by rw [h.1]; exact hk))]
            rw [e]
            exact h1
        · have := todo_set hin hil; omega
      have fin : ∀ (R : Exit → Act → World → Prop), (∀ e a' w', R e a' w' → e = .normal) → (∀ a' w', R .normal a' w' → wpAny P .any l.toArray Q (f + (l.length - n)) (listed.setIfInBounds i true) a' w') → wpList P l.toArray R [oi] a w → wpOp P l.toArray Q i (fun a' w' => wpAny P .any l.toArray Q (f + (l.length - n)) (listed.setIfInBounds i true) a' w') a w := by
        intro R hR step H
        unfold wpList at H
        unfold wpOp
        rw [hoi]
        simp only
        by_cases hwant : Region.wanted oi (yielded l.toArray a.tmps) = true
        · rw [if_pos hwant] at H
          rw [if_pos hwant]
          left
          rcases H with H | ⟨_, a1, w1, h1⟩
          · exact wp_both (fun a' w' h => step a' w' h) (fun e a' w' he h => absurd (hR _ _ _ h) he) H
          · exact absurd (hR _ _ _ h1) (by simp)
        · rw [if_neg hwant] at H
          rw [if_neg hwant]
          exact step _ _ H
      obtain ⟨j, hj, hjs, hG⟩ := I.stage
      rcases split t ht with h | h
      · obtain ⟨j0, hj0l, hj0⟩ := List.mem_iff_getElem.1 h
        have hg0 : CH[j0]? = some t := by rw [List.getElem?_eq_getElem hj0l, hj0]
        have hnl : listed.getD t.i false = false := by rw [hti]; exact getD_both hil
        have h1 : ¬ j0 < j := fun h => by rw [(hjs j0 t hg0).2 h] at hnl; cases hnl
        have h2 : j0 ≤ j := by
          cases j0 with
          | zero => omega
          | succ q =>
            have hq : CH[q]? = some CH[q] := by simp
            obtain ⟨oj, hoj, e, he, hb, hon⟩ := Region.waitsFor_spec (hlk q _ t hq hg0)
            have : oj = oi := by rw [hti] at hoj; exact Option.some.inj (hoj.symm.trans hoi)
            subst this
            have h3 := hafter e he hb
            rw [hon] at h3
            have := (hjs q _ hq).1 h3
            omega
        obtain rfl : j0 = j := by omega
        refine fin _ (fun e a' w' h => h.1) ?_ (hopC j0 t hg0 oi ho a w hG hframe hfacts)
        rintro a' w' ⟨_, v, ha', hrr, hG'⟩
        obtain rfl : a' = a.put (some t.d) v := by
          rw [ha']
          by_cases hs0 : t.s = []
          · rw [if_pos hs0]
          · rw [if_neg hs0, put_out a t.d v (by rw [I.size]; exact hch2 t h hs0)]
        refine step0 v w' hrr ⟨j0 + 1, by omega, ?_, ?_⟩ (fun hL => absurd rfl (hdis2 t hL t h).1)
        · intro m c hc
          by_cases hci : c.i = i
          · have hct : c = t := hnodup c (memC c (List.mem_of_getElem? hc)) t ht (by rw [hci, hti])
            subst hct
            have hm0 : m = j0 := by
              rcases Nat.lt_trichotomy m j0 with h | h | h
              · have := (hjs m c hc).2 h
                rw [hnl] at this; cases this
              · exact h
              · exfalso
                have hnd2 : (CH.map (·.i)).Nodup := by
                  have h5 := hnd
                  rw [← hTdef, List.map_map, List.map_append] at h5
                  exact (List.nodup_append.1 h5).1
                have h6 : (CH.map (·.i))[m]? = some c.i := by rw [List.getElem?_map, hc]; rfl
                have h7 : (CH.map (·.i))[j0]? = some c.i := by rw [List.getElem?_map, hg0]; rfl
                obtain ⟨hm1, hm2⟩ := List.getElem?_eq_some_iff.1 h6
                have := (List.getElem?_inj hm1 hnd2).1 (h6.trans h7.symm)
                omega
            subst hm0
            have hlt : i < listed.size := by rw [I.inv.size]; simp; have := hn; omega
            rw [hci]
            simp [hlt]
          · rw [getD_set_ne false (fun e => hci e.symm), hjs m c hc]
            constructor
            · intro h; omega
            · intro h
              rcases Nat.lt_or_ge m j0 with h' | h'
              · exact h'
              · obtain rfl : m = j0 := by omega
                rw [hg0] at hc
                cases hc
                exact absurd hti hci
        · have e : (CH.map fun c => (a.put (some t.d) v).tmps.getD c.d undef) = CH.map fun e => if e.d = t.d then (if t.s = [] then v else undef) else a.tmps.getD e.d undef := by
            apply List.map_congr_left
            intro c _
            rw [put_get, I.size]
            by_cases hk : t.d = c.d
            · by_cases hs0 : t.s = []
              · rw [if_pos ⟨hk, hch t h hs0⟩, if_pos hk.symm, if_pos hs0]
              · have h2 := hch2 t h hs0
                rw [if_neg (fun hh => by omega), if_pos hk.symm, if_neg hs0]
                have h1 := I.size
                have hk : ¬ c.d < a.tmps.size := by omega
                simp [Array.getD, hk]
            · rw [if_neg (fun h => hk h.1), if_neg (fun h => hk h.symm)]
          rw [e]
          exact hG'
      · refine fin _ (fun e a' w' h => h.1) ?_ (hopL.mem t h oi ho a w hframe hfacts ⟨j, ?_, hj, hG⟩)
        rotate_left
        · intro m c hc hw
          obtain ⟨oj, hoj, e, he, hb, hon⟩ := Region.waitsFor_spec hw
          have : oj = oi := by rw [hti] at hoj; exact Option.some.inj (hoj.symm.trans hoi)
          subst this
          have h3 := hafter e he hb
          rw [hon] at h3
          exact (hjs m c hc).1 h3
        rintro a' w' ⟨_, v, rfl, hbl, hp⟩
        refine step0 v _ (hR _ _ hbl) ⟨j, hj, ?_, ?_⟩ (fun _ => hp)
        · intro m c hc
          rw [getD_set_ne false (by rw [← hti]; exact (hdis2 t h c (List.mem_of_getElem? hc)).1)]
          exact hjs m c hc
        · have e : (CH.map fun c => (a.put (some t.d) v).tmps.getD c.d undef) = CH.map fun c => a.tmps.getD c.d undef := by
            apply List.map_congr_left
            intro c hc
            rw [put_get, if_neg (fun hh => (hdis2 t h c hc).2 hh.1)]
          rw [e]
          exact hGm _ _ _ _ hbl hG
  refine wp_region_any hm ?_
  have inv0 : HeadInv .any l.toArray n (Array.replicate l.toArray.size false) :=
    ⟨by simp, fun j oj _ hl => (by rw [getD_replicate_false] at hl; cases hl), fun t _ ht => getD_in (by simpa using ht) (getD_replicate_false _ _)⟩
  have I0 : ChInv l n CH TL T a0 G (Array.replicate l.toArray.size false) a0 { w0 with drawn := w0.drawn + 1 } :=
    ⟨inv0, rfl, rfl, fun _ _ => rfl, ⟨0, Nat.zero_le _, fun m c _ => (by rw [getD_replicate_false]; simp), hG0⟩, fun t _ hl => (by rw [getD_replicate_false] at hl; cases hl)⟩
  have ht0 : todo (Array.replicate l.toArray.size false) n = n := by
    unfold todo
    rw [List.filter_eq_self.2 (fun j hj => by
      have hj' := List.mem_range.1 hj
      have : (Array.replicate l.toArray.size false).getD j true = false := getD_in (by simp; omega) (getD_replicate_false _ _)
      rw [this]; rfl), List.length_range]
  have := key n _ _ _ I0 ht0
  rwa [show n + (l.length - n) = l.toArray.size by simp; omega] at this
end
end Go.Dx
end

/- the text B30 -/
section
/- Chapter 06: the law's example. -/
namespace Go.Dx
open Go.RowKit
/-- the world ahead of the append, and behind it -/
def GEx (wr wo : World) (TT TR U : TypeId) (g1 g0 : Nat) (VC Z : List Value) (n : Nat) (ps : List RH) (ru : Ru) : Nat → List Value → World → Prop
  | 0, _, w => Below wr.heap.size wr w
  | _ + 1, vs, w => (∃ a' c', vs = [.slice a' n c'] ∧ ∃ b, ORu w TR U wo.heap.size a' c' (ps ++ [(ru, (some ⟨b, 0, none⟩, 1, 1))])) ∧ Box w g1 TT VC ∧ Box w g0 TT Z ∧ wo.grownBy w (some g1) ∧ wr.heap.size ≤ w.heap.size
section
variable {wr wo w w' : World} {TT TR U : TypeId} {g1 g0 : Nat} {VC Z : List Value} {n : Nat} {ps : List RH} {ru : Ru}
theorem GEx.mono : ∀ (j : Nat) (vs : List Value) (w w' : World), Below w.heap.size w w' → GEx wr wo TT TR U g1 g0 VC Z n ps ru j vs w → GEx wr wo TT TR U g1 g0 VC Z n ps ru j vs w'
  | 0, _, w, w', hb, h => Below.trans h (hb.mono (Below.size h))
  | _ + 1, vs, w, w', hb, ⟨⟨a', c', h1, b, h2⟩, h3, h4, h5, h6⟩ => ⟨⟨a', c', h1, b, h2.below hb⟩, h3.under hb, h4.under hb, grown_below h5 (hb.mono h5.size), Nat.le_trans h6 hb.size⟩
theorem GEx.box {j : Nat} {vs : List Value} (h : GEx wr wo TT TR U g1 g0 VC Z n ps ru j vs w) (hB : Box wr g1 TT VC) : Box w g1 TT VC := by
  cases j with
  | zero => exact hB.under h
  | succ j => exact h.2.1
theorem GEx.size {j : Nat} {vs : List Value} (h : GEx wr wo TT TR U g1 g0 VC Z n ps ru j vs w) : wr.heap.size ≤ w.heap.size := by
  cases j with
  | zero => exact Below.size h
  | succ j => exact h.2.2.2.2
end
end Go.Dx
namespace Go.Proofs.Ytkjcbneanaeleaa
open Go.RowKit Go.Dx
theorem size_rules : (Try.prog.info? 22).map (·.size) = some 1 := by kernel_rfl
theorem agg_tables : IsAgg Try.prog 28 := .inr ⟨_, Try.underlying28⟩
theorem size_tables : (Try.prog.info? 28).map (·.size) = some 7 := by kernel_rfl
theorem size7 (v0 v1 v2 v3 v4 v5 v6 : Value) : (Try.prog.info? 28).map (·.size) = some ([v0, v1, v2, v3, v4, v5, v6] : List Value).length := size_tables
section
variable {w : World} {ops : Array Oper} {rest : List Oper} {o : Oper} {act : Act} {Q : Exit → Act → World → Prop}
/-- 'append(l, more...)' -/
theorem app_rus (hg : o.guard = none) (s x : Operand) (hop : o.op = Op.call { callee := Callee.builtin Builtin.append, args := #[s, x], argTypes := #[22, 22] })
    (w0 : World) (B : Nat) (a : Option Addr) (c : Nat) (ps qs : List RH) (hs : act.eval s = .slice a ps.length c) (hown : ORu w 74 5 B a c ps)
    (hq : ∀ p ∈ qs, Own w 0 5 1 p.2.1 p.2.2.1 p.2.2.2 (p.1.cells.map B8) ∧ p.1.text.size ≤ 1000) (a2 : Option Addr) (c2 : Nat) (hx : act.eval x = .slice a2 qs.length c2) (hy : Sl w 3 a2 qs.length c2 (qs.flatMap rc))
    (hn : ps.length ≤ 1000000) (hn2 : qs.length ≤ 1000000) (hB : B ≤ w.heap.size) (hbel : Below B w0 w)
    (hK : ∀ a' c' w', ORu w' 74 5 B a' c' (ps ++ qs) → Below B w0 w' → w.grownBy w' (a.map (·.block)) → wpList Try.prog ops Q rest (act.put o.dst (.slice a' (ps.length + qs.length) c')) w') :
    wpList Try.prog ops Q (o :: rest) act w := by
  refine append_own hg s x 22 hop 74 zeroRule 3 48 Try.underlying22 info_rule rfl w0 B a _ c _ hs hown.top a2 qs.length c2 (qs.flatMap rc) hx hy (one_flat rc_one qs) (by omega) (by unfold maxLen; omega) hB hbel ?_
  intro a' c' w' ho hgr hb
  refine hK a' c' w' ⟨by rw [List.length_append, List.flatMap_append]; exact ho, ?_⟩ hb hgr
  intro p hp
  have key : ∀ {q : RH}, Own w 0 5 1 q.2.1 q.2.2.1 q.2.2.2 (q.1.cells.map B8) → Own w' 0 5 1 q.2.1 q.2.2.1 q.2.2.2 (q.1.cells.map B8) := fun {q} h => h.kept hgr (fun r hr => by
    rw [hr] at h; exact far_map h hown.top (by decide))
  rcases List.mem_append.1 hp with hp | hp
  · exact ⟨key (hown.row p hp).1, (hown.row p hp).2⟩
  · exact ⟨key (hq p hp).1, (hq p hp).2⟩
end
/-- rules that a call owns, in a value -/
def RO (w : World) (B : Nat) (v : Value) (L : List Ru) : Prop := ∃ a c ps, v = .slice a ps.length c ∧ ORu w 74 5 B a c ps ∧ rus ps = L
theorem RO.kept {w w' : World} {B : Nat} {v : Value} {L : List Ru} {g : Nat} {us : List Value} (h : RO w B v L) (hg : w.grownBy w' (some g)) (hx : Box w g 28 us) : RO w' B v L := by
  obtain ⟨a, c, ps, h1, h2, h3⟩ := h
  exact ⟨a, c, ps, h1, h2.kept hg hx (by decide) (by decide), h3⟩
theorem RO.below {w w' : World} {B : Nat} {v : Value} {L : List Ru} (h : RO w B v L) (hb : Below w.heap.size w w') : RO w' B v L := by
  obtain ⟨a, c, ps, h1, h2, h3⟩ := h
  exact ⟨a, c, ps, h1, h2.below hb, h3⟩
def blk : Value → Option Nat
  | .slice a _ _ => a.map (·.block)
  | _ => none
def apt (v0 v1 : Value) : Prop := ∀ b, blk v0 = some b → blk v1 ≠ some b
theorem apt_of {w w' : World} {B : Nat} {v : Value} {L : List Ru} (h : RO w B v L) {e : TypeId} {sz n c : Nat} {a : Option Addr} {cs : List Value} (h' : Own w' w.heap.size e sz a n c cs) : apt v (.slice a n c) := by
  obtain ⟨a0, c0, ps, rfl, ho, _⟩ := h
  intro b hb hb2
  have ht := ho.top
  cases a0 with
  | none => cases hb
  | some p =>
    cases a with
    | none => cases hb2
    | some q =>
      have h1 := ht.base.2
      have h2 := h'.base.1
      have e1 : p.block = b := by simpa [blk] using hb
      have e2 : q.block = b := by simpa [blk] using hb2
      omega
theorem RO.far {w w' : World} {B B' : Nat} {v : Value} {L : List Ru} {a : Option Addr} {n c sz : Nat} {cs : List Value} (h : RO w B v L) (hA : Own w B' 74 sz a n c cs) (hg : w.grownBy w' (a.map (·.block))) (hne : ∀ b, a.map (·.block) = some b → blk v ≠ some b) : RO w' B v L := by
  obtain ⟨a0, c0, ps, rfl, ho, hl⟩ := h
  refine ⟨a0, c0, ps, rfl, ⟨ho.top.kept hg fun q hq => ?_, fun p hp => ⟨?_, (ho.row p hp).2⟩⟩, hl⟩
  · intro e
    exact hne q.block e.symm (by rw [hq]; rfl)
  · have h1 := (ho.row p hp).1
    refine h1.kept hg fun q hq => ?_
    rw [hq] at h1
    exact far_map h1 hA (by decide)
theorem box_map {w : World} {g B : Nat} {t e : TypeId} {us : List Value} {sz : Nat} {a : Option Addr} {n c : Nat} {cs : List Value} (h : Box w g t us) (h' : Own w B e sz a n c cs) (he : t ≠ e) : some g ≠ a.map (·.block) := by
  cases a with
  | none => simp
  | some q => have := box_far h h' he; simp; omega
/-- a row of bytes in a block of its own -/
def UB (w : World) (v : Value) (l : List UInt8) : Prop := ∃ a n c, v = .slice a n c ∧ Own w 0 5 1 a n c (l.map B8)
theorem UB.kept {w w' : World} {v : Value} {l : List UInt8} {g : Nat} {us : List Value} (h : UB w v l) (hg : w.grownBy w' (some g)) (hx : Box w g 28 us) : UB w' v l := by
  obtain ⟨a, n, c, h1, h2⟩ := h
  refine ⟨a, n, c, h1, h2.kept hg fun q hq => ?_⟩
  rw [hq] at h2
  have := box_far hx h2 (by decide)
  simpa using this
theorem UB.below {w w' : World} {v : Value} {l : List UInt8} (h : UB w v l) (hb : Below w.heap.size w w') : UB w' v l := by
  obtain ⟨a, n, c, h1, h2⟩ := h
  exact ⟨a, n, c, h1, h2.below hb⟩
theorem UB.new (w : World) (l : List UInt8) (n : Nat) (hn : l.length = n) (hm : n ≤ 100) : UB (w.alloc (.cells (l.map B8).toArray 5)) (.slice (some ⟨w.heap.size, 0, none⟩) n n) l := by
  refine ⟨_, _, _, rfl, ?_⟩
  have := Own.built w 0 5 1 n (l.map B8).toArray (Nat.zero_le _) (by simp [hn]) (by unfold maxLen; omega)
  simpa using this

set_option maxRecDepth 100000 in
set_option maxHeartbeats 8000000 in
theorem law_example (w : World) : Calls Try.prog 43 #[] w fun e w' => ∃ H, e = .returned (TH.v H) ∧ TaIs w' H exTa ∧ Below w.heap.size w w' := by
  have X0 := (Box.new w 28 #[.slice none 0 0, .slice none 0 0, .slice none 0 0, .slice none 0 0, .slice none 0 0, .slice none 0 0, .slice none 0 0]).alloc (.cells #[.slice none 0 0, .slice none 0 0, .slice none 0 0, .slice none 0 0, .slice none 0 0, .slice none 0 0, .slice none 0 0] 28)
  have X1 := Box.new (w.alloc (.cells #[.slice none 0 0, .slice none 0 0, .slice none 0 0, .slice none 0 0, .slice none 0 0, .slice none 0 0, .slice none 0 0] 28)) 28 #[.slice none 0 0, .slice none 0 0, .slice none 0 0, .slice none 0 0, .slice none 0 0, .slice none 0 0, .slice none 0 0]
  rw [show (w.alloc (.cells #[.slice none 0 0, .slice none 0 0, .slice none 0 0, .slice none 0 0, .slice none 0 0, .slice none 0 0, .slice none 0 0] 28)).heap.size = w.heap.size + 1 by simp] at X1
  have hb0 : Below w.heap.size w ((w.alloc (.cells #[.slice none 0 0, .slice none 0 0, .slice none 0 0, .slice none 0 0, .slice none 0 0, .slice none 0 0, .slice none 0 0] 28)).alloc (.cells #[.slice none 0 0, .slice none 0 0, .slice none 0 0, .slice none 0 0, .slice none 0 0, .slice none 0 0, .slice none 0 0] 28)) := (blo w _).trans ((blo _ _).mono (by simp))
  obtain ⟨g1, hg1⟩ : ∃ g1, g1 = w.heap.size + 1 := ⟨_, rfl⟩
  have hg1w : w.heap.size ≤ g1 := by omega
  have hg01 : some w.heap.size ≠ some g1 := by simp; omega
  go_enter Try.func43, Try.ntmps43
  go_wp2_with fail
  rw [← hg1] at X1 ⊢
  clear hg1
  generalize (w.alloc (.cells _ 28)).alloc (.cells _ 28) = w2 at *
  go_loopg [2] 2 (fun gh v w' => ∃ (k : Nat) (v0 v1 : Value), k ≤ 2 ∧ gh = 2 - k ∧ v = .int .i64 (k : Int) ∧ Box w' g1 28 [v0, v1, .slice none 0 0, .slice none 0 0, .slice none 0 0, .slice none 0 0, .slice none 0 0] ∧ Box w' w.heap.size 28 [.slice none 0 0, .slice none 0 0, .slice none 0 0, .slice none 0 0, .slice none 0 0, .slice none 0 0, .slice none 0 0] ∧ (k ≤ 0 → v0 = .slice none 0 0) ∧ (k ≤ 1 → v1 = .slice none 0 0) ∧ (1 ≤ k → RO w' w.heap.size v0 (letters 26)) ∧ (2 ≤ k → RO w' w.heap.size v1 (letters 26)) ∧ (2 ≤ k → apt v0 v1) ∧ Below w.heap.size w w')
  case atStart => exact ⟨0, _, _, by omega, by omega, rfl, X1, X0, fun _ => rfl, fun _ => rfl, fun h => by omega, fun h => by omega, fun h => by omega, hb0⟩
  case round =>
    clear X0 X1 hb0
    obtain ⟨k, v0, v1, hk, hg, rfl, hX1, hX0, hn0, hn1, hr0, hr1, hap, hb⟩ := hrel
    have HG := hide hg
    clear hg
    by_cases hkl : k < 2
    · obtain ⟨wo, rfl⟩ : ∃ wo : World, wo = wr := ⟨_, rfl⟩
      obtain ⟨V, hV⟩ : ∃ V : List Value, V = [v0, v1, .slice none 0 0, .slice none 0 0, .slice none 0 0, .slice none 0 0, .slice none 0 0] := ⟨_, rfl⟩
      have hVk : V[k]? = some (.slice none 0 0) := by
        rw [hV]
        rcases k with _ | _ | k
        · rw [hn0 (by omega)]; rfl
        · rw [hn1 (by omega)]; rfl
        · omega
      have hVl : V.length = 7 := by rw [hV]; rfl
      have hkV7 : k < V.length := by omega
      rw [← hV] at hX1
      have HV := hide hV
      have hg1o : g1 < wo.heap.size := hX1.lt
      have hg0o : w.heap.size < wo.heap.size := hX0.lt
      have d0 : decide (k < 2) = true := decide_eq_true hkl
      have d0' : decide ((k : Int) < 2) = true := decide_eq_true (by omega)
      have hbx0 : Box wo g1 28 (V.set k (.slice none 0 0)) := by rw [set_same hVk]; exact hX1
      have HN1 := hide hn1
      have HBO := hide hbx0
      clear hV hVk hX1 hn0 hn1 hVl
      go_wp2_with fail
      go_loopg [3] 26 (fun gh v w' => ∃ (i : Nat) (ps : List RH) (a : Option Addr) (c : Nat), i ≤ 26 ∧ gh = 26 - i ∧ ps.length = i ∧ v = .int .i64 (i : Int) ∧ Hid (rus ps = letters i) ∧ Box w' g1 28 (V.set k (.slice a ps.length c)) ∧ Box w' w.heap.size 28 [.slice none 0 0, .slice none 0 0, .slice none 0 0, .slice none 0 0, .slice none 0 0, .slice none 0 0, .slice none 0 0] ∧ ORu w' 74 5 wo.heap.size a c ps ∧ wo.grownBy w' (some g1))
      case atStart => exact ⟨0, [], none, 0, by omega, by omega, rfl, rfl, hide rfl, hbx0, hX0, ORu.nil _ _ _ _, grown_of_below (Below.refl _ _) _⟩
      case round =>
        clear hbx0
        obtain ⟨i, ps, a, c, hi, hgi, hpl, rfl, HPS, hBx, hB0, hOR, hgo⟩ := hrel
        have HGI := hide hgi
        have HPL := hide hpl
        have hple : ps.length ≤ 26 := by omega
        clear hgi hpl
        have hkV : k < (V.set k (.slice a ps.length c)).length := by rw [List.length_set]; exact hkV7
        by_cases hil : i < 26
        · have HVC : Hid ((V.set k (.slice a ps.length c))[k]? = some (.slice a ps.length c)) := hide (by rw [List.getElem?_set_self hkV7])
          obtain ⟨cu, hcu⟩ : ∃ cu, cu = UInt8.ofNat (97 + i) := ⟨_, rfl⟩
          obtain ⟨cv, hcv⟩ : ∃ cv, cv = UInt8.ofNat (1 + i) := ⟨_, rfl⟩
          have HU97 : Hid (([.int .u8 (97 + (i : Int))] : List Value) = [cu].map B8) := hide (by
            have : (cu.toNat : Int) = 97 + (i : Int) := by rw [hcu, UInt8.toNat_ofNat']; omega
            show _ = [Value.int .u8 (cu.toNat : Int)]
            rw [this])
          have HU1 : Hid (([.int .u8 (1 + (i : Int))] : List Value) = [cv].map B8) := hide (by
            have : (cv.toNat : Int) = 1 + (i : Int) := by rw [hcv, UInt8.toNat_ofNat']; omega
            show _ = [Value.int .u8 (cv.toNat : Int)]
            rw [this])
          have HPS2 : Hid (∀ h, Hid (rus (ps ++ [((⟨⟨#[cu]⟩, 0, [cv]⟩ : Ru), h)]) = letters (i + 1))) := hide (fun h => hide (by rw [letters_step, ← HPS.out, hcu, hcv]; unfold rus; simp))
          clear hcu hcv
          have HNE : Hid (∀ b, wr.heap.size ≤ b → some b ≠ a.map (·.block)) := hide (fun b hb => own_map hOR.top hb)
          go_wp2_with fail
          refine wp_region_chain4 21 (fun w w' => w.grownBy w' (a.map (·.block))) (GEx wr wo 28 74 5 g1 w.heap.size (V.set k (.slice a ps.length c)) [.slice none 0 0, .slice none 0 0, .slice none 0 0, .slice none 0 0, .slice none 0 0, .slice none 0 0, .slice none 0 0] (ps.length + 1) ps (⟨⟨#[cu]⟩, 0, [cv]⟩ : Ru)) [⟨17, 30, [], fun _ _ => True⟩] [⟨0, 13, [13], fun vs _ => vs = [.int .i64 (k : Int)]⟩, ⟨1, 14, [14], fun vs _ => vs = [.int .i64 (k : Int)]⟩, ⟨2, 15, [15], fun vs _ => vs = [.pointer (some ⟨g1, 0, none⟩)]⟩, ⟨3, 16, [16], fun vs _ => vs = [.pointer (some ⟨g1, k, none⟩)]⟩, ⟨4, 17, [17], fun vs _ => vs = [.pointer (some ⟨g1, k, none⟩)]⟩, ⟨5, 18, [18], fun vs _ => vs = [.slice a ps.length c]⟩, ⟨6, 19, [19], fun vs _ => vs = [.int .i64 (i : Int)]⟩, ⟨7, 20, [20], fun vs _ => vs = [.int .i64 (97 + (i : Int))]⟩, ⟨8, 21, [21], fun vs _ => vs = [.int .u8 (97 + (i : Int))]⟩, ⟨9, 22, [22], fun vs w' => ∃ b, vs = [.slice (some ⟨b, 0, none⟩) 1 1] ∧ wr.heap.size ≤ b ∧ Own w' 0 5 1 (some ⟨b, 0, none⟩) 1 1 [.int .u8 (97 + (i : Int))]⟩, ⟨10, 23, [23], fun vs _ => vs = [.string ⟨#[cu]⟩]⟩, ⟨11, 24, [24], fun vs _ => vs = [.int .i64 (i : Int)]⟩, ⟨12, 25, [25], fun vs _ => vs = [.int .i64 (1 + (i : Int))]⟩, ⟨13, 26, [26], fun vs _ => vs = [.int .u8 (1 + (i : Int))]⟩, ⟨14, 27, [27], fun vs w' => ∃ b, vs = [.slice (some ⟨b, 0, none⟩) 1 1] ∧ wr.heap.size ≤ b ∧ Own w' 0 5 1 (some ⟨b, 0, none⟩) 1 1 ([cv].map B8)⟩, ⟨15, 28, [28], fun vs w' => ∃ b, vs = [.agg #[.string ⟨#[cu]⟩, .int .i64 0, .slice (some ⟨b, 0, none⟩) 1 1]] ∧ wr.heap.size ≤ b ∧ Own w' 0 5 1 (some ⟨b, 0, none⟩) 1 1 ([cv].map B8)⟩, ⟨16, 29, [29], fun vs w' => ∃ b2, vs = [.slice (some ⟨b2, 0, none⟩) 1 1] ∧ wr.heap.size ≤ b2 ∧ ∃ b, wr.heap.size ≤ b ∧ Sl w' 3 (some ⟨b2, 0, none⟩) 1 1 (rc ((⟨⟨#[cu]⟩, 0, [cv]⟩ : Ru), (some ⟨b, 0, none⟩, 1, 1))) ∧ Own w' 0 5 1 (some ⟨b, 0, none⟩) 1 1 ([cv].map B8)⟩, ⟨18, 31, [31], fun vs _ => vs = [.pointer (some ⟨g1, 0, none⟩)]⟩, ⟨19, 32, [32], fun vs _ => vs = [.pointer (some ⟨g1, k, none⟩)]⟩, ⟨20, 33, [33], fun vs _ => vs = [.pointer (some ⟨g1, k, none⟩)]⟩] (by kernel_rfl) (by kernel_rfl) ?_ (fun _ _ h => grown_of_below h _) GEx.mono ?_ ?_ ?_ ?_
          · exact (Still.below 1 : Below wr.heap.size wr (wr.drewN 1))
          · simp only [All]
            refine ⟨(fun _ _ _ _ h => h), (fun _ _ _ _ h => h), (fun _ _ _ _ h => h), (fun _ _ _ _ h => h), (fun _ _ _ _ h => h), (fun _ _ _ _ h => h), (fun _ _ _ _ h => h), (fun _ _ _ _ h => h), (fun _ _ _ _ h => h), (fun vs w1 w2 hr ⟨b, h1, h0, h2⟩ => ⟨b, h1, h0, h2.kept hr (fun q hq => by cases hq; exact HNE.out b h0)⟩), (fun _ _ _ _ h => h), (fun _ _ _ _ h => h), (fun _ _ _ _ h => h), (fun _ _ _ _ h => h), (fun vs w1 w2 hr ⟨b, h1, h0, h2⟩ => ⟨b, h1, h0, h2.kept hr (fun q hq => by cases hq; exact HNE.out b h0)⟩), (fun vs w1 w2 hr ⟨b, h1, h0, h2⟩ => ⟨b, h1, h0, h2.kept hr (fun q hq => by cases hq; exact HNE.out b h0)⟩), (fun vs w1 w2 hr ⟨b2, h1, h2, b, h0, h3, h4⟩ => ⟨b2, h1, h2, b, h0, h3.grown hr (fun q hq => by cases hq; exact HNE.out b2 h2), h4.kept hr (fun q hq => by cases hq; exact HNE.out b h0)⟩), (fun _ _ _ _ h => h), (fun _ _ _ _ h => h), (fun _ _ _ _ h => h), trivial⟩
          · intro m c hc o ho a' w' hG hfr hdep
            rcases m with _ | m
            · cases hc
              obtain rfl := Option.some.inj ho
              have hb : Below wr.heap.size wr w' := hG
              have g18 : a'.tmps[18]?.getD undef = .slice a ps.length c := by have h := hdep 5 _ rfl (by kernel_rfl); simpa using h
              obtain ⟨b2, g29, hb2, b8, _, hs2, ho8⟩ := hdep 16 _ rfl (by kernel_rfl)
              simp at g29
              clear hfr hdep hG
              have hOw := hOR.below hb
              have hsz9 := Nat.le_trans hgo.size hb.size
              refine app_ru2 rfl _ _ rfl w' wo.heap.size a c ps (by show a'.tmps.getD 18 undef = _; simpa using g18) hOw ((⟨⟨#[cu]⟩, 0, [cv]⟩ : Ru), (some ⟨b8, 0, none⟩, 1, 1)) ho8 (by show (1 : Nat) ≤ 1000; decide) (some ⟨b2, 0, none⟩) 1 (by show a'.tmps.getD 29 undef = _; simpa using g29) hs2 (by omega) hsz9 (Below.refl _ _) ?_
              intro a3 c3 w7 ho7 hb7 hgr7
              go_wp2
              exact ⟨rfl, _, rfl, hgr7, ⟨a3, c3, rfl, b8, ho7⟩, (hBx.under hb).below hb7 hg1o, (hB0.under hb).below hb7 hg0o, grown_below (grown_below hgo (hb.mono hgo.size)) hb7, Nat.le_trans hb.size hb7.size⟩
            · cases hc
          · simp only [All]
            refine ⟨?_, ?_, ?_, ?_, ?_, ?_, ?_, ?_, ?_, ?_, ?_, ?_, ?_, ?_, ?_, ?_, ?_, ?_, ?_, ?_, trivial⟩
            · intro o ho a' w' hfr hdep hst
              obtain rfl := Option.some.inj ho
              have g2 : a'.tmps[2]?.getD undef = .int .i64 (k : Int) := by have h := hfr 2 (by kernel_rfl); simpa using h
              clear ho hfr hdep hst
              go_wp2_with fail
              exact ⟨rfl, _, rfl, Below.refl _ _, rfl⟩
            · intro o ho a' w' hfr hdep hst
              obtain rfl := Option.some.inj ho
              have g2 : a'.tmps[2]?.getD undef = .int .i64 (k : Int) := by have h := hfr 2 (by kernel_rfl); simpa using h
              clear ho hfr hdep hst
              go_wp2_with fail
              exact ⟨rfl, _, rfl, Below.refl _ _, rfl⟩
            · intro o ho a' w' hfr hdep hst
              obtain rfl := Option.some.inj ho
              have g1 : a'.tmps[1]?.getD undef = .pointer (some ⟨g1, 0, none⟩) := by have h := hfr 1 (by kernel_rfl); simpa using h
              clear ho hfr hdep hst
              go_wp2_with fail
              exact ⟨rfl, _, rfl, Below.refl _ _, rfl⟩
            · intro o ho a' w' hfr hdep hst
              obtain rfl := Option.some.inj ho
              have g15 : a'.tmps[15]?.getD undef = .pointer (some ⟨g1, 0, none⟩) := by have h := hdep 2 _ rfl (by kernel_rfl); simpa using h
              have g14 : a'.tmps[14]?.getD undef = .int .i64 (k : Int) := by have h := hdep 1 _ rfl (by kernel_rfl); simpa using h
              clear ho hfr hdep hst
              go_wp2_with fail
              exact ⟨rfl, _, rfl, Below.refl _ _, rfl⟩
            · intro o ho a' w' hfr hdep hst
              obtain rfl := Option.some.inj ho
              have g16 : a'.tmps[16]?.getD undef = .pointer (some ⟨g1, k, none⟩) := by have h := hdep 3 _ rfl (by kernel_rfl); simpa using h
              clear ho hfr hdep hst
              go_wp2_with fail
              exact ⟨rfl, _, rfl, Below.refl _ _, rfl⟩
            · intro o ho a' w' hfr hdep hst
              obtain rfl := Option.some.inj ho
              have g17 : a'.tmps[17]?.getD undef = .pointer (some ⟨g1, k, none⟩) := by have h := hdep 4 _ rfl (by kernel_rfl); simpa using h
              obtain ⟨j, _, _, hG⟩ := hst
              clear ho hfr hdep
              have hcl := (hG.box hBx).at_ HVC.out
              clear hG
              go_wp2_with fail
              exact ⟨rfl, _, rfl, Below.refl _ _, rfl⟩
            · intro o ho a' w' hfr hdep hst
              obtain rfl := Option.some.inj ho
              have g3 : a'.tmps[3]?.getD undef = .int .i64 (i : Int) := by have h := hfr 3 (by kernel_rfl); simpa using h
              clear ho hfr hdep hst
              go_wp2_with fail
              exact ⟨rfl, _, rfl, Below.refl _ _, rfl⟩
            · intro o ho a' w' hfr hdep hst
              obtain rfl := Option.some.inj ho
              have g19 : a'.tmps[19]?.getD undef = .int .i64 (i : Int) := by have h := hdep 6 _ rfl (by kernel_rfl); simpa using h
              clear ho hfr hdep hst
              go_wp2_with fail
              exact ⟨rfl, _, rfl, Below.refl _ _, rfl⟩
            · intro o ho a' w' hfr hdep hst
              obtain rfl := Option.some.inj ho
              have g20 : a'.tmps[20]?.getD undef = .int .i64 (97 + (i : Int)) := by have h := hdep 7 _ rfl (by kernel_rfl); simpa using h
              clear ho hfr hdep hst
              go_wp2_with fail
              exact ⟨rfl, _, rfl, Below.refl _ _, rfl⟩
            · intro o ho a' w' hfr hdep hst
              obtain rfl := Option.some.inj ho
              have g21 : a'.tmps[21]?.getD undef = .int .u8 (97 + (i : Int)) := by have h := hdep 8 _ rfl (by kernel_rfl); simpa using h
              obtain ⟨j, _, _, hG⟩ := hst
              clear ho hfr hdep
              have hsz := hG.size
              clear hG
              go_wp2_with fail
              exact ⟨rfl, _, rfl, blo _ _, _, rfl, hsz, Own.built w' 0 5 1 1 #[.int .u8 (97 + (i : Int))] (Nat.zero_le _) rfl (by decide)⟩
            · intro o ho a' w' hfr hdep hst
              obtain rfl := Option.some.inj ho
              obtain ⟨b8, g22, hb8, ho8⟩ := hdep 9 _ rfl (by kernel_rfl)
              simp at g22
              clear ho hfr hdep hst
              have hs8 := ho8.sl
              rw [HU97.out] at hs8
              refine to_str 23 _ (some ⟨b8, 0, none⟩) 1 1 [cu] (by show a'.tmps.getD 22 undef = _; simpa using g22) hs8 ?_
              go_wp2_with fail
              exact ⟨rfl, _, rfl, Below.refl _ _, rfl⟩
            · intro o ho a' w' hfr hdep hst
              obtain rfl := Option.some.inj ho
              have g3 : a'.tmps[3]?.getD undef = .int .i64 (i : Int) := by have h := hfr 3 (by kernel_rfl); simpa using h
              clear ho hfr hdep hst
              go_wp2_with fail
              exact ⟨rfl, _, rfl, Below.refl _ _, rfl⟩
            · intro o ho a' w' hfr hdep hst
              obtain rfl := Option.some.inj ho
              have g24 : a'.tmps[24]?.getD undef = .int .i64 (i : Int) := by have h := hdep 11 _ rfl (by kernel_rfl); simpa using h
              clear ho hfr hdep hst
              go_wp2_with fail
              exact ⟨rfl, _, rfl, Below.refl _ _, rfl⟩
            · intro o ho a' w' hfr hdep hst
              obtain rfl := Option.some.inj ho
              have g25 : a'.tmps[25]?.getD undef = .int .i64 (1 + (i : Int)) := by have h := hdep 12 _ rfl (by kernel_rfl); simpa using h
              clear ho hfr hdep hst
              go_wp2_with fail
              exact ⟨rfl, _, rfl, Below.refl _ _, rfl⟩
            · intro o ho a' w' hfr hdep hst
              obtain rfl := Option.some.inj ho
              have g26 : a'.tmps[26]?.getD undef = .int .u8 (1 + (i : Int)) := by have h := hdep 13 _ rfl (by kernel_rfl); simpa using h
              obtain ⟨j, _, _, hG⟩ := hst
              clear ho hfr hdep
              have hsz := hG.size
              clear hG
              go_wp2_with fail
              refine ⟨rfl, _, rfl, blo _ _, _, rfl, hsz, ?_⟩
              rw [← HU1.out]
              exact Own.built w' 0 5 1 1 #[.int .u8 (1 + (i : Int))] (Nat.zero_le _) rfl (by decide)
            · intro o ho a' w' hfr hdep hst
              obtain rfl := Option.some.inj ho
              have g23 : a'.tmps[23]?.getD undef = .string ⟨#[cu]⟩ := by have h := hdep 10 _ rfl (by kernel_rfl); simpa using h
              obtain ⟨b8, g27, hb8, ho8⟩ := hdep 14 _ rfl (by kernel_rfl)
              simp at g27
              clear ho hfr hdep hst
              go_wp2_with fail
              exact ⟨rfl, _, rfl, Below.refl _ _, b8, rfl, hb8, ho8⟩
            · intro o ho a' w' hfr hdep hst
              obtain rfl := Option.some.inj ho
              obtain ⟨b8, g28, hb8, ho8⟩ := hdep 15 _ rfl (by kernel_rfl)
              simp at g28
              obtain ⟨j, _, _, hG⟩ := hst
              clear ho hfr hdep
              have hsz := hG.size
              clear hG
              go_wp2_with fail
              exact ⟨rfl, _, rfl, blo _ _, _, rfl, hsz, b8, hb8, Sl.fresh _ _ 3 1 (rc ((⟨⟨#[cu]⟩, 0, [cv]⟩ : Ru), (some ⟨b8, 0, none⟩, 1, 1))) rfl (by decide), ho8.alloc _⟩
            · intro o ho a' w' hfr hdep hst
              obtain rfl := Option.some.inj ho
              have g1 : a'.tmps[1]?.getD undef = .pointer (some ⟨g1, 0, none⟩) := by have h := hfr 1 (by kernel_rfl); simpa using h
              clear ho hfr hdep hst
              go_wp2_with fail
              exact ⟨rfl, _, rfl, Below.refl _ _, rfl⟩
            · intro o ho a' w' hfr hdep hst
              obtain rfl := Option.some.inj ho
              have g31 : a'.tmps[31]?.getD undef = .pointer (some ⟨g1, 0, none⟩) := by have h := hdep 17 _ rfl (by kernel_rfl); simpa using h
              have g13 : a'.tmps[13]?.getD undef = .int .i64 (k : Int) := by have h := hdep 0 _ rfl (by kernel_rfl); simpa using h
              clear ho hfr hdep hst
              go_wp2_with fail
              exact ⟨rfl, _, rfl, Below.refl _ _, rfl⟩
            · intro o ho a' w' hfr hdep hst
              obtain rfl := Option.some.inj ho
              have g32 : a'.tmps[32]?.getD undef = .pointer (some ⟨g1, k, none⟩) := by have h := hdep 18 _ rfl (by kernel_rfl); simpa using h
              clear ho hfr hdep hst
              go_wp2_with fail
              exact ⟨rfl, _, rfl, Below.refl _ _, rfl⟩
          · intro g w7 hG hp
            obtain ⟨⟨a7, c7, p30, b7, ho7⟩, gB, gZ, gG, _⟩ := hG
            have p33 := hp 19 _ rfl
            clear hp
            simp at p30 p33
            simp only [List.drop_succ_cons, List.drop_zero, List.map_cons, List.map_nil, putAll, Act.put, List.setIfInBounds_toArray, List.set_cons_succ, List.set_cons_zero, List.cons_append, List.nil_append, p30, p33]
            go_wp2_with (with_reducible refine store_cell 22 _ _ 28 g1 k (V.set k (.slice a ps.length c)) (.slice a7 (ps.length + 1) c7) size_rules gB rfl rfl rfl rfl hkV ?_; intro w8 hx8 hg8 hs8)
            rw [List.set_set] at hx8
            have ho8 := ho7.kept hg8 gB (by decide) (by decide)
            have hz8 := gZ.grown hg8 hg01
            have hgo8 := grown_trans gG hg8
            go_roundg (26 - (i + 1))
            case measure => have := HGI.out; omega
            case rel => exact ⟨i + 1, ps ++ [((⟨⟨#[cu]⟩, 0, [cv]⟩ : Ru), (some ⟨b7, 0, none⟩, 1, 1))], a7, c7, by omega, rfl, by rw [List.length_append, HPL.out]; rfl, by go_num, HPS2.out _, by rw [List.length_append]; exact hx8, hz8, ho8, hgo8⟩
        · obtain rfl : i = 26 := by omega
          have HKN : Hid (∃ v0' v1', Box wr g1 28 [v0', v1', .slice none 0 0, .slice none 0 0, .slice none 0 0, .slice none 0 0, .slice none 0 0] ∧ (k + 1 ≤ 0 → v0' = .slice none 0 0) ∧ (k + 1 ≤ 1 → v1' = .slice none 0 0) ∧ (1 ≤ k + 1 → RO wr w.heap.size v0' (letters 26)) ∧ (2 ≤ k + 1 → RO wr w.heap.size v1' (letters 26)) ∧ (2 ≤ k + 1 → apt v0' v1')) := by
            have hl := HV.out
            have hro : RO wr w.heap.size (.slice a ps.length c) (letters 26) := ⟨a, c, ps, rfl, hOR.mono (Nat.le_of_lt hg0o), HPS.out⟩
            rw [hl] at hBx
            rcases k with _ | _ | k
            · exact hide ⟨_, v1, hBx, fun h => by omega, fun _ => HN1.out (by omega), fun _ => hro, fun h => by omega, fun h => by omega⟩
            · exact hide ⟨v0, _, hBx, fun h => by omega, fun h => by omega, fun _ => (hr0 (by omega)).kept hgo HBO.out, fun _ => hro, fun _ => apt_of (hr0 (by omega)) hOR.top⟩
            · omega
          have hbw := hb.grown hgo hb.size (fun q hq => by cases hq; exact hg1w)
          clear hBx hOR hr0 hr1
          go_wp2
          obtain ⟨v0', v1', z1, z2, z3, z4, z5, z6⟩ := HKN.out
          go_roundg (2 - (k + 1))
          case measure => have := HG.out; omega
          case rel => exact ⟨k + 1, v0', v1', by omega, rfl, by go_num, z1, hB0, z2, z3, z4, z5, z6, hbw⟩
    · obtain rfl : k = 2 := by omega
      have r0 := hr0 (by omega)
      have r1 := hr1 (by omega)
      have hapt := hap (by omega)
      clear hn0 hn1 hr0 hr1 hap hkl hk HG
      obtain ⟨a, c, ps, rfl, hO, hps⟩ := r0
      have HPS := hide hps
      have hpl26 : ps.length = 26 := by
        have : (rus ps).length = ps.length := by unfold rus; simp
        rw [← this, hps]; rfl
      have HPL := hide hpl26
      have hple : ps.length ≤ 26 := by omega
      clear hps hpl26
      obtain ⟨wa, hwa⟩ : ∃ wa, wa = ((((wr.alloc (.cells #[.int .u8 30] 5)).alloc (.cells #[.int .u8 31] 5)).alloc (.cells #[.int .u8 32] 5)).alloc (.cells #[.int .u8 33] 5)) := ⟨_, rfl⟩
      obtain ⟨qs, hqs⟩ : ∃ qs : List RH, qs = [(⟨⟨#[97, 110]⟩, 0, [30]⟩, (some ⟨wr.heap.size, 0, none⟩, 1, 1)), (⟨⟨#[97, 110]⟩, 1, [31]⟩, (some ⟨wr.heap.size + 1, 0, none⟩, 1, 1)), (⟨⟨#[110]⟩, 3, [32]⟩, (some ⟨wr.heap.size + 1 + 1, 0, none⟩, 1, 1)), (⟨⟨#[46]⟩, 0, [33]⟩, (some ⟨wr.heap.size + 1 + 1 + 1, 0, none⟩, 1, 1))] := ⟨_, rfl⟩
      have hs1 : (wr.alloc (.cells #[.int .u8 30] 5)).heap.size = wr.heap.size + 1 := by simp
      have hs2 : ((wr.alloc (.cells #[.int .u8 30] 5)).alloc (.cells #[.int .u8 31] 5)).heap.size = wr.heap.size + 1 + 1 := by simp
      have hs3 : (((wr.alloc (.cells #[.int .u8 30] 5)).alloc (.cells #[.int .u8 31] 5)).alloc (.cells #[.int .u8 32] 5)).heap.size = wr.heap.size + 1 + 1 + 1 := by simp
      have o1 : Own wa 0 5 1 (some ⟨wr.heap.size, 0, none⟩) 1 1 [.int .u8 30] := by rw [hwa]; exact (((Own.built wr 0 5 1 1 #[.int .u8 30] (Nat.zero_le _) rfl (by decide)).alloc _).alloc _).alloc _
      have o2 : Own wa 0 5 1 (some ⟨wr.heap.size + 1, 0, none⟩) 1 1 [.int .u8 31] := by
        rw [hwa, ← hs1]; exact (((Own.built _ 0 5 1 1 #[.int .u8 31] (Nat.zero_le _) rfl (by decide)).alloc _).alloc _)
      have o3 : Own wa 0 5 1 (some ⟨wr.heap.size + 1 + 1, 0, none⟩) 1 1 [.int .u8 32] := by
        rw [hwa, ← hs2]; exact ((Own.built _ 0 5 1 1 #[.int .u8 32] (Nat.zero_le _) rfl (by decide)).alloc _)
      have o4 : Own wa 0 5 1 (some ⟨wr.heap.size + 1 + 1 + 1, 0, none⟩) 1 1 [.int .u8 33] := by
        rw [hwa, ← hs3]; exact (Own.built _ 0 5 1 1 #[.int .u8 33] (Nat.zero_le _) rfl (by decide))
      have hrows : ∀ p ∈ qs, Own wa 0 5 1 p.2.1 p.2.2.1 p.2.2.2 (p.1.cells.map B8) ∧ p.1.text.size ≤ 1000 := by
        rw [hqs]
        intro p hp
        simp only [List.mem_cons, List.not_mem_nil, or_false] at hp
        rcases hp with rfl | rfl | rfl | rfl
        · exact ⟨o1, show (2 : Nat) ≤ 1000 by decide⟩
        · exact ⟨o2, show (2 : Nat) ≤ 1000 by decide⟩
        · exact ⟨o3, show (1 : Nat) ≤ 1000 by decide⟩
        · exact ⟨o4, show (1 : Nat) ≤ 1000 by decide⟩
      have hba : Below wr.heap.size wr wa := by
        rw [hwa]
        exact (((blo wr _).trans ((blo _ _).mono (by rw [hs1]; omega))).trans ((blo _ _).mono (by rw [hs2]; omega))).trans ((blo _ _).mono (by rw [hs3]; omega))
      have hsa : wa.heap.size = wr.heap.size + 1 + 1 + 1 + 1 := by rw [hwa]; simp
      have HQS := hide hqs
      have HWA := hide hwa
      have hql : qs.length = 4 := by rw [hqs]; rfl
      have HQL := hide hql
      have hrq : rus qs = more4 := by rw [hqs]; rfl
      have HRQ := hide hrq
      have HSA := hide hsa
      clear hqs hwa hs1 hs2 hs3 o1 o2 o3 o4 hql hrq hsa
      have hxa := hX1.under hba
      have hza := hX0.under hba
      have hOa := hO.below hba
      have r1a := r1.below hba
      have hbwa := hb.trans (hba.mono hb.size)
      have HSQ : Hid (Sl (wa.alloc (.cells (qs.flatMap rc).toArray 74)) 3 (some ⟨wa.heap.size, 0, none⟩) 4 4 (qs.flatMap rc)) := hide (Sl.fresh wa _ 3 4 _ (by rw [HQS.out]; rfl) (by decide))
      have hx0c : wa.cell? ⟨g1, 0, none⟩ = some (.slice a ps.length c) := hxa.at_ rfl
      have hg1l : g1 < wa.heap.size := hxa.lt
      have hbe := blo wa (.cells (qs.flatMap rc).toArray 74)
      rw [HQS.out] at HSQ hbe
      clear hX1 hX0 hO r1 hb hba
      go_upto_region 10 with fail
      rw [← HWA.out]
      generalize hwb : wa.alloc (.cells _ 74) = wb
      have hbeb : Below wa.heap.size wa wb := by rw [← hwb]; exact blo _ _
      have hyq : Sl wb 3 (some ⟨wr.heap.size + 1 + 1 + 1 + 1, 0, none⟩) qs.length 4 (qs.flatMap rc) := by
        have := HSQ.out
        rw [HSA.out] at this
        rw [HQL.out, HQS.out, ← hwb]
        exact this
      have HYQ := hide hyq
      clear hwb hbe hyq
      have hxb := hxa.under hbeb
      have hzb := hza.under hbeb
      have hOb := hOa.below hbeb
      have r1b := r1a.below hbeb
      have hbwb := hbwa.trans (hbeb.mono hbwa.size)
      have hrowb : ∀ p ∈ qs, Own wb 0 5 1 p.2.1 p.2.2.1 p.2.2.2 (p.1.cells.map B8) ∧ p.1.text.size ≤ 1000 := fun p hp => ⟨(hrows p hp).1.below hbeb, (hrows p hp).2⟩
      have HROWB := hide hrowb
      have hcb : wb.cell? ⟨g1, 0, none⟩ = some (.slice a ps.length c) := hxb.at_ rfl
      clear hxa hza hOa r1a hbwa hbeb hrows hrowb hx0c HSQ hg1l
      have hxx : Value.slice (some ⟨wr.heap.size + 1 + 1 + 1 + 1, 0, none⟩) 4 4 = Value.slice (some ⟨wr.heap.size + 1 + 1 + 1 + 1, 0, none⟩) qs.length 4 := by rw [HQL.out]
      go_wp2_with (at_builtin; refine app_rus rfl _ _ rfl wb w.heap.size a c ps qs rfl hOb HROWB.out (some ⟨wr.heap.size + 1 + 1 + 1 + 1, 0, none⟩) 4 hxx HYQ.out (by omega) (by rw [HQL.out]; decide) hbwb.size (Below.refl _ _) ?_; intro a5 c5 w5 ho5 hb5 hgr5; refine hold ?_)
      refine hide ?_
      have hx5 := hxb.grown hgr5 (box_map hxb hOb.top (by decide))
      have hz5 := hzb.grown hgr5 (box_map hzb hOb.top (by decide))
      have r15 := r1b.far hOb.top hgr5 (fun b hb => hapt b hb)
      have hbw5 := hbwb.trans hb5
      have r05 : RO w5 w.heap.size (.slice a5 (ps.length + qs.length) c5) (letters 26 ++ more4) := ⟨a5, c5, ps ++ qs, by rw [List.length_append], ho5, by rw [← HPS.out, ← HRQ.out]; unfold rus; simp⟩
      obtain ⟨L0, hL0⟩ : ∃ L0, L0 = ps.length + qs.length := ⟨_, rfl⟩
      rw [← hL0] at r05 ⊢
      clear hxb hzb r1b hbwb ho5 hgr5 hb5 hcb hOb HYQ HROWB hL0 hxx
      have hlen0 : 0 < ([.slice a ps.length c, v1, .slice none 0 0, .slice none 0 0, .slice none 0 0, .slice none 0 0, .slice none 0 0] : List Value).length := by simp
      go_wp2_with (with_reducible refine store_cell 22 _ _ 28 g1 0 [.slice a ps.length c, v1, .slice none 0 0, .slice none 0 0, .slice none 0 0, .slice none 0 0, .slice none 0 0] (.slice a5 L0 c5) size_rules hx5 rfl rfl rfl rfl hlen0 ?_; intro w6 hx6 hg6 hs6; refine hold ?_)
      refine hide ?_
      have r06 := r05.kept hg6 hx5
      have r16 := r15.kept hg6 hx5
      have hz6 := hz5.grown hg6 hg01
      have hbw6 := hbw5.grown hg6 hbw5.size (fun q hq => by cases hq; exact hg1w)
      have hx6 : Box w6 g1 28 [.slice a5 L0 c5, v1, .slice none 0 0, .slice none 0 0, .slice none 0 0, .slice none 0 0, .slice none 0 0] := hx6
      clear hx5 hz5 r05 r15 hbw5 hg6 hs6
      have al := blo w6 (.cells #[.int .u8 41, .int .u8 42, .int .u8 43, .int .u8 44, .int .u8 45, .int .u8 46, .int .u8 47, .int .u8 48, .int .u8 49, .int .u8 50] 5)
      have ub2 : UB (w6.alloc (.cells #[.int .u8 41, .int .u8 42, .int .u8 43, .int .u8 44, .int .u8 45, .int .u8 46, .int .u8 47, .int .u8 48, .int .u8 49, .int .u8 50] 5)) (.slice (some ⟨w6.heap.size, 0, none⟩) 10 10) [41, 42, 43, 44, 45, 46, 47, 48, 49, 50] := UB.new w6 [41, 42, 43, 44, 45, 46, 47, 48, 49, 50] 10 rfl (by decide)
      have hxl := hx6.alloc (.cells #[.int .u8 41, .int .u8 42, .int .u8 43, .int .u8 44, .int .u8 45, .int .u8 46, .int .u8 47, .int .u8 48, .int .u8 49, .int .u8 50] 5)
      have hln : 2 < ([.slice a5 L0 c5, v1, .slice none 0 0, .slice none 0 0, .slice none 0 0, .slice none 0 0, .slice none 0 0] : List Value).length := by simp
      go_wp2_with (with_reducible refine store_cell 26 _ _ 28 g1 2 [.slice a5 L0 c5, v1, .slice none 0 0, .slice none 0 0, .slice none 0 0, .slice none 0 0, .slice none 0 0] (.slice (some ⟨w6.heap.size, 0, none⟩) 10 10) size_row hxl rfl rfl rfl rfl hln ?_; intro w7 hx7 hg7 hs7; refine hold ?_)
      refine hide ?_
      have ub2 := ub2.kept hg7 hxl
      have r07 := (r06.below al).kept hg7 hxl
      have r17 := (r16.below al).kept hg7 hxl
      have hz7 := (hz6.under al).grown hg7 hg01
      have hbw7 := (hbw6.trans (al.mono hbw6.size)).grown hg7 (by have := hbw6.size; have := al.size; omega) (fun q hq => by cases hq; exact hg1w)
      obtain ⟨s2, hs2⟩ : ∃ s : Value, s = .slice (some ⟨w6.heap.size, 0, none⟩) 10 10 := ⟨_, rfl⟩
      rw [← hs2] at ub2 hx7 ⊢
      have hx7 : Box w7 g1 28 [.slice a5 L0 c5, v1, s2, .slice none 0 0, .slice none 0 0, .slice none 0 0, .slice none 0 0] := hx7
      clear hs2 al hxl hln hg7 hs7 hx6 r06 r16 hz6 hbw6
      have al := blo w7 (.cells #[.int .u8 60] 5)
      have ub3 : UB (w7.alloc (.cells #[.int .u8 60] 5)) (.slice (some ⟨w7.heap.size, 0, none⟩) 1 1) [60] := UB.new w7 [60] 1 rfl (by decide)
      have hxl := hx7.alloc (.cells #[.int .u8 60] 5)
      have hln : 3 < ([.slice a5 L0 c5, v1, s2, .slice none 0 0, .slice none 0 0, .slice none 0 0, .slice none 0 0] : List Value).length := by simp
      go_wp2_with (with_reducible refine store_cell 26 _ _ 28 g1 3 [.slice a5 L0 c5, v1, s2, .slice none 0 0, .slice none 0 0, .slice none 0 0, .slice none 0 0] (.slice (some ⟨w7.heap.size, 0, none⟩) 1 1) size_row hxl rfl rfl rfl rfl hln ?_; intro w8 hx8 hg8 hs8; refine hold ?_)
      refine hide ?_
      have ub2 := (ub2.below al).kept hg8 hxl
      have ub3 := ub3.kept hg8 hxl
      have r08 := (r07.below al).kept hg8 hxl
      have r18 := (r17.below al).kept hg8 hxl
      have hz8 := (hz7.under al).grown hg8 hg01
      have hbw8 := (hbw7.trans (al.mono hbw7.size)).grown hg8 (by have := hbw7.size; have := al.size; omega) (fun q hq => by cases hq; exact hg1w)
      obtain ⟨s3, hs3⟩ : ∃ s : Value, s = .slice (some ⟨w7.heap.size, 0, none⟩) 1 1 := ⟨_, rfl⟩
      rw [← hs3] at ub3 hx8 ⊢
      have hx8 : Box w8 g1 28 [.slice a5 L0 c5, v1, s2, s3, .slice none 0 0, .slice none 0 0, .slice none 0 0] := hx8
      clear hs3 al hxl hln hg8 hs8 hx7 r07 r17 hz7 hbw7
      have al := blo w8 (.cells #[.int .u8 61] 5)
      have ub4 : UB (w8.alloc (.cells #[.int .u8 61] 5)) (.slice (some ⟨w8.heap.size, 0, none⟩) 1 1) [61] := UB.new w8 [61] 1 rfl (by decide)
      have hxl := hx8.alloc (.cells #[.int .u8 61] 5)
      have hln : 4 < ([.slice a5 L0 c5, v1, s2, s3, .slice none 0 0, .slice none 0 0, .slice none 0 0] : List Value).length := by simp
      go_wp2_with (with_reducible refine store_cell 26 _ _ 28 g1 4 [.slice a5 L0 c5, v1, s2, s3, .slice none 0 0, .slice none 0 0, .slice none 0 0] (.slice (some ⟨w8.heap.size, 0, none⟩) 1 1) size_row hxl rfl rfl rfl rfl hln ?_; intro w9 hx9 hg9 hs9; refine hold ?_)
      refine hide ?_
      have ub2 := (ub2.below al).kept hg9 hxl
      have ub3 := (ub3.below al).kept hg9 hxl
      have ub4 := ub4.kept hg9 hxl
      have r09 := (r08.below al).kept hg9 hxl
      have r19 := (r18.below al).kept hg9 hxl
      have hz9 := (hz8.under al).grown hg9 hg01
      have hbw9 := (hbw8.trans (al.mono hbw8.size)).grown hg9 (by have := hbw8.size; have := al.size; omega) (fun q hq => by cases hq; exact hg1w)
      obtain ⟨s4, hs4⟩ : ∃ s : Value, s = .slice (some ⟨w8.heap.size, 0, none⟩) 1 1 := ⟨_, rfl⟩
      rw [← hs4] at ub4 hx9 ⊢
      have hx9 : Box w9 g1 28 [.slice a5 L0 c5, v1, s2, s3, s4, .slice none 0 0, .slice none 0 0] := hx9
      clear hs4 al hxl hln hg9 hs9 hx8 r08 r18 hz8 hbw8
      have al := blo w9 (.cells #[.int .u8 62] 5)
      have ub5 : UB (w9.alloc (.cells #[.int .u8 62] 5)) (.slice (some ⟨w9.heap.size, 0, none⟩) 1 1) [62] := UB.new w9 [62] 1 rfl (by decide)
      have hxl := hx9.alloc (.cells #[.int .u8 62] 5)
      have hln : 5 < ([.slice a5 L0 c5, v1, s2, s3, s4, .slice none 0 0, .slice none 0 0] : List Value).length := by simp
      go_wp2_with (with_reducible refine store_cell 26 _ _ 28 g1 5 [.slice a5 L0 c5, v1, s2, s3, s4, .slice none 0 0, .slice none 0 0] (.slice (some ⟨w9.heap.size, 0, none⟩) 1 1) size_row hxl rfl rfl rfl rfl hln ?_; intro w10 hx10 hg10 hs10; refine hold ?_)
      refine hide ?_
      have ub2 := (ub2.below al).kept hg10 hxl
      have ub3 := (ub3.below al).kept hg10 hxl
      have ub4 := (ub4.below al).kept hg10 hxl
      have ub5 := ub5.kept hg10 hxl
      have r010 := (r09.below al).kept hg10 hxl
      have r110 := (r19.below al).kept hg10 hxl
      have hz10 := (hz9.under al).grown hg10 hg01
      have hbw10 := (hbw9.trans (al.mono hbw9.size)).grown hg10 (by have := hbw9.size; have := al.size; omega) (fun q hq => by cases hq; exact hg1w)
      obtain ⟨s5, hs5⟩ : ∃ s : Value, s = .slice (some ⟨w9.heap.size, 0, none⟩) 1 1 := ⟨_, rfl⟩
      rw [← hs5] at ub5 hx10 ⊢
      have hx10 : Box w10 g1 28 [.slice a5 L0 c5, v1, s2, s3, s4, s5, .slice none 0 0] := hx10
      clear hs5 al hxl hln hg10 hs10 hx9 r09 r19 hz9 hbw9
      have al := blo w10 (.cells #[.int .u8 63] 5)
      have ub6 : UB (w10.alloc (.cells #[.int .u8 63] 5)) (.slice (some ⟨w10.heap.size, 0, none⟩) 1 1) [63] := UB.new w10 [63] 1 rfl (by decide)
      have hxl := hx10.alloc (.cells #[.int .u8 63] 5)
      have hln : 6 < ([.slice a5 L0 c5, v1, s2, s3, s4, s5, .slice none 0 0] : List Value).length := by simp
      go_wp2_with (with_reducible refine store_cell 26 _ _ 28 g1 6 [.slice a5 L0 c5, v1, s2, s3, s4, s5, .slice none 0 0] (.slice (some ⟨w10.heap.size, 0, none⟩) 1 1) size_row hxl rfl rfl rfl rfl hln ?_; intro w11 hx11 hg11 hs11; refine hold ?_)
      refine hide ?_
      have ub2 := (ub2.below al).kept hg11 hxl
      have ub3 := (ub3.below al).kept hg11 hxl
      have ub4 := (ub4.below al).kept hg11 hxl
      have ub5 := (ub5.below al).kept hg11 hxl
      have ub6 := ub6.kept hg11 hxl
      have r011 := (r010.below al).kept hg11 hxl
      have r111 := (r110.below al).kept hg11 hxl
      have hz11 := (hz10.under al).grown hg11 hg01
      have hbw11 := (hbw10.trans (al.mono hbw10.size)).grown hg11 (by have := hbw10.size; have := al.size; omega) (fun q hq => by cases hq; exact hg1w)
      obtain ⟨s6, hs6⟩ : ∃ s : Value, s = .slice (some ⟨w10.heap.size, 0, none⟩) 1 1 := ⟨_, rfl⟩
      rw [← hs6] at ub6 hx11 ⊢
      have hx11 : Box w11 g1 28 [.slice a5 L0 c5, v1, s2, s3, s4, s5, s6] := hx11
      clear hs6 al hxl hln hg11 hs11 hx10 r010 r110 hz10 hbw10
      obtain ⟨x1, y1, p1, rfl, hR1, hp1⟩ := r111
      obtain ⟨x0, y0, p0, hv0, hR0, hp0⟩ := r011
      injection hv0 with e1 e2 e3
      subst e1; subst e2; subst e3
      obtain ⟨x2, n2, y2, rfl, ho2⟩ := ub2
      obtain ⟨x3, n3, y3, rfl, ho3⟩ := ub3
      obtain ⟨x4, n4, y4, rfl, ho4⟩ := ub4
      obtain ⟨x5, n5, y5, rfl, ho5⟩ := ub5
      obtain ⟨x6, n6, y6, rfl, ho6⟩ := ub6
      have q0 : w11.cell? ⟨g1, 0, none⟩ = some (.slice a5 p0.length c5) := hx11.at_ rfl
      have q1 : w11.cell? ⟨g1, 1, none⟩ = some (.slice x1 p1.length y1) := hx11.at_ rfl
      have q2 : w11.cell? ⟨g1, 2, none⟩ = some (.slice x2 n2 y2) := hx11.at_ rfl
      have q3 : w11.cell? ⟨g1, 3, none⟩ = some (.slice x3 n3 y3) := hx11.at_ rfl
      have q4 : w11.cell? ⟨g1, 4, none⟩ = some (.slice x4 n4 y4) := hx11.at_ rfl
      have q5 : w11.cell? ⟨g1, 5, none⟩ = some (.slice x5 n5 y5) := hx11.at_ rfl
      have q6 : w11.cell? ⟨g1, 6, none⟩ = some (.slice x6 n6 y6) := hx11.at_ rfl
      have hone : ∀ u ∈ ([.slice a5 p0.length c5, .slice x1 p1.length y1, .slice x2 n2 y2, .slice x3 n3 y3, .slice x4 n4 y4, .slice x5 n5 y5, .slice x6 n6 y6] : List Value), u.oneCell' = true := by simp [Value.oneCell']
      go_wp2_with (with_reducible refine store_all 28 _ _ 28 w.heap.size [.slice none 0 0, .slice none 0 0, .slice none 0 0, .slice none 0 0, .slice none 0 0, .slice none 0 0, .slice none 0 0] [.slice a5 p0.length c5, .slice x1 p1.length y1, .slice x2 n2 y2, .slice x3 n3 y3, .slice x4 n4 y4, .slice x5 n5 y5, .slice x6 n6 y6] _ (size7 _ _ _ _ _ _ _) hz11 rfl rfl rfl (Eq.refl 7) hone ?_; intro w12 hx12 hg12 hs12)
      have hbw12 := hbw11.grown hg12 hbw11.size (fun q hq => by cases hq; exact Nat.le_refl _)
      have hR0' := (hR0.kept hg12 hz11 (by decide) (by decide)).rul
      have hR1' := (hR1.kept hg12 hz11 (by decide) (by decide)).rul
      have ho2b := (UB.kept ⟨x2, n2, y2, rfl, ho2⟩ hg12 hz11)
      obtain ⟨_, _, _, hh2, ho2c⟩ := ho2b
      injection hh2 with e1 e2 e3
      subst e1; subst e2; subst e3
      have ho3b := (UB.kept ⟨x3, n3, y3, rfl, ho3⟩ hg12 hz11)
      obtain ⟨_, _, _, hh3, ho3c⟩ := ho3b
      injection hh3 with e1 e2 e3
      subst e1; subst e2; subst e3
      have ho4b := (UB.kept ⟨x4, n4, y4, rfl, ho4⟩ hg12 hz11)
      obtain ⟨_, _, _, hh4, ho4c⟩ := ho4b
      injection hh4 with e1 e2 e3
      subst e1; subst e2; subst e3
      have ho5b := (UB.kept ⟨x5, n5, y5, rfl, ho5⟩ hg12 hz11)
      obtain ⟨_, _, _, hh5, ho5c⟩ := ho5b
      injection hh5 with e1 e2 e3
      subst e1; subst e2; subst e3
      have ho6b := (UB.kept ⟨x6, n6, y6, rfl, ho6⟩ hg12 hz11)
      obtain ⟨_, _, _, hh6, ho6c⟩ := ho6b
      injection hh6 with e1 e2 e3
      subst e1; subst e2; subst e3
      refine bodyPost_ret (run_results_cell rfl rfl agg_tables (size7 _ _ _ _ _ _ _) hx12) rfl ⟨⟨(a5, p0.length, c5), (x1, p1.length, y1), p0, p1, (x2, n2, y2), (x3, n3, y3), (x4, n4, y4), (x5, n5, y5), (x6, n6, y6)⟩, rfl, ⟨hR0', hR1', hp0, hp1, ho2c.sl, ho3c.sl, ho4c.sl, ho5c.sl, ho6c.sl⟩, hbw12⟩
end Go.Proofs.Ytkjcbneanaeleaa
end

/- the text Build -/
section
/- A slice literal, as a law of the walk that hands on an unnamed world. No program in sight. -/
set_option linter.unusedVariables false
namespace Go.Dx
open Go.RowKit
section
variable {P : Program} {w : World} {ops : Array Oper} {rest : List Oper} {act : Act} {Q : Exit → Act → World → Prop} {ty : TypeId} {pos : String} {after : Array Edge}
theorem build_own (d : Nat) (t : TypeId) (n : Nat) (ps : Array (Nat × Operand)) (e : TypeId) (ht : P.underlying t = some (.slice e)) (z : Value) (bytes : Nat) (hi : (P.info? e).map (fun i => (i.zero, i.size, i.bytes)) = some (some z, 1, bytes))
    (us : List Value) (hn : us.length = n) (h0 : 1 ≤ n) (hm : n ≤ 1000)
    (hf : Instr.fill (fun i => some (i * 1, 1)) ((Array.range (n * 1)).map (z.cells[· % z.cells.size]!)) ((ps.map fun (i, x) => (i, act.eval x)).toList) = some us.toArray)
    (hK : ∀ w', Own w' w.heap.size e 1 (some ⟨w.heap.size, 0, none⟩) n n us → Below w.heap.size w w' → w'.heap.size = w.heap.size + 1 → wpList P ops Q rest (act.put (some d) (.slice (some ⟨w.heap.size, 0, none⟩) n n)) w') :
    wpList P ops Q ({ dst := some d, op := .buildSlice t n ps, type := ty, pos := pos, after := after, guard := none } :: rest) act w := by
  refine wpList_plain rfl fun K hK' => ?_
  obtain ⟨i, hi0, hz0, hz1, hz2⟩ := info_parts hi
  have hrun : (Instr.buildSlice t n (ps.map fun (i, x) => (i, act.eval x))).run P w = .ok (.slice (some ⟨w.heap.size, 0, none⟩) n n) (w.alloc (.cells us.toArray e)) := by
    have h1 : ¬ (n * i.size > 16777216) := by rw [hz1]; omega
    have h2 : n * i.size ≠ 0 := by rw [hz1]; omega
    have h3 : n ≠ 0 := by omega
    have h4 : ¬ (n > 16777216) := by omega
    have h5 : ¬ (16777216 < n) := by omega
    simp only [Nat.mul_one] at hf
    simp [Instr.buildSlice, run_underlying ht, sizeOf, typeInfo, hi0, hz1, h3, h4, h5, zeroValue, hz0, newRow]
    simp at hf
    rw [hf]
    simp [newRow]
  unfold Oper.wp
  simp only [execOp, Sem.run_bind, hrun, Result.andThen, Sem.run_pure]
  refine hK' _ _ (hK _ ?_ ((Below.refl _ _).alloc (Nat.le_refl _) _) (by simp))
  have := Own.built w w.heap.size e 1 n us.toArray (Nat.le_refl _) (by simpa using hn) (by unfold maxLen; omega)
  simpa using this
end
end Go.Dx
end

/- the text B31 -/
section
/- Chapter 06: the section's examples hold. -/
namespace Go.Dx
open Go.RowKit
def FTx (l : List Sy) (vs : List Value) (w : World) : Prop := ∃ a n c, vs = [.slice a n c] ∧ Sl w 2 a n c (l.flatMap sc)
def FSt (L : List Stp) (vs : List Value) (w : World) : Prop := ∃ a n c ps, vs = [.slice a n c] ∧ Stl w a n c ps L
def FIn (l : List Int) (vs : List Value) (w : World) : Prop := ∃ a n c, vs = [.slice a n c] ∧ Sl w 1 a n c (l.map I64)
def FBy (l : List UInt8) (vs : List Value) (w : World) : Prop := ∃ a n c, vs = [.slice a n c] ∧ Sl w 1 a n c (l.map B8)
def FBB (l : List (List UInt8)) (vs : List Value) (w : World) : Prop := ∃ a n c hs, vs = [.slice a n c] ∧ BB w a n c hs l
theorem FTx.below {l : List Sy} {vs : List Value} {w w' : World} (h : FTx l vs w) (hb : Below w.heap.size w w') : FTx l vs w' := by obtain ⟨a, n, c, h1, h2⟩ := h; exact ⟨a, n, c, h1, h2.below hb⟩
theorem FSt.below {l : List Stp} {vs : List Value} {w w' : World} (h : FSt l vs w) (hb : Below w.heap.size w w') : FSt l vs w' := by obtain ⟨a, n, c, ps, h1, h2⟩ := h; exact ⟨a, n, c, ps, h1, h2.below hb⟩
theorem FIn.below {l : List Int} {vs : List Value} {w w' : World} (h : FIn l vs w) (hb : Below w.heap.size w w') : FIn l vs w' := by obtain ⟨a, n, c, h1, h2⟩ := h; exact ⟨a, n, c, h1, h2.below hb⟩
theorem FBy.below {l : List UInt8} {vs : List Value} {w w' : World} (h : FBy l vs w) (hb : Below w.heap.size w w') : FBy l vs w' := by obtain ⟨a, n, c, h1, h2⟩ := h; exact ⟨a, n, c, h1, h2.below hb⟩
theorem FBB.below {l : List (List UInt8)} {vs : List Value} {w w' : World} (h : FBB l vs w) (hb : Below w.heap.size w w') : FBB l vs w' := by obtain ⟨a, n, c, hs, h1, h2⟩ := h; exact ⟨a, n, c, hs, h1, h2.below hb⟩
theorem bb1 {w : World} {a : Option Addr} {n c : Nat} {x : Option Addr × Nat × Nat} {r : List UInt8} (ht : Sl w 1 a n c ([x].map hdv)) (h1 : Sl w 1 x.1 x.2.1 x.2.2 (r.map B8)) : BB w a n c [x] [r] :=
  ⟨ht, rfl, fun i h q hi hq => by
    match i with
    | 0 => simp at hi hq; subst hi hq; exact h1
    | i + 1 => simp at hi⟩
theorem bb2 {w : World} {a : Option Addr} {n c : Nat} {x y : Option Addr × Nat × Nat} {r s : List UInt8} (ht : Sl w 1 a n c ([x, y].map hdv)) (h1 : Sl w 1 x.1 x.2.1 x.2.2 (r.map B8)) (h2 : Sl w 1 y.1 y.2.1 y.2.2 (s.map B8)) : BB w a n c [x, y] [r, s] :=
  ⟨ht, rfl, fun i h q hi hq => by
    match i with
    | 0 => simp at hi hq; subst hi hq; exact h1
    | 1 => simp at hi hq; subst hi hq; exact h2
    | i + 2 => simp at hi⟩
theorem bb3 {w : World} {a : Option Addr} {n c : Nat} {x y z : Option Addr × Nat × Nat} {r s t : List UInt8} (ht : Sl w 1 a n c ([x, y, z].map hdv)) (h1 : Sl w 1 x.1 x.2.1 x.2.2 (r.map B8)) (h2 : Sl w 1 y.1 y.2.1 y.2.2 (s.map B8)) (h3 : Sl w 1 z.1 z.2.1 z.2.2 (t.map B8)) : BB w a n c [x, y, z] [r, s, t] :=
  ⟨ht, rfl, fun i h q hi hq => by
    match i with
    | 0 => simp at hi hq; subst hi hq; exact h1
    | 1 => simp at hi hq; subst hi hq; exact h2
    | 2 => simp at hi hq; subst hi hq; exact h3
    | i + 3 => simp at hi⟩
theorem lens_of {L : List Stp} {R : List (Int × List UInt8)} {lens : List Int} (h : L.map (fun s => (s.len, s.cells)) = R) (h2 : R.map (·.1) = lens) : L.map (·.len) = lens := by
  rw [← h2, ← h, List.map_map]; rfl
theorem rows_of {L : List Stp} {R : List (Int × List UInt8)} {rows : List (List UInt8)} (h : L.map (fun s => (s.len, s.cells)) = R) (h2 : R.map (·.2) = rows) : L.map (·.cells) = rows := by
  rw [← h2, ← h, List.map_map]; rfl
def scells (s : St) : List Value := [.int .i64 s.lang, .bool s.num, .bool s.wrd]
end Go.Dx
namespace Go.Proofs.Ytkjcbneanaeleaa
open Go.RowKit Go.Dx
theorem size_state : (Try.prog.info? 47).map (·.size) = some 3 := by kernel_rfl
theorem size_st3 (v0 v1 v2 : Value) : (Try.prog.info? 47).map (·.size) = some ([v0, v1, v2] : List Value).length := size_state
theorem steps_at (H : TH) (s : St) (l : List Sy) (i : Int) {L : List Stp} (hL : Hid (stepsL exTa s l i = L)) (a : Option Addr) (n c : Nat) (hll : l.length ≤ 1000000) (w : World) (hT : TaIs w H exTa) (hs : Sl w 2 a n c (l.flatMap sc)) :
    Calls Try.prog 16 #[H.v, sv s, .slice a n c, .int .i64 i] w (StepsR L w) := by
  have := tab_Steps H exTa s l a n c i hll w hT hs
  rw [hL.out] at this
  exact this
theorem valid_at (H : TH) (w : World) (hT : TaIs w H exTa) : Calls Try.prog 10 #[H.v] w fun e w' => e = .returned (.int .i64 0) ∧ Below w.heap.size w w' := by
  have := tab_Valid H exTa w hT
  rw [ex_valid] at this
  exact this

set_option maxRecDepth 100000 in
set_option maxHeartbeats 8000000 in
theorem law06_lives (w : World) : Calls Try.prog 12 #[] w fun e w' => e = .returned (.bool true) ∧ Below w.heap.size w w' := by
  obtain ⟨L1, HS1⟩ : ∃ L, Hid (stepsL exTa exSt (symsOf ⟨#[65, 110]⟩) 0 = L) := ⟨_, hide rfl⟩
  have HE1 := hide ex_1
  rw [HS1.out] at HE1
  obtain ⟨L2, HS2⟩ : ∃ L, Hid (stepsL exTa exSt (symsOf ⟨#[98, 97, 110]⟩) 1 = L) := ⟨_, hide rfl⟩
  have HE2 := hide ex_2
  rw [HS2.out] at HE2
  obtain ⟨L3, HS3⟩ : ∃ L, Hid (stepsL exTa exSt (symsOf ⟨#[98, 97, 110]⟩) 2 = L) := ⟨_, hide rfl⟩
  have HE3 := hide ex_3
  rw [HS3.out] at HE3
  obtain ⟨L4, HS4⟩ : ∃ L, Hid (stepsL exTa exSt (symsOf ⟨#[55, 46]⟩) 0 = L) := ⟨_, hide rfl⟩
  have HE4 := hide ex_4
  rw [HS4.out] at HE4
  obtain ⟨L5, HS5⟩ : ∃ L, Hid (stepsL exTa exNum (symsOf ⟨#[55, 97]⟩) 1 = L) := ⟨_, hide rfl⟩
  have HE5 := hide ex_5
  rw [HS5.out] at HE5
  obtain ⟨L6, HS6⟩ : ∃ L, Hid (stepsL exTa exNum (symsOf ⟨#[55, 46]⟩) 1 = L) := ⟨_, hide rfl⟩
  have HE6 := hide ex_6
  rw [HS6.out] at HE6
  obtain ⟨L7, HS7⟩ : ∃ L, Hid (stepsL exTa exSt [⟨1, 97⟩] 0 = L) := ⟨_, hide rfl⟩
  have HE7 := hide ex_7
  rw [HS7.out] at HE7
  go_enter Try.func12, Try.ntmps12
  go_wp2_with fail
  refine (law_example w).mono ?_
  rintro e w1 ⟨H, rfl, hT1, hb1⟩
  have Hm := hide hT1
  clear hT1
  obtain ⟨⟨a0, n0, c0⟩, ⟨a1, n1, c1⟩, ps0, ps1, ⟨ad, nd, cd⟩, ⟨ac, nc, cc⟩, ⟨an, nn, cn⟩, ⟨af, nf, cf⟩, ⟨aw, nw, cw⟩⟩ := H
  unfold TH.v
  simp only [hdv]
  have Y1 := Box.new w1 28 #[.slice a0 n0 c0, .slice a1 n1 c1, .slice ad nd cd, .slice ac nc cc, .slice an nn cn, .slice af nf cf, .slice aw nw cw]
  have Y2 := Box.new (w1.alloc (.cells #[.slice a0 n0 c0, .slice a1 n1 c1, .slice ad nd cd, .slice ac nc cc, .slice an nn cn, .slice af nf cf, .slice aw nw cw] 28)) 47 #[.int .i64 0, .bool false, .bool false]
  have Y3 := Box.new ((w1.alloc (.cells #[.slice a0 n0 c0, .slice a1 n1 c1, .slice ad nd cd, .slice ac nc cc, .slice an nn cn, .slice af nf cf, .slice aw nw cw] 28)).alloc (.cells #[.int .i64 0, .bool false, .bool false] 47)) 47 #[.int .i64 0, .bool true, .bool false]
  have hX1 := (Y1.alloc (.cells #[.int .i64 0, .bool false, .bool false] 47)).alloc (.cells #[.int .i64 0, .bool true, .bool false] 47)
  have hX2 := Y2.alloc (.cells #[.int .i64 0, .bool true, .bool false] 47)
  have hX3 := Y3
  have hbw := (blo w1 (.cells #[.slice a0 n0 c0, .slice a1 n1 c1, .slice ad nd cd, .slice ac nc cc, .slice an nn cn, .slice af nf cf, .slice aw nw cw] 28)).trans (((blo _ (.cells #[.int .i64 0, .bool false, .bool false] 47)).trans ((blo _ (.cells #[.int .i64 0, .bool true, .bool false] 47)).mono (blo _ _).size)).mono (blo _ _).size)
  have z2 : (w1.alloc (.cells #[.slice a0 n0 c0, .slice a1 n1 c1, .slice ad nd cd, .slice ac nc cc, .slice an nn cn, .slice af nf cf, .slice aw nw cw] 28)).heap.size = w1.heap.size + 1 := by simp
  have z3 : ((w1.alloc (.cells #[.slice a0 n0 c0, .slice a1 n1 c1, .slice ad nd cd, .slice ac nc cc, .slice an nn cn, .slice af nf cf, .slice aw nw cw] 28)).alloc (.cells #[.int .i64 0, .bool false, .bool false] 47)).heap.size = w1.heap.size + 1 + 1 := by simp
  rw [z2] at hX2
  rw [z3] at hX3
  clear Y1 Y2 Y3 z2 z3
  go_wp2_with fail
  generalize ((w1.alloc (.cells _ 28)).alloc (.cells _ 47)).alloc (.cells _ 47) = w3 at *
  obtain ⟨H, hH⟩ : ∃ H : TH, H = ⟨(a0, n0, c0), (a1, n1, c1), ps0, ps1, (ad, nd, cd), (ac, nc, cc), (an, nn, cn), (af, nf, cf), (aw, nw, cw)⟩ := ⟨_, rfl⟩
  have hX1 : Box w3 w1.heap.size 28 (tcells H) := by rw [hH]; exact hX1
  have hTa : TaIs w3 H exTa := by rw [hH]; exact Hm.out.below hbw
  have hX2 : Box w3 (w1.heap.size + 1) 47 (scells exSt) := hX2
  have hX3 : Box w3 (w1.heap.size + 1 + 1) 47 (scells exNum) := hX3
  have hB := hb1.trans (hbw.mono hb1.size)
  clear hH Hm hbw hb1
  generalize w1.heap.size = ga at *
  obtain ⟨gb, hg2⟩ : ∃ gb, gb = ga + 1 := ⟨_, rfl⟩
  rw [← hg2] at hX2 hX3 ⊢
  clear hg2
  obtain ⟨gc, hg3⟩ : ∃ gc, gc = gb + 1 := ⟨_, rfl⟩
  rw [← hg3] at hX3 ⊢
  clear hg3
  go_cut [4] from 10 to 30 (fun v w' => v = .bool true ∧ Below w3.heap.size w3 w')
  case first =>
    refine wp_region_free 21 [⟨0, 10, [10], fun vs _ => vs = [H.v]⟩, ⟨1, 11, [11], fun vs _ => vs = [sv exSt]⟩, ⟨2, 12, [12], FTx (symsOf ⟨#[65, 110]⟩)⟩, ⟨3, 13, [13], FSt L1⟩, ⟨4, 14, [14], FIn [1, 2, 2]⟩, ⟨5, 15, [15], FBy [60, 1]⟩, ⟨6, 16, [16], FBy [60, 30]⟩, ⟨7, 17, [17], FBy [60, 31]⟩, ⟨8, 18, [18], FBB [[60, 1], [60, 30], [60, 31]]⟩, ⟨9, 19, [19], fun vs _ => vs = [.bool true]⟩, ⟨10, 20, [20], fun vs _ => vs = [.bool true]⟩, ⟨11, 21, [21], fun vs _ => vs = [H.v]⟩, ⟨12, 22, [22], fun vs _ => vs = [sv exSt]⟩, ⟨13, 23, [23], FTx (symsOf ⟨#[98, 97, 110]⟩)⟩, ⟨14, 24, [24], FSt L2⟩, ⟨15, 25, [25], FIn [1, 2]⟩, ⟨16, 26, [26], FBy [1]⟩, ⟨17, 27, [27], FBy [30]⟩, ⟨18, 28, [28], FBB [[1], [30]]⟩, ⟨19, 29, [29], fun vs _ => vs = [.bool true]⟩, ⟨20, 30, [30], fun vs _ => vs = [.bool true]⟩] (by kernel_rfl) (by kernel_rfl) ?_ ?_ ?_
    · simp only [All]
      refine ⟨fun _ _ _ _ h => h, fun _ _ _ _ h => h, ?_, ?_, ?_, ?_, ?_, ?_, ?_, fun _ _ _ _ h => h, fun _ _ _ _ h => h, fun _ _ _ _ h => h, fun _ _ _ _ h => h, ?_, ?_, ?_, ?_, ?_, ?_, fun _ _ _ _ h => h, fun _ _ _ _ h => h, trivial⟩
      · exact fun _ _ _ hb h => h.below hb
      · exact fun _ _ _ hb h => h.below hb
      · exact fun _ _ _ hb h => h.below hb
      · exact fun _ _ _ hb h => h.below hb
      · exact fun _ _ _ hb h => h.below hb
      · exact fun _ _ _ hb h => h.below hb
      · exact fun _ _ _ hb h => h.below hb
      · exact fun _ _ _ hb h => h.below hb
      · exact fun _ _ _ hb h => h.below hb
      · exact fun _ _ _ hb h => h.below hb
      · exact fun _ _ _ hb h => h.below hb
      · exact fun _ _ _ hb h => h.below hb
      · exact fun _ _ _ hb h => h.below hb
    · simp only [All]
      refine ⟨?_, ?_, ?_, ?_, ?_, ?_, ?_, ?_, ?_, ?_, ?_, ?_, ?_, ?_, ?_, ?_, ?_, ?_, ?_, ?_, ?_, trivial⟩
      · intro o ho a' w' hb hfr hdep
        obtain rfl := Option.some.inj ho
        have g1 : a'.tmps[1]?.getD undef = .pointer (some ⟨ga, 0, none⟩) := by have h := hfr 1 (by kernel_rfl); simpa using h
        clear ho hfr hdep
        refine load_struct 10 28 _ 7 size_tables _ Try.underlying28 ⟨ga, 0, none⟩ (by show a'.tmps.getD 1 undef = _; simpa using g1) (tcells H) rfl (fun j u hj => by rw [Addr.add_lit, Nat.zero_add]; exact (hX1.under hb).at_ hj) ?_
        exact ⟨rfl, _, rfl, Below.refl _ _, rfl⟩
      · intro o ho a' w' hb hfr hdep
        obtain rfl := Option.some.inj ho
        have g2 : a'.tmps[2]?.getD undef = .pointer (some ⟨gb, 0, none⟩) := by have h := hfr 2 (by kernel_rfl); simpa using h
        clear ho hfr hdep
        refine load_struct 11 47 _ 3 size_state _ Try.underlying47 ⟨gb, 0, none⟩ (by show a'.tmps.getD 2 undef = _; simpa using g2) (scells exSt) rfl (fun j u hj => by rw [Addr.add_lit, Nat.zero_add]; exact (hX2.under hb).at_ hj) ?_
        exact ⟨rfl, _, rfl, Below.refl _ _, rfl⟩
      · intro o ho a' w' hb hfr hdep
        obtain rfl := Option.some.inj ho
        clear ho hfr hdep
        go_wp2_with fail
        refine (law_text ⟨#[65, 110]⟩ (by decide) _).mono ?_
        rintro e w2 ⟨a, c, rfl, h1, h2⟩
        go_wp2_with fail
        exact ⟨rfl, _, rfl, h2, a, _, c, rfl, h1.sl⟩
      · intro o ho a' w' hb hfr hdep
        obtain rfl := Option.some.inj ho
        have g10 : a'.tmps[10]?.getD undef = H.v := by have h := hdep 0 _ rfl (by kernel_rfl); simpa using h
        have g11 : a'.tmps[11]?.getD undef = sv exSt := by have h := hdep 1 _ rfl (by kernel_rfl); simpa using h
        obtain ⟨aX, nX, cX, g12, hsX⟩ := hdep 2 _ rfl (by kernel_rfl)
        replace g12 : a'.tmps[12]?.getD undef = .slice aX nX cX := by simpa using g12
        clear ho hfr hdep
        go_wp2_with fail
        refine (steps_at H exSt (symsOf ⟨#[65, 110]⟩) 0 HS1 aX nX cX (by decide) _ (hTa.below hb) hsX).mono ?_
        rintro e w2 ⟨a, c, ps, rfl, h1, h2⟩
        go_wp2_with fail
        exact ⟨rfl, _, rfl, h2, a, _, c, ps, rfl, h1⟩
      · intro o ho a' w' hb hfr hdep
        obtain rfl := Option.some.inj ho
        clear ho hfr hdep
        go_wp2_with fail
        exact ⟨rfl, _, rfl, blo _ _, _, _, _, rfl, Sl.fresh _ _ 1 3 (([1, 2, 2] : List Int).map I64) rfl (by decide)⟩
      · intro o ho a' w' hb hfr hdep
        obtain rfl := Option.some.inj ho
        clear ho hfr hdep
        go_wp2_with fail
        exact ⟨rfl, _, rfl, blo _ _, _, _, _, rfl, Sl.fresh _ _ 1 2 (([60, 1] : List UInt8).map B8) rfl (by decide)⟩
      · intro o ho a' w' hb hfr hdep
        obtain rfl := Option.some.inj ho
        clear ho hfr hdep
        go_wp2_with fail
        exact ⟨rfl, _, rfl, blo _ _, _, _, _, rfl, Sl.fresh _ _ 1 2 (([60, 30] : List UInt8).map B8) rfl (by decide)⟩
      · intro o ho a' w' hb hfr hdep
        obtain rfl := Option.some.inj ho
        clear ho hfr hdep
        go_wp2_with fail
        exact ⟨rfl, _, rfl, blo _ _, _, _, _, rfl, Sl.fresh _ _ 1 2 (([60, 31] : List UInt8).map B8) rfl (by decide)⟩
      · intro o ho a' w' hb hfr hdep
        obtain rfl := Option.some.inj ho
        obtain ⟨a10, n10, c10, g15, hs10⟩ := hdep 5 _ rfl (by kernel_rfl)
        replace g15 : a'.tmps[15]?.getD undef = .slice a10 n10 c10 := by simpa using g15
        obtain ⟨a11, n11, c11, g16, hs11⟩ := hdep 6 _ rfl (by kernel_rfl)
        replace g16 : a'.tmps[16]?.getD undef = .slice a11 n11 c11 := by simpa using g16
        obtain ⟨a12, n12, c12, g17, hs12⟩ := hdep 7 _ rfl (by kernel_rfl)
        replace g17 : a'.tmps[17]?.getD undef = .slice a12 n12 c12 := by simpa using g17
        clear ho hfr hdep
        go_wp2_with fail
        exact ⟨rfl, _, rfl, blo _ _, _, _, _, [(a10, n10, c10), (a11, n11, c11), (a12, n12, c12)], rfl, bb3 (Sl.fresh _ _ 1 3 ([(a10, n10, c10), (a11, n11, c11), (a12, n12, c12)].map hdv) rfl (by decide)) (hs10.below (blo _ _)) (hs11.below (blo _ _)) (hs12.below (blo _ _))⟩
      · intro o ho a' w' hb hfr hdep
        obtain rfl := Option.some.inj ho
        obtain ⟨aP, nP, cP, psP, g13, hsP⟩ := hdep 3 _ rfl (by kernel_rfl)
        replace g13 : a'.tmps[13]?.getD undef = .slice aP nP cP := by simpa using g13
        obtain ⟨aI, nI, cI, g14, hsI⟩ := hdep 4 _ rfl (by kernel_rfl)
        replace g14 : a'.tmps[14]?.getD undef = .slice aI nI cI := by simpa using g14
        obtain ⟨aB, nB, cB, hsB', g18, hsB⟩ := hdep 8 _ rfl (by kernel_rfl)
        replace g18 : a'.tmps[18]?.getD undef = .slice aB nB cB := by simpa using g18
        clear ho hfr hdep
        go_wp2_with fail
        refine (law_are L1 psP aP nP cP _ aI nI cI _ hsB' aB nB cB _ hsP hsI hsB (lens_of HE1.out rfl) (rows_of HE1.out rfl)).mono ?_
        rintro e w2 ⟨rfl, h2⟩
        go_wp2_with fail
        exact ⟨rfl, _, rfl, h2, rfl⟩
      · intro o ho a' w' hb hfr hdep
        obtain rfl := Option.some.inj ho
        have g19 : a'.tmps[19]?.getD undef = .bool true := by have h := hdep 9 _ rfl (by kernel_rfl); simpa using h
        clear ho hfr hdep
        go_wp2_with fail
        exact ⟨rfl, _, rfl, Below.refl _ _, rfl⟩
      · intro o ho a' w' hb hfr hdep
        obtain rfl := Option.some.inj ho
        have g1 : a'.tmps[1]?.getD undef = .pointer (some ⟨ga, 0, none⟩) := by have h := hfr 1 (by kernel_rfl); simpa using h
        have g20 : a'.tmps[20]?.getD undef = .bool true := by have h := hdep 10 _ rfl (by kernel_rfl); simpa using h
        have q20 := opt_bool g20
        clear ho hfr hdep
        refine unguard_any (by simp [Region.wanted, yielded, q20]) ?_
        refine load_struct 21 28 _ 7 size_tables _ Try.underlying28 ⟨ga, 0, none⟩ (by show a'.tmps.getD 1 undef = _; simpa using g1) (tcells H) rfl (fun j u hj => by rw [Addr.add_lit, Nat.zero_add]; exact (hX1.under hb).at_ hj) ?_
        exact ⟨rfl, _, rfl, Below.refl _ _, rfl⟩
      · intro o ho a' w' hb hfr hdep
        obtain rfl := Option.some.inj ho
        have g2 : a'.tmps[2]?.getD undef = .pointer (some ⟨gb, 0, none⟩) := by have h := hfr 2 (by kernel_rfl); simpa using h
        have g20 : a'.tmps[20]?.getD undef = .bool true := by have h := hdep 10 _ rfl (by kernel_rfl); simpa using h
        have q20 := opt_bool g20
        clear ho hfr hdep
        refine unguard_any (by simp [Region.wanted, yielded, q20]) ?_
        refine load_struct 22 47 _ 3 size_state _ Try.underlying47 ⟨gb, 0, none⟩ (by show a'.tmps.getD 2 undef = _; simpa using g2) (scells exSt) rfl (fun j u hj => by rw [Addr.add_lit, Nat.zero_add]; exact (hX2.under hb).at_ hj) ?_
        exact ⟨rfl, _, rfl, Below.refl _ _, rfl⟩
      · intro o ho a' w' hb hfr hdep
        obtain rfl := Option.some.inj ho
        have g20 : a'.tmps[20]?.getD undef = .bool true := by have h := hdep 10 _ rfl (by kernel_rfl); simpa using h
        have q20 := opt_bool g20
        clear ho hfr hdep
        go_wp2_with fail
        refine (law_text ⟨#[98, 97, 110]⟩ (by decide) _).mono ?_
        rintro e w2 ⟨a, c, rfl, h1, h2⟩
        go_wp2_with fail
        exact ⟨rfl, _, rfl, h2, a, _, c, rfl, h1.sl⟩
      · intro o ho a' w' hb hfr hdep
        obtain rfl := Option.some.inj ho
        have g21 : a'.tmps[21]?.getD undef = H.v := by have h := hdep 11 _ rfl (by kernel_rfl); simpa using h
        have g22 : a'.tmps[22]?.getD undef = sv exSt := by have h := hdep 12 _ rfl (by kernel_rfl); simpa using h
        obtain ⟨aX, nX, cX, g23, hsX⟩ := hdep 13 _ rfl (by kernel_rfl)
        replace g23 : a'.tmps[23]?.getD undef = .slice aX nX cX := by simpa using g23
        have g20 : a'.tmps[20]?.getD undef = .bool true := by have h := hdep 10 _ rfl (by kernel_rfl); simpa using h
        have q20 := opt_bool g20
        clear ho hfr hdep
        go_wp2_with fail
        refine (steps_at H exSt (symsOf ⟨#[98, 97, 110]⟩) 1 HS2 aX nX cX (by decide) _ (hTa.below hb) hsX).mono ?_
        rintro e w2 ⟨a, c, ps, rfl, h1, h2⟩
        go_wp2_with fail
        exact ⟨rfl, _, rfl, h2, a, _, c, ps, rfl, h1⟩
      · intro o ho a' w' hb hfr hdep
        obtain rfl := Option.some.inj ho
        have g20 : a'.tmps[20]?.getD undef = .bool true := by have h := hdep 10 _ rfl (by kernel_rfl); simpa using h
        have q20 := opt_bool g20
        clear ho hfr hdep
        go_wp2_with fail
        exact ⟨rfl, _, rfl, blo _ _, _, _, _, rfl, Sl.fresh _ _ 1 2 (([1, 2] : List Int).map I64) rfl (by decide)⟩
      · intro o ho a' w' hb hfr hdep
        obtain rfl := Option.some.inj ho
        have g20 : a'.tmps[20]?.getD undef = .bool true := by have h := hdep 10 _ rfl (by kernel_rfl); simpa using h
        have q20 := opt_bool g20
        clear ho hfr hdep
        go_wp2_with fail
        exact ⟨rfl, _, rfl, blo _ _, _, _, _, rfl, Sl.fresh _ _ 1 1 (([1] : List UInt8).map B8) rfl (by decide)⟩
      · intro o ho a' w' hb hfr hdep
        obtain rfl := Option.some.inj ho
        have g20 : a'.tmps[20]?.getD undef = .bool true := by have h := hdep 10 _ rfl (by kernel_rfl); simpa using h
        have q20 := opt_bool g20
        clear ho hfr hdep
        go_wp2_with fail
        exact ⟨rfl, _, rfl, blo _ _, _, _, _, rfl, Sl.fresh _ _ 1 1 (([30] : List UInt8).map B8) rfl (by decide)⟩
      · intro o ho a' w' hb hfr hdep
        obtain rfl := Option.some.inj ho
        obtain ⟨a10, n10, c10, g26, hs10⟩ := hdep 16 _ rfl (by kernel_rfl)
        replace g26 : a'.tmps[26]?.getD undef = .slice a10 n10 c10 := by simpa using g26
        obtain ⟨a11, n11, c11, g27, hs11⟩ := hdep 17 _ rfl (by kernel_rfl)
        replace g27 : a'.tmps[27]?.getD undef = .slice a11 n11 c11 := by simpa using g27
        have g20 : a'.tmps[20]?.getD undef = .bool true := by have h := hdep 10 _ rfl (by kernel_rfl); simpa using h
        have q20 := opt_bool g20
        clear ho hfr hdep
        go_wp2_with fail
        exact ⟨rfl, _, rfl, blo _ _, _, _, _, [(a10, n10, c10), (a11, n11, c11)], rfl, bb2 (Sl.fresh _ _ 1 2 ([(a10, n10, c10), (a11, n11, c11)].map hdv) rfl (by decide)) (hs10.below (blo _ _)) (hs11.below (blo _ _))⟩
      · intro o ho a' w' hb hfr hdep
        obtain rfl := Option.some.inj ho
        obtain ⟨aP, nP, cP, psP, g24, hsP⟩ := hdep 14 _ rfl (by kernel_rfl)
        replace g24 : a'.tmps[24]?.getD undef = .slice aP nP cP := by simpa using g24
        obtain ⟨aI, nI, cI, g25, hsI⟩ := hdep 15 _ rfl (by kernel_rfl)
        replace g25 : a'.tmps[25]?.getD undef = .slice aI nI cI := by simpa using g25
        obtain ⟨aB, nB, cB, hsB', g28, hsB⟩ := hdep 18 _ rfl (by kernel_rfl)
        replace g28 : a'.tmps[28]?.getD undef = .slice aB nB cB := by simpa using g28
        have g20 : a'.tmps[20]?.getD undef = .bool true := by have h := hdep 10 _ rfl (by kernel_rfl); simpa using h
        have q20 := opt_bool g20
        clear ho hfr hdep
        go_wp2_with fail
        refine (law_are L2 psP aP nP cP _ aI nI cI _ hsB' aB nB cB _ hsP hsI hsB (lens_of HE2.out rfl) (rows_of HE2.out rfl)).mono ?_
        rintro e w2 ⟨rfl, h2⟩
        go_wp2_with fail
        exact ⟨rfl, _, rfl, h2, rfl⟩
      · intro o ho a' w' hb hfr hdep
        obtain rfl := Option.some.inj ho
        have g20 : a'.tmps[20]?.getD undef = .bool true := by have h := hdep 10 _ rfl (by kernel_rfl); simpa using h
        have g29 : a'.tmps[29]?.getD undef = .bool true := by have h := hdep 19 _ rfl (by kernel_rfl); simpa using h
        clear ho hfr hdep
        go_wp2_with fail
        exact ⟨rfl, _, rfl, Below.refl _ _, rfl⟩
    · intro g w9 hb9 hp9
      have p30 := hp9 20 _ rfl
      clear hp9
      simp at p30
      simp only [List.drop_succ_cons, List.drop_zero, List.map_cons, List.map_nil, putAll, Act.put, List.setIfInBounds_toArray, List.set_cons_succ, List.set_cons_zero, p30]
      clear p30
      go_wp2_with fail
      go_meet
      exact ⟨rfl, hb9⟩
  case rest =>
  obtain ⟨rfl, hb4⟩ := hcut
  have hTa := hTa.below hb4
  have hX1 := hX1.under hb4
  have hX2 := hX2.under hb4
  have hX3 := hX3.under hb4
  have hB := hB.trans (hb4.mono hB.size)
  clear hb4
  obtain ⟨w4, rfl⟩ : ∃ w4 : World, w4 = wc := ⟨_, rfl⟩
  go_wp2_with fail
  go_cut [5] from 31 to 49 (fun v w' => v = .bool true ∧ Below w4.heap.size w4 w')
  case first =>
    refine wp_region_free 19 [⟨0, 31, [31], fun vs _ => vs = [H.v]⟩, ⟨1, 32, [32], fun vs _ => vs = [sv exSt]⟩, ⟨2, 33, [33], FTx (symsOf ⟨#[98, 97, 110]⟩)⟩, ⟨3, 34, [34], FSt L3⟩, ⟨4, 35, [35], FIn [1, 1]⟩, ⟨5, 36, [36], FBy [14]⟩, ⟨6, 37, [37], FBy [32]⟩, ⟨7, 38, [38], FBB [[14], [32]]⟩, ⟨8, 39, [39], fun vs _ => vs = [.bool true]⟩, ⟨9, 40, [40], fun vs _ => vs = [.bool true]⟩, ⟨10, 41, [41], fun vs _ => vs = [H.v]⟩, ⟨11, 42, [42], fun vs _ => vs = [sv exSt]⟩, ⟨12, 43, [43], FTx (symsOf ⟨#[55, 46]⟩)⟩, ⟨13, 44, [44], FSt L4⟩, ⟨14, 45, [45], FIn [1]⟩, ⟨15, 46, [46], FBy [61, 48]⟩, ⟨16, 47, [47], FBB [[61, 48]]⟩, ⟨17, 48, [48], fun vs _ => vs = [.bool true]⟩, ⟨18, 49, [49], fun vs _ => vs = [.bool true]⟩] (by kernel_rfl) (by kernel_rfl) ?_ ?_ ?_
    · simp only [All]
      refine ⟨fun _ _ _ _ h => h, fun _ _ _ _ h => h, ?_, ?_, ?_, ?_, ?_, ?_, fun _ _ _ _ h => h, fun _ _ _ _ h => h, fun _ _ _ _ h => h, fun _ _ _ _ h => h, ?_, ?_, ?_, ?_, ?_, fun _ _ _ _ h => h, fun _ _ _ _ h => h, trivial⟩
      · exact fun _ _ _ hb h => h.below hb
      · exact fun _ _ _ hb h => h.below hb
      · exact fun _ _ _ hb h => h.below hb
      · exact fun _ _ _ hb h => h.below hb
      · exact fun _ _ _ hb h => h.below hb
      · exact fun _ _ _ hb h => h.below hb
      · exact fun _ _ _ hb h => h.below hb
      · exact fun _ _ _ hb h => h.below hb
      · exact fun _ _ _ hb h => h.below hb
      · exact fun _ _ _ hb h => h.below hb
      · exact fun _ _ _ hb h => h.below hb
    · simp only [All]
      refine ⟨?_, ?_, ?_, ?_, ?_, ?_, ?_, ?_, ?_, ?_, ?_, ?_, ?_, ?_, ?_, ?_, ?_, ?_, ?_, trivial⟩
      · intro o ho a' w' hb hfr hdep
        obtain rfl := Option.some.inj ho
        have g1 : a'.tmps[1]?.getD undef = .pointer (some ⟨ga, 0, none⟩) := by have h := hfr 1 (by kernel_rfl); simpa using h
        clear ho hfr hdep
        refine load_struct 31 28 _ 7 size_tables _ Try.underlying28 ⟨ga, 0, none⟩ (by show a'.tmps.getD 1 undef = _; simpa using g1) (tcells H) rfl (fun j u hj => by rw [Addr.add_lit, Nat.zero_add]; exact (hX1.under hb).at_ hj) ?_
        exact ⟨rfl, _, rfl, Below.refl _ _, rfl⟩
      · intro o ho a' w' hb hfr hdep
        obtain rfl := Option.some.inj ho
        have g2 : a'.tmps[2]?.getD undef = .pointer (some ⟨gb, 0, none⟩) := by have h := hfr 2 (by kernel_rfl); simpa using h
        clear ho hfr hdep
        refine load_struct 32 47 _ 3 size_state _ Try.underlying47 ⟨gb, 0, none⟩ (by show a'.tmps.getD 2 undef = _; simpa using g2) (scells exSt) rfl (fun j u hj => by rw [Addr.add_lit, Nat.zero_add]; exact (hX2.under hb).at_ hj) ?_
        exact ⟨rfl, _, rfl, Below.refl _ _, rfl⟩
      · intro o ho a' w' hb hfr hdep
        obtain rfl := Option.some.inj ho
        clear ho hfr hdep
        go_wp2_with fail
        refine (law_text ⟨#[98, 97, 110]⟩ (by decide) _).mono ?_
        rintro e w2 ⟨a, c, rfl, h1, h2⟩
        go_wp2_with fail
        exact ⟨rfl, _, rfl, h2, a, _, c, rfl, h1.sl⟩
      · intro o ho a' w' hb hfr hdep
        obtain rfl := Option.some.inj ho
        have g31 : a'.tmps[31]?.getD undef = H.v := by have h := hdep 0 _ rfl (by kernel_rfl); simpa using h
        have g32 : a'.tmps[32]?.getD undef = sv exSt := by have h := hdep 1 _ rfl (by kernel_rfl); simpa using h
        obtain ⟨aX, nX, cX, g33, hsX⟩ := hdep 2 _ rfl (by kernel_rfl)
        replace g33 : a'.tmps[33]?.getD undef = .slice aX nX cX := by simpa using g33
        clear ho hfr hdep
        go_wp2_with fail
        refine (steps_at H exSt (symsOf ⟨#[98, 97, 110]⟩) 2 HS3 aX nX cX (by decide) _ (hTa.below hb) hsX).mono ?_
        rintro e w2 ⟨a, c, ps, rfl, h1, h2⟩
        go_wp2_with fail
        exact ⟨rfl, _, rfl, h2, a, _, c, ps, rfl, h1⟩
      · intro o ho a' w' hb hfr hdep
        obtain rfl := Option.some.inj ho
        clear ho hfr hdep
        go_wp2_with fail
        exact ⟨rfl, _, rfl, blo _ _, _, _, _, rfl, Sl.fresh _ _ 1 2 (([1, 1] : List Int).map I64) rfl (by decide)⟩
      · intro o ho a' w' hb hfr hdep
        obtain rfl := Option.some.inj ho
        clear ho hfr hdep
        go_wp2_with fail
        exact ⟨rfl, _, rfl, blo _ _, _, _, _, rfl, Sl.fresh _ _ 1 1 (([14] : List UInt8).map B8) rfl (by decide)⟩
      · intro o ho a' w' hb hfr hdep
        obtain rfl := Option.some.inj ho
        clear ho hfr hdep
        go_wp2_with fail
        exact ⟨rfl, _, rfl, blo _ _, _, _, _, rfl, Sl.fresh _ _ 1 1 (([32] : List UInt8).map B8) rfl (by decide)⟩
      · intro o ho a' w' hb hfr hdep
        obtain rfl := Option.some.inj ho
        obtain ⟨a10, n10, c10, g36, hs10⟩ := hdep 5 _ rfl (by kernel_rfl)
        replace g36 : a'.tmps[36]?.getD undef = .slice a10 n10 c10 := by simpa using g36
        obtain ⟨a11, n11, c11, g37, hs11⟩ := hdep 6 _ rfl (by kernel_rfl)
        replace g37 : a'.tmps[37]?.getD undef = .slice a11 n11 c11 := by simpa using g37
        clear ho hfr hdep
        go_wp2_with fail
        exact ⟨rfl, _, rfl, blo _ _, _, _, _, [(a10, n10, c10), (a11, n11, c11)], rfl, bb2 (Sl.fresh _ _ 1 2 ([(a10, n10, c10), (a11, n11, c11)].map hdv) rfl (by decide)) (hs10.below (blo _ _)) (hs11.below (blo _ _))⟩
      · intro o ho a' w' hb hfr hdep
        obtain rfl := Option.some.inj ho
        obtain ⟨aP, nP, cP, psP, g34, hsP⟩ := hdep 3 _ rfl (by kernel_rfl)
        replace g34 : a'.tmps[34]?.getD undef = .slice aP nP cP := by simpa using g34
        obtain ⟨aI, nI, cI, g35, hsI⟩ := hdep 4 _ rfl (by kernel_rfl)
        replace g35 : a'.tmps[35]?.getD undef = .slice aI nI cI := by simpa using g35
        obtain ⟨aB, nB, cB, hsB', g38, hsB⟩ := hdep 7 _ rfl (by kernel_rfl)
        replace g38 : a'.tmps[38]?.getD undef = .slice aB nB cB := by simpa using g38
        clear ho hfr hdep
        go_wp2_with fail
        refine (law_are L3 psP aP nP cP _ aI nI cI _ hsB' aB nB cB _ hsP hsI hsB (lens_of HE3.out rfl) (rows_of HE3.out rfl)).mono ?_
        rintro e w2 ⟨rfl, h2⟩
        go_wp2_with fail
        exact ⟨rfl, _, rfl, h2, rfl⟩
      · intro o ho a' w' hb hfr hdep
        obtain rfl := Option.some.inj ho
        have g39 : a'.tmps[39]?.getD undef = .bool true := by have h := hdep 8 _ rfl (by kernel_rfl); simpa using h
        clear ho hfr hdep
        go_wp2_with fail
        exact ⟨rfl, _, rfl, Below.refl _ _, rfl⟩
      · intro o ho a' w' hb hfr hdep
        obtain rfl := Option.some.inj ho
        have g1 : a'.tmps[1]?.getD undef = .pointer (some ⟨ga, 0, none⟩) := by have h := hfr 1 (by kernel_rfl); simpa using h
        have g40 : a'.tmps[40]?.getD undef = .bool true := by have h := hdep 9 _ rfl (by kernel_rfl); simpa using h
        have q40 := opt_bool g40
        clear ho hfr hdep
        refine unguard_any (by simp [Region.wanted, yielded, q40]) ?_
        refine load_struct 41 28 _ 7 size_tables _ Try.underlying28 ⟨ga, 0, none⟩ (by show a'.tmps.getD 1 undef = _; simpa using g1) (tcells H) rfl (fun j u hj => by rw [Addr.add_lit, Nat.zero_add]; exact (hX1.under hb).at_ hj) ?_
        exact ⟨rfl, _, rfl, Below.refl _ _, rfl⟩
      · intro o ho a' w' hb hfr hdep
        obtain rfl := Option.some.inj ho
        have g2 : a'.tmps[2]?.getD undef = .pointer (some ⟨gb, 0, none⟩) := by have h := hfr 2 (by kernel_rfl); simpa using h
        have g40 : a'.tmps[40]?.getD undef = .bool true := by have h := hdep 9 _ rfl (by kernel_rfl); simpa using h
        have q40 := opt_bool g40
        clear ho hfr hdep
        refine unguard_any (by simp [Region.wanted, yielded, q40]) ?_
        refine load_struct 42 47 _ 3 size_state _ Try.underlying47 ⟨gb, 0, none⟩ (by show a'.tmps.getD 2 undef = _; simpa using g2) (scells exSt) rfl (fun j u hj => by rw [Addr.add_lit, Nat.zero_add]; exact (hX2.under hb).at_ hj) ?_
        exact ⟨rfl, _, rfl, Below.refl _ _, rfl⟩
      · intro o ho a' w' hb hfr hdep
        obtain rfl := Option.some.inj ho
        have g40 : a'.tmps[40]?.getD undef = .bool true := by have h := hdep 9 _ rfl (by kernel_rfl); simpa using h
        have q40 := opt_bool g40
        clear ho hfr hdep
        go_wp2_with fail
        refine (law_text ⟨#[55, 46]⟩ (by decide) _).mono ?_
        rintro e w2 ⟨a, c, rfl, h1, h2⟩
        go_wp2_with fail
        exact ⟨rfl, _, rfl, h2, a, _, c, rfl, h1.sl⟩
      · intro o ho a' w' hb hfr hdep
        obtain rfl := Option.some.inj ho
        have g41 : a'.tmps[41]?.getD undef = H.v := by have h := hdep 10 _ rfl (by kernel_rfl); simpa using h
        have g42 : a'.tmps[42]?.getD undef = sv exSt := by have h := hdep 11 _ rfl (by kernel_rfl); simpa using h
        obtain ⟨aX, nX, cX, g43, hsX⟩ := hdep 12 _ rfl (by kernel_rfl)
        replace g43 : a'.tmps[43]?.getD undef = .slice aX nX cX := by simpa using g43
        have g40 : a'.tmps[40]?.getD undef = .bool true := by have h := hdep 9 _ rfl (by kernel_rfl); simpa using h
        have q40 := opt_bool g40
        clear ho hfr hdep
        go_wp2_with fail
        refine (steps_at H exSt (symsOf ⟨#[55, 46]⟩) 0 HS4 aX nX cX (by decide) _ (hTa.below hb) hsX).mono ?_
        rintro e w2 ⟨a, c, ps, rfl, h1, h2⟩
        go_wp2_with fail
        exact ⟨rfl, _, rfl, h2, a, _, c, ps, rfl, h1⟩
      · intro o ho a' w' hb hfr hdep
        obtain rfl := Option.some.inj ho
        have g40 : a'.tmps[40]?.getD undef = .bool true := by have h := hdep 9 _ rfl (by kernel_rfl); simpa using h
        have q40 := opt_bool g40
        clear ho hfr hdep
        go_wp2_with fail
        exact ⟨rfl, _, rfl, blo _ _, _, _, _, rfl, Sl.fresh _ _ 1 1 (([1] : List Int).map I64) rfl (by decide)⟩
      · intro o ho a' w' hb hfr hdep
        obtain rfl := Option.some.inj ho
        have g40 : a'.tmps[40]?.getD undef = .bool true := by have h := hdep 9 _ rfl (by kernel_rfl); simpa using h
        have q40 := opt_bool g40
        clear ho hfr hdep
        go_wp2_with fail
        exact ⟨rfl, _, rfl, blo _ _, _, _, _, rfl, Sl.fresh _ _ 1 2 (([61, 48] : List UInt8).map B8) rfl (by decide)⟩
      · intro o ho a' w' hb hfr hdep
        obtain rfl := Option.some.inj ho
        obtain ⟨a10, n10, c10, g46, hs10⟩ := hdep 15 _ rfl (by kernel_rfl)
        replace g46 : a'.tmps[46]?.getD undef = .slice a10 n10 c10 := by simpa using g46
        have g40 : a'.tmps[40]?.getD undef = .bool true := by have h := hdep 9 _ rfl (by kernel_rfl); simpa using h
        have q40 := opt_bool g40
        clear ho hfr hdep
        go_wp2_with fail
        exact ⟨rfl, _, rfl, blo _ _, _, _, _, [(a10, n10, c10)], rfl, bb1 (Sl.fresh _ _ 1 1 ([(a10, n10, c10)].map hdv) rfl (by decide)) (hs10.below (blo _ _))⟩
      · intro o ho a' w' hb hfr hdep
        obtain rfl := Option.some.inj ho
        obtain ⟨aP, nP, cP, psP, g44, hsP⟩ := hdep 13 _ rfl (by kernel_rfl)
        replace g44 : a'.tmps[44]?.getD undef = .slice aP nP cP := by simpa using g44
        obtain ⟨aI, nI, cI, g45, hsI⟩ := hdep 14 _ rfl (by kernel_rfl)
        replace g45 : a'.tmps[45]?.getD undef = .slice aI nI cI := by simpa using g45
        obtain ⟨aB, nB, cB, hsB', g47, hsB⟩ := hdep 16 _ rfl (by kernel_rfl)
        replace g47 : a'.tmps[47]?.getD undef = .slice aB nB cB := by simpa using g47
        have g40 : a'.tmps[40]?.getD undef = .bool true := by have h := hdep 9 _ rfl (by kernel_rfl); simpa using h
        have q40 := opt_bool g40
        clear ho hfr hdep
        go_wp2_with fail
        refine (law_are L4 psP aP nP cP _ aI nI cI _ hsB' aB nB cB _ hsP hsI hsB (lens_of HE4.out rfl) (rows_of HE4.out rfl)).mono ?_
        rintro e w2 ⟨rfl, h2⟩
        go_wp2_with fail
        exact ⟨rfl, _, rfl, h2, rfl⟩
      · intro o ho a' w' hb hfr hdep
        obtain rfl := Option.some.inj ho
        have g40 : a'.tmps[40]?.getD undef = .bool true := by have h := hdep 9 _ rfl (by kernel_rfl); simpa using h
        have g48 : a'.tmps[48]?.getD undef = .bool true := by have h := hdep 17 _ rfl (by kernel_rfl); simpa using h
        clear ho hfr hdep
        go_wp2_with fail
        exact ⟨rfl, _, rfl, Below.refl _ _, rfl⟩
    · intro g w9 hb9 hp9
      have p49 := hp9 18 _ rfl
      clear hp9
      simp at p49
      simp only [List.drop_succ_cons, List.drop_zero, List.map_cons, List.map_nil, putAll, Act.put, List.setIfInBounds_toArray, List.set_cons_succ, List.set_cons_zero, p49]
      clear p49
      go_wp2_with fail
      go_meet
      exact ⟨rfl, hb9⟩
  case rest =>
  obtain ⟨rfl, hb5⟩ := hcut
  obtain ⟨w5, rfl⟩ : ∃ w5 : World, w5 = wc := ⟨_, rfl⟩
  have hTa := hTa.below hb5
  have hX1 := hX1.under hb5
  have hX2 := hX2.under hb5
  have hX3 := hX3.under hb5
  have hB := hB.trans (hb5.mono hB.size)
  clear hb5
  go_wp2_with fail
  go_cut [6] from 50 to 67 (fun v w' => v = .bool true ∧ Below w5.heap.size w5 w')
  case first =>
    refine wp_region_free 18 [⟨0, 50, [50], fun vs _ => vs = [H.v]⟩, ⟨1, 51, [51], fun vs _ => vs = [sv exNum]⟩, ⟨2, 52, [52], FTx (symsOf ⟨#[55, 97]⟩)⟩, ⟨3, 53, [53], FSt L5⟩, ⟨4, 54, [54], FIn [1]⟩, ⟨5, 55, [55], FBy [62, 1]⟩, ⟨6, 56, [56], FBB [[62, 1]]⟩, ⟨7, 57, [57], fun vs _ => vs = [.bool true]⟩, ⟨8, 58, [58], fun vs _ => vs = [.bool true]⟩, ⟨9, 59, [59], fun vs _ => vs = [H.v]⟩, ⟨10, 60, [60], fun vs _ => vs = [sv exNum]⟩, ⟨11, 61, [61], FTx (symsOf ⟨#[55, 46]⟩)⟩, ⟨12, 62, [62], FSt L6⟩, ⟨13, 63, [63], FIn [1]⟩, ⟨14, 64, [64], FBy [33]⟩, ⟨15, 65, [65], FBB [[33]]⟩, ⟨16, 66, [66], fun vs _ => vs = [.bool true]⟩, ⟨17, 67, [67], fun vs _ => vs = [.bool true]⟩] (by kernel_rfl) (by kernel_rfl) ?_ ?_ ?_
    · simp only [All]
      refine ⟨fun _ _ _ _ h => h, fun _ _ _ _ h => h, ?_, ?_, ?_, ?_, ?_, fun _ _ _ _ h => h, fun _ _ _ _ h => h, fun _ _ _ _ h => h, fun _ _ _ _ h => h, ?_, ?_, ?_, ?_, ?_, fun _ _ _ _ h => h, fun _ _ _ _ h => h, trivial⟩
      · exact fun _ _ _ hb h => h.below hb
      · exact fun _ _ _ hb h => h.below hb
      · exact fun _ _ _ hb h => h.below hb
      · exact fun _ _ _ hb h => h.below hb
      · exact fun _ _ _ hb h => h.below hb
      · exact fun _ _ _ hb h => h.below hb
      · exact fun _ _ _ hb h => h.below hb
      · exact fun _ _ _ hb h => h.below hb
      · exact fun _ _ _ hb h => h.below hb
      · exact fun _ _ _ hb h => h.below hb
    · simp only [All]
      refine ⟨?_, ?_, ?_, ?_, ?_, ?_, ?_, ?_, ?_, ?_, ?_, ?_, ?_, ?_, ?_, ?_, ?_, ?_, trivial⟩
      · intro o ho a' w' hb hfr hdep
        obtain rfl := Option.some.inj ho
        have g1 : a'.tmps[1]?.getD undef = .pointer (some ⟨ga, 0, none⟩) := by have h := hfr 1 (by kernel_rfl); simpa using h
        clear ho hfr hdep
        refine load_struct 50 28 _ 7 size_tables _ Try.underlying28 ⟨ga, 0, none⟩ (by show a'.tmps.getD 1 undef = _; simpa using g1) (tcells H) rfl (fun j u hj => by rw [Addr.add_lit, Nat.zero_add]; exact (hX1.under hb).at_ hj) ?_
        exact ⟨rfl, _, rfl, Below.refl _ _, rfl⟩
      · intro o ho a' w' hb hfr hdep
        obtain rfl := Option.some.inj ho
        have g3 : a'.tmps[3]?.getD undef = .pointer (some ⟨gc, 0, none⟩) := by have h := hfr 3 (by kernel_rfl); simpa using h
        clear ho hfr hdep
        refine load_struct 51 47 _ 3 size_state _ Try.underlying47 ⟨gc, 0, none⟩ (by show a'.tmps.getD 3 undef = _; simpa using g3) (scells exNum) rfl (fun j u hj => by rw [Addr.add_lit, Nat.zero_add]; exact (hX3.under hb).at_ hj) ?_
        exact ⟨rfl, _, rfl, Below.refl _ _, rfl⟩
      · intro o ho a' w' hb hfr hdep
        obtain rfl := Option.some.inj ho
        clear ho hfr hdep
        go_wp2_with fail
        refine (law_text ⟨#[55, 97]⟩ (by decide) _).mono ?_
        rintro e w2 ⟨a, c, rfl, h1, h2⟩
        go_wp2_with fail
        exact ⟨rfl, _, rfl, h2, a, _, c, rfl, h1.sl⟩
      · intro o ho a' w' hb hfr hdep
        obtain rfl := Option.some.inj ho
        have g50 : a'.tmps[50]?.getD undef = H.v := by have h := hdep 0 _ rfl (by kernel_rfl); simpa using h
        have g51 : a'.tmps[51]?.getD undef = sv exNum := by have h := hdep 1 _ rfl (by kernel_rfl); simpa using h
        obtain ⟨aX, nX, cX, g52, hsX⟩ := hdep 2 _ rfl (by kernel_rfl)
        replace g52 : a'.tmps[52]?.getD undef = .slice aX nX cX := by simpa using g52
        clear ho hfr hdep
        go_wp2_with fail
        refine (steps_at H exNum (symsOf ⟨#[55, 97]⟩) 1 HS5 aX nX cX (by decide) _ (hTa.below hb) hsX).mono ?_
        rintro e w2 ⟨a, c, ps, rfl, h1, h2⟩
        go_wp2_with fail
        exact ⟨rfl, _, rfl, h2, a, _, c, ps, rfl, h1⟩
      · intro o ho a' w' hb hfr hdep
        obtain rfl := Option.some.inj ho
        clear ho hfr hdep
        go_wp2_with fail
        exact ⟨rfl, _, rfl, blo _ _, _, _, _, rfl, Sl.fresh _ _ 1 1 (([1] : List Int).map I64) rfl (by decide)⟩
      · intro o ho a' w' hb hfr hdep
        obtain rfl := Option.some.inj ho
        clear ho hfr hdep
        go_wp2_with fail
        exact ⟨rfl, _, rfl, blo _ _, _, _, _, rfl, Sl.fresh _ _ 1 2 (([62, 1] : List UInt8).map B8) rfl (by decide)⟩
      · intro o ho a' w' hb hfr hdep
        obtain rfl := Option.some.inj ho
        obtain ⟨a10, n10, c10, g55, hs10⟩ := hdep 5 _ rfl (by kernel_rfl)
        replace g55 : a'.tmps[55]?.getD undef = .slice a10 n10 c10 := by simpa using g55
        clear ho hfr hdep
        go_wp2_with fail
        exact ⟨rfl, _, rfl, blo _ _, _, _, _, [(a10, n10, c10)], rfl, bb1 (Sl.fresh _ _ 1 1 ([(a10, n10, c10)].map hdv) rfl (by decide)) (hs10.below (blo _ _))⟩
      · intro o ho a' w' hb hfr hdep
        obtain rfl := Option.some.inj ho
        obtain ⟨aP, nP, cP, psP, g53, hsP⟩ := hdep 3 _ rfl (by kernel_rfl)
        replace g53 : a'.tmps[53]?.getD undef = .slice aP nP cP := by simpa using g53
        obtain ⟨aI, nI, cI, g54, hsI⟩ := hdep 4 _ rfl (by kernel_rfl)
        replace g54 : a'.tmps[54]?.getD undef = .slice aI nI cI := by simpa using g54
        obtain ⟨aB, nB, cB, hsB', g56, hsB⟩ := hdep 6 _ rfl (by kernel_rfl)
        replace g56 : a'.tmps[56]?.getD undef = .slice aB nB cB := by simpa using g56
        clear ho hfr hdep
        go_wp2_with fail
        refine (law_are L5 psP aP nP cP _ aI nI cI _ hsB' aB nB cB _ hsP hsI hsB (lens_of HE5.out rfl) (rows_of HE5.out rfl)).mono ?_
        rintro e w2 ⟨rfl, h2⟩
        go_wp2_with fail
        exact ⟨rfl, _, rfl, h2, rfl⟩
      · intro o ho a' w' hb hfr hdep
        obtain rfl := Option.some.inj ho
        have g57 : a'.tmps[57]?.getD undef = .bool true := by have h := hdep 7 _ rfl (by kernel_rfl); simpa using h
        clear ho hfr hdep
        go_wp2_with fail
        exact ⟨rfl, _, rfl, Below.refl _ _, rfl⟩
      · intro o ho a' w' hb hfr hdep
        obtain rfl := Option.some.inj ho
        have g1 : a'.tmps[1]?.getD undef = .pointer (some ⟨ga, 0, none⟩) := by have h := hfr 1 (by kernel_rfl); simpa using h
        have g58 : a'.tmps[58]?.getD undef = .bool true := by have h := hdep 8 _ rfl (by kernel_rfl); simpa using h
        have q58 := opt_bool g58
        clear ho hfr hdep
        refine unguard_any (by simp [Region.wanted, yielded, q58]) ?_
        refine load_struct 59 28 _ 7 size_tables _ Try.underlying28 ⟨ga, 0, none⟩ (by show a'.tmps.getD 1 undef = _; simpa using g1) (tcells H) rfl (fun j u hj => by rw [Addr.add_lit, Nat.zero_add]; exact (hX1.under hb).at_ hj) ?_
        exact ⟨rfl, _, rfl, Below.refl _ _, rfl⟩
      · intro o ho a' w' hb hfr hdep
        obtain rfl := Option.some.inj ho
        have g3 : a'.tmps[3]?.getD undef = .pointer (some ⟨gc, 0, none⟩) := by have h := hfr 3 (by kernel_rfl); simpa using h
        have g58 : a'.tmps[58]?.getD undef = .bool true := by have h := hdep 8 _ rfl (by kernel_rfl); simpa using h
        have q58 := opt_bool g58
        clear ho hfr hdep
        refine unguard_any (by simp [Region.wanted, yielded, q58]) ?_
        refine load_struct 60 47 _ 3 size_state _ Try.underlying47 ⟨gc, 0, none⟩ (by show a'.tmps.getD 3 undef = _; simpa using g3) (scells exNum) rfl (fun j u hj => by rw [Addr.add_lit, Nat.zero_add]; exact (hX3.under hb).at_ hj) ?_
        exact ⟨rfl, _, rfl, Below.refl _ _, rfl⟩
      · intro o ho a' w' hb hfr hdep
        obtain rfl := Option.some.inj ho
        have g58 : a'.tmps[58]?.getD undef = .bool true := by have h := hdep 8 _ rfl (by kernel_rfl); simpa using h
        have q58 := opt_bool g58
        clear ho hfr hdep
        go_wp2_with fail
        refine (law_text ⟨#[55, 46]⟩ (by decide) _).mono ?_
        rintro e w2 ⟨a, c, rfl, h1, h2⟩
        go_wp2_with fail
        exact ⟨rfl, _, rfl, h2, a, _, c, rfl, h1.sl⟩
      · intro o ho a' w' hb hfr hdep
        obtain rfl := Option.some.inj ho
        have g59 : a'.tmps[59]?.getD undef = H.v := by have h := hdep 9 _ rfl (by kernel_rfl); simpa using h
        have g60 : a'.tmps[60]?.getD undef = sv exNum := by have h := hdep 10 _ rfl (by kernel_rfl); simpa using h
        obtain ⟨aX, nX, cX, g61, hsX⟩ := hdep 11 _ rfl (by kernel_rfl)
        replace g61 : a'.tmps[61]?.getD undef = .slice aX nX cX := by simpa using g61
        have g58 : a'.tmps[58]?.getD undef = .bool true := by have h := hdep 8 _ rfl (by kernel_rfl); simpa using h
        have q58 := opt_bool g58
        clear ho hfr hdep
        go_wp2_with fail
        refine (steps_at H exNum (symsOf ⟨#[55, 46]⟩) 1 HS6 aX nX cX (by decide) _ (hTa.below hb) hsX).mono ?_
        rintro e w2 ⟨a, c, ps, rfl, h1, h2⟩
        go_wp2_with fail
        exact ⟨rfl, _, rfl, h2, a, _, c, ps, rfl, h1⟩
      · intro o ho a' w' hb hfr hdep
        obtain rfl := Option.some.inj ho
        have g58 : a'.tmps[58]?.getD undef = .bool true := by have h := hdep 8 _ rfl (by kernel_rfl); simpa using h
        have q58 := opt_bool g58
        clear ho hfr hdep
        go_wp2_with fail
        exact ⟨rfl, _, rfl, blo _ _, _, _, _, rfl, Sl.fresh _ _ 1 1 (([1] : List Int).map I64) rfl (by decide)⟩
      · intro o ho a' w' hb hfr hdep
        obtain rfl := Option.some.inj ho
        have g58 : a'.tmps[58]?.getD undef = .bool true := by have h := hdep 8 _ rfl (by kernel_rfl); simpa using h
        have q58 := opt_bool g58
        clear ho hfr hdep
        go_wp2_with fail
        exact ⟨rfl, _, rfl, blo _ _, _, _, _, rfl, Sl.fresh _ _ 1 1 (([33] : List UInt8).map B8) rfl (by decide)⟩
      · intro o ho a' w' hb hfr hdep
        obtain rfl := Option.some.inj ho
        obtain ⟨a10, n10, c10, g64, hs10⟩ := hdep 14 _ rfl (by kernel_rfl)
        replace g64 : a'.tmps[64]?.getD undef = .slice a10 n10 c10 := by simpa using g64
        have g58 : a'.tmps[58]?.getD undef = .bool true := by have h := hdep 8 _ rfl (by kernel_rfl); simpa using h
        have q58 := opt_bool g58
        clear ho hfr hdep
        go_wp2_with fail
        exact ⟨rfl, _, rfl, blo _ _, _, _, _, [(a10, n10, c10)], rfl, bb1 (Sl.fresh _ _ 1 1 ([(a10, n10, c10)].map hdv) rfl (by decide)) (hs10.below (blo _ _))⟩
      · intro o ho a' w' hb hfr hdep
        obtain rfl := Option.some.inj ho
        obtain ⟨aP, nP, cP, psP, g62, hsP⟩ := hdep 12 _ rfl (by kernel_rfl)
        replace g62 : a'.tmps[62]?.getD undef = .slice aP nP cP := by simpa using g62
        obtain ⟨aI, nI, cI, g63, hsI⟩ := hdep 13 _ rfl (by kernel_rfl)
        replace g63 : a'.tmps[63]?.getD undef = .slice aI nI cI := by simpa using g63
        obtain ⟨aB, nB, cB, hsB', g65, hsB⟩ := hdep 15 _ rfl (by kernel_rfl)
        replace g65 : a'.tmps[65]?.getD undef = .slice aB nB cB := by simpa using g65
        have g58 : a'.tmps[58]?.getD undef = .bool true := by have h := hdep 8 _ rfl (by kernel_rfl); simpa using h
        have q58 := opt_bool g58
        clear ho hfr hdep
        go_wp2_with fail
        refine (law_are L6 psP aP nP cP _ aI nI cI _ hsB' aB nB cB _ hsP hsI hsB (lens_of HE6.out rfl) (rows_of HE6.out rfl)).mono ?_
        rintro e w2 ⟨rfl, h2⟩
        go_wp2_with fail
        exact ⟨rfl, _, rfl, h2, rfl⟩
      · intro o ho a' w' hb hfr hdep
        obtain rfl := Option.some.inj ho
        have g58 : a'.tmps[58]?.getD undef = .bool true := by have h := hdep 8 _ rfl (by kernel_rfl); simpa using h
        have g66 : a'.tmps[66]?.getD undef = .bool true := by have h := hdep 16 _ rfl (by kernel_rfl); simpa using h
        clear ho hfr hdep
        go_wp2_with fail
        exact ⟨rfl, _, rfl, Below.refl _ _, rfl⟩
    · intro g w9 hb9 hp9
      have p67 := hp9 17 _ rfl
      clear hp9
      simp at p67
      simp only [List.drop_succ_cons, List.drop_zero, List.map_cons, List.map_nil, putAll, Act.put, List.setIfInBounds_toArray, List.set_cons_succ, List.set_cons_zero, p67]
      clear p67
      go_wp2_with fail
      go_meet
      exact ⟨rfl, hb9⟩
  case rest =>
  obtain ⟨rfl, hb6⟩ := hcut
  obtain ⟨w6, rfl⟩ : ∃ w6 : World, w6 = wc := ⟨_, rfl⟩
  have hTa := hTa.below hb6
  have hX1 := hX1.under hb6
  have hX2 := hX2.under hb6
  have hX3 := hX3.under hb6
  have hB := hB.trans (hb6.mono hB.size)
  clear hb6
  go_wp2_with (with_reducible refine load_struct 68 28 _ 7 size_tables _ Try.underlying28 ⟨ga, 0, none⟩ rfl (tcells H) rfl (fun j u hj => by rw [Addr.add_lit, Nat.zero_add]; exact hX1.at_ hj) ?_)
  refine (valid_at H w6 hTa).mono ?_
  rintro e w7 ⟨rfl, hb7⟩
  have hTa := hTa.below hb7
  have hX1 := hX1.under hb7
  have hX2 := hX2.under hb7
  have hB := hB.trans (hb7.mono hB.size)
  go_wp2_with (first
    | (refine unguard (by first | rfl | (simp [Region.wanted, yielded, Act.put]; done)) ?_; refine load_struct 81 28 _ 7 size_tables _ Try.underlying28 ⟨ga, 0, none⟩ rfl (tcells H) rfl (fun j u hj => by rw [Addr.add_lit, Nat.zero_add]; exact hX1.at_ hj) ?_)
    | (refine unguard (by first | rfl | (simp [Region.wanted, yielded, Act.put]; done)) ?_; refine load_struct 82 47 _ 3 size_state _ Try.underlying47 ⟨gb, 0, none⟩ rfl (scells exSt) rfl (fun j u hj => by rw [Addr.add_lit, Nat.zero_add]; exact hX2.at_ hj) ?_))
  have hSY := Sl.fresh w7 55 2 1 (sc ⟨1, 97⟩) rfl (by decide)
  have hb8 := blo w7 (.cells (sc ⟨1, 97⟩).toArray 55)
  have hSY2 : Sl (w7.alloc (.cells (sc ⟨1, 97⟩).toArray 55)) 2 (some ⟨w7.heap.size, 0, none⟩) 1 1 (([⟨1, 97⟩] : List Sy).flatMap sc) := hSY
  refine (steps_at H exSt [⟨1, 97⟩] 0 HS7 _ _ _ (by decide) _ (hTa.below hb8) hSY2).mono ?_
  rintro e w9 ⟨a9, c9, p9, rfl, hS9, hb9⟩
  clear hSY hSY2
  have hB9 := hB.trans ((hb8.trans (hb9.mono hb8.size)).mono hB.size)
  go_wp2_with fail
  have I1 := Sl.fresh w9 3 1 1 (([0] : List Int).map I64) rfl (by decide)
  have c1 := blo w9 (.cells (([0] : List Int).map I64).toArray 3)
  have I2 := Sl.fresh (w9.alloc (.cells (([0] : List Int).map I64).toArray 3)) 5 1 1 (([63] : List UInt8).map B8) rfl (by decide)
  have c2 := blo (w9.alloc (.cells (([0] : List Int).map I64).toArray 3)) (.cells (([63] : List UInt8).map B8).toArray 5)
  rw [show (w9.alloc (.cells (([0] : List Int).map I64).toArray 3)).heap.size = w9.heap.size + 1 by simp] at I2
  have I3 := Sl.fresh ((w9.alloc (.cells (([0] : List Int).map I64).toArray 3)).alloc (.cells (([63] : List UInt8).map B8).toArray 5)) 26 1 1 ([(some ⟨w9.heap.size + 1, 0, none⟩, 1, 1)].map hdv) rfl (by decide)
  have c3 := blo ((w9.alloc (.cells (([0] : List Int).map I64).toArray 3)).alloc (.cells (([63] : List UInt8).map B8).toArray 5)) (.cells ([((some ⟨w9.heap.size + 1, 0, none⟩ : Option Addr), 1, 1)].map hdv).toArray 26)
  rw [show ((w9.alloc (.cells (([0] : List Int).map I64).toArray 3)).alloc (.cells (([63] : List UInt8).map B8).toArray 5)).heap.size = w9.heap.size + 1 + 1 by simp] at I3
  have c12 := c1.trans (c2.mono c1.size)
  have c13 := c12.trans (c3.mono c12.size)
  refine (law_are L7 p9 a9 _ c9 _ _ _ _ _ _ _ _ _ _ (hS9.below c13) ((I1.below c2).below c3) (bb1 I3 (I2.below c3)) (lens_of HE7.out rfl) (rows_of HE7.out rfl)).mono ?_
  rintro e w10 ⟨rfl, hb10⟩
  have hB10 := hB9.trans ((c13.trans (hb10.mono c13.size)).mono hB9.size)
  go_wp2_with fail
  go_ret
  exact ⟨rfl, hB10⟩
end Go.Proofs.Ytkjcbneanaeleaa
end
