/- The contracts of the functions that the law reaches, joined into one text. -/
import Derived.Test.YtjdnmbapmobaaaaLawKL6a
import Derived.Lib.SliceRun
import Derived.Lib.MinMax
import Derived.Deep.CutBlock
set_option linter.unusedVariables false
set_option linter.unusedSimpArgs false

/- the text Free3 -/
section
/- A region that draws its order, whose operations that change the world follow one another (CH); the others (TL) leave the world as it is and may come at any time. No program in sight. -/
set_option linter.unusedVariables false
namespace Go.Dx
open Go.RowKit

structure ChInv (l : List Oper) (n : Nat) (CH TL T : List HOp) (a0 : Act) (G : Nat → List Value → World → Prop) (listed : Array Bool) (a : Act) (w : World) : Prop where
  inv : HeadInv .any l.toArray n listed
  defers : a.defers = a0.defers
  size : a.tmps.size = a0.tmps.size
  frame : ∀ k, (∀ t ∈ T, t.d ≠ k) → a.tmps.getD k undef = a0.tmps.getD k undef
  stage : ∃ j, j ≤ CH.length ∧ (∀ m c, CH[m]? = some c → (listed.getD c.i false = true ↔ m < j)) ∧ G j (CH.map fun c => a.tmps.getD c.d undef) w
  facts : ∀ t ∈ TL, listed.getD t.i false = true → t.fact a w

/-- each waits for the one before it -/
def linkOk (ops : Array Oper) : List Nat → Bool
  | i :: j :: l => Region.waitsFor .any ops j i && linkOk ops (j :: l)
  | _ => true
theorem linkOk_get {ops : Array Oper} : ∀ {L : List Nat}, linkOk ops L = true → ∀ m i j, L[m]? = some i → L[m + 1]? = some j → Region.waitsFor .any ops j i = true := by
  intro L
  induction L with
  | nil => intro _ m i j h; cases h
  | cons x L ih =>
    intro h m i j h1 h2
    cases L with
    | nil => cases m <;> simp at h2
    | cons y L =>
      simp only [linkOk, Bool.and_eq_true] at h
      cases m with
      | zero => cases h1; cases h2; exact h.1
      | succ m => exact ih h.2 m i j h1 h2

section
variable {P : Program}
theorem wp_region_chain {id : Nat} {Q : Exit → Act → World → Prop} {a0 : Act} {w0 : World} {l : List Oper} (n : Nat) (G : Nat → List Value → World → Prop) (CH TL : List HOp) (hm : P.follows .mixedOrders = true)
    (hB : (headOk l n ((CH ++ TL).map fun t => (t.i, t.d, t.s)) a0.tmps.size && linkOk l.toArray (CH.map (·.i)) && (TL.all fun t => CH.all fun c => t.i != c.i && t.d != c.d)) = true)
    (hG0 : G 0 (CH.map fun c => a0.tmps.getD c.d undef) { w0 with drawn := w0.drawn + 1 })
    (hmono : All (fun t : HOp => ∀ vs w w', t.p vs w → t.p vs w') TL)
    (hopC : ∀ m c, CH[m]? = some c → ∀ o, l[c.i]? = some o → ∀ (a : Act) (w : World), G m (CH.map fun c => a.tmps.getD c.d undef) w →
      (∀ k, ((CH ++ TL).map (·.d)).contains k = false → a.tmps.getD k undef = a0.tmps.getD k undef) →
      (∀ (k : Nat) (u : HOp), TL[k]? = some u → Region.waitsFor .any l.toArray c.i u.i = true → u.p (u.s.map fun k => a.tmps.getD k undef) w) →
      wpList P l.toArray (OneTurn c.d a fun v w' => G (m + 1) (CH.map fun e => if e.d = c.d then v else a.tmps.getD e.d undef) w') [o] a w)
    (hopL : All (fun t : HOp => ∀ o, l[t.i]? = some o → ∀ (a : Act) (w : World),
      (∀ k, ((CH ++ TL).map (·.d)).contains k = false → a.tmps.getD k undef = a0.tmps.getD k undef) →
      (∀ (k : Nat) (u : HOp), TL[k]? = some u → Region.waitsFor .any l.toArray t.i u.i = true → u.p (u.s.map fun k => a.tmps.getD k undef) w) →
      wpList P l.toArray (OneStill t.d a w fun v w' => t.p (t.s.map fun k => if t.d = k then v else a.tmps.getD k undef) w') [o] a w) TL)
    (hend : ∀ (g : Nat → Value) (w : World), G CH.length (CH.map fun c => g c.d) w → (∀ (k : Nat) (u : HOp), TL[k]? = some u → u.p (u.s.map fun k => if k ∈ (CH ++ TL).map (·.d) then g k else a0.tmps.getD k undef) w) →
      wpList P l.toArray Q (l.drop n) (putAll a0 (((CH ++ TL).map (·.d)).map fun d => (d, g d))) w) : (Code.region id l.toArray true).wp P Q a0 w0 := by
  obtain ⟨T, hTdef⟩ : ∃ T, CH ++ TL = T := ⟨_, rfl⟩
  have memC : ∀ t ∈ CH, t ∈ T := fun t ht => by rw [← hTdef]; exact List.mem_append_left _ ht
  have memL : ∀ t ∈ TL, t ∈ T := fun t ht => by rw [← hTdef]; exact List.mem_append_right _ ht
  have split : ∀ t ∈ T, t ∈ CH ∨ t ∈ TL := fun t ht => by rw [← hTdef] at ht; exact List.mem_append.1 ht
  rw [hTdef] at hB hopC hopL hend
  rw [Bool.and_eq_true, Bool.and_eq_true] at hB
  obtain ⟨⟨hB, hlink⟩, hdis⟩ := hB
  have hdis2 : ∀ t ∈ TL, ∀ c ∈ CH, t.i ≠ c.i ∧ t.d ≠ c.d := by
    intro t ht c hc
    have := List.all_eq_true.1 (List.all_eq_true.1 hdis t ht) c hc
    simpa using this
  have hlk : ∀ m c e, CH[m]? = some c → CH[m + 1]? = some e → Region.waitsFor .any l.toArray e.i c.i = true := fun m c e h1 h2 =>
    linkOk_get hlink m c.i e.i (by rw [List.getElem?_map, h1]; rfl) (by rw [List.getElem?_map, h2]; rfl)
  simp only [headOk, Bool.and_eq_true, decide_eq_true_eq] at hB
  obtain ⟨⟨⟨⟨⟨⟨⟨hnd, hn⟩, hs⟩, hc⟩, hseq⟩, hcov⟩, hT⟩, hpair⟩ := hB
  have hnodup : ∀ t ∈ T, ∀ u ∈ T, t.i = u.i → t = u := inj_nodup (·.i) T (by rw [List.map_map] at hnd; exact hnd)
  have hn' : n < l.toArray.size := by simpa using hn
  have cover : ∀ j, j < n → ∃ t ∈ T, t.i = j := by
    intro j hj
    have h := List.all_eq_true.1 hcov j (List.mem_range.2 hj)
    obtain ⟨x, hx, he⟩ := List.any_eq_true.1 h
    obtain ⟨t, ht, rfl⟩ := List.mem_map.1 hx
    exact ⟨t, ht, by simpa using he⟩
  have own : ∀ t ∈ T, t.i < n ∧ t.d < a0.tmps.size ∧ ∃ o, l[t.i]? = some o ∧ o.dst = some t.d ∧ ∀ e ∈ o.after, Region.binds .any e = true → e.on < t.i := by
    intro t ht
    have h := List.all_eq_true.1 hT _ (List.mem_map.2 ⟨t, ht, rfl⟩)
    simp only [Bool.and_eq_true, decide_eq_true_eq] at h
    obtain ⟨⟨h1, h2⟩, h3⟩ := h
    refine ⟨h1, h2, ?_⟩
    cases ho : l[t.i]? with
    | none => rw [ho] at h3; cases h3
    | some o =>
      rw [ho] at h3
      simp only [Bool.and_eq_true, beq_iff_eq] at h3
      refine ⟨o, rfl, h3.1, fun e he hb => ?_⟩
      have := Array.all_eq_true_iff_forall_mem.1 h3.2 e he
      simpa [hb] using this
  have pair : ∀ t ∈ T, ∀ u ∈ T, t.i ≠ u.i → t.d ≠ u.d ∧ (t.d ∈ u.s → Region.waitsFor .any l.toArray u.i t.i = true) := by
    intro t ht u hu hne
    have h := List.all_eq_true.1 (List.all_eq_true.1 hpair _ (List.mem_map.2 ⟨t, ht, rfl⟩)) _ (List.mem_map.2 ⟨u, hu, rfl⟩)
    simp only [Bool.or_eq_true, beq_iff_eq, hne, false_or, Bool.and_eq_true, bne_iff_ne, ne_eq, Bool.not_eq_true'] at h
    refine ⟨h.1, fun hin => ?_⟩
    rcases h.2 with h2 | h2
    · have : u.s.contains t.d = true := by simpa using hin
      rw [this] at h2; cases h2
    · exact h2
  have key : ∀ (f : Nat) (listed : Array Bool) (a : Act) (w : World), ChInv l n CH TL T a0 G listed a w → todo listed n = f → wpAny P .any l.toArray Q (f + (l.length - n)) listed a w := by
    intro f
    induction f with
    | zero =>
      intro listed a w I h0
      have hall : ∀ j, j < n → listed.getD j true = true := by
        intro j hj
        cases hb : listed.getD j true with
        | true => rfl
        | false =>
          have : j ∈ (List.range n).filter fun j => !listed.getD j true := List.mem_filter.2 ⟨List.mem_range.2 hj, by rw [hb]; rfl⟩
          unfold todo at h0
          rw [List.eq_nil_of_length_eq_zero h0] at this
          cases this
      have hlist : listed = (List.replicate n true ++ List.replicate (l.length - n) false).toArray := by
        have hsz := I.inv.size
        apply Array.ext
        · simp at hsz ⊢; omega
        · intro j h1 h2
          by_cases hj : j < n
          · have := hall j hj
            simp [Array.getD, h1] at this
            simp [this, List.getElem_append_left, hj]
          · have := I.inv.tail j (by omega) (by rw [← hsz]; exact h1)
            simp [Array.getD, h1] at this
            simp only [this, List.getElem_toArray]
            rw [List.getElem_append_right (by simp; omega)]
            simp
      have ha : a = putAll a0 ((T.map (·.d)).map fun d => (d, a.tmps.getD d undef)) := by
        have hd : ∀ d ∈ T.map (·.d), d < a0.tmps.size := by
          intro d hd
          obtain ⟨t, ht, rfl⟩ := List.mem_map.1 hd
          exact (own t ht).2.1
        refine act_ext (by rw [putAll_defers]; exact I.defers) (by rw [putAll_size]; exact I.size) (fun k => ?_)
        rw [putAll_get (fun d => a.tmps.getD d undef) _ _ _ hd]
        by_cases h : k ∈ T.map (·.d)
        · rw [if_pos h]
        · rw [if_neg h]
          exact I.frame k (fun t ht e => h (List.mem_map.2 ⟨t, ht, e⟩))
      have hls : ∀ t ∈ T, listed.getD t.i false = true := by
        intro t ht
        have := hall t.i (own t ht).1
        rcases Nat.lt_or_ge t.i listed.size with h' | h'
        · simp [h'] at this ⊢; exact this
        · have := I.inv.size; have := (own t ht).1; omega
      obtain ⟨j, hj, hjs, hG⟩ := I.stage
      have hjl : j = CH.length := by
        rcases Nat.lt_or_ge j CH.length with h | h
        · have h1 : CH[j]? = some CH[j] := by simp [h]
          have := (hjs j _ h1).1 (hls _ (memC _ (List.getElem_mem h)))
          omega
        · omega
      rw [hjl] at hG
      have hfin := hend (fun d => a.tmps.getD d undef) w hG (fun k u hu => by
        have hu' := List.mem_of_getElem? hu
        have h1 := I.facts u hu' (hls u (memL u hu'))
        unfold HOp.fact at h1
        have e : (u.s.map fun k => if k ∈ T.map (·.d) then a.tmps.getD k undef else a0.tmps.getD k undef) = u.s.map fun k => a.tmps.getD k undef := by
          apply List.map_congr_left
          intro k _
          by_cases h : k ∈ T.map (·.d)
          · rw [if_pos h]
          · rw [if_neg h]
            exact (I.frame k (fun t ht e => h (List.mem_map.2 ⟨t, ht, e⟩))).symm
        rw [e]
        exact h1)
      rw [← ha] at hfin
      rw [Nat.zero_add]
      have hseq' : Region.seqB .any l.toArray (l.drop n).length n listed = true := by rw [hlist, List.length_drop]; exact hseq
      have := wpAny_of_seq (md := .any) (Q' := Q) (l.drop n) n listed a w (fun j => by simp [List.getElem?_drop]) hseq' hfin
      rwa [List.length_drop] at this
    | succ f ih =>
      intro listed a w I hf
      have hex : ∃ j, j < n ∧ listed.getD j true = false := by
        cases hL : (List.range n).filter fun j => !listed.getD j true with
        | nil => unfold todo at hf; rw [hL] at hf; cases hf
        | cons j L =>
          have : j ∈ (List.range n).filter fun j => !listed.getD j true := by rw [hL]; exact List.mem_cons_self
          obtain ⟨h1, h2⟩ := List.mem_filter.1 this
          exact ⟨j, List.mem_range.1 h1, by simpa using h2⟩
      have hready : Region.ready .any l.toArray listed ≠ [] := by
        have hmin : ∀ m j, j ≤ m → j < n → listed.getD j true = false → ∃ i, i ∈ Region.ready .any l.toArray listed := by
          intro m
          induction m with
          | zero =>
            intro j hj hjn hjl
            have hj0 : j = 0 := by omega
            subst hj0
            obtain ⟨t, ht, hti⟩ := cover 0 hjn
            obtain ⟨_, _, o, ho, _, hb⟩ := own t ht
            rw [hti] at ho hb
            exact ⟨0, mem_ready.2 ⟨hjl, o, by simpa using ho, fun e he hbe => absurd (hb e he hbe) (by omega)⟩⟩
          | succ m ihm =>
            intro j hj hjn hjl
            obtain ⟨t, ht, hti⟩ := cover j hjn
            obtain ⟨_, _, o, ho, _, hb⟩ := own t ht
            rw [hti] at ho hb
            by_cases hall : ∀ e ∈ o.after, Region.binds .any e = true → listed.getD e.on false = true
            · exact ⟨j, mem_ready.2 ⟨hjl, o, by simpa using ho, hall⟩⟩
            · simp only [Classical.not_forall] at hall
              obtain ⟨e, he, hbe, hne⟩ := hall
              have hlt := hb e he hbe
              have hes : e.on < listed.size := by rw [I.inv.size]; simp; omega
              exact ihm e.on (by omega) (by omega) (getD_in hes (by simpa using hne))
        obtain ⟨j, hj, hjl⟩ := hex
        obtain ⟨i, hi⟩ := hmin j j (Nat.le_refl _) hj hjl
        intro h
        rw [h] at hi
        cases hi
      rw [show f + 1 + (l.length - n) = (f + (l.length - n)) + 1 by omega]
      refine ⟨fun h => absurd h hready, fun i hi => ?_⟩
      have hin : i < n := by
        rcases Nat.lt_or_ge i n with h | h
        · exact h
        · obtain ⟨j, hj, hjl⟩ := hex
          exact absurd hi (tail_waits hs hc hn' I.inv _ j rfl hj hjl i h)
      obtain ⟨t, ht, hti⟩ := cover i hin
      obtain ⟨_, htd, o, ho, hdst, _⟩ := own t ht
      obtain ⟨hil, oi, hoi, hafter⟩ := mem_ready.1 hi
      have hoo : oi = o := by rw [hti] at ho; exact Option.some.inj (hoi.symm.trans (by simpa using ho))
      subst hoo
      have hframe : ∀ k, (T.map (·.d)).contains k = false → a.tmps.getD k undef = a0.tmps.getD k undef := fun k hk => I.frame k (fun u hu e => by
          have : (T.map (·.d)).contains k = true := by simpa using ⟨u, hu, e⟩
          rw [this] at hk; cases hk)
      have hfacts : ∀ (k : Nat) (u : HOp), TL[k]? = some u → Region.waitsFor .any l.toArray t.i u.i = true → u.p (u.s.map fun k => a.tmps.getD k undef) w := fun k u hu hw => by
        have hu' := List.mem_of_getElem? hu
        obtain ⟨oj, hoj, e, he, hb, hon⟩ := Region.waitsFor_spec hw
        have : oj = oi := by rw [hti] at hoj; exact Option.some.inj (hoj.symm.trans hoi)
        subst this
        have h1 := hafter e he hb
        rw [hon] at h1
        exact I.facts u hu' h1
      have step0 : ∀ (v : Value) (w' : World), (∃ j, j ≤ CH.length ∧ (∀ m c, CH[m]? = some c → ((listed.setIfInBounds i true).getD c.i false = true ↔ m < j)) ∧ G j (CH.map fun c => (a.put (some t.d) v).tmps.getD c.d undef) w') →
          (t ∈ TL → t.p (t.s.map fun k => if t.d = k then v else a.tmps.getD k undef) w') → wpAny P .any l.toArray Q (f + (l.length - n)) (listed.setIfInBounds i true) (a.put (some t.d) v) w' := by
        intro v w' hst hp
        refine ih _ _ _ ⟨I.inv.set hi hin, I.defers, ?_, ?_, hst, ?_⟩ ?_
        · rw [← I.size]; simp [Act.put]
        · intro k hk
          rw [put_get, if_neg (fun h => hk t ht h.1)]
          exact I.frame k hk
        · intro u hu hul
          by_cases hui : t.i = u.i
          · unfold HOp.fact
            have hut : u = t := hnodup u (memL u hu) t ht hui.symm
            subst hut
            have e : (u.s.map fun k => (a.put (some u.d) v).tmps.getD k undef) = u.s.map fun k => if u.d = k then v else a.tmps.getD k undef := by
              apply List.map_congr_left
              intro k _
              rw [put_get, I.size]
              by_cases hk : u.d = k
              · rw [if_pos ⟨hk, htd⟩, if_pos hk]
              · rw [if_neg (fun h => hk h.1), if_neg hk]
            rw [e]
            exact hp hu
          · unfold HOp.fact
            have hul2 : listed.getD u.i false = true := by rw [← getD_set_ne false (i := i) (j := u.i) (by rw [← hti]; exact hui)]; exact hul
            have h1 := hmono.mem u hu _ w w' (I.facts u hu hul2)
            have hnot : t.d ∉ u.s := by
              intro hin2
              have hw := (pair t ht u (memL u hu) hui).2 hin2
              obtain ⟨ou, hou, e, he, hb, hon⟩ := Region.waitsFor_spec hw
              have := I.inv.closed u.i ou hou hul2 e he hb
              rw [hon, hti, getD_both hil] at this
              cases this
            have e : (u.s.map fun k => (a.put (some t.d) v).tmps.getD k undef) = u.s.map fun k => a.tmps.getD k undef := by
              apply List.map_congr_left
              intro k hk
              rw [put_get, if_neg (fun (h : t.d = k ∧ t.d < a.tmps.size) => hnot (by rw [h.1]; exact hk))]
            rw [e]
            exact h1
        · have := todo_set hin hil; omega
      have fin : ∀ (R : Exit → Act → World → Prop), (∀ e a' w', R e a' w' → e = .normal) → (∀ a' w', R .normal a' w' → wpAny P .any l.toArray Q (f + (l.length - n)) (listed.setIfInBounds i true) a' w') → wpList P l.toArray R [oi] a w → wpOp P l.toArray Q i (fun a' w' => wpAny P .any l.toArray Q (f + (l.length - n)) (listed.setIfInBounds i true) a' w') a w := by
        intro R hR step H
        unfold wpList at H
        unfold wpOp
        rw [hoi]
        simp only
        by_cases hwant : Region.wanted oi (yielded l.toArray a.tmps) = true
        · rw [if_pos hwant] at H
          rw [if_pos hwant]
          left
          rcases H with H | ⟨_, a1, w1, h1⟩
          · exact wp_both (fun a' w' h => step a' w' h) (fun e a' w' he h => absurd (hR _ _ _ h) he) H
          · exact absurd (hR _ _ _ h1) (by simp)
        · rw [if_neg hwant] at H
          rw [if_neg hwant]
          exact step _ _ H
      obtain ⟨j, hj, hjs, hG⟩ := I.stage
      rcases split t ht with h | h
      · obtain ⟨j0, hj0l, hj0⟩ := List.mem_iff_getElem.1 h
        have hg0 : CH[j0]? = some t := by rw [List.getElem?_eq_getElem hj0l, hj0]
        have hnl : listed.getD t.i false = false := by rw [hti]; exact getD_both hil
        have h1 : ¬ j0 < j := fun h => by rw [(hjs j0 t hg0).2 h] at hnl; cases hnl
        have h2 : j0 ≤ j := by
          cases j0 with
          | zero => omega
          | succ q =>
            have hq : CH[q]? = some CH[q] := by simp
            obtain ⟨oj, hoj, e, he, hb, hon⟩ := Region.waitsFor_spec (hlk q _ t hq hg0)
            have : oj = oi := by rw [hti] at hoj; exact Option.some.inj (hoj.symm.trans hoi)
            subst this
            have h3 := hafter e he hb
            rw [hon] at h3
            have := (hjs q _ hq).1 h3
            omega
        obtain rfl : j0 = j := by omega
        refine fin _ (fun e a' w' h => h.1) ?_ (hopC j0 t hg0 oi ho a w hG hframe hfacts)
        rintro a' w' ⟨_, v, rfl, hG'⟩
        refine step0 v w' ⟨j0 + 1, by omega, ?_, ?_⟩ (fun hL => absurd rfl (hdis2 t hL t h).1)
        · intro m c hc
          by_cases hci : c.i = i
          · have hct : c = t := hnodup c (memC c (List.mem_of_getElem? hc)) t ht (by rw [hci, hti])
            subst hct
            have hm0 : m = j0 := by
              rcases Nat.lt_trichotomy m j0 with h | h | h
              · have := (hjs m c hc).2 h
                rw [hnl] at this; cases this
              · exact h
              · exfalso
                have hnd2 : (CH.map (·.i)).Nodup := by
                  have h5 := hnd
                  rw [← hTdef, List.map_map, List.map_append] at h5
                  exact (List.nodup_append.1 h5).1
                have h6 : (CH.map (·.i))[m]? = some c.i := by rw [List.getElem?_map, hc]; rfl
                have h7 : (CH.map (·.i))[j0]? = some c.i := by rw [List.getElem?_map, hg0]; rfl
                obtain ⟨hm1, hm2⟩ := List.getElem?_eq_some_iff.1 h6
                have := (List.getElem?_inj hm1 hnd2).1 (h6.trans h7.symm)
                omega
            subst hm0
            have hlt : i < listed.size := by rw [I.inv.size]; simp; have := hn; omega
            rw [hci]
            simp [hlt]
          · rw [getD_set_ne false (fun e => hci e.symm), hjs m c hc]
            constructor
            · intro h; omega
            · intro h
              rcases Nat.lt_or_ge m j0 with h' | h'
              · exact h'
              · obtain rfl : m = j0 := by omega
                rw [hg0] at hc
                cases hc
                exact absurd hti hci
        · have e : (CH.map fun c => (a.put (some t.d) v).tmps.getD c.d undef) = CH.map fun e => if e.d = t.d then v else a.tmps.getD e.d undef := by
            apply List.map_congr_left
            intro c _
            rw [put_get, I.size]
            by_cases hk : t.d = c.d
            · rw [if_pos ⟨hk, htd⟩, if_pos hk.symm]
            · rw [if_neg (fun h => hk h.1), if_neg (fun h => hk h.symm)]
          rw [e]
          exact hG'
      · refine fin _ (fun e a' w' h => h.1) ?_ (hopL.mem t h oi ho a w hframe hfacts)
        rintro a' w' ⟨_, v, rfl, rfl, hp⟩
        refine step0 v _ ⟨j, hj, ?_, ?_⟩ (fun _ => hp)
        · intro m c hc
          rw [getD_set_ne false (by rw [← hti]; exact (hdis2 t h c (List.mem_of_getElem? hc)).1)]
          exact hjs m c hc
        · have e : (CH.map fun c => (a.put (some t.d) v).tmps.getD c.d undef) = CH.map fun c => a.tmps.getD c.d undef := by
            apply List.map_congr_left
            intro c hc
            rw [put_get, if_neg (fun hh => (hdis2 t h c hc).2 hh.1)]
          rw [e]
          exact hG
  refine wp_region_any hm ?_
  have inv0 : HeadInv .any l.toArray n (Array.replicate l.toArray.size false) :=
    ⟨by simp, fun j oj _ hl => (by rw [getD_replicate_false] at hl; cases hl), fun t _ ht => getD_in (by simpa using ht) (getD_replicate_false _ _)⟩
  have I0 : ChInv l n CH TL T a0 G (Array.replicate l.toArray.size false) a0 { w0 with drawn := w0.drawn + 1 } :=
    ⟨inv0, rfl, rfl, fun _ _ => rfl, ⟨0, Nat.zero_le _, fun m c _ => (by rw [getD_replicate_false]; simp), hG0⟩, fun t _ hl => (by rw [getD_replicate_false] at hl; cases hl)⟩
  have ht0 : todo (Array.replicate l.toArray.size false) n = n := by
    unfold todo
    rw [List.filter_eq_self.2 (fun j hj => by
      have hj' := List.mem_range.1 hj
      have : (Array.replicate l.toArray.size false).getD j true = false := getD_in (by simp; omega) (getD_replicate_false _ _)
      rw [this]; rfl), List.length_range]
  have := key n _ _ _ I0 ht0
  rwa [show n + (l.length - n) = l.toArray.size by simp; omega] at this
end
end Go.Dx
end

/- the text Free4 -/
section
/- A region that draws its order: some operations follow one another (CH) and may change what they own; the others (TL) may make memory, come at any time, and their facts outlast what the chain does (R). No program in sight. -/
set_option linter.unusedVariables false
namespace Go.Dx
open Go.RowKit

def headOk4 (l : List Oper) (n : Nat) (T : List (Nat × Nat × List Nat)) : Bool :=
  let ops := l.toArray
  decide ((T.map (·.1)).Nodup) && decide (n < l.length) && Region.sinkB .any ops n && Region.chainB .any ops n && Region.seqB .any ops (l.length - n) n ((List.replicate n true ++ List.replicate (l.length - n) false).toArray) &&
  (List.range n).all (fun j => T.any fun t => t.1 == j) &&
  T.all (fun t => decide (t.1 < n) && (match l[t.1]? with | some o => (o.after.all fun e => !Region.binds .any e || decide (e.on < t.1)) | none => false)) &&
  T.all (fun t => T.all fun u => t.1 == u.1 || (t.2.1 != u.2.1 && (!u.2.2.contains t.2.1 || Region.waitsFor .any ops u.1 t.1)))
theorem putAll_get4 (g : Nat → Value) : ∀ (L : List Nat) (a : Act) (k : Nat), (putAll a (L.map fun d => (d, g d))).tmps.getD k undef = if k ∈ L ∧ k < a.tmps.size then g k else a.tmps.getD k undef := by
  intro L
  induction L with
  | nil => intro a k; simp [putAll]
  | cons d L ih =>
    intro a k
    have hz : (a.put (some d) (g d)).tmps.size = a.tmps.size := by simp [Act.put]
    rw [List.map_cons, putAll, ih, put_get, hz]
    by_cases h0 : k < a.tmps.size
    · by_cases h1 : k ∈ L
      · rw [if_pos ⟨h1, h0⟩, if_pos ⟨List.mem_cons_of_mem _ h1, h0⟩]
      · rw [if_neg (fun h => h1 h.1)]
        by_cases h2 : d = k
        · subst h2; rw [if_pos ⟨rfl, h0⟩, if_pos ⟨List.mem_cons_self, h0⟩]
        · rw [if_neg (fun h => h2 h.1), if_neg (fun h => by rcases List.mem_cons.1 h.1 with h | h; exact h2 h.symm; exact h1 h)]
    · rw [if_neg (fun h => h0 h.2), if_neg (fun h => h0 (by omega)), if_neg (fun h => h0 h.2)]
section
variable {P : Program}
/-- one operation of the chain is done -/
def OneTurn4 (c : HOp) (a : Act) (R : Value → World → Prop) (e : Exit) (a' : Act) (w' : World) : Prop := e = .normal ∧ ∃ v, a' = (if c.s = [] then a.put (some c.d) v else a) ∧ R v w'
theorem put_out (a : Act) (d : Nat) (v : Value) (h : a.tmps.size ≤ d) : a.put (some d) v = a := by
  refine act_ext rfl (by simp [Act.put]) (fun k => ?_)
  rw [put_get, if_neg (fun hh => by omega)]
/-- A chain operation without a slot (a store) is given a slot beyond the frame and 's' not []. -/
theorem wp_region_chain4 {id : Nat} {Q : Exit → Act → World → Prop} {a0 : Act} {w0 : World} {l : List Oper} (n : Nat) (R4 : World → World → Prop) (G : Nat → List Value → World → Prop) (CH TL : List HOp) (hm : P.follows .mixedOrders = true)
    (hB : ((TL.all fun t => decide (t.d < a0.tmps.size)) && (CH.all fun c => if c.s = [] then decide (c.d < a0.tmps.size) else decide (a0.tmps.size ≤ c.d)) && headOk4 l n ((CH ++ TL).map fun t => (t.i, t.d, if TL.any (fun u => u.i == t.i) then t.s else [])) && linkOk l.toArray (CH.map (·.i)) && (TL.all fun t => CH.all fun c => t.i != c.i && t.d != c.d)) = true)
    (hG0 : G 0 (CH.map fun c => a0.tmps.getD c.d undef) { w0 with drawn := w0.drawn + 1 })
    (hR : ∀ w w', Below w.heap.size w w' → R4 w w')
    (hGm : ∀ j vs w w', Below w.heap.size w w' → G j vs w → G j vs w')
    (hmono : All (fun t : HOp => ∀ vs w w', R4 w w' → t.p vs w → t.p vs w') TL)
    (hopC : ∀ m c, CH[m]? = some c → ∀ o, l[c.i]? = some o → ∀ (a : Act) (w : World), G m (CH.map fun c => a.tmps.getD c.d undef) w →
      (∀ k, ((CH ++ TL).map (·.d)).contains k = false → a.tmps.getD k undef = a0.tmps.getD k undef) →
      (∀ (k : Nat) (u : HOp), TL[k]? = some u → Region.waitsFor .any l.toArray c.i u.i = true → u.p (u.s.map fun k => a.tmps.getD k undef) w) →
      wpList P l.toArray (OneTurn4 c a fun v w' => R4 w w' ∧ G (m + 1) (CH.map fun e => if e.d = c.d then (if c.s = [] then v else undef) else a.tmps.getD e.d undef) w') [o] a w)
    (hopL : All (fun t : HOp => ∀ o, l[t.i]? = some o → ∀ (a : Act) (w : World),
      (∀ k, ((CH ++ TL).map (·.d)).contains k = false → a.tmps.getD k undef = a0.tmps.getD k undef) →
      (∀ (k : Nat) (u : HOp), TL[k]? = some u → Region.waitsFor .any l.toArray t.i u.i = true → u.p (u.s.map fun k => a.tmps.getD k undef) w) →
      (∃ j, (∀ m c, CH[m]? = some c → Region.waitsFor .any l.toArray t.i c.i = true → m < j) ∧ j ≤ CH.length ∧ G j (CH.map fun c => a.tmps.getD c.d undef) w) →
      wpList P l.toArray (OneDone t.d a w fun v w' => t.p (t.s.map fun k => if t.d = k then v else a.tmps.getD k undef) w') [o] a w) TL)
    (hend : ∀ (g : Nat → Value) (w : World), G CH.length (CH.map fun c => g c.d) w → (∀ (k : Nat) (u : HOp), TL[k]? = some u → u.p (u.s.map fun k => if k ∈ (CH ++ TL).map (·.d) then g k else a0.tmps.getD k undef) w) →
      wpList P l.toArray Q (l.drop n) (putAll a0 (((CH ++ TL).map (·.d)).map fun d => (d, g d))) w) : (Code.region id l.toArray true).wp P Q a0 w0 := by
  obtain ⟨T, hTdef⟩ : ∃ T, CH ++ TL = T := ⟨_, rfl⟩
  have memC : ∀ t ∈ CH, t ∈ T := fun t ht => by rw [← hTdef]; exact List.mem_append_left _ ht
  have memL : ∀ t ∈ TL, t ∈ T := fun t ht => by rw [← hTdef]; exact List.mem_append_right _ ht
  have split : ∀ t ∈ T, t ∈ CH ∨ t ∈ TL := fun t ht => by rw [← hTdef] at ht; exact List.mem_append.1 ht
  rw [hTdef] at hB hopC hopL hend
  rw [Bool.and_eq_true, Bool.and_eq_true] at hB
  obtain ⟨⟨hB, hlink⟩, hdis⟩ := hB
  rw [Bool.and_eq_true, Bool.and_eq_true] at hB
  obtain ⟨⟨hTLd, hCHd⟩, hB⟩ := hB
  have htl : ∀ t ∈ TL, t.d < a0.tmps.size := fun t ht => by simpa using List.all_eq_true.1 hTLd t ht
  have hch : ∀ c ∈ CH, c.s = [] → c.d < a0.tmps.size := fun c hc hs => by have := List.all_eq_true.1 hCHd c hc; simpa [hs] using this
  have hch2 : ∀ c ∈ CH, c.s ≠ [] → a0.tmps.size ≤ c.d := fun c hc hs => by have := List.all_eq_true.1 hCHd c hc; simpa [hs] using this
  have hdis2 : ∀ t ∈ TL, ∀ c ∈ CH, t.i ≠ c.i ∧ t.d ≠ c.d := by
    intro t ht c hc
    have := List.all_eq_true.1 (List.all_eq_true.1 hdis t ht) c hc
    simpa using this
  have hlk : ∀ m c e, CH[m]? = some c → CH[m + 1]? = some e → Region.waitsFor .any l.toArray e.i c.i = true := fun m c e h1 h2 =>
    linkOk_get hlink m c.i e.i (by rw [List.getElem?_map, h1]; rfl) (by rw [List.getElem?_map, h2]; rfl)
  simp only [headOk4, Bool.and_eq_true, decide_eq_true_eq] at hB
  obtain ⟨⟨⟨⟨⟨⟨⟨hnd, hn⟩, hs⟩, hc⟩, hseq⟩, hcov⟩, hT⟩, hpair⟩ := hB
  have hnodup : ∀ t ∈ T, ∀ u ∈ T, t.i = u.i → t = u := inj_nodup (·.i) T (by rw [List.map_map] at hnd; exact hnd)
  have hn' : n < l.toArray.size := by simpa using hn
  have cover : ∀ j, j < n → ∃ t ∈ T, t.i = j := by
    intro j hj
    have h := List.all_eq_true.1 hcov j (List.mem_range.2 hj)
    obtain ⟨x, hx, he⟩ := List.any_eq_true.1 h
    obtain ⟨t, ht, rfl⟩ := List.mem_map.1 hx
    exact ⟨t, ht, by simpa using he⟩
  have own : ∀ t ∈ T, t.i < n ∧ ∃ o, l[t.i]? = some o ∧ ∀ e ∈ o.after, Region.binds .any e = true → e.on < t.i := by
    intro t ht
    have h := List.all_eq_true.1 hT _ (List.mem_map.2 ⟨t, ht, rfl⟩)
    simp only [Bool.and_eq_true, decide_eq_true_eq] at h
    obtain ⟨h1, h3⟩ := h
    refine ⟨h1, ?_⟩
    cases ho : l[t.i]? with
    | none => rw [ho] at h3; cases h3
    | some o =>
      rw [ho] at h3
      refine ⟨o, rfl, fun e he hb => ?_⟩
      have := Array.all_eq_true_iff_forall_mem.1 h3 e he
      simpa [hb] using this
  have pair : ∀ t ∈ T, ∀ u ∈ T, t.i ≠ u.i → t.d ≠ u.d ∧ (u ∈ TL → t.d ∈ u.s → Region.waitsFor .any l.toArray u.i t.i = true) := by
    intro t ht u hu hne
    have h := List.all_eq_true.1 (List.all_eq_true.1 hpair _ (List.mem_map.2 ⟨t, ht, rfl⟩)) _ (List.mem_map.2 ⟨u, hu, rfl⟩)
    simp only [Bool.or_eq_true, beq_iff_eq, hne, false_or, Bool.and_eq_true, bne_iff_ne, ne_eq, Bool.not_eq_true'] at h
    refine ⟨h.1, fun huL hin => ?_⟩
    have hany : (TL.any fun v => v.i == u.i) = true := List.any_eq_true.2 ⟨u, huL, by simp⟩
    rw [hany, if_pos rfl] at h
    rcases h.2 with h2 | h2
    · have : u.s.contains t.d = true := by simpa using hin
      rw [this] at h2; cases h2
    · exact h2
  have key : ∀ (f : Nat) (listed : Array Bool) (a : Act) (w : World), ChInv l n CH TL T a0 G listed a w → todo listed n = f → wpAny P .any l.toArray Q (f + (l.length - n)) listed a w := by
    intro f
    induction f with
    | zero =>
      intro listed a w I h0
      have hall : ∀ j, j < n → listed.getD j true = true := by
        intro j hj
        cases hb : listed.getD j true with
        | true => rfl
        | false =>
          have : j ∈ (List.range n).filter fun j => !listed.getD j true := List.mem_filter.2 ⟨List.mem_range.2 hj, by rw [hb]; rfl⟩
          unfold todo at h0
          rw [List.eq_nil_of_length_eq_zero h0] at this
          cases this
      have hlist : listed = (List.replicate n true ++ List.replicate (l.length - n) false).toArray := by
        have hsz := I.inv.size
        apply Array.ext
        · simp at hsz ⊢; omega
        · intro j h1 h2
          by_cases hj : j < n
          · have := hall j hj
            simp [Array.getD, h1] at this
            simp [this, List.getElem_append_left, hj]
          · have := I.inv.tail j (by omega) (by rw [← hsz]; exact h1)
            simp [Array.getD, h1] at this
            simp only [this, List.getElem_toArray]
            rw [List.getElem_append_right (by simp; omega)]
            simp
      have ha : a = putAll a0 ((T.map (·.d)).map fun d => (d, a.tmps.getD d undef)) := by
        refine act_ext (by rw [putAll_defers]; exact I.defers) (by rw [putAll_size]; exact I.size) (fun k => ?_)
        rw [putAll_get4 (fun d => a.tmps.getD d undef)]
        by_cases h0 : k < a0.tmps.size
        · by_cases h : k ∈ T.map (·.d)
          · rw [if_pos ⟨h, h0⟩]
          · rw [if_neg (fun hh => h hh.1)]
            exact I.frame k (fun t ht e => h (List.mem_map.2 ⟨t, ht, e⟩))
        · rw [if_neg (fun hh => h0 hh.2)]
          have h1 := I.size
          have hk : ¬ k < a.tmps.size := by omega
          simp [Array.getD, hk, h0]
      have hls : ∀ t ∈ T, listed.getD t.i false = true := by
        intro t ht
        have := hall t.i (own t ht).1
        rcases Nat.lt_or_ge t.i listed.size with h' | h'
        · simp [h'] at this ⊢; exact this
        · have := I.inv.size; have := (own t ht).1; omega
      obtain ⟨j, hj, hjs, hG⟩ := I.stage
      have hjl : j = CH.length := by
        rcases Nat.lt_or_ge j CH.length with h | h
        · have h1 : CH[j]? = some CH[j] := by simp [h]
          have := (hjs j _ h1).1 (hls _ (memC _ (List.getElem_mem h)))
          omega
        · omega
      rw [hjl] at hG
      have hfin := hend (fun d => a.tmps.getD d undef) w hG (fun k u hu => by
        have hu' := List.mem_of_getElem? hu
        have h1 := I.facts u hu' (hls u (memL u hu'))
        unfold HOp.fact at h1
        have e : (u.s.map fun k => if k ∈ T.map (·.d) then a.tmps.getD k undef else a0.tmps.getD k undef) = u.s.map fun k => a.tmps.getD k undef := by
          apply List.map_congr_left
          intro k _
          by_cases h : k ∈ T.map (·.d)
          · rw [if_pos h]
          · rw [if_neg h]
            exact (I.frame k (fun t ht e => h (List.mem_map.2 ⟨t, ht, e⟩))).symm
        rw [e]
        exact h1)
      rw [← ha] at hfin
      rw [Nat.zero_add]
      have hseq' : Region.seqB .any l.toArray (l.drop n).length n listed = true := by rw [hlist, List.length_drop]; exact hseq
      have := wpAny_of_seq (md := .any) (Q' := Q) (l.drop n) n listed a w (fun j => by simp [List.getElem?_drop]) hseq' hfin
      rwa [List.length_drop] at this
    | succ f ih =>
      intro listed a w I hf
      have hex : ∃ j, j < n ∧ listed.getD j true = false := by
        cases hL : (List.range n).filter fun j => !listed.getD j true with
        | nil => unfold todo at hf; rw [hL] at hf; cases hf
        | cons j L =>
          have : j ∈ (List.range n).filter fun j => !listed.getD j true := by rw [hL]; exact List.mem_cons_self
          obtain ⟨h1, h2⟩ := List.mem_filter.1 this
          exact ⟨j, List.mem_range.1 h1, by simpa using h2⟩
      have hready : Region.ready .any l.toArray listed ≠ [] := by
        have hmin : ∀ m j, j ≤ m → j < n → listed.getD j true = false → ∃ i, i ∈ Region.ready .any l.toArray listed := by
          intro m
          induction m with
          | zero =>
            intro j hj hjn hjl
            have hj0 : j = 0 := by omega
            subst hj0
            obtain ⟨t, ht, hti⟩ := cover 0 hjn
            obtain ⟨_, o, ho, hb⟩ := own t ht
            rw [hti] at ho hb
            exact ⟨0, mem_ready.2 ⟨hjl, o, by simpa using ho, fun e he hbe => absurd (hb e he hbe) (by omega)⟩⟩
          | succ m ihm =>
            intro j hj hjn hjl
            obtain ⟨t, ht, hti⟩ := cover j hjn
            obtain ⟨_, o, ho, hb⟩ := own t ht
            rw [hti] at ho hb
            by_cases hall : ∀ e ∈ o.after, Region.binds .any e = true → listed.getD e.on false = true
            · exact ⟨j, mem_ready.2 ⟨hjl, o, by simpa using ho, hall⟩⟩
            · simp only [Classical.not_forall] at hall
              obtain ⟨e, he, hbe, hne⟩ := hall
              have hlt := hb e he hbe
              have hes : e.on < listed.size := by rw [I.inv.size]; simp; omega
              exact ihm e.on (by omega) (by omega) (getD_in hes (by simpa using hne))
        obtain ⟨j, hj, hjl⟩ := hex
        obtain ⟨i, hi⟩ := hmin j j (Nat.le_refl _) hj hjl
        intro h
        rw [h] at hi
        cases hi
      rw [show f + 1 + (l.length - n) = (f + (l.length - n)) + 1 by omega]
      refine ⟨fun h => absurd h hready, fun i hi => ?_⟩
      have hin : i < n := by
        rcases Nat.lt_or_ge i n with h | h
        · exact h
        · obtain ⟨j, hj, hjl⟩ := hex
          exact absurd hi (tail_waits hs hc hn' I.inv _ j rfl hj hjl i h)
      obtain ⟨t, ht, hti⟩ := cover i hin
      obtain ⟨_, o, ho, _⟩ := own t ht
      obtain ⟨hil, oi, hoi, hafter⟩ := mem_ready.1 hi
      have hoo : oi = o := by rw [hti] at ho; exact Option.some.inj (hoi.symm.trans (by simpa using ho))
      subst hoo
      have hframe : ∀ k, (T.map (·.d)).contains k = false → a.tmps.getD k undef = a0.tmps.getD k undef := fun k hk => I.frame k (fun u hu e => by
          have : (T.map (·.d)).contains k = true := by simpa using ⟨u, hu, e⟩
          rw [this] at hk; cases hk)
      have hfacts : ∀ (k : Nat) (u : HOp), TL[k]? = some u → Region.waitsFor .any l.toArray t.i u.i = true → u.p (u.s.map fun k => a.tmps.getD k undef) w := fun k u hu hw => by
        have hu' := List.mem_of_getElem? hu
        obtain ⟨oj, hoj, e, he, hb, hon⟩ := Region.waitsFor_spec hw
        have : oj = oi := by rw [hti] at hoj; exact Option.some.inj (hoj.symm.trans hoi)
        subst this
        have h1 := hafter e he hb
        rw [hon] at h1
        exact I.facts u hu' h1
      have step0 : ∀ (v : Value) (w' : World), R4 w w' → (∃ j, j ≤ CH.length ∧ (∀ m c, CH[m]? = some c → ((listed.setIfInBounds i true).getD c.i false = true ↔ m < j)) ∧ G j (CH.map fun c => (a.put (some t.d) v).tmps.getD c.d undef) w') →
          (t ∈ TL → t.p (t.s.map fun k => if t.d = k then v else a.tmps.getD k undef) w') → wpAny P .any l.toArray Q (f + (l.length - n)) (listed.setIfInBounds i true) (a.put (some t.d) v) w' := by
        intro v w' hrr hst hp
        refine ih _ _ _ ⟨I.inv.set hi hin, I.defers, ?_, ?_, hst, ?_⟩ ?_
        · rw [← I.size]; simp [Act.put]
        · intro k hk
          rw [put_get, if_neg (fun h => hk t ht h.1)]
          exact I.frame k hk
        · intro u hu hul
          by_cases hui : t.i = u.i
          · unfold HOp.fact
            have hut : u = t := hnodup u (memL u hu) t ht hui.symm
            subst hut
            have e : (u.s.map fun k => (a.put (some u.d) v).tmps.getD k undef) = u.s.map fun k => if u.d = k then v else a.tmps.getD k undef := by
              apply List.map_congr_left
              intro k _
              rw [put_get, I.size]
              by_cases hk : u.d = k
              · rw [if_pos ⟨hk, htl _ hu⟩, if_pos hk]
              · rw [if_neg (fun h => hk h.1), if_neg hk]
            rw [e]
            exact hp hu
          · unfold HOp.fact
            have hul2 : listed.getD u.i false = true := by rw [← getD_set_ne false (i := i) (j := u.i) (by rw [← hti]; exact hui)]; exact hul
            have h1 := hmono.mem u hu _ w w' hrr (I.facts u hu hul2)
            have hnot : t.d ∉ u.s := by
              intro hin2
              have hw := (pair t ht u (memL u hu) hui).2 hu hin2
              obtain ⟨ou, hou, e, he, hb, hon⟩ := Region.waitsFor_spec hw
              have := I.inv.closed u.i ou hou hul2 e he hb
              rw [hon, hti, getD_both hil] at this
              cases this
            have e : (u.s.map fun k => (a.put (some t.d) v).tmps.getD k undef) = u.s.map fun k => a.tmps.getD k undef := by
              apply List.map_congr_left
              intro k hk
              rw [put_get, if_neg (fun (h : t.d = k ∧ t.d < a.tmps.size) => hnot (by rw [h.1]; exact hk))]
            rw [e]
            exact h1
        · have := todo_set hin hil; omega
      have fin : ∀ (R : Exit → Act → World → Prop), (∀ e a' w', R e a' w' → e = .normal) → (∀ a' w', R .normal a' w' → wpAny P .any l.toArray Q (f + (l.length - n)) (listed.setIfInBounds i true) a' w') → wpList P l.toArray R [oi] a w → wpOp P l.toArray Q i (fun a' w' => wpAny P .any l.toArray Q (f + (l.length - n)) (listed.setIfInBounds i true) a' w') a w := by
        intro R hR step H
        unfold wpList at H
        unfold wpOp
        rw [hoi]
        simp only
        by_cases hwant : Region.wanted oi (yielded l.toArray a.tmps) = true
        · rw [if_pos hwant] at H
          rw [if_pos hwant]
          left
          rcases H with H | ⟨_, a1, w1, h1⟩
          · exact wp_both (fun a' w' h => step a' w' h) (fun e a' w' he h => absurd (hR _ _ _ h) he) H
          · exact absurd (hR _ _ _ h1) (by simp)
        · rw [if_neg hwant] at H
          rw [if_neg hwant]
          exact step _ _ H
      obtain ⟨j, hj, hjs, hG⟩ := I.stage
      rcases split t ht with h | h
      · obtain ⟨j0, hj0l, hj0⟩ := List.mem_iff_getElem.1 h
        have hg0 : CH[j0]? = some t := by rw [List.getElem?_eq_getElem hj0l, hj0]
        have hnl : listed.getD t.i false = false := by rw [hti]; exact getD_both hil
        have h1 : ¬ j0 < j := fun h => by rw [(hjs j0 t hg0).2 h] at hnl; cases hnl
        have h2 : j0 ≤ j := by
          cases j0 with
          | zero => omega
          | succ q =>
            have hq : CH[q]? = some CH[q] := by simp
            obtain ⟨oj, hoj, e, he, hb, hon⟩ := Region.waitsFor_spec (hlk q _ t hq hg0)
            have : oj = oi := by rw [hti] at hoj; exact Option.some.inj (hoj.symm.trans hoi)
            subst this
            have h3 := hafter e he hb
            rw [hon] at h3
            have := (hjs q _ hq).1 h3
            omega
        obtain rfl : j0 = j := by omega
        refine fin _ (fun e a' w' h => h.1) ?_ (hopC j0 t hg0 oi ho a w hG hframe hfacts)
        rintro a' w' ⟨_, v, ha', hrr, hG'⟩
        obtain rfl : a' = a.put (some t.d) v := by
          rw [ha']
          by_cases hs0 : t.s = []
          · rw [if_pos hs0]
          · rw [if_neg hs0, put_out a t.d v (by rw [I.size]; exact hch2 t h hs0)]
        refine step0 v w' hrr ⟨j0 + 1, by omega, ?_, ?_⟩ (fun hL => absurd rfl (hdis2 t hL t h).1)
        · intro m c hc
          by_cases hci : c.i = i
          · have hct : c = t := hnodup c (memC c (List.mem_of_getElem? hc)) t ht (by rw [hci, hti])
            subst hct
            have hm0 : m = j0 := by
              rcases Nat.lt_trichotomy m j0 with h | h | h
              · have := (hjs m c hc).2 h
                rw [hnl] at this; cases this
              · exact h
              · exfalso
                have hnd2 : (CH.map (·.i)).Nodup := by
                  have h5 := hnd
                  rw [← hTdef, List.map_map, List.map_append] at h5
                  exact (List.nodup_append.1 h5).1
                have h6 : (CH.map (·.i))[m]? = some c.i := by rw [List.getElem?_map, hc]; rfl
                have h7 : (CH.map (·.i))[j0]? = some c.i := by rw [List.getElem?_map, hg0]; rfl
                obtain ⟨hm1, hm2⟩ := List.getElem?_eq_some_iff.1 h6
                have := (List.getElem?_inj hm1 hnd2).1 (h6.trans h7.symm)
                omega
            subst hm0
            have hlt : i < listed.size := by rw [I.inv.size]; simp; have := hn; omega
            rw [hci]
            simp [hlt]
          · rw [getD_set_ne false (fun e => hci e.symm), hjs m c hc]
            constructor
            · intro h; omega
            · intro h
              rcases Nat.lt_or_ge m j0 with h' | h'
              · exact h'
              · obtain rfl : m = j0 := by omega
                rw [hg0] at hc
                cases hc
                exact absurd hti hci
        · have e : (CH.map fun c => (a.put (some t.d) v).tmps.getD c.d undef) = CH.map fun e => if e.d = t.d then (if t.s = [] then v else undef) else a.tmps.getD e.d undef := by
            apply List.map_congr_left
            intro c _
            rw [put_get, I.size]
            by_cases hk : t.d = c.d
            · by_cases hs0 : t.s = []
              · rw [if_pos ⟨hk, hch t h hs0⟩, if_pos hk.symm, if_pos hs0]
              · have h2 := hch2 t h hs0
                rw [if_neg (fun hh => by omega), if_pos hk.symm, if_neg hs0]
                have h1 := I.size
                have hk : ¬ c.d < a.tmps.size := by omega
                simp [Array.getD, hk]
            · rw [if_neg (fun h => hk h.1), if_neg (fun h => hk h.symm)]
          rw [e]
          exact hG'
      · refine fin _ (fun e a' w' h => h.1) ?_ (hopL.mem t h oi ho a w hframe hfacts ⟨j, ?_, hj, hG⟩)
        rotate_left
        · intro m c hc hw
          obtain ⟨oj, hoj, e, he, hb, hon⟩ := Region.waitsFor_spec hw
          have : oj = oi := by rw [hti] at hoj; exact Option.some.inj (hoj.symm.trans hoi)
          subst this
          have h3 := hafter e he hb
          rw [hon] at h3
          exact (hjs m c hc).1 h3
        rintro a' w' ⟨_, v, rfl, hbl, hp⟩
        refine step0 v _ (hR _ _ hbl) ⟨j, hj, ?_, ?_⟩ (fun _ => hp)
        · intro m c hc
          rw [getD_set_ne false (by rw [← hti]; exact (hdis2 t h c (List.mem_of_getElem? hc)).1)]
          exact hjs m c hc
        · have e : (CH.map fun c => (a.put (some t.d) v).tmps.getD c.d undef) = CH.map fun c => a.tmps.getD c.d undef := by
            apply List.map_congr_left
            intro c hc
            rw [put_get, if_neg (fun hh => (hdis2 t h c hc).2 hh.1)]
          rw [e]
          exact hGm _ _ _ _ hbl hG
  refine wp_region_any hm ?_
  have inv0 : HeadInv .any l.toArray n (Array.replicate l.toArray.size false) :=
    ⟨by simp, fun j oj _ hl => (by rw [getD_replicate_false] at hl; cases hl), fun t _ ht => getD_in (by simpa using ht) (getD_replicate_false _ _)⟩
  have I0 : ChInv l n CH TL T a0 G (Array.replicate l.toArray.size false) a0 { w0 with drawn := w0.drawn + 1 } :=
    ⟨inv0, rfl, rfl, fun _ _ => rfl, ⟨0, Nat.zero_le _, fun m c _ => (by rw [getD_replicate_false]; simp), hG0⟩, fun t _ hl => (by rw [getD_replicate_false] at hl; cases hl)⟩
  have ht0 : todo (Array.replicate l.toArray.size false) n = n := by
    unfold todo
    rw [List.filter_eq_self.2 (fun j hj => by
      have hj' := List.mem_range.1 hj
      have : (Array.replicate l.toArray.size false).getD j true = false := getD_in (by simp; omega) (getD_replicate_false _ _)
      rw [this]; rfl), List.length_range]
  have := key n _ _ _ I0 ht0
  rwa [show n + (l.length - n) = l.toArray.size by simp; omega] at this
end
end Go.Dx
end

/- the text K41 -/
section
/- Chapter 37: the reference's In. -/
set_option linter.unusedVariables false
namespace Go.Dx
open Go.RowKit
theorem inE_9 {e : En} {b core : List UInt8} (h : openZ e.key b = (core, 9)) : inE e b = ({ e with forged := e.forged + 1 }, [], 9) := by
  unfold inE; rw [h]; rfl
theorem inE_bad {e : En} {b core : List UInt8} {E : Int} (h : openZ e.key b = (core, E)) (h9 : E ≠ 9) (h0 : E ≠ 0) : inE e b = (e, [], E) := by
  unfold inE; rw [h, if_neg h9, if_pos h0]
theorem inE_none {e : En} {b core : List UInt8} (h : openZ e.key b = (core, 0)) (hr : readZ core = none) : inE e b = (e, [], 2) := by
  unfold inE; rw [h, if_neg (by simp), if_neg (by simp)]; simp only [hr]
theorem inE_some {e : En} {b core : List UInt8} {p : Pk} (h : openZ e.key b = (core, 0)) (hr : readZ core = some p) : inE e b = ((inP e p).1, (inP e p).2, 0) := by
  unfold inE; rw [h, if_neg (by simp), if_neg (by simp)]; simp only [hr]
theorem readZ_ok {l : List UInt8} {p : Pk} (h : readZ l = some p) : pkOk p = true := by
  unfold readZ at h
  split at h
  · split at h
    · split at h
      · rename_i h1
        cases h
        exact h1
      · cases h
    · cases h
  · cases h
theorem inP_far {e : En} {p : Pk} (h : e.acked + e.wait.length < p.ack.toNat ∨ e.del + 16 < p.seq.toNat) : inP e p = (e, []) := by
  unfold inP; rw [if_pos h]
theorem inP_zero {e : En} {kk : Nat} {b : List UInt8} (h : ¬ (e.acked + e.wait.length < kk ∨ e.del + 16 < 0)) : inP e ⟨((0 : Nat) : Int), (kk : Int), b⟩ = (ackE e ((kk : Int)).toNat, []) := by
  unfold inP; rw [if_neg (by simpa using h)]; rfl
theorem inP_msg {e : En} {q kk : Nat} {b : List UInt8} (h : ¬ (e.acked + e.wait.length < kk ∨ e.del + 16 < q)) (hq : q ≠ 0) : inP e ⟨(q : Int), (kk : Int), b⟩ = ((delE ((holdE { ackE e kk with ow := true } q b).held.length + 1) (holdE { ackE e kk with ow := true } q b)).2, (delE ((holdE { ackE e kk with ow := true } q b).held.length + 1) (holdE { ackE e kk with ow := true } q b)).1) := by
  unfold inP; rw [if_neg (by simpa using h), if_neg (by show ¬ ((q : Int) = 0); omega)]; rfl
theorem ackE_ow (e : En) (k : Nat) : (ackE e k).ow = e.ow := by unfold ackE; split <;> rfl
end Go.Dx
namespace Go.Proofs.Ytjdnmbapmobaaaa
open Go.RowKit Go.Dx Go.Al
theorem info_held : (Try.prog.info? 78).map (fun i => (i.zero, i.size, i.bytes)) = some (some (.agg #[.int .i64 0, .slice none 0 0]), 2, 32) := by kernel_rfl
theorem size_hsl : (Try.prog.info? 29).map (·.size) = some 1 := by kernel_rfl
def GivesRI (p : Nat) (gs gh : Option Nat) (e : En) (S : List (List UInt8)) (b : List UInt8) (w : World) (r : Ending) (w' : World) : Prop :=
  ∃ a1 c1 ho gh', r = .returned (.tuple #[.slice a1 (inE e b).2.1.length c1, .int .i64 (inE e b).2.2]) ∧ Own w' w.heap.size 33 1 a1 (inE e b).2.1.length c1 (ho.map hv) ∧ Rows w' ho (inE e b).2.1 ∧ RAt w' p gs gh' (inE e b).1 S ∧ Fr (rfoot p gs gh) w w' ∧ ∀ x ∈ rfoot p gs gh', x ∈ rfoot p gs gh ∨ w.heap.size ≤ x
theorem ri_nil {p : Nat} {gs gh : Option Nat} {e E1 : En} {S : List (List UInt8)} {b : List UInt8} {w w' : World} {er : Int} (hin : inE e b = (E1, [], er)) (R : RAt w' p gs gh E1 S) (F : Fr (rfoot p gs gh) w w') : GivesRI p gs gh e S b w (.returned (.tuple #[.slice none 0 0, .int .i64 er])) w' := by
  unfold GivesRI
  rw [hin]
  exact ⟨none, 0, [], gh, rfl, Own.nil _ _ _ _, Rows.nil _, R, F, fun x hx => .inl hx⟩
/-- before and behind the append to the held list, some cells kept -/
def GHeld (wr : World) (cs : List (Addr × Value)) (ah : Option Addr) (nh : Nat) (hh : List (Nat × Hd)) (q : Nat) (aP : Option Addr) (nP cP : Nat) (j : Nat) (vs : List Value) (w' : World) : Prop :=
  (∀ x ∈ cs, w'.cell? x.1 = some x.2) ∧ (j = 0 → Below wr.heap.size wr w') ∧ (1 ≤ j → ∃ a8 c8, vs = [.slice a8 (nh + 1) c8] ∧ Own w' 0 78 2 a8 (nh + 1) c8 ((hh ++ [(q, (aP, nP, cP))]).flatMap h2c) ∧ (∀ y, a8 = some y → (∃ q', ah = some q' ∧ q'.block = y.block) ∨ wr.heap.size ≤ y.block) ∧ Fr (ah.map (·.block)).toList wr w') ∧ wr.heap.size ≤ w'.heap.size
theorem GHeld.mono {wr : World} {cs : List (Addr × Value)} {ah : Option Addr} {nh : Nat} {hh : List (Nat × Hd)} {q : Nat} {aP : Option Addr} {nP cP : Nat} (j : Nat) (vs : List Value) (w w' : World) (hb : Below w.heap.size w w') (h : GHeld wr cs ah nh hh q aP nP cP j vs w) : GHeld wr cs ah nh hh q aP nP cP j vs w' := by
  refine ⟨fun x hx => cell_blw (h.1 x hx) hb, fun hj => (h.2.1 hj).trans (hb.mono (h.2.1 hj).size), fun hj => ?_, Nat.le_trans h.2.2.2 hb.size⟩
  obtain ⟨a8, c8, h1, h2, h3, h4⟩ := h.2.2.1 hj
  exact ⟨a8, c8, h1, h2.below hb, h3, h4.below hb⟩
theorem RAtM.held2 {w w1 w2 : World} {p : Nat} {a : Option Addr} {c : Nat} {hs : List Hd} {ah ah' : Option Addr} {ch ch' : Nat} {hh hh' : List (Nat × Hd)} {e e' : En} {S : List (List UInt8)} (h : RAtM w p a c hs ah ch hh e S) (F1 : Fr (ah.map (·.block)).toList w w1) (t : Own w1 0 78 2 ah' e'.held.length ch' (hh'.flatMap h2c)) (hf : ∀ q, ah' = some q → (∃ q', ah = some q' ∧ q'.block = q.block) ∨ w.heap.size ≤ q.block) (key : hh'.map (·.1) = e'.held.map (·.1)) (r : Rows w1 (hh'.map (·.2)) (e'.held.map (·.2))) (ack : e'.acked ≤ S.length) (wait : e'.wait = S.drop e'.acked)
    (x : Box w2 p 31 [.int .i64 (e'.win : Int), V64 e'.key, .slice a S.length c, .int .i64 (e'.acked : Int), .int .i64 (e'.del : Int), .slice ah' e'.held.length ch', .bool e'.ow, .int .i64 (e'.forged : Int)]) (g2 : w1.grownBy w2 (some p)) : RAtM w2 p a c hs ah' ch' hh' e' S := by
  have N1 := own_nobs h.hld (by decide)
  have hx1 : NoB w1 p := fun C z hc => by
    rw [F1.block p h.box.lt (fun hx => own_box h.hld h.box (by decide) p hx rfl)] at hc
    exact NoB.box h.box (by decide) C z hc
  exact RAtM.mk2 hx1 (own_fr h.top F1 (own_apart h.top h.hld (by decide))) (h.row.fr F1 N1) t key r (own_box h.top h.box (by decide)) (new_ne hf h.box.lt (own_box h.hld h.box (by decide))) x g2 ack wait
theorem _root_.Go.Dx.Rows.take {w : World} {hs : List Hd} {p : List (List UInt8)} (h : Rows w hs p) (k : Nat) : Rows w (hs.take k) (p.take k) :=
  ⟨by rw [List.length_take, List.length_take, h.1], fun i x r h1 h2 => by
    rw [List.getElem?_take] at h1 h2
    split at h1
    · rename_i hk
      rw [if_pos hk] at h2
      exact h.2 i x r h1 h2
    · cases h1⟩
theorem _root_.Go.Dx.Rows.drop {w : World} {hs : List Hd} {p : List (List UInt8)} (h : Rows w hs p) (k : Nat) : Rows w (hs.drop k) (p.drop k) :=
  ⟨by rw [List.length_drop, List.length_drop, h.1], fun i x r h1 h2 => by
    rw [List.getElem?_drop] at h1 h2
    exact h.2 _ x r h1 h2⟩
theorem foot_new2 {w : World} {p : Nat} {aa ah ah2 : Option Addr} (hf : ∀ y, ah2 = some y → (∃ q', ah = some q' ∧ q'.block = y.block) ∨ w.heap.size ≤ y.block) : ∀ x ∈ rfoot p (aa.map (·.block)) (ah2.map (·.block)), x ∈ rfoot p (aa.map (·.block)) (ah.map (·.block)) ∨ w.heap.size ≤ x := fun x hx => by
  unfold rfoot at hx ⊢
  rcases List.mem_cons.1 hx with h | h
  · exact .inl (by rw [h]; simp)
  · rcases List.mem_append.1 h with h | h
    · exact .inl (List.mem_cons_of_mem _ (List.mem_append_left _ h))
    · rcases blk_new hf x h with h2 | h2
      · exact .inl (List.mem_cons_of_mem _ (List.mem_append_right _ h2))
      · exact .inr h2
set_option maxRecDepth 100000 in
set_option maxHeartbeats 8000000 in
theorem r_In (p : Nat) (gs gh : Option Nat) (e : En) (S : List (List UInt8)) (b : List UInt8) (a : Option Addr) (n c : Nat) (w : World) (h : RAt w p gs gh e S) (hs : Sl w 1 a n c (b.map B8)) (hl : b.length ≤ 1000) (hSl : S.length ≤ 900) (hhl : e.held.length ≤ 900) (hdl : e.del ≤ 100000) (hfg : e.forged ≤ 100000) (hq : QuietE e) :
    Calls Try.prog 20 #[.pointer (some ⟨p, 0, none⟩), .slice a n c] w (GivesRI p gs gh e S b w) := by
  obtain ⟨aS, cS, hsS, ah, ch, hh, h, rfl, rfl⟩ := h
  obtain ⟨win, key, wait, acked, del, held, ow, forged⟩ := e
  obtain ⟨m, hm⟩ : ∃ m, Hid (S.length = m) := ⟨_, hide rfl⟩
  obtain ⟨nh, hnh⟩ : ∃ m, Hid (held.length = m) := ⟨_, hide rfl⟩
  obtain ⟨⟨core, E⟩, hO⟩ : ∃ r, Hid (openZ key b = r) := ⟨_, hide rfl⟩
  have hcl : core.length ≤ 1000 := by
    have h1 := openZ_len key b
    rw [hO.out] at h1
    simp only at h1
    omega
  have HOP : Hid (∀ w, Sl w 1 a n c (b.map B8) → Calls Try.prog 30 #[V64 key, .slice a n c] w (GivesR core E w)) := hide (fun w h => ref_Open key b a n c w h hl hO.out)
  have hm9 : m ≤ 900 := by rw [← hm.out]; exact hSl
  have hnh9 : nh ≤ 900 := by rw [← hnh.out]; exact hhl
  have hdl9 : del ≤ 100000 := hdl
  have hfg9 : forged ≤ 100000 := hfg
  have hac : acked ≤ m := by rw [← hm.out]; exact h.ack
  have HQ : Hid (QuietE (⟨win, key, wait, acked, del, held, ow, forged⟩ : En)) := hide hq
  have H0 := hide h
  have HS := hide hs
  have c1 := h.box.at_ (j := 1) rfl
  have hplt := h.box.lt
  have hslt : Hid (∀ x ∈ (aS.map (·.block)).toList, x < w.heap.size) := hide (fun x hx => (own_lt h.top x hx).2)
  clear h hs hl hSl hhl hdl hfg hq
  go_enter Try.func20, Try.ntmps20
  go_upto_region 2 with (go_at_call 30; refine (HOP.out _ HS.out).mono ?_; rintro e1 w1 ⟨aC, cC, rfl, sC, b1⟩; have SC := hide sC; have B1 := hide b1; have H1 := hide (H0.out.below b1); clear sC b1)
  clear HOP c1 HS
  by_cases hE9 : E = 9
  · subst hE9
    have hin : inE (⟨win, key, wait, acked, del, held, ow, forged⟩ : En) b = (⟨win, key, wait, acked, del, held, ow, forged + 1⟩, [], 9) := inE_9 hO.out
    have HIN := hide hin
    have hw1 : IntKind.i64.wrap ((forged : Int) + 1) = ((forged + 1 : Nat) : Int) := by rw [show (forged : Int) + 1 = ((forged + 1 : Nat) : Int) by omega]; exact IntWalk.i64_in _ (by omega)
    have x1 := H1.out.box
    simp only [hm.out, hnh.out] at x1
    have X1 := hide x1
    clear x1
    have c7 := X1.out.at_ (j := 7) rfl
    clear hin
    go_wp2_with (with_reducible refine store_cell 3 _ _ 31 p 7 [.int .i64 (win : Int), V64 key, .slice aS m cS, .int .i64 (acked : Int), .int .i64 (del : Int), .slice ah nh ch, .bool ow, .int .i64 (forged : Int)] (.int .i64 ((forged + 1 : Nat) : Int)) size_i X1.out rfl rfl rfl rfl (by simp) ?_; intro w9 x9 g9 s9)
    go_ret2
    refine ri_nil HIN.out ⟨aS, cS, hsS, ah, ch, hh, H1.out.setbox rfl H1.out.ack H1.out.wait ?_ g9, rfl, rfl⟩ ((Fr.of B1.out).grown g9 (fun x hx => by cases hx; exact .inl (by simp [rfoot])))
    have hx := x9
    simp only [List.set_cons_succ, List.set_cons_zero] at hx
    show Box w9 p _ [_, _, .slice aS S.length cS, _, _, .slice ah held.length ch, _, _]
    rw [hm.out, hnh.out]
    exact hx
  · by_cases hE0 : E = 0
    · subst hE0
      clear hE9
      obtain ⟨o, ho⟩ : ∃ o, Hid (readZ core = o) := ⟨_, hide rfl⟩
      have hRD := r_Read core aC core.length cC w1 SC.out (by omega) ho.out
      go_upto_region 7 with (first
        | (go_at_call 39; refine hRD.mono ?_; rintro e2 w2 ⟨s0, k0, aP, nP, cP, rfl, b2, hP⟩; have HP := hide hP; have B2 := hide (B1.out.trans (b2.mono B1.out.size)); have hzb := hide (Box.new w2 43 #[.int .i64 0, .int .i64 0, .slice none 0 0]); have hb2 := hide (sblo w2 (.cells #[.int .i64 0, .int .i64 0, .slice none 0 0] 43)); clear hP b2)
        | (with_reducible refine store_all 43 _ _ 43 w2.heap.size [.int .i64 0, .int .i64 0, .slice none 0 0] [.int .i64 s0, .int .i64 k0, .slice aP nP cP] _ (size_rpk _ _ _ _ _) hzb.out rfl rfl rfl (Eq.refl 3) (by simp [Value.oneCell']) ?_; intro w3 x3 g3 s3; have X3 := hide x3; have b23 := hb2.out.grown g3 hb2.out.size (fun x hx => by cases hx; exact Nat.le_refl _); have B23 := hide b23; have B3 := hide (B2.out.trans (b23.mono B2.out.size)); have H3 := hide (H0.out.below B3.out); clear x3 g3 s3 b23))
      clear hRD hzb hb2 H1 SC
      obtain ⟨gP, hgP⟩ : ∃ gP, w2.heap.size = gP := ⟨_, rfl⟩
      have hgPl : Hid (w.heap.size ≤ gP) := hide (by rw [← hgP]; exact B2.out.size)
      simp only [hgP] at X3 ⊢
      clear hgP
      cases o with
      | none =>
        have hin : inE (⟨win, key, wait, acked, del, held, ow, forged⟩ : En) b = ((⟨win, key, wait, acked, del, held, ow, forged⟩ : En), [], 2) := inE_none hO.out ho.out
        have HIN := hide hin
        clear hin
        go_wp2_with fail
        go_ret2
        exact ri_nil HIN.out ⟨aS, cS, hsS, ah, ch, hh, H3.out, rfl, rfl⟩ (Fr.of B3.out)
      | some pk =>
        obtain ⟨s1, k1, bb⟩ := pk
        obtain ⟨hs0, hk0, hnP, sP, kP⟩ := HP.out _ rfl
        simp only at hs0 hk0 hnP sP kP
        subst hs0 hk0
        have hokp := readZ_ok ho.out
        have hsn : 0 ≤ s0 ∧ 0 ≤ k0 := by
          unfold pkOk at hokp
          simp only [Bool.and_eq_true, decide_eq_true_eq] at hokp
          exact ⟨hokp.1.1.1, hokp.1.1.2⟩
        obtain ⟨q, rfl⟩ : ∃ q : Nat, s0 = q := ⟨s0.toNat, by omega⟩
        obtain ⟨kk, rfl⟩ : ∃ kk : Nat, k0 = kk := ⟨k0.toNat, by omega⟩
        have hin : inE (⟨win, key, wait, acked, del, held, ow, forged⟩ : En) b = ((inP (⟨win, key, wait, acked, del, held, ow, forged⟩ : En) ⟨(q : Int), (kk : Int), bb⟩).1, (inP (⟨win, key, wait, acked, del, held, ow, forged⟩ : En) ⟨(q : Int), (kk : Int), bb⟩).2, 0) := inE_some hO.out ho.out
        have HIN := hide hin
        have SP := hide (sP.below B23.out)
        have KP := hide (kP.below B23.out)
        have hwl : Hid (wait.length = m - acked) := hide (by have h1 : wait = S.drop acked := H0.out.wait; rw [h1, List.length_drop, hm.out])
        clear hin hokp hsn sP kP HP hO ho hnP
        have c2 := H3.out.box.at_ (j := 2) rfl
        simp only [hm.out] at c2
        have c4 := H3.out.box.at_ (j := 4) rfl
        have p0 := X3.out.at_ (j := 0) rfl
        have p1 := X3.out.at_ (j := 1) rfl
        have hw16 : IntKind.i64.wrap ((del : Int) + 16) = (del : Int) + 16 := IntWalk.i64_in _ (by omega)
        have hbn : Hid (∀ n, Below w3.heap.size w3 (w3.drewN n)) := hide (fun n => Still.below n)
        by_cases hr1 : m < kk
        · have d1 : decide ((m : Int) < (kk : Int)) = true := decide_eq_true (by omega)
          have d1n : decide (m < kk) = true := decide_eq_true hr1
          have hip : inP (⟨win, key, wait, acked, del, held, ow, forged⟩ : En) ⟨(q : Int), (kk : Int), bb⟩ = ((⟨win, key, wait, acked, del, held, ow, forged⟩ : En), []) := inP_far (.inl (by show acked + wait.length < ((kk : Int)).toNat; have := hwl.out; omega))
          rw [hip] at HIN
          clear hip
          go_wp2_with fail
          go_quiet (fail)
          have b4 := hbn.out nq
          have B4 := hide (B3.out.trans (b4.mono B3.out.size))
          have H4 := hide (H0.out.below B4.out)
          clear b4 hbn c2 c4 p0 p1
          generalize w3.drewN nq = w4 at *
          go_wp2_with fail
          go_ret2
          exact ri_nil HIN.out ⟨aS, cS, hsS, ah, ch, hh, H4.out, rfl, rfl⟩ (Fr.of B4.out)
        · by_cases hr2 : del + 16 < q
          · have d1 : decide ((m : Int) < (kk : Int)) = false := decide_eq_false (by omega)
            have d1n : decide (m < kk) = false := decide_eq_false hr1
            have d2 : decide ((del : Int) + 16 < (q : Int)) = true := decide_eq_true (by omega)
            have hip : inP (⟨win, key, wait, acked, del, held, ow, forged⟩ : En) ⟨(q : Int), (kk : Int), bb⟩ = ((⟨win, key, wait, acked, del, held, ow, forged⟩ : En), []) := inP_far (.inr (by show del + 16 < ((q : Int)).toNat; omega))
            rw [hip] at HIN
            clear hip
            go_wp2_with fail
            go_quiet (fail)
            have b4 := hbn.out nq
            have B4 := hide (B3.out.trans (b4.mono B3.out.size))
            have H4 := hide (H0.out.below B4.out)
            clear b4 hbn c2 c4 p0 p1
            generalize w3.drewN nq = w4 at *
            go_wp2_with fail
            go_ret2
            exact ri_nil HIN.out ⟨aS, cS, hsS, ah, ch, hh, H4.out, rfl, rfl⟩ (Fr.of B4.out)
          · have d1 : decide ((m : Int) < (kk : Int)) = false := decide_eq_false (by omega)
            have d1n : decide (m < kk) = false := decide_eq_false hr1
            have d2 : decide ((del : Int) + 16 < (q : Int)) = false := decide_eq_false (by omega)
            go_wp2_with fail
            go_quiet (fail)
            have b4 := hbn.out nq
            have B4 := hide (B3.out.trans (b4.mono B3.out.size))
            have H4 := hide (H0.out.below B4.out)
            have X4 := hide (X3.out.under b4)
            have SP4 := hide (SP.out.below b4)
            have KP4 := hide (KP.out.below b4)
            clear b4 hbn c2 c4 p0 p1 d1 d1n d2 hw16 H3 B3 X3 SP KP B2 B23
            generalize w3.drewN nq = w4 at *
            obtain ⟨ak, hak⟩ : ∃ ak, Hid (max acked kk = ak) := ⟨_, hide rfl⟩
            have hmax : max (acked : Int) (kk : Int) = (ak : Int) := by rw [← hak.out]; omega
            have hakm : ak ≤ m := by rw [← hak.out]; omega
            have hack : ackE (⟨win, key, wait, acked, del, held, ow, forged⟩ : En) kk = (⟨win, key, S.drop ak, ak, del, held, ow, forged⟩ : En) := by
              have h1 : wait = S.drop acked := H0.out.wait
              obtain ⟨h2, h3⟩ := ack_wait (S := S) (e := (⟨win, key, wait, acked, del, held, ow, forged⟩ : En)) (k := kk) h1
              obtain ⟨h4, h5, h6, h7, h8⟩ := ackE_held (⟨win, key, wait, acked, del, held, ow, forged⟩ : En) kk
              have h9 := ackE_ow (⟨win, key, wait, acked, del, held, ow, forged⟩ : En) kk
              rw [h3] at h2
              simp only [hak.out] at h2 h3
              generalize ackE (⟨win, key, wait, acked, del, held, ow, forged⟩ : En) kk = z at *
              obtain ⟨z1, z2, z3, z4, z5, z6, z7, z8⟩ := z
              simp only at h2 h3 h4 h5 h6 h7 h8 h9
              subst h2 h3 h4 h5 h6 h7 h8 h9
              rfl
            have HACK := hide hack
            have hnf : Hid (¬ (acked + wait.length < kk ∨ del + 16 < q)) := hide (by have := hwl.out; omega)
            have c3 := H4.out.box.at_ (j := 3) rfl
            have p1 := X4.out.at_ (j := 1) rfl
            clear hack hwl hr1 hr2
            go_wp2_with fail
            refine wp_region_free 8 [⟨0, 60, [60], fun vs _ => vs = [.pointer (some ⟨p, 0, none⟩)]⟩, ⟨1, 61, [61], fun vs _ => vs = [.pointer (some ⟨p, 0, none⟩)]⟩, ⟨2, 62, [62], fun vs _ => vs = [.pointer (some ⟨p, 0, none⟩)]⟩, ⟨3, 63, [63], fun vs _ => vs = [.pointer (some ⟨p, 3, none⟩)]⟩, ⟨4, 64, [64], fun vs _ => vs = [.int .i64 (acked : Int)]⟩, ⟨5, 65, [65], fun vs _ => vs = [.pointer (some ⟨gP, 1, none⟩)]⟩, ⟨6, 66, [66], fun vs _ => vs = [.int .i64 (kk : Int)]⟩, ⟨7, 67, [67], fun vs _ => vs = [.int .i64 (ak : Int)]⟩] (by kernel_rfl) (by kernel_rfl) ?_ ?_ ?_
            · simp only [All]
              refine ⟨fun _ _ _ _ h => h, fun _ _ _ _ h => h, fun _ _ _ _ h => h, fun _ _ _ _ h => h, fun _ _ _ _ h => h, fun _ _ _ _ h => h, fun _ _ _ _ h => h, fun _ _ _ _ h => h, trivial⟩
            · simp only [All]
              refine ⟨?_, ?_, ?_, ?_, ?_, ?_, ?_, ?_, trivial⟩
              · intro o ho a' w' hb hfr hdep
                obtain rfl := Option.some.inj ho
                have g0 : a'.tmps[0]?.getD undef = .pointer (some ⟨p, 0, none⟩) := by have h := hfr 0 (by kernel_rfl); simpa using h
                clear ho hfr hdep
                go_wp2_with fail
                exact ⟨rfl, _, rfl, Below.refl _ _, rfl⟩
              · intro o ho a' w' hb hfr hdep
                obtain rfl := Option.some.inj ho
                have g0 : a'.tmps[0]?.getD undef = .pointer (some ⟨p, 0, none⟩) := by have h := hfr 0 (by kernel_rfl); simpa using h
                clear ho hfr hdep
                go_wp2_with fail
                exact ⟨rfl, _, rfl, Below.refl _ _, rfl⟩
              · intro o ho a' w' hb hfr hdep
                obtain rfl := Option.some.inj ho
                have g61 : a'.tmps[61]?.getD undef = .pointer (some ⟨p, 0, none⟩) := by have h := hdep 1 _ rfl (by kernel_rfl); simpa using h
                clear ho hfr hdep
                go_wp2_with fail
                exact ⟨rfl, _, rfl, Below.refl _ _, rfl⟩
              · intro o ho a' w' hb hfr hdep
                obtain rfl := Option.some.inj ho
                have g62 : a'.tmps[62]?.getD undef = .pointer (some ⟨p, 0, none⟩) := by have h := hdep 2 _ rfl (by kernel_rfl); simpa using h
                clear ho hfr hdep
                go_wp2_with fail
                exact ⟨rfl, _, rfl, Below.refl _ _, rfl⟩
              · intro o ho a' w' hb hfr hdep
                obtain rfl := Option.some.inj ho
                have g63 : a'.tmps[63]?.getD undef = .pointer (some ⟨p, 3, none⟩) := by have h := hdep 3 _ rfl (by kernel_rfl); simpa using h
                clear ho hfr hdep
                have hcl := cell_blw c3 hb
                go_wp2_with fail
                exact ⟨rfl, _, rfl, Below.refl _ _, rfl⟩
              · intro o ho a' w' hb hfr hdep
                obtain rfl := Option.some.inj ho
                have g8 : a'.tmps[8]?.getD undef = .pointer (some ⟨gP, 0, none⟩) := by have h := hfr 8 (by kernel_rfl); simpa using h
                clear ho hfr hdep
                go_wp2_with fail
                exact ⟨rfl, _, rfl, Below.refl _ _, rfl⟩
              · intro o ho a' w' hb hfr hdep
                obtain rfl := Option.some.inj ho
                have g65 : a'.tmps[65]?.getD undef = .pointer (some ⟨gP, 1, none⟩) := by have h := hdep 5 _ rfl (by kernel_rfl); simpa using h
                clear ho hfr hdep
                have hcl := cell_blw p1 hb
                go_wp2_with fail
                exact ⟨rfl, _, rfl, Below.refl _ _, rfl⟩
              · intro o ho a' w' hb hfr hdep
                obtain rfl := Option.some.inj ho
                have g64 : a'.tmps[64]?.getD undef = .int .i64 (acked : Int) := by have h := hdep 4 _ rfl (by kernel_rfl); simpa using h
                have g66 : a'.tmps[66]?.getD undef = .int .i64 (kk : Int) := by have h := hdep 6 _ rfl (by kernel_rfl); simpa using h
                clear ho hfr hdep
                go_wp2_with fail
                exact ⟨rfl, _, rfl, Below.refl _ _, rfl⟩
            · intro g0 w5 hb hp'
              have p60 := hp' 0 _ rfl
              have p67 := hp' 7 _ rfl
              clear hp'
              simp at p60 p67
              simp only [List.drop_succ_cons, List.drop_zero, List.map_cons, List.map_nil, putAll, Act.put, List.setIfInBounds_toArray, List.set_cons_succ, List.set_cons_zero, List.cons_append, List.nil_append, p60, p67]
              clear p60 p67
              have H5 := hide (H4.out.below hb)
              have X5p := hide (X4.out.under hb)
              have B5 := hide (B4.out.trans (hb.mono B4.out.size))
              have SP5 := hide (SP4.out.below hb)
              have KP5 := hide (KP4.out.below hb)
              clear H4 X4 B4 SP4 KP4 hb c3 p1
              have x5 := H5.out.box
              simp only [hm.out, hnh.out] at x5
              have X5 := hide x5
              clear x5
              go_upto_region 12 with (with_reducible refine store_cell 3 _ _ 31 p 3 [.int .i64 (win : Int), V64 key, .slice aS m cS, .int .i64 (acked : Int), .int .i64 (del : Int), .slice ah nh ch, .bool ow, .int .i64 (forged : Int)] (.int .i64 (ak : Int)) size_i X5.out rfl rfl rfl rfl (by simp) ?_; intro w6 x6 g6 s6; have XX6 := hide x6; have G6 := hide g6; clear x6 g6 s6)
              have H6 : Hid (RAtM w6 p aS cS hsS ah ch hh (⟨win, key, S.drop ak, ak, del, held, ow, forged⟩ : En) S) := hide (H5.out.setbox rfl (by show ak ≤ S.length; rw [hm.out]; omega) rfl (by
                have hx := XX6.out
                simp only [List.set_cons_succ, List.set_cons_zero] at hx
                show Box w6 p _ [_, _, .slice aS S.length cS, _, _, .slice ah held.length ch, _, _]
                rw [hm.out, hnh.out]
                exact hx) G6.out)
              have F6 : Hid (Fr (rfoot p (aS.map (·.block)) (ah.map (·.block))) w w6) := hide ((Fr.of B5.out).grown G6.out (fun x hx => by cases hx; exact .inl (by simp [rfoot])))
              clear XX6 X5 B5
              have X6p : Hid (Box w6 gP 43 [.int .i64 (q : Int), .int .i64 (kk : Int), .slice aP nP cP]) := hide (X5p.out.grown G6.out (fun e0 => by injection e0 with e0; have := hgPl.out; omega))
              have SP6 := hide (sl_kept SP5.out KP5.out G6.out (fun x hx => by cases hx; exact NoB.box H5.out.box (by decide)))
              have KP6 := hide (KP5.out.kept G6.out (fun x hx => by cases hx; exact NoB.box H5.out.box (by decide)))
              clear G6 H5 X5p SP5 KP5 hmax
              have q0 := X6p.out.at_ (j := 0) rfl
              by_cases hq0 : q = 0
              · subst hq0
                have hip : inP (⟨win, key, wait, acked, del, held, ow, forged⟩ : En) ⟨((0 : Nat) : Int), (kk : Int), bb⟩ = ((⟨win, key, S.drop ak, ak, del, held, ow, forged⟩ : En), []) := by
                  rw [inP_zero hnf.out]
                  simp only [Int.toNat_natCast, HACK.out]
                rw [hip] at HIN
                clear hip
                go_wp2_with fail
                go_ret2
                exact ri_nil HIN.out ⟨aS, cS, hsS, ah, ch, hh, H6.out, rfl, rfl⟩ F6.out
              · have dq0 : ((q : Int) == 0) = false := by simp [hq0]
                have x6 := H6.out.box
                simp only [hm.out, hnh.out] at x6
                have X6 := hide x6
                clear x6
                go_upto_region 15 with (with_reducible refine store_cell 4 _ _ 31 p 6 [.int .i64 (win : Int), V64 key, .slice aS m cS, .int .i64 (ak : Int), .int .i64 (del : Int), .slice ah nh ch, .bool ow, .int .i64 (forged : Int)] (.bool true) size_bl X6.out rfl rfl rfl rfl (by simp) ?_; intro w7 x7 g7 s7; have XX7 := hide x7; have G7 := hide g7; clear x7 g7 s7)
                have H7 : Hid (RAtM w7 p aS cS hsS ah ch hh (⟨win, key, S.drop ak, ak, del, held, true, forged⟩ : En) S) := hide (H6.out.setbox rfl H6.out.ack H6.out.wait (by
                  have hx := XX7.out
                  simp only [List.set_cons_succ, List.set_cons_zero] at hx
                  show Box w7 p _ [_, _, .slice aS S.length cS, _, _, .slice ah held.length ch, _, _]
                  rw [hm.out, hnh.out]
                  exact hx) G7.out)
                have F7 : Hid (Fr (rfoot p (aS.map (·.block)) (ah.map (·.block))) w w7) := hide (F6.out.grown G7.out (fun x hx => by cases hx; exact .inl (by simp [rfoot])))
                have X7p : Hid (Box w7 gP 43 [.int .i64 (q : Int), .int .i64 (kk : Int), .slice aP nP cP]) := hide (X6p.out.grown G7.out (fun e0 => by injection e0 with e0; have := hgPl.out; omega))
                have SP7 := hide (sl_kept SP6.out KP6.out G7.out (fun x hx => by cases hx; exact NoB.box H6.out.box (by decide)))
                have KP7 := hide (KP6.out.kept G7.out (fun x hx => by cases hx; exact NoB.box H6.out.box (by decide)))
                clear G7 H6 X6 F6 X6p SP6 KP6 XX7 q0
                have hipm := inP_msg (e := (⟨win, key, wait, acked, del, held, ow, forged⟩ : En)) (q := q) (kk := kk) (b := bb) hnf.out hq0
                rw [HACK.out] at hipm
                have HIPM := hide hipm
                clear hipm
                have q0 := X7p.out.at_ (j := 0) rfl
                have c4 := H7.out.box.at_ (j := 4) rfl
                have hbn : Hid (∀ n, Below w7.heap.size w7 (w7.drewN n)) := hide (fun n => Still.below n)
                by_cases hqd : q ≤ del
                · have d1 : decide ((q : Int) ≤ (del : Int)) = true := decide_eq_true (by omega)
                  have d1n : decide (q ≤ del) = true := decide_eq_true hqd
                  have hho : holdE (⟨win, key, S.drop ak, ak, del, held, true, forged⟩ : En) q bb = (⟨win, key, S.drop ak, ak, del, held, true, forged⟩ : En) := if_neg (fun h => by have h1 : del < q := h.1; omega)
                  go_wp2_with fail
                  go_quiet (fail)
                  have b8 := hbn.out nq
                  have H8 := hide (H7.out.below b8)
                  have F8 := hide (F7.out.below b8)
                  have hip : inP (⟨win, key, wait, acked, del, held, ow, forged⟩ : En) ⟨(q : Int), (kk : Int), bb⟩ = ((⟨win, key, S.drop ak, ak, del, held, true, forged⟩ : En), []) := by
                    rw [HIPM.out]
                    show ((delE ((holdE (⟨win, key, S.drop ak, ak, del, held, true, forged⟩ : En) q bb).held.length + 1) (holdE (⟨win, key, S.drop ak, ak, del, held, true, forged⟩ : En) q bb)).2, (delE ((holdE (⟨win, key, S.drop ak, ak, del, held, true, forged⟩ : En) q bb).held.length + 1) (holdE (⟨win, key, S.drop ak, ak, del, held, true, forged⟩ : En) q bb)).1) = _
                    rw [hho, delE_none (e := (⟨win, key, S.drop ak, ak, del, held, true, forged⟩ : En)) _ HQ.out]
                  rw [hip] at HIN
                  clear hip b8 hbn q0 c4
                  generalize w7.drewN nq = w8 at *
                  go_wp2_with fail
                  go_ret2
                  exact ri_nil HIN.out ⟨aS, cS, hsS, ah, ch, hh, H8.out, rfl, rfl⟩ F8.out
                · have d1 : decide ((q : Int) ≤ (del : Int)) = false := decide_eq_false (by omega)
                  have d1n : decide (q ≤ del) = false := decide_eq_false hqd
                  have hFI : Hid (∀ n, Calls Try.prog 40 #[.pointer (some ⟨p, 0, none⟩), .int .i64 (q : Int)] (w7.drewN n) fun e w'' => e = .returned (.int .i64 (fdI held q)) ∧ ∃ m, w'' = w7.drewN m) := hide (fun n => Calls.quiet_of_same (r_find p _ _ (⟨win, key, S.drop ak, ak, del, held, true, forged⟩ : En) S (w7.drewN n) ⟨aS, cS, hsS, ah, ch, hh, H7.out.below (Still.below n), rfl, rfl⟩ q (by show held.length ≤ 1000; have := hnh.out; omega)))
                  rcases lk_cases q held with ⟨k1, k2⟩ | ⟨bq, iq, k1, k2, k3, k4⟩
                  · have hfi : fdI held q = -1 := find_no k2
                    rw [hfi] at hFI
                    have HNO := hide k1
                    clear k1 k2 hfi
                    have hFI' := hFI.out
                    clear hFI
                    go_wp2_with fail
                    go_quiet ((go_at_call 40; exact hFI' _))
                    have b8 := hbn.out nq
                    have H8 := hide (H7.out.below b8)
                    have F8 := hide (F7.out.below b8)
                    have X8p := hide (X7p.out.under b8)
                    have SP8 := hide (SP7.out.below b8)
                    have KP8 := hide (KP7.out.below b8)
                    clear b8 hbn q0 c4 H7 F7 X7p SP7 KP7 hFI'
                    generalize w7.drewN nq = w8 at *
                    have c5 := H8.out.box.at_ (j := 5) rfl
                    simp only [hnh.out] at c5
                    have q0 := X8p.out.at_ (j := 0) rfl
                    have q2 := X8p.out.at_ (j := 2) rfl
                    obtain ⟨CS, hCS⟩ : ∃ CS : List (Addr × Value), Hid ([(⟨p, 5, none⟩, .slice ah nh ch), (⟨gP, 0, none⟩, .int .i64 (q : Int)), (⟨gP, 2, none⟩, .slice aP nP cP)] = CS) := ⟨_, hide rfl⟩
                    have HCL := hCS
                    have HCS : Hid (∀ x ∈ CS, w8.cell? x.1 = some x.2) := hide (by
                      rw [← hCS.out]
                      intro x hx
                      simp only [List.mem_cons, List.not_mem_nil, or_false] at hx
                      rcases hx with rfl | rfl | rfl
                      · exact c5
                      · exact q0
                      · exact q2)
                    have HNF : Hid (∀ x ∈ CS, x.1.block ∉ (ah.map (·.block)).toList) := hide (by
                      rw [← hCS.out]
                      intro x hx
                      simp only [List.mem_cons, List.not_mem_nil, or_false] at hx
                      rcases hx with rfl | rfl | rfl
                      · exact fun h => own_box H8.out.hld H8.out.box (by decide) p h rfl
                      · exact fun h => own_box H8.out.hld X8p.out (by decide) gP h rfl
                      · exact fun h => own_box H8.out.hld X8p.out (by decide) gP h rfl)
                    clear c5 q0 q2 hCS
                    go_wp2_with fail
                    refine wp_region_chain4 12 (fun u u' => u.heap.size ≤ u'.heap.size ∧ ∀ b, w8.heap.size ≤ b → b < u.heap.size → u'.heap[b]? = u.heap[b]?) (GHeld w8 CS ah nh hh q aP nP cP) [⟨11, 101, [], fun _ _ => True⟩] [⟨0, 90, [90], fun vs _ => vs = [.pointer (some ⟨p, 0, none⟩)]⟩, ⟨1, 91, [91], fun vs _ => vs = [.pointer (some ⟨p, 0, none⟩)]⟩, ⟨2, 92, [92], fun vs _ => vs = [.pointer (some ⟨p, 0, none⟩)]⟩, ⟨3, 93, [93], fun vs _ => vs = [.pointer (some ⟨p, 5, none⟩)]⟩, ⟨4, 94, [94], fun vs _ => vs = [.slice ah nh ch]⟩, ⟨5, 95, [95], fun vs _ => vs = [.pointer (some ⟨gP, 0, none⟩)]⟩, ⟨6, 96, [96], fun vs _ => vs = [.int .i64 (q : Int)]⟩, ⟨7, 97, [97], fun vs _ => vs = [.pointer (some ⟨gP, 2, none⟩)]⟩, ⟨8, 98, [98], fun vs _ => vs = [.slice aP nP cP]⟩, ⟨9, 99, [99], fun vs _ => vs = [.agg #[.int .i64 (q : Int), .slice aP nP cP]]⟩, ⟨10, 100, [100], fun vs w' => ∃ gB, vs = [.slice (some ⟨gB, 0, none⟩) 1 1] ∧ w8.heap.size ≤ gB ∧ Box w' gB 78 [.int .i64 (q : Int), .slice aP nP cP]⟩] (by kernel_rfl) (by kernel_rfl) ?_ (fun u u' hb => ⟨hb.size, fun b _ h2 => hb.block b h2⟩) GHeld.mono ?_ ?_ ?_ ?_
                    · exact ⟨fun x hx => HCS.out x hx, fun _ => Still.below 1, fun h => absurd h (by omega), Nat.le_refl _⟩
                    · simp only [All]
                      refine ⟨(fun _ _ _ _ h => h), (fun _ _ _ _ h => h), (fun _ _ _ _ h => h), (fun _ _ _ _ h => h), (fun _ _ _ _ h => h), (fun _ _ _ _ h => h), (fun _ _ _ _ h => h), (fun _ _ _ _ h => h), (fun _ _ _ _ h => h), (fun _ _ _ _ h => h), (by rintro vs u u' hr ⟨gB, h1, h2, h3⟩; exact ⟨gB, h1, h2, (hr.2 gB h2 h3.lt).trans h3⟩), trivial⟩
                    · intro m c hc o ho a' w' hG hfr hdep
                      rcases m with _ | m
                      · cases hc
                        obtain rfl := Option.some.inj ho
                        have hB := hG.2.1 rfl
                        have hcs := hG.1
                        have g94 : a'.tmps[94]?.getD undef = .slice ah nh ch := by have h := hdep 4 _ rfl (by kernel_rfl); simpa using h
                        obtain ⟨gB, g100, l100, x100⟩ := hdep 10 _ rfl (by kernel_rfl)
                        have g100 : a'.tmps[100]?.getD undef = .slice (some ⟨gB, 0, none⟩) 1 1 := by simpa using g100
                        have t7 : Own w' 0 78 2 ah nh ch (hh.flatMap h2c) := by
                          have h1 := H8.out.hld.below hB
                          simp only [hnh.out] at h1
                          exact h1
                        have sB := x100.sl 0 1 1 2 [.int .i64 (q : Int), .slice aP nP cP] rfl (Nat.le_refl _) (by decide) (fun j u hj => by rw [Nat.zero_add]; exact hj)
                        have hne1 : ∀ x ∈ CS, x.1.block ∉ (ah.map (·.block)).toList := HNF.out
                        have hlt8 : ∀ x ∈ (ah.map (·.block)).toList, x < w8.heap.size := fun x hx => (own_lt H8.out.hld x hx).2
                        clear hfr hdep hG
                        refine append_own_f rfl _ _ 29 rfl 78 (.agg #[.int .i64 0, .slice none 0 0]) 2 32 Try.underlying29 info_held rfl w' 0 ah nh ch (hh.flatMap h2c) (by show a'.tmps.getD 94 undef = _; simpa using g94) t7 (some ⟨gB, 0, none⟩) 1 1 [.int .i64 (q : Int), .slice aP nP cP] (by show a'.tmps.getD 100 undef = _; simpa using g100) sB (by simp [Value.oneCell']) (by omega) (by unfold maxLen; omega) (Nat.zero_le _) (Below.refl _ _) ?_
                        intro a8 c8 w9 ho9 hg9 hf9 hb9
                        go_wp2_with fail
                        refine ⟨rfl, _, rfl, ⟨hg9.size, fun x hx hlt => hg9.block x hlt (fun e0 => ?_)⟩, fun x hx => cell_fr (hcs x hx) (Fr.ofGrown hg9) (hne1 x hx), fun h => absurd h (by omega), ⟨fun _ => ⟨a8, c8, rfl, by simpa [List.flatMap_append, h2c, hv] using ho9, fun y hy => ?_, (Fr.of hB).grown hg9 (fun x hx => .inl (by rw [hx]; simp))⟩, Nat.le_trans hB.size hg9.size⟩⟩
                        · have := hlt8 x (by rw [← e0]; simp)
                          omega
                        · rcases hf9 y hy with h | h
                          · exact .inl h
                          · exact .inr (Nat.le_trans hB.size h)
                      · cases hc
                    · simp only [All]
                      refine ⟨?_, ?_, ?_, ?_, ?_, ?_, ?_, ?_, ?_, ?_, ?_, trivial⟩
                      · intro o ho a' w' hfr hdep hst
                        obtain rfl := Option.some.inj ho
                        have g0 : a'.tmps[0]?.getD undef = .pointer (some ⟨p, 0, none⟩) := by have h := hfr 0 (by kernel_rfl); simpa using h
                        clear ho hfr hdep hst
                        go_wp2_with fail
                        exact ⟨rfl, _, rfl, Below.refl _ _, rfl⟩
                      · intro o ho a' w' hfr hdep hst
                        obtain rfl := Option.some.inj ho
                        have g0 : a'.tmps[0]?.getD undef = .pointer (some ⟨p, 0, none⟩) := by have h := hfr 0 (by kernel_rfl); simpa using h
                        clear ho hfr hdep hst
                        go_wp2_with fail
                        exact ⟨rfl, _, rfl, Below.refl _ _, rfl⟩
                      · intro o ho a' w' hfr hdep hst
                        obtain rfl := Option.some.inj ho
                        have g91 : a'.tmps[91]?.getD undef = .pointer (some ⟨p, 0, none⟩) := by have h := hdep 1 _ rfl (by kernel_rfl); simpa using h
                        clear ho hfr hdep hst
                        go_wp2_with fail
                        exact ⟨rfl, _, rfl, Below.refl _ _, rfl⟩
                      · intro o ho a' w' hfr hdep hst
                        obtain rfl := Option.some.inj ho
                        have g92 : a'.tmps[92]?.getD undef = .pointer (some ⟨p, 0, none⟩) := by have h := hdep 2 _ rfl (by kernel_rfl); simpa using h
                        clear ho hfr hdep hst
                        go_wp2_with fail
                        exact ⟨rfl, _, rfl, Below.refl _ _, rfl⟩
                      · intro o ho a' w' hfr hdep hst
                        obtain rfl := Option.some.inj ho
                        have g93 : a'.tmps[93]?.getD undef = .pointer (some ⟨p, 5, none⟩) := by have h := hdep 3 _ rfl (by kernel_rfl); simpa using h
                        obtain ⟨j, _, _, hG⟩ := hst
                        clear ho hfr hdep
                        have hcl := hG.1 (⟨p, 5, none⟩, .slice ah nh ch) (by rw [← HCL.out]; simp)
                        simp only at hcl
                        clear hG
                        go_wp2_with fail
                        exact ⟨rfl, _, rfl, Below.refl _ _, rfl⟩
                      · intro o ho a' w' hfr hdep hst
                        obtain rfl := Option.some.inj ho
                        have g8 : a'.tmps[8]?.getD undef = .pointer (some ⟨gP, 0, none⟩) := by have h := hfr 8 (by kernel_rfl); simpa using h
                        clear ho hfr hdep hst
                        go_wp2_with fail
                        exact ⟨rfl, _, rfl, Below.refl _ _, rfl⟩
                      · intro o ho a' w' hfr hdep hst
                        obtain rfl := Option.some.inj ho
                        have g95 : a'.tmps[95]?.getD undef = .pointer (some ⟨gP, 0, none⟩) := by have h := hdep 5 _ rfl (by kernel_rfl); simpa using h
                        obtain ⟨j, _, _, hG⟩ := hst
                        clear ho hfr hdep
                        have hcl := hG.1 (⟨gP, 0, none⟩, .int .i64 (q : Int)) (by rw [← HCL.out]; simp)
                        simp only at hcl
                        clear hG
                        go_wp2_with fail
                        exact ⟨rfl, _, rfl, Below.refl _ _, rfl⟩
                      · intro o ho a' w' hfr hdep hst
                        obtain rfl := Option.some.inj ho
                        have g8 : a'.tmps[8]?.getD undef = .pointer (some ⟨gP, 0, none⟩) := by have h := hfr 8 (by kernel_rfl); simpa using h
                        clear ho hfr hdep hst
                        go_wp2_with fail
                        exact ⟨rfl, _, rfl, Below.refl _ _, rfl⟩
                      · intro o ho a' w' hfr hdep hst
                        obtain rfl := Option.some.inj ho
                        have g97 : a'.tmps[97]?.getD undef = .pointer (some ⟨gP, 2, none⟩) := by have h := hdep 7 _ rfl (by kernel_rfl); simpa using h
                        obtain ⟨j, _, _, hG⟩ := hst
                        clear ho hfr hdep
                        have hcl := hG.1 (⟨gP, 2, none⟩, .slice aP nP cP) (by rw [← HCL.out]; simp)
                        simp only at hcl
                        clear hG
                        go_wp2_with fail
                        exact ⟨rfl, _, rfl, Below.refl _ _, rfl⟩
                      · intro o ho a' w' hfr hdep hst
                        obtain rfl := Option.some.inj ho
                        have g96 : a'.tmps[96]?.getD undef = .int .i64 (q : Int) := by have h := hdep 6 _ rfl (by kernel_rfl); simpa using h
                        have g98 : a'.tmps[98]?.getD undef = .slice aP nP cP := by have h := hdep 8 _ rfl (by kernel_rfl); simpa using h
                        clear ho hfr hdep hst
                        go_wp2_with fail
                        exact ⟨rfl, _, rfl, Below.refl _ _, rfl⟩
                      · intro o ho a' w' hfr hdep hst
                        obtain rfl := Option.some.inj ho
                        have g99 : a'.tmps[99]?.getD undef = .agg #[.int .i64 (q : Int), .slice aP nP cP] := by have h := hdep 9 _ rfl (by kernel_rfl); simpa using h
                        obtain ⟨j, _, _, hG⟩ := hst
                        clear ho hfr hdep
                        obtain ⟨-, -⟩ : True ∧ True := ⟨trivial, trivial⟩
                        have hsz : w8.heap.size ≤ w'.heap.size := hG.2.2.2
                        clear hG
                        go_wp2_with fail
                        exact ⟨rfl, _, rfl, sblo _ _, w'.heap.size, rfl, hsz, Box.new w' 78 #[.int .i64 (q : Int), .slice aP nP cP]⟩
                    · intro gg w9 hG hp
                      obtain ⟨a8, c8, e101, ho8, hf8, F89⟩ := hG.2.2.1 (Nat.le_refl _)
                      have p90 := hp 0 _ rfl
                      have p101 : gg 101 = .slice a8 (nh + 1) c8 := by simpa using e101
                      clear hp hG e101
                      simp at p90
                      simp only [List.drop_succ_cons, List.drop_zero, List.map_cons, List.map_nil, putAll, Act.put, List.setIfInBounds_toArray, List.set_cons_succ, List.set_cons_zero, List.cons_append, List.nil_append, p90, p101]
                      clear p90 p101
                      have XX9 : Hid (Box w9 p 31 [.int .i64 (win : Int), V64 key, .slice aS m cS, .int .i64 (ak : Int), .int .i64 (del : Int), .slice ah nh ch, .bool true, .int .i64 (forged : Int)]) := hide (by
                        have hx := H8.out.box
                        simp only [hm.out, hnh.out] at hx
                        unfold Box at hx ⊢
                        rw [F89.block p H8.out.box.lt (fun hx2 => own_box H8.out.hld H8.out.box (by decide) p hx2 rfl)]
                        exact hx)
                      have F89 := hide F89
                      have O9 := hide ho8
                      have N9 := hide hf8
                      clear ho8 hf8
                      go_upto_region 18 with (with_reducible refine store_cell 29 _ _ 31 p 5 [.int .i64 (win : Int), V64 key, .slice aS m cS, .int .i64 (ak : Int), .int .i64 (del : Int), .slice ah nh ch, .bool true, .int .i64 (forged : Int)] (.slice a8 (nh + 1) c8) size_hsl XX9.out rfl rfl rfl rfl (by simp) ?_; intro w10 x10 g10 s10; have XX10 := hide x10; have G10 := hide g10; clear x10 g10 s10)
                      have hN1 : ∀ x ∈ (ah.map (·.block)).toList, NoB w8 x := own_nobs H8.out.hld (by decide)
                      have hl1 : (held ++ [(q, bb)]).length = nh + 1 := by rw [List.length_append, hnh.out]; rfl
                      have H10 : Hid (RAtM w10 p aS cS hsS a8 c8 (hh ++ [(q, (aP, nP, cP))]) (⟨win, key, S.drop ak, ak, del, held ++ [(q, bb)], true, forged⟩ : En) S) := hide (RAtM.held2 H8.out F89.out (by rw [hl1]; exact O9.out) N9.out (by rw [List.map_append, List.map_append, H8.out.key]; rfl) (by
                          rw [List.map_append, List.map_append]
                          exact (H8.out.rows.append (Rows.one (x := (aP, nP, cP)) SP8.out KP8.out)).fr F89.out hN1) H8.out.ack H8.out.wait (by
                          have hx := XX10.out
                          simp only [List.set_cons_succ, List.set_cons_zero] at hx
                          show Box w10 p _ [_, _, .slice aS S.length cS, _, _, .slice a8 (held ++ [(q, bb)]).length c8, _, _]
                          rw [hm.out, hl1]
                          exact hx) G10.out)
                      have F10 : Hid (Fr (rfoot p (aS.map (·.block)) (ah.map (·.block))) w w10) := hide ((F8.out.on F89.out (fun x hx => .inl (by unfold rfoot; exact List.mem_cons_of_mem _ (List.mem_append_right _ hx)))).grown G10.out (fun x hx => by cases hx; exact .inl (by simp [rfoot])))
                      have hsz8 : w.heap.size ≤ w8.heap.size := F8.out.size
                      have N10 : Hid (∀ y, a8 = some y → (∃ q', ah = some q' ∧ q'.block = y.block) ∨ w.heap.size ≤ y.block) := hide (fun y hy => by
                        rcases N9.out y hy with h | h
                        · exact .inl h
                        · exact .inr (Nat.le_trans hsz8 h))
                      have hho : holdE (⟨win, key, S.drop ak, ak, del, held, true, forged⟩ : En) q bb = (⟨win, key, S.drop ak, ak, del, held ++ [(q, bb)], true, forged⟩ : En) := if_pos ⟨by show del < q; omega, HNO.out⟩
                      obtain ⟨e6, he6⟩ : ∃ e6, Hid ((⟨win, key, S.drop ak, ak, del, held ++ [(q, bb)], true, forged⟩ : En) = e6) := ⟨_, hide rfl⟩
                      have he6l : Hid (e6.del = del ∧ e6.held.length = nh + 1) := hide (by rw [← he6.out]; exact ⟨rfl, hl1⟩)
                      have HIP : Hid (inP (⟨win, key, wait, acked, del, held, ow, forged⟩ : En) ⟨(q : Int), (kk : Int), bb⟩ = ((delE (nh + 2) e6).2, (delE (nh + 2) e6).1)) := hide (by
                        rw [HIPM.out]
                        show ((delE ((holdE (⟨win, key, S.drop ak, ak, del, held, true, forged⟩ : En) q bb).held.length + 1) (holdE (⟨win, key, S.drop ak, ak, del, held, true, forged⟩ : En) q bb)).2, (delE ((holdE (⟨win, key, S.drop ak, ak, del, held, true, forged⟩ : En) q bb).held.length + 1) (holdE (⟨win, key, S.drop ak, ak, del, held, true, forged⟩ : En) q bb)).1) = _
                        rw [hho, he6.out, he6l.out.2])
                      rw [he6.out] at H10
                      clear XX10 G10 F89 O9 N9 XX9 H8 F8 X8p SP8 KP8 HNO HIPM hho he6 hN1 hl1 HCL HCS HNF
                      go_wp2_with fail
                      go_loopg [10] (nh + 1) (fun gh v10 w' => ∃ (e2 : En) (out : List (List UInt8)) (aO : Option Addr) (cO : Nat) (hO : List Hd) (ah2 : Option Addr) (ch2 : Nat) (hh2 : List (Nat × Hd)), gh = e2.held.length ∧ v10 = .slice aO out.length cO ∧ Hid (Own w' w.heap.size 33 1 aO out.length cO (hO.map hv) ∧ Rows w' hO out) ∧ Hid (RAtM w' p aS cS hsS ah2 ch2 hh2 e2 S) ∧ Hid (Fr (rfoot p (aS.map (·.block)) (ah.map (·.block))) w w') ∧ Hid (∀ y, ah2 = some y → (∃ q', ah = some q' ∧ q'.block = y.block) ∨ w.heap.size ≤ y.block) ∧ Hid (delE (nh + 2) e6 = (out ++ (delE (e2.held.length + 1) e2).1, (delE (e2.held.length + 1) e2).2)) ∧ Hid (e2.del + e2.held.length = del + nh + 1) ∧ Hid (out.length + e2.held.length = nh + 1))
                      case atStart =>
                        obtain ⟨he1, he2⟩ := he6l.out
                        exact ⟨e6, [], none, 0, [], a8, c8, _, he2.symm, rfl, hide ⟨Own.nil _ _ _ _, Rows.nil _⟩, H10, F10, N10, hide (by rw [he2]; simp), hide (by rw [he1, he2]; omega), hide (by rw [he2]; simp)⟩
                      case round =>
                        clear H10 F10 N10 he6l
                        obtain ⟨⟨win2, key2, wait2, acked2, d, held2, ow2, forged2⟩, out, aO, cO, hO, ah2, ch2, hh2, hg, rfl, OR, HR, FR, NR, DR, hsum, hol⟩ := hrel
                        have HG := hide hg
                        clear hg
                        obtain ⟨nl, hnl⟩ : ∃ nl, Hid (held2.length = nl) := ⟨_, hide rfl⟩
                        obtain ⟨no, hno⟩ : ∃ no, Hid (out.length = no) := ⟨_, hide rfl⟩
                        have hsum1 : d + nl = del + nh + 1 := by have := hsum.out; simp only [hnl.out] at this; exact this
                        have hol1 : no + nl = nh + 1 := by have := hol.out; simp only [hnl.out, hno.out] at this; exact this
                        clear hsum hol
                        rw [hno.out]
                        have x0 := HR.out.box
                        simp only [hm.out, hnl.out] at x0
                        have c4 := x0.at_ (j := 4) rfl
                        have c5 := x0.at_ (j := 5) rfl
                        have X0 := hide x0
                        clear x0
                        have hwd : IntKind.i64.wrap ((d : Int) + 1) = ((d + 1 : Nat) : Int) := by rw [show (d : Int) + 1 = ((d + 1 : Nat) : Int) by omega]; exact IntWalk.i64_in _ (by omega)
                        have hF : Calls Try.prog 40 #[.pointer (some ⟨p, 0, none⟩), .int .i64 ((d + 1 : Nat) : Int)] wr fun r w' => r = .returned (.int .i64 (fdI held2 (d + 1))) ∧ w' = wr := r_find p _ _ (⟨win2, key2, wait2, acked2, d, held2, ow2, forged2⟩ : En) S wr ⟨aS, cS, hsS, ah2, ch2, hh2, HR.out, rfl, rfl⟩ (d + 1) (by show held2.length ≤ 1000; have := hnl.out; omega)
                        rcases lk_cases (d + 1) held2 with ⟨k1, k2⟩ | ⟨bq, i, k1, k2, k3, k4⟩
                        · have hfi : fdI held2 (d + 1) = -1 := find_no k2
                          rw [hfi] at hF
                          have hfin : inE (⟨win, key, wait, acked, del, held, ow, forged⟩ : En) b = ((⟨win2, key2, wait2, acked2, d, held2, ow2, forged2⟩ : En), out, 0) := by
                            rw [HIN.out, HIP.out]
                            simp only
                            rw [DR.out, delE_none (e := (⟨win2, key2, wait2, acked2, d, held2, ow2, forged2⟩ : En)) _ k1]
                            simp
                          have HFN := hide hfin
                          clear k1 k2 hfi hfin
                          go_wp2_with (go_at_call 40; refine hF.mono ?_; rintro e3 w3 ⟨rfl, h3⟩; obtain rfl := h3.symm)
                          go_ret2
                          unfold GivesRI
                          rw [HFN.out]
                          exact ⟨aO, cO, hO, ah2.map (·.block), by rw [← hno.out]; rfl, OR.out.1, OR.out.2, ⟨aS, cS, hsS, ah2, ch2, hh2, HR.out, rfl, rfl⟩, FR.out, foot_new2 NR.out⟩
                        · have hfi : fdI held2 (d + 1) = (i : Int) := find_at k2 rfl k4
                          rw [hfi] at hF
                          have d3 : decide ((0 : Int) ≤ (i : Int)) = true := decide_eq_true (by omega)
                          have hil : i < nl := by rw [← hnl.out]; exact (List.getElem?_eq_some_iff.1 k2).1
                          have hili : (i : Int) < (nl : Int) := by omega
                          have hhl2 : hh2.length = nl := by have h1 := congrArg List.length HR.out.key; simp only [List.length_map] at h1; rw [h1]; exact hnl.out
                          obtain ⟨⟨k', z1, z2, z3⟩, hz⟩ : ∃ x, hh2[i]? = some x := ⟨_, List.getElem?_eq_getElem (by rw [hhl2]; exact hil)⟩
                          obtain rfl : k' = d + 1 := by
                            have h1 := congrArg (fun l => l[i]?) HR.out.key
                            simp only [List.getElem?_map, hz, k2, Option.map_some] at h1
                            injection h1
                          obtain ⟨sz, kz⟩ := HR.out.rows.2 i (z1, z2, z3) bq (by rw [List.getElem?_map, hz]; rfl) (by rw [List.getElem?_map, k2]; rfl)
                          have HZ := hide hz
                          have SZ := hide sz
                          have KZ := hide kz
                          have HSl : Hid (Sl wr 2 ah2 nl ch2 (hh2.flatMap h2c)) := hide (by have h1 := HR.out.hld.sl; simp only [hnl.out] at h1; exact h1)
                          have K1 := hide k1
                          have K3 := hide k3
                          have hdl2 := dl_len k1
                          clear k1 k2 k3 k4 hfi hz sz kz
                          go_upto_region 21 with (go_at_call 40; refine hF.mono ?_; rintro e3 w3 ⟨rfl, h3⟩; obtain rfl := h3.symm)
                          clear hF d3
                          obtain ⟨w3, hw3⟩ : ∃ w3, w3 = wr.alloc (.cells #[.slice z1 z2 z3] 33) := ⟨_, rfl⟩
                          have b3 : Below wr.heap.size wr w3 := by rw [hw3]; exact sblo wr _
                          have s3 : Sl w3 1 (some ⟨wr.heap.size, 0, none⟩) 1 1 [hv (z1, z2, z3)] := by rw [hw3]; exact Sl.fresh _ _ 1 1 [.slice z1 z2 z3] rfl (by decide)
                          have H3 := hide (HR.out.below b3)
                          have R3 := hide ((Rows.one (x := (z1, z2, z3)) SZ.out KZ.out).below b3)
                          have O3 : Hid (Own w3 w.heap.size 33 1 aO no cO (hO.map hv)) := hide (by rw [← hno.out]; exact OR.out.1.below b3)
                          have O3n := O3
                          have Q3 := hide (OR.out.2.below b3)
                          have F3 := hide (FR.out.below b3)
                          have hB3 : w.heap.size ≤ w3.heap.size := F3.out.size
                          clear OR HR FR SZ KZ
                          rw [hw3] at s3 O3 hB3
                          go_wp2_with (first
                            | (with_reducible refine idx_held 125 _ _ _ _ _ _ rfl HSl.out _ _ i rfl rfl _ HZ.out ?_; intro bb2 oo2 q0 q1; simp only [hv] at q1)
                            | (at_builtin; refine app_e rfl _ _ rfl _ w.heap.size aO no cO hO rfl O3.out (z1, z2, z3) (some ⟨wr.heap.size, 0, none⟩) 1 rfl s3 (by omega) hB3 (Below.refl _ _) ?_; intro a9 c9 w9 ho9 hg9 hf9 b9; refine shold ?_))
                          refine hide ?_
                          rw [← hw3] at hg9 hf9 hB3
                          have T9 := own_nobs O3n.out (by decide)
                          have hOge : ∀ x ∈ (aO.map (·.block)).toList, w.heap.size ≤ x := fun x hx => (own_lt O3n.out x hx).1
                          have H9 : Hid (RAtM w9 p aS cS hsS ah2 ch2 hh2 (⟨win2, key2, wait2, acked2, d, held2, ow2, forged2⟩ : En) S) := hide (H3.out.fr (Fr.ofGrown hg9) T9 (fun x hx hx2 => by
                            unfold rfoot at hx
                            rcases List.mem_cons.1 hx with h1 | h1
                            · exact own_box O3n.out H3.out.box (by decide) x hx2 h1
                            · rcases List.mem_append.1 h1 with h1 | h1
                              · have h2 := hslt.out x h1
                                have h3 := hOge x hx2
                                omega
                              · exact own_apart H3.out.hld O3n.out (by decide) x h1 hx2))
                          have O9 := hide ho9
                          have Q9 : Hid (Rows w9 (hO ++ [(z1, z2, z3)]) (out ++ [bq])) := hide ((Q3.out.append R3.out).fr (Fr.ofGrown hg9) T9)
                          have F9 : Hid (Fr (rfoot p (aS.map (·.block)) (ah.map (·.block))) w w9) := hide (F3.out.grown hg9 (fun x hx => .inr (hOge x (by rw [hx]; simp))))
                          have x9 := H9.out.box
                          simp only [hm.out, hnl.out] at x9
                          have c59 := x9.at_ (j := 5) rfl
                          have X9 := hide x9
                          have S9 : Hid (Sl w9 2 ah2 nl ch2 (hh2.flatMap h2c)) := hide (by have h1 := H9.out.hld.sl; simp only [hnl.out] at h1; exact h1)
                          have hil2 : i ≤ nl := by omega
                          have hone : ∀ u ∈ (hh2.flatMap h2c).take (i * 2), u.oneCell' = true := fun u hu => one_flat h2c_one hh2 u (List.mem_of_mem_take hu)
                          have hone2 : ∀ u ∈ (hh2.flatMap h2c).drop ((i + 1) * 2), u.oneCell' = true := fun u hu => one_flat h2c_one hh2 u (List.mem_of_mem_drop hu)
                          have hnle : Own w9 w9.heap.size 78 2 none 0 0 [] := Own.nil _ _ _ _
                          clear x9 ho9 hg9 hf9 b9 s3 O3 O3n Q3 F3 H3 R3 T9 hB3 c4 c5 X0 HSl
                          go_upto_region 24 with (first
                            | (with_reducible refine cut_hi 136 29 _ _ 78 Try.underlying29 2 size_held _ _ _ _ rfl S9.out _ _ i rfl rfl hil2 ?_; intro sH)
                            | (at_builtin; refine append_own_f rfl _ _ 29 rfl 78 (.agg #[.int .i64 0, .slice none 0 0]) 2 32 Try.underlying29 info_held rfl w9 w9.heap.size none 0 0 [] rfl hnle ah2 i ch2 _ rfl sH hone (by omega) (by unfold maxLen; omega) (Nat.le_refl _) (Below.refl _ _) ?_; intro aL cL w11 oL gL fL bL; have OL := hide oL; have GL := hide gL; have BL := hide bL; clear oL gL fL bL sH))
                          have H11 := hide (H9.out.below BL.out)
                          have X11 := hide (X9.out.under BL.out)
                          have S11 : Hid (Sl w11 2 ah2 nl ch2 (hh2.flatMap h2c)) := hide (S9.out.below BL.out)
                          have c5b := X11.out.at_ (j := 5) rfl
                          have hwi : IntKind.i64.wrap ((i : Int) + 1) = ((i + 1 : Nat) : Int) := by rw [show (i : Int) + 1 = ((i + 1 : Nat) : Int) by omega]; exact IntWalk.i64_in _ (by omega)
                          have hil3 : i + 1 ≤ nl := by omega
                          have hz0 : 0 + i = i := Nat.zero_add i
                          rw [hz0, List.nil_append] at OL
                          have hsz9 : Hid (w9.heap.size ≤ w11.heap.size) := hide BL.out.size
                          have hsz9' := hsz9.out
                          have hLp : ∀ x ∈ (aL.map (·.block)).toList, x ≠ p := own_box OL.out X11.out (by decide)
                          clear c59 hnle S9
                          go_upto_region 25 with (first
                            | (with_reducible refine cut_lo 146 29 _ _ 78 Try.underlying29 2 size_held _ _ _ _ rfl S11.out _ _ (i + 1) rfl rfl hil3 ?_; intro aT sT bT; clear bT)
                            | (at_builtin; refine append_own_f rfl _ _ 29 rfl 78 (.agg #[.int .i64 0, .slice none 0 0]) 2 32 Try.underlying29 info_held rfl w11 w9.heap.size aL i cL _ rfl OL.out aT (nl - (i + 1)) (ch2 - (i + 1)) _ rfl sT hone2 (by omega) (by unfold maxLen; omega) hsz9' (Below.refl _ _) ?_; intro aM cM w12 oM gM fM bM; have OM := hide oM; have GM := hide gM; have FM := hide fM; have X12 := hide (X11.out.grown gM (fun e0 => hLp p (by rw [← e0]; simp) rfl)); clear oM gM fM bM sT)
                            | (with_reducible refine store_cell 29 _ _ 31 p 5 [.int .i64 (win2 : Int), V64 key2, .slice aS m cS, .int .i64 (acked2 : Int), .int .i64 (d : Int), .slice ah2 nl ch2, .bool ow2, .int .i64 (forged2 : Int)] (.slice aM (i + (nl - (i + 1))) cM) size_hsl X12.out rfl rfl rfl rfl (by simp) ?_; intro w13 x13 g13 s13; have X13 := hide x13; have G13 := hide g13; clear x13 g13 s13))
                          have hlen : i + (nl - (i + 1)) = nl - 1 := by omega
                          have hL9 : ∀ x ∈ (aL.map (·.block)).toList, w9.heap.size ≤ x := fun x hx => (own_lt OL.out x hx).1
                          have TL := own_nobs OL.out (by decide)
                          have F1112 := Fr.ofGrown GM.out
                          have hapt : ∀ x ∈ rfoot p (aS.map (·.block)) (ah2.map (·.block)), x ∉ (aL.map (·.block)).toList := fun x hx hx2 => by
                            have h1 := H9.out.lt x hx
                            have h2 := hL9 x hx2
                            omega
                          have H12 := hide (H11.out.fr F1112 TL hapt)
                          obtain ⟨hd2, hhd2⟩ : ∃ l, Hid (dlE held2 (d + 1) = l) := ⟨_, hide rfl⟩
                          rw [hhd2.out] at hdl2 K3
                          have hd2l : hd2.length = nl - 1 := by have := hnl.out; omega
                          have H13 : Hid (RAtM w13 p aS cS hsS aM cM (hh2.take i ++ hh2.drop (i + 1)) (⟨win2, key2, wait2, acked2, d, hd2, ow2, forged2⟩ : En) S) := hide (RAtM.mk2 (NoB.box X12.out (by decide)) H12.out.top H12.out.row (by
                              show Own w12 0 _ 2 aM hd2.length cM _
                              rw [hd2l, ← hlen, List.flatMap_append, ← flat_take h2c_len, ← flat_drop h2c_len]
                              exact OM.out.mono (Nat.zero_le _)) (by
                              show (hh2.take i ++ hh2.drop (i + 1)).map (·.1) = hd2.map (·.1)
                              rw [K3.out, List.map_append, List.map_append, List.map_take, List.map_drop, List.map_take, List.map_drop, H12.out.key]) (by
                              show Rows w12 ((hh2.take i ++ hh2.drop (i + 1)).map (·.2)) (hd2.map (·.2))
                              rw [K3.out, List.map_append, List.map_append, List.map_take, List.map_drop, List.map_take, List.map_drop]
                              exact (H12.out.rows.take i).append (H12.out.rows.drop (i + 1))) (own_box H12.out.top X12.out (by decide)) (own_box OM.out X12.out (by decide)) (by
                              have hx := X13.out
                              simp only [List.set_cons_succ, List.set_cons_zero] at hx
                              show Box w13 p _ [_, _, .slice aS S.length cS, _, _, .slice aM hd2.length cM, _, _]
                              rw [hm.out, hd2l, ← hlen]
                              exact hx) G13.out H12.out.ack H12.out.wait)
                          have hnoO9 := own_nobs O9.out (by decide)
                          have O13 : Hid (Own w13 w.heap.size 33 1 a9 (no + 1) c9 ((hO ++ [(z1, z2, z3)]).map hv)) := hide (by
                            have o11 := O9.out.below BL.out
                            have o12 := own_fr o11 F1112 (fun x hx hx2 => own_apart o11 OL.out (by decide) x hx hx2)
                            exact own_fr o12 (Fr.ofGrown G13.out) (fun x hx hx2 => by simp at hx2; exact own_box o12 X12.out (by decide) x hx hx2))
                          have Q13 : Hid (Rows w13 (hO ++ [(z1, z2, z3)]) (out ++ [bq])) := hide (((Q9.out.below BL.out).fr F1112 TL).fr (Fr.ofGrown G13.out) (fun x hx => by simp at hx; subst hx; exact NoB.box X12.out (by decide)))
                          have hsz90 : Hid (w.heap.size ≤ w9.heap.size) := hide F9.out.size
                          have F13 : Hid (Fr (rfoot p (aS.map (·.block)) (ah.map (·.block))) w w13) := hide (((F9.out.below BL.out).grown GM.out (fun x hx => .inr (by have h1 := hL9 x (by rw [hx]; simp); have h2 := hsz90.out; omega))).grown G13.out (fun x hx => by cases hx; exact .inl (by simp [rfoot])))
                          have N13 : Hid (∀ y, aM = some y → (∃ q', ah = some q' ∧ q'.block = y.block) ∨ w.heap.size ≤ y.block) := hide (fun y hy => .inr (by have h1 := (own_lt OM.out y.block (by rw [hy]; simp)).1; have h2 := hsz90.out; omega))
                          have X13b : Hid (Box w13 p 31 [.int .i64 (win2 : Int), V64 key2, .slice aS m cS, .int .i64 (acked2 : Int), .int .i64 (d : Int), .slice aM (nl - 1) cM, .bool ow2, .int .i64 (forged2 : Int)]) := hide (by
                            have hx := X13.out
                            simp only [List.set_cons_succ, List.set_cons_zero] at hx
                            rw [← hlen]
                            exact hx)
                          have c4b := X13b.out.at_ (j := 4) rfl
                          clear OM GM FM X12 X13 G13 TL F1112 hapt H12 H11 X11 OL GL BL H9 O9 Q9 F9 X9 S11 hone hone2 c5b hwi hL9 hLp hnoO9 hsz9 hsz9' hlen
                          go_wp2_with (with_reducible refine store_cell 3 _ _ 31 p 4 [.int .i64 (win2 : Int), V64 key2, .slice aS m cS, .int .i64 (acked2 : Int), .int .i64 (d : Int), .slice aM (nl - 1) cM, .bool ow2, .int .i64 (forged2 : Int)] (.int .i64 ((d + 1 : Nat) : Int)) size_i X13b.out rfl rfl rfl rfl (by simp) ?_; intro w14 x14 g14 s14; have X14 := hide x14; have G14 := hide g14; clear x14 g14 s14)
                          have H14 : Hid (RAtM w14 p aS cS hsS aM cM (hh2.take i ++ hh2.drop (i + 1)) (⟨win2, key2, wait2, acked2, d + 1, hd2, ow2, forged2⟩ : En) S) := hide (H13.out.setbox rfl H13.out.ack H13.out.wait (by
                            have hx := X14.out
                            simp only [List.set_cons_succ, List.set_cons_zero] at hx
                            show Box w14 p _ [_, _, .slice aS S.length cS, _, _, .slice aM hd2.length cM, _, _]
                            rw [hm.out, hd2l]
                            exact hx) G14.out)
                          have O14 : Hid (Own w14 w.heap.size 33 1 a9 (no + 1) c9 ((hO ++ [(z1, z2, z3)]).map hv)) := hide (own_fr O13.out (Fr.ofGrown G14.out) (fun x hx hx2 => by simp at hx2; exact own_box O13.out H13.out.box (by decide) x hx hx2))
                          have Q14 : Hid (Rows w14 (hO ++ [(z1, z2, z3)]) (out ++ [bq])) := hide (Q13.out.fr (Fr.ofGrown G14.out) (fun x hx => by simp at hx; subst hx; exact NoB.box H13.out.box (by decide)))
                          have F14 : Hid (Fr (rfoot p (aS.map (·.block)) (ah.map (·.block))) w w14) := hide (F13.out.grown G14.out (fun x hx => by cases hx; exact .inl (by simp [rfoot])))
                          have hol2 : (out ++ [bq]).length = no + 1 := by rw [List.length_append, hno.out]; rfl
                          have DR2 : Hid (delE (nh + 2) e6 = ((out ++ [bq]) ++ (delE (hd2.length + 1) (⟨win2, key2, wait2, acked2, d + 1, hd2, ow2, forged2⟩ : En)).1, (delE (hd2.length + 1) (⟨win2, key2, wait2, acked2, d + 1, hd2, ow2, forged2⟩ : En)).2)) := hide (by
                            have h1 := DR.out
                            rw [delE_some (e := (⟨win2, key2, wait2, acked2, d, held2, ow2, forged2⟩ : En)) _ K1.out] at h1
                            simp only [hhd2.out, ← hdl2] at h1
                            rw [h1, List.append_assoc]
                            rfl)
                          clear X14 G14 X13b H13 O13 Q13 F13 c4b K1 K3 DR hhd2 HZ
                          go_roundg hd2.length
                          case measure => have h1 := HG.out; change _ = held2.length at h1; omega
                          case rel => exact ⟨(⟨win2, key2, wait2, acked2, d + 1, hd2, ow2, forged2⟩ : En), out ++ [bq], a9, c9, hO ++ [(z1, z2, z3)], aM, cM, hh2.take i ++ hh2.drop (i + 1), rfl, by rw [hol2], hide ⟨by rw [hol2]; exact O14.out, Q14.out⟩, H14, F14, N13, DR2, hide (by show d + 1 + hd2.length = _; omega), hide (by rw [hol2]; show no + 1 + hd2.length = _; omega)⟩
                  · have hfi : fdI held q = (iq : Int) := find_at k2 rfl k4
                    rw [hfi] at hFI
                    have hho : holdE (⟨win, key, S.drop ak, ak, del, held, true, forged⟩ : En) q bb = (⟨win, key, S.drop ak, ak, del, held, true, forged⟩ : En) := if_neg (fun h => by have h1 : lkE held q = none := h.2; rw [k1] at h1; cases h1)
                    have d3 : decide ((0 : Int) ≤ (iq : Int)) = true := decide_eq_true (by omega)
                    clear k1 k2 k3 k4 hfi
                    have hFI' := hFI.out
                    clear hFI
                    go_wp2_with fail
                    go_quiet ((go_at_call 40; exact hFI' _))
                    clear hFI'
                    have b8 := hbn.out nq
                    have H8 := hide (H7.out.below b8)
                    have F8 := hide (F7.out.below b8)
                    have hip : inP (⟨win, key, wait, acked, del, held, ow, forged⟩ : En) ⟨(q : Int), (kk : Int), bb⟩ = ((⟨win, key, S.drop ak, ak, del, held, true, forged⟩ : En), []) := by
                      rw [HIPM.out]
                      show ((delE ((holdE (⟨win, key, S.drop ak, ak, del, held, true, forged⟩ : En) q bb).held.length + 1) (holdE (⟨win, key, S.drop ak, ak, del, held, true, forged⟩ : En) q bb)).2, (delE ((holdE (⟨win, key, S.drop ak, ak, del, held, true, forged⟩ : En) q bb).held.length + 1) (holdE (⟨win, key, S.drop ak, ak, del, held, true, forged⟩ : En) q bb)).1) = _
                      rw [hho, delE_none (e := (⟨win, key, S.drop ak, ak, del, held, true, forged⟩ : En)) _ HQ.out]
                    rw [hip] at HIN
                    clear hip b8 hbn q0 c4
                    generalize w7.drewN nq = w8 at *
                    go_wp2_with fail
                    go_ret2
                    exact ri_nil HIN.out ⟨aS, cS, hsS, ah, ch, hh, H8.out, rfl, rfl⟩ F8.out
    · have d1 : (E == 9) = false := by simp [hE9]
      have d2 : (E != 0) = true := by simp [hE0]
      have hin : inE (⟨win, key, wait, acked, del, held, ow, forged⟩ : En) b = ((⟨win, key, wait, acked, del, held, ow, forged⟩ : En), [], E) := inE_bad hO.out hE9 hE0
      have HIN := hide hin
      clear hin hE9 hE0
      go_wp2_with fail
      go_ret2
      exact ri_nil HIN.out ⟨aS, cS, hsS, ah, ch, hh, H1.out, rfl, rfl⟩ (Fr.of B1.out)
end Go.Proofs.Ytjdnmbapmobaaaa
end

/- the text K42 -/
section
/- Chapter 37: SameLists; the state of LinkRuns in memory. -/
set_option linter.unusedVariables false
namespace Go.Proofs.Ytjdnmbapmobaaaa
open Go.RowKit Go.Dx Go.Al
set_option maxRecDepth 100000 in
set_option maxHeartbeats 2000000 in
theorem r_SameLists (X : List (List UInt8)) (a1 a2 : Option Addr) (c1 c2 : Nat) (h1 h2 : List Hd) (w : World) (o1 : Own w 0 33 1 a1 X.length c1 (h1.map hv)) (r1 : Rows w h1 X) (o2 : Own w 0 33 1 a2 X.length c2 (h2.map hv)) (r2 : Rows w h2 X) (hl : X.length ≤ 100000) :
    Calls Try.prog 15 #[.slice a1 X.length c1, .slice a2 X.length c2] w fun r w' => r = .returned (.bool true) ∧ ∃ n, w' = w.drewN n := by
  obtain ⟨m, hm⟩ : ∃ m, Hid (X.length = m) := ⟨_, hide rfl⟩
  have O1 := hide o1
  have O2 := hide o2
  have R1 := hide r1
  have R2 := hide r2
  rw [hm.out] at O1 O2 hl ⊢
  clear o1 o2 r1 r2
  go_enter Try.func15, Try.ntmps15
  go_wp2_with fail
  go_loopg [5] m (fun gh v5 w' => ∃ (i : Nat), i ≤ m ∧ gh = m - i ∧ v5 = .int .i64 (i : Int) ∧ Hid (∃ n, w' = w.drewN n))
  case atStart => exact ⟨0, by omega, by omega, rfl, hide ⟨0, rfl⟩⟩
  case round =>
    obtain ⟨i, hi, hg, rfl, hw⟩ := hrel
    have HG := hide hg
    clear hg
    by_cases him : i < m
    · have d0 : decide ((i : Int) < (m : Int)) = true := decide_eq_true (by omega)
      have d0n : decide (i < m) = true := decide_eq_true him
      have bw : Below w.heap.size w wr := by obtain ⟨n, h⟩ := hw.out; rw [h]; exact Still.below n
      obtain ⟨r, hr⟩ : ∃ r, X[i]? = some r := ⟨_, List.getElem?_eq_getElem (by rw [hm.out]; exact him)⟩
      obtain ⟨⟨x1, y1, z1⟩, k1⟩ : ∃ x, h1[i]? = some x := ⟨_, List.getElem?_eq_getElem (by rw [R1.out.1, hm.out]; exact him)⟩
      obtain ⟨⟨x2, y2, z2⟩, k2⟩ : ∃ x, h2[i]? = some x := ⟨_, List.getElem?_eq_getElem (by rw [R2.out.1, hm.out]; exact him)⟩
      obtain ⟨s1, -⟩ := R1.out.2 i _ r k1 hr
      obtain ⟨s2, -⟩ := R2.out.2 i _ r k2 hr
      obtain ⟨g1, hg1⟩ := own_zero O1.out (by omega)
      obtain ⟨g2, hg2⟩ := own_zero O2.out (by omega)
      have q1 : wr.cell? ⟨g1, i, none⟩ = some (.slice x1 y1 z1) := own_cell (by have h := O1.out.below bw; rw [hg1] at h; exact h) (show (h1.map hv)[i]? = some (.slice x1 y1 z1) by rw [List.getElem?_map, k1]; rfl)
      have q2 : wr.cell? ⟨g2, i, none⟩ = some (.slice x2 y2 z2) := own_cell (by have h := O2.out.below bw; rw [hg2] at h; exact h) (show (h2.map hv)[i]? = some (.slice x2 y2 z2) by rw [List.getElem?_map, k2]; rfl)
      have hSm : Hid (∀ n, Calls Try.prog 29 #[.slice x1 y1 z1, .slice x2 y2 z2] (wr.drewN n) (Go.Dx.Still (.bool true) (wr.drewN n))) := hide (fun n => by
        have h := ref_Same r r x1 x2 y1 y2 z1 z2 (wr.drewN n) ((s1.below bw).below (Still.below n)) ((s2.below bw).below (Still.below n))
        rw [show decide (r = r) = true by simp] at h
        exact h)
      have hiI : (i : Int) < (m : Int) := by omega
      clear s1 s2 k1 k2 hr bw
      rw [hg1, hg2]
      go_wp2_with fail
      have hSq : ∀ n, Calls Try.prog 29 #[.slice x1 y1 z1, .slice x2 y2 z2] (wr.drewN n) fun e w'' => e = .returned (.bool true) ∧ ∃ m, w'' = wr.drewN m := fun n => Calls.quiet_of (hSm.out n)
      clear hSm
      go_quiet ((go_at_call 29; exact hSq _))
      clear hSq q1 q2
      have hw2 : Hid (∃ n, wr.drewN nq = w.drewN n) := hide (by obtain ⟨n, h⟩ := hw.out; rw [h]; exact ⟨n + nq, by simp [World.drewN, Nat.add_assoc]⟩)
      clear hw
      generalize wr.drewN nq = w11 at *
      rw [← hg1, ← hg2]
      go_wp2_with fail
      go_roundg (m - (i + 1))
      case measure => have := HG.out; omega
      case rel => exact ⟨i + 1, by omega, rfl, by go_num, hw2⟩
    · have d0 : decide ((i : Int) < (m : Int)) = false := decide_eq_false (by omega)
      have d0n : decide (i < m) = false := decide_eq_false him
      go_wp2_with fail
      go_ret
      exact ⟨rfl, hw.out⟩
/-- the ends, the reference's ends, and other things -/
def RL (p m r : Nat → Nat) (gE gM : Nat) (g : Nat → Option Nat) (e : Nat → En) (gs gh : Nat → Option Nat) (f : Nat → En) (S : Nat → List (List UInt8)) (T : List Ob) : List Ob :=
  obFin (p 0) (g 0) (m 0) (e 0) :: obFin (p 1) (g 1) (m 1) (e 1) :: obBox gE 35 [.pointer (some ⟨p 0, 0, none⟩), .pointer (some ⟨p 1, 0, none⟩)] :: obRef (r 0) (gs 0) (gh 0) (f 0) (S 0) :: obRef (r 1) (gs 1) (gh 1) (f 1) (S 1) ::
    obBox gM 26 [.pointer (some ⟨r 0, 0, none⟩), .pointer (some ⟨r 1, 0, none⟩)] :: T
section
variable {p m r : Nat → Nat} {gE gM k : Nat} {g gs gh : Nat → Option Nat} {e f : Nat → En} {S : Nat → List (List UInt8)} {T : List Ob}
theorem rl_fin (hk : k < 2) : (RL p m r gE gM g e gs gh f S T)[k]? = some (obFin (p k) (g k) (m k) (e k)) := by
  rcases k with _ | _ | k
  · rfl
  · rfl
  · omega
theorem rl_ref (hk : k < 2) : (RL p m r gE gM g e gs gh f S T)[3 + k]? = some (obRef (r k) (gs k) (gh k) (f k) (S k)) := by
  rcases k with _ | _ | k
  · rfl
  · rfl
  · omega
theorem rl_setfin (hk : k < 2) (g' : Option Nat) (E : En) : (RL p m r gE gM g e gs gh f S T).set k (obFin (p k) g' (m k) E) = RL p m r gE gM (upd g k g') (upd e k E) gs gh f S T := by
  rcases k with _ | _ | k
  · rfl
  · rfl
  · omega
theorem rl_setref (hk : k < 2) (gs' gh' : Option Nat) (E : En) (R : List (List UInt8)) : (RL p m r gE gM g e gs gh f S T).set (3 + k) (obRef (r k) gs' gh' E R) = RL p m r gE gM g e (upd gs k gs') (upd gh k gh') (upd f k E) (upd S k R) T := by
  rcases k with _ | _ | k
  · rfl
  · rfl
  · omega
end
/-- a call of a thing's that hands back new rows -/
theorem sy_rows {w wr w2 : World} {L : List Ob} {i : Nat} {o o' : Ob} (SY : Sy w wr L) (hi : L[i]? = some o) (ok' : o'.Ok) (ho' : o'.holds w2) {F : List Nat} (F2 : Fr F wr w2) (hF : ∀ b ∈ F, b ∈ o.foot) (hn : ∀ b ∈ o'.foot, b ∈ o.foot ∨ wr.heap.size ≤ b)
    {aX : Option Addr} {cX : Nat} {hsX : List Hd} {X : List (List UInt8)} (oX : Own w2 wr.heap.size 33 1 aX X.length cX (hsX.map hv)) (rX : Rows w2 hsX X) (hd : ∀ b ∈ (aX.map (·.block)).toList, b ∉ o'.foot) :
    Sy w w2 (L.set i o' ++ [obTop aX X.length cX hsX X]) := by
  have S3 := SY.step hi ok' ho' F2 hF hn
  have hLb : ∀ b ∈ (aX.map (·.block)).toList, wr.heap.size ≤ b := fun b hb => (own_lt oX b hb).1
  refine S3.addOld (o := obTop aX X.length cX hsX X) (obTop_ok _ _ _ _ _) ⟨oX.mono (Nat.zero_le _), rX⟩ (fun b hb => Nat.le_trans SY.bel.size (hLb b hb)) (fun j x hj b hb hb2 => ?_)
  by_cases c : j = i
  · subst c
    rw [List.getElem?_set_self (List.getElem?_eq_some_iff.1 hi).1] at hj
    cases hj
    exact hd b hb2 hb
  · rw [List.getElem?_set_ne (fun h => c h.symm)] at hj
    have h1 := hLb b hb2
    have h2 := SY.sys.lts hj b hb
    omega
theorem RAt.aw {w : World} {p : Nat} {gs gh : Option Nat} {e : En} {S : List (List UInt8)} (h : RAt w p gs gh e S) : e.acked ≤ S.length ∧ e.wait = S.drop e.acked := by
  obtain ⟨a, c, hs, ah, ch, hh, h, -, -⟩ := h
  exact ⟨h.ack, h.wait⟩
theorem RAt.apart {w : World} {p B : Nat} {gs gh : Option Nat} {e : En} {S : List (List UInt8)} {aX : Option Addr} {n c : Nat} {cs : List Value} (h : RAt w p gs gh e S) (o : Own w B 33 1 aX n c cs) (hB : ∀ b ∈ gs.toList, b < B) : ∀ b ∈ (aX.map (·.block)).toList, b ∉ rfoot p gs gh := fun b hb hb2 => by
  obtain ⟨a, c, hs, ah, ch, hh, h, rfl, rfl⟩ := h
  unfold rfoot at hb2
  rcases List.mem_cons.1 hb2 with h1 | h1
  · exact own_box o h.box (by decide) b hb h1
  · rcases List.mem_append.1 h1 with h1 | h1
    · have h2 := hB b h1
      have h3 := (own_lt o b hb).1
      omega
    · exact own_apart o h.hld (by decide) b hb h1
end Go.Proofs.Ytjdnmbapmobaaaa
end

/- the text K43 -/
section
/- Chapter 37, plain: the state of LinkRuns. -/
set_option linter.unusedVariables false
namespace Go.Proofs.Ytjdnmbapmobaaaa
open Go.RowKit Go.Dx Go.Al
theorem encInt_ge (x : Int) : 1 ≤ (encInt x).length := encInt_pos x
theorem pkB_ge (p : Pk) : 4 ≤ (pkB p).length := by
  unfold pkB encInts encBytes
  have h1 := encInt_ge ((([p.seq, p.ack] : List Int).length : Nat) : Int)
  have h2 := encInt_ge p.seq
  have h3 := encInt_ge p.ack
  have h4 := encInt_ge ((p.b.length : Nat) : Int)
  simp only [List.length_append, List.flatMap_cons, List.flatMap_nil, List.append_nil] at *
  omega
theorem pkB_short (s k : Int) (b : List UInt8) (hb : b.length ≤ 60) : (pkB ⟨s, k, b⟩).length ≤ 100 := by
  unfold pkB
  have h1 := encInts_le [s, k]
  have h3 := encInt_le ((b.length : Nat) : Int)
  unfold encBytes
  simp only [List.length_append, List.length_cons, List.length_nil] at *
  omega
theorem delE_count : ∀ (n : Nat) (e : En), (delE n e).1.length ≤ e.held.length
  | 0, e => Nat.zero_le _
  | n + 1, e => by
    cases hl : lkE e.held (e.del + 1) with
    | none => rw [delE_none _ hl]; exact Nat.zero_le _
    | some b =>
      rw [delE_some n hl]
      have h1 := dl_len hl
      have h2 : (delE n { e with del := e.del + 1, held := dlE e.held (e.del + 1) }).1.length ≤ (dlE e.held (e.del + 1)).length := delE_count n { e with del := e.del + 1, held := dlE e.held (e.del + 1) }
      simp only [List.length_cons]
      omega
theorem inE_count (e : En) (b : List UInt8) : (inE e b).2.1.length ≤ e.held.length + 1 := by
  unfold inE
  split
  · exact Nat.zero_le _
  · split
    · exact Nat.zero_le _
    · split
      · exact Nat.zero_le _
      · rename_i p _
        show (inP e p).2.length ≤ _
        unfold inP
        split
        · exact Nat.zero_le _
        · split
          · exact Nat.zero_le _
          · have h1 := (holdE_more { ackE e p.ack.toNat with ow := true } p.seq.toNat p.b).1
            have h2 := (ackE_held e p.ack.toNat).1
            have h3 := delE_count ((holdE { ackE e p.ack.toNat with ow := true } p.seq.toNat p.b).held.length + 1) (holdE { ackE e p.ack.toNat with ow := true } p.seq.toNat p.b)
            have h1' : (holdE { ackE e p.ack.toNat with ow := true } p.seq.toNat p.b).held.length ≤ (ackE e p.ack.toNat).held.length + 1 := h1
            rw [h2] at h1'
            exact Nat.le_trans h3 h1'
theorem outE_row {e : En} (h : ∀ r ∈ e.wait, r.length ≤ 60) : ∀ r ∈ outE e, 12 ≤ r.length ∧ r.length ≤ 200 := by
  intro r hr
  have key : ∀ (s k : Int) (b : List UInt8), b.length ≤ 60 → 12 ≤ (sealL e.key (pkB ⟨s, k, b⟩)).length ∧ (sealL e.key (pkB ⟨s, k, b⟩)).length ≤ 200 := fun s k b hb => by
    rw [sealL_len]
    have h1 := pkB_ge ⟨s, k, b⟩
    have h2 : (pkB ⟨s, k, b⟩).length ≤ 100 := pkB_short s k b hb
    omega
  unfold outE at hr
  split at hr
  · split at hr
    · simp at hr
      subst hr
      exact key _ _ _ (by simp)
    · cases hr
  · unfold outTo at hr
    obtain ⟨i, hi, rfl⟩ := List.mem_map.1 hr
    refine key _ _ _ ?_
    rw [List.getD_eq_getElem?_getD]
    cases hx : e.wait[i]? with
    | none => simp
    | some x => exact h x (List.mem_of_getElem? hx)
structure RInv (key : UInt64) (i : Nat) (e : Nat → En) (S : Nat → List (List UInt8)) (P : List (List UInt8)) (TO : List Int) : Prop where
  key : ∀ j, j < 2 → (e j).key = key
  win : ∀ j, j < 2 → (e j).win ≤ 16
  q : ∀ j, j < 2 → QuietE (e j)
  dh : ∀ j, j < 2 → (e j).del + (e j).held.length ≤ i
  fg : ∀ j, j < 2 → (e j).forged ≤ i
  sl : ∀ j, j < 2 → (S j).length ≤ i
  row : ∀ j, j < 2 → ∀ r ∈ S j, r.length ≤ 60
  pl : ∀ (j : Nat) (r : List UInt8), P[j]? = some r → 12 ≤ r.length ∧ r.length ≤ 200
  dst : ∀ (j : Nat) (t : Int), TO[j]? = some t → ∃ u : Nat, u < 2 ∧ t = (u : Int)
  len : P.length = TO.length
  cnt : P.length ≤ 17 * i
section
variable {key : UInt64} {i k : Nat} {e : Nat → En} {S : Nat → List (List UInt8)} {P : List (List UInt8)} {TO : List Int}
theorem RInv.mono (h : RInv key i e S P TO) : RInv key (i + 1) e S P TO :=
  ⟨h.key, h.win, h.q, fun j hj => Nat.le_succ_of_le (h.dh j hj), fun j hj => Nat.le_succ_of_le (h.fg j hj), fun j hj => Nat.le_succ_of_le (h.sl j hj), h.row, h.pl, h.dst, h.len, by have := h.cnt; omega⟩
theorem upd_all {α : Type} {f : Nat → α} {k : Nat} {v : α} {Q : α → Prop} (h : ∀ j, j < 2 → Q (f j)) (hv : Q v) : ∀ j, j < 2 → Q (upd f k v j) := fun j hj => by
  by_cases c : j = k
  · subst c; rw [upd_self]; exact hv
  · rw [upd_ne _ _ c]; exact h j hj
theorem RInv.send (h : RInv key i e S P TO) (hk : k < 2) (b : List UInt8) (hb : b.length ≤ 60) : RInv key (i + 1) (upd e k { e k with wait := (e k).wait ++ [b] }) (upd S k (S k ++ [b])) P TO := by
  have h1 := h.mono
  refine ⟨upd_all (Q := fun x : En => x.key = key) h1.key (h1.key k hk), upd_all (Q := fun x : En => x.win ≤ 16) h1.win (h1.win k hk), upd_all (Q := fun x : En => QuietE x) h1.q (h1.q k hk), upd_all (Q := fun x : En => x.del + x.held.length ≤ i + 1) h1.dh (h1.dh k hk), upd_all (Q := fun x : En => x.forged ≤ i + 1) h1.fg (h1.fg k hk), upd_all (Q := fun x : List (List UInt8) => x.length ≤ i + 1) h1.sl ?_, upd_all (Q := fun x : List (List UInt8) => ∀ r ∈ x, r.length ≤ 60) h1.row ?_, h1.pl, h1.dst, h1.len, h1.cnt⟩
  · rw [List.length_append]
    have := h.sl k hk
    simp
    omega
  · intro r hr
    rcases List.mem_append.1 hr with h2 | h2
    · exact h.row k hk r h2
    · simp at h2; subst h2; exact hb
theorem RInv.out (h : RInv key i e S P TO) (hk : k < 2) (hw : ∀ r ∈ (e k).wait, r.length ≤ 60) : RInv key (i + 1) (upd e k (outS (e k))) S (P ++ outE (e k)) (TO ++ List.replicate (outE (e k)).length (((1 - k : Nat) : Int))) := by
  have h1 := h.mono
  refine ⟨upd_all (Q := fun x : En => x.key = key) h1.key (h1.key k hk), upd_all (Q := fun x : En => x.win ≤ 16) h1.win (h1.win k hk), upd_all (Q := fun x : En => QuietE x) h1.q (h1.q k hk), upd_all (Q := fun x : En => x.del + x.held.length ≤ i + 1) h1.dh (h1.dh k hk), upd_all (Q := fun x : En => x.forged ≤ i + 1) h1.fg (h1.fg k hk), h1.sl, h1.row, fun j r hj => ?_, fun j t hj => ?_, by rw [List.length_append, List.length_append, List.length_replicate, h.len], ?_⟩
  · rw [List.getElem?_append] at hj
    split at hj
    · exact h.pl j r hj
    · exact outE_row hw r (List.mem_of_getElem? hj)
  · rw [List.getElem?_append] at hj
    split at hj
    · exact h.dst j t hj
    · exact ⟨1 - k, by omega, get_rep hj⟩
  · have h3 := outE_len (e k)
    have h4 := h.win k hk
    have h5 := h.cnt
    rw [List.length_append]
    omega
theorem RInv.in_ (h : RInv key i e S P TO) (hk : k < 2) (b : List UInt8) : RInv key (i + 1) (upd e k (inE (e k) b).1) S P TO := by
  have h1 := h.mono
  obtain ⟨m1, m2, m3, m4, m5⟩ := inE_more (e k) b (h.q k hk)
  have h3 := h.dh k hk
  have h4 := h.fg k hk
  exact ⟨upd_all (Q := fun x : En => x.key = key) h1.key (m5.trans (h.key k hk)), upd_all (Q := fun x : En => x.win ≤ 16) h1.win (by rw [m4]; exact h.win k hk), upd_all (Q := fun x : En => QuietE x) h1.q m1, upd_all (Q := fun x : En => x.del + x.held.length ≤ i + 1) h1.dh (by omega), upd_all (Q := fun x : En => x.forged ≤ i + 1) h1.fg (by omega), h1.sl, h1.row, h1.pl, h1.dst, h1.len, h1.cnt⟩
end
theorem quo_nat (n k : Nat) (hk : 0 < k) : (n : Int).tdiv (k : Int) = ((n / k : Nat) : Int) ∧ (n : Int) / (k : Int) = ((n / k : Nat) : Int) := ⟨by rw [Int.tdiv_eq_ediv_of_nonneg (by omega)]; exact (Int.natCast_ediv n k).symm, (Int.natCast_ediv n k).symm⟩
theorem rem_nat (n k : Nat) (hk : 0 < k) : (n : Int).tmod (k : Int) = ((n % k : Nat) : Int) ∧ (n : Int) % (k : Int) = ((n % k : Nat) : Int) := ⟨by rw [Int.tmod_eq_emod_of_nonneg (by omega)]; exact (Int.natCast_emod n k).symm, (Int.natCast_emod n k).symm⟩
end Go.Proofs.Ytjdnmbapmobaaaa
end

/- the text K44 -/
section
/- Chapter 37: the steps of LinkRuns. -/
set_option linter.unusedVariables false
namespace Go.Proofs.Ytjdnmbapmobaaaa
open Go.RowKit Go.Dx Go.Al
theorem byte_any (i : Nat) : IntKind.u8.wrap (i : Int) = ((UInt8.ofNat i).toNat : Int) := by
  rw [UInt8.toNat_ofNat', IntKind.wrap_u8']
  omega
/-- before, between and behind the two calls of Send -/
def GSend (w0 : World) (gE gM : Nat) (pp rr : List Value) (L0 : List Ob) (L1 : Option Nat → List Ob) (L2 : Option Nat → Option Nat → List Ob) (hb : Hd) (b : List UInt8) (j : Nat) (vs : List Value) (w' : World) : Prop :=
  Rows w' [hb] [b] ∧ Box w' gE 35 pp ∧ Box w' gM 26 rr ∧ (j = 0 → Sy w0 w' L0) ∧ (j = 1 → (∃ y, vs = [.int .i64 0, y]) ∧ ∃ g2, Sy w0 w' (L1 g2)) ∧ (2 ≤ j → vs = [.int .i64 0, .int .i64 0] ∧ ∃ g2 gs2, Sy w0 w' (L2 g2 gs2))
theorem GSend.mono {w0 : World} {gE gM : Nat} {pp rr : List Value} {L0 : List Ob} {L1 : Option Nat → List Ob} {L2 : Option Nat → Option Nat → List Ob} {hb : Hd} {b : List UInt8} (j : Nat) (vs : List Value) (w w' : World) (hbl : Below w.heap.size w w') (h : GSend w0 gE gM pp rr L0 L1 L2 hb b j vs w) : GSend w0 gE gM pp rr L0 L1 L2 hb b j vs w' :=
  ⟨h.1.below hbl, h.2.1.under hbl, h.2.2.1.under hbl, fun hj => (h.2.2.2.1 hj).below hbl, fun hj => ⟨(h.2.2.2.2.1 hj).1, by obtain ⟨g2, hg⟩ := (h.2.2.2.2.1 hj).2; exact ⟨g2, hg.below hbl⟩⟩, fun hj => ⟨(h.2.2.2.2.2 hj).1, by obtain ⟨g2, gs2, hg⟩ := (h.2.2.2.2.2 hj).2; exact ⟨g2, gs2, hg.below hbl⟩⟩⟩
/-- the packet that is delivered -/
def Dlv (w0 : World) (v : Value) (w' : World) : Prop := ∃ (a : Option Addr) (n c : Nat) (bb : List UInt8), v = .slice a n c ∧ Sl w' 1 a n c (bb.map B8) ∧ Kind w' a ∧ 12 ≤ n ∧ n ≤ 200 ∧ Below w0.heap.size w0 w'
def Dlv2 (w0 : World) (v : Value) (w' : World) : Prop := ∃ (a : Option Addr) (n c : Nat) (bb : List UInt8), v = .slice a n c ∧ Sl w' 1 a n c (bb.map B8) ∧ Kind w' a ∧ n ≤ 200 ∧ Below w0.heap.size w0 w'
structure RunSt where
  (g : Nat → Option Nat) (e : Nat → En) (gs gh : Nat → Option Nat) (S : Nat → List (List UInt8)) (aK : Option Addr) (cK : Nat) (hK : List Hd) (P : List (List UInt8)) (ta : Option Addr) (tc : Nat) (TO : List Int)
def RunSt.L (p m r : Nat → Nat) (gE gM : Nat) (s : RunSt) : List Ob := RL p m r gE gM s.g s.e s.gs s.gh s.e s.S [obTop s.aK s.P.length s.cK s.hK s.P, obInts s.ta s.TO.length s.tc s.TO]
def RunSt.Inv (key : UInt64) (i : Nat) (s : RunSt) : Prop := RInv key i s.e s.S s.P s.TO
end Go.Proofs.Ytjdnmbapmobaaaa
end

/- the text KL6 -/
section
/- Chapter 37: the walk of LinkRuns. -/

set_option linter.unusedVariables false
namespace Go.Proofs.Ytjdnmbapmobaaaa
open Go.RowKit Go.Dx Go.Al
theorem ref_new (w : World) (n : Nat) (key : UInt64) : RAt (w.alloc (.cells #[.int .i64 (1 + (n : Int)), V64 key, .slice none 0 0, .int .i64 0, .int .i64 0, .slice none 0 0, .bool false, .int .i64 0] 31)) w.heap.size none none (newE (1 + n) key) [] :=
  ⟨none, 0, [], none, 0, [], ⟨by
    have h := Box.new w 31 #[.int .i64 (1 + (n : Int)), V64 key, .slice none 0 0, .int .i64 0, .int .i64 0, .slice none 0 0, .bool false, .int .i64 0]
    simpa [newE] using h, Own.nil _ _ _ _, Rows.nil _, Own.nil _ _ _ _, rfl, Rows.nil _, Nat.le_refl _, rfl⟩, rfl, rfl⟩
theorem rl_out {w wr w2 : World} {p m r : Nat → Nat} {gE gM k : Nat} {g gs gh : Nat → Option Nat} {e f : Nat → En} {S : Nat → List (List UInt8)} {T : List Ob} (hk : k < 2) (SY : Sy w wr (RL p m r gE gM g e gs gh f S T)) {E : En} (A2 : EndAt w2 (p k) (g k) (m k) E) {F : List Nat} (F2 : Fr F wr w2) (hF : ∀ b ∈ F, b ∈ foot (p k) (g k) (m k))
    {aX : Option Addr} {cX : Nat} {hsX : List Hd} {X : List (List UInt8)} (oX : Own w2 wr.heap.size 33 1 aX X.length cX (hsX.map hv)) (rX : Rows w2 hsX X) :
    Sy w w2 (RL p m r gE gM g (upd e k E) gs gh f S (T ++ [obTop aX X.length cX hsX X])) := by
  have h := sy_call SY (rl_fin hk) A2 F2 hF oX rX
  rw [rl_setfin hk, upd_same] at h
  exact h
theorem rl_rout {w wr w2 : World} {p m r : Nat → Nat} {gE gM k : Nat} {g gs gh : Nat → Option Nat} {e f : Nat → En} {S : Nat → List (List UInt8)} {T : List Ob} (hk : k < 2) (SY : Sy w wr (RL p m r gE gM g e gs gh f S T)) {gh' : Option Nat} {E : En} (A2 : RAt w2 (r k) (gs k) gh' E (S k)) {F : List Nat} (F2 : Fr F wr w2) (hF : ∀ b ∈ F, b ∈ rfoot (r k) (gs k) (gh k)) (hn : ∀ b ∈ rfoot (r k) (gs k) gh', b ∈ rfoot (r k) (gs k) (gh k) ∨ wr.heap.size ≤ b)
    {aX : Option Addr} {cX : Nat} {hsX : List Hd} {X : List (List UInt8)} (oX : Own w2 wr.heap.size 33 1 aX X.length cX (hsX.map hv)) (rX : Rows w2 hsX X) :
    Sy w w2 (RL p m r gE gM g e gs (upd gh k gh') (upd f k E) S (T ++ [obTop aX X.length cX hsX X])) := by
  have h := sy_rows SY (rl_ref hk) (obRef_ok (r k) (gs k) gh' E (S k)) A2 F2 hF hn oX rX (A2.apart oX (fun b hb => SY.sys.lts (rl_ref hk) b (by show b ∈ rfoot _ _ _; unfold rfoot; exact List.mem_cons_of_mem _ (List.mem_append_left _ hb))))
  rw [rl_setref hk, upd_same, upd_same] at h
  exact h
theorem sl_fr_row {w w' : World} {a : Option Addr} {n c : Nat} {bb : List UInt8} {F : List Nat} (s : Sl w 1 a n c (bb.map B8)) (k : Kind w a) (hn : ∀ b ∈ F, NoB w b) (f : Fr F w w') : Sl w' 1 a n c (bb.map B8) ∧ Kind w' a :=
  ((Rows.one (x := (a, n, c)) s k).fr f hn).2 0 _ _ rfl rfl
set_option maxRecDepth 100000 in
set_option maxHeartbeats 20000000 in
theorem walk_Runs0 (window : Int) (key : UInt64) (l : List Int) (a : Option Addr) (n c : Nat) (w : World) (hw1 : -9223372036854775808 ≤ window) (hw2 : window ≤ 9223372036854775807) (hs : Sl w 1 a n c (l.map I64)) (hl : ∀ x ∈ l, -9223372036854775808 ≤ x ∧ x ≤ 9223372036854775807) :
    Calls Try.prog 3 #[.int .i64 window, V64 key, .slice a n c] w fun r w' => r = .returned (.bool true) ∧ Below w.heap.size w w' := by
  have hs0 := hide hs
  have hn := hs.n_eq
  have HN := hide hn
  have hlb := hide hl
  clear hs hl hn
  obtain ⟨d, hd⟩ : ∃ d, window.tdiv 16 = d := ⟨_, rfl⟩
  have hdr := tdiv_nat window hw1 hw2 16 (by omega)
  rw [hd] at hdr
  obtain ⟨hdr1, hdr2⟩ := hdr
  obtain ⟨na, hna⟩ : ∃ n, Hid (aroundF window 16 = n) := ⟨_, hide rfl⟩
  obtain ⟨nb, hnb⟩ : ∃ n, Hid (aroundF d 16 = n) := ⟨_, hide rfl⟩
  have hna16 : na < 16 := by rw [← hna.out]; exact aroundF_lt (by omega)
  have hnb16 : nb < 16 := by rw [← hnb.out]; exact aroundF_lt (by omega)
  have hA1 : Hid (∀ w, Calls Try.prog 10 #[.int .i64 window, .int .i64 16] w fun e w' => e = .returned (.int .i64 (na : Int)) ∧ w = w') := hide (fun w => by
    have h := ref_Around2 window 16 16 w rfl hw1 hw2 (by omega) (by omega)
    rw [hna.out] at h
    exact h)
  have hA2 : Hid (∀ w, Calls Try.prog 10 #[.int .i64 d, .int .i64 16] w fun e w' => e = .returned (.int .i64 (nb : Int)) ∧ w = w') := hide (fun w => by
    have h := ref_Around2 d 16 16 w rfl (by omega) (by omega) (by omega) (by omega)
    rw [hnb.out] at h
    exact h)
  have hEn := law37_ends window key
  rw [hd, hna.out, hnb.out] at hEn
  have hEN := hide hEn
  clear hEn hna hnb
  go_enter Try.func3, Try.ntmps3
  have q24 : ∀ (w : World) (a : Option Addr) (n c n' c' : Nat), (binOp .eql 24 (.slice a n c) (.slice none n' c')).run Try.prog w = .ok (.bool a.isNone) w := fun w a n c n' c' => Lib.run_eql_slice_nil w _ _ a n c n' c' Try.underlying24
  go_upto_region 4 with (go_at_call 9; refine (hEN.out w hw1 hw2).mono ?_; rintro e1 w1 ⟨gE, pa, ma, pb, mb, rfl, S1⟩; have SA := hide S1; clear S1)
  clear q24 hEN
  have hA1' := hA1.out
  have hA2' := hA2.out
  clear hA1 hA2
  have hwd : IntKind.i64.wrap d = d := IntWalk.i64_in _ (by omega)
  have hwa : IntKind.i64.wrap (1 + (na : Int)) = 1 + (na : Int) := IntWalk.i64_in _ (by omega)
  have hwb : IntKind.i64.wrap (1 + (nb : Int)) = 1 + (nb : Int) := IntWalk.i64_in _ (by omega)
  go_upto_region 5 with (first
    | (go_at_call_of 10 (Value.int IntKind.i64 window); refine (hA1' _).mono ?_; rintro e1 w2 ⟨rfl, rfl⟩)
    | (go_at_call_of 10 (Value.int IntKind.i64 d); refine (hA2' _).mono ?_; rintro e1 w2 ⟨rfl, rfl⟩))
  clear hA1' hA2' hd hwd hwa hwb
  obtain ⟨w2, hw2e⟩ : ∃ w2, w2 = w1.alloc (.cells #[.int .i64 (1 + (na : Int)), V64 key, .slice none 0 0, .int .i64 0, .int .i64 0, .slice none 0 0, .bool false, .int .i64 0] 31) := ⟨_, rfl⟩
  obtain ⟨w3, hw3e⟩ : ∃ w3, w3 = w2.alloc (.cells #[.int .i64 (1 + (nb : Int)), V64 key, .slice none 0 0, .int .i64 0, .int .i64 0, .slice none 0 0, .bool false, .int .i64 0] 31) := ⟨_, rfl⟩
  have z2 : w2.heap.size = w1.heap.size + 1 := by rw [hw2e]; simp
  have z3 : w3.heap.size = w1.heap.size + 1 + 1 := by rw [hw3e]; simp [z2]
  have SB := hide (SA.out.add (w' := w2) (o := obRef w1.heap.size none none (newE (1 + na) key) []) (obRef_ok _ _ _ _ _) (by rw [hw2e]; exact ref_new w1 na key) (by rw [hw2e]; exact sblo w1 _) (fun b hb => by simp [obRef, rfoot] at hb; omega))
  have SC := hide (SB.out.add (w' := w3) (o := obRef w2.heap.size none none (newE (1 + nb) key) []) (obRef_ok _ _ _ _ _) (by rw [hw3e]; exact ref_new w2 nb key) (by rw [hw3e]; exact sblo w2 _) (fun b hb => by simp [obRef, rfoot] at hb; omega))
  have SD := hide (SC.out.add (w' := w3.alloc (.cells #[.pointer (some ⟨w1.heap.size, 0, none⟩), .pointer (some ⟨w2.heap.size, 0, none⟩)] 26)) (o := obBox w3.heap.size 26 [.pointer (some ⟨w1.heap.size, 0, none⟩), .pointer (some ⟨w2.heap.size, 0, none⟩)]) (obBox_ok _ _ _ (by decide)) (Box.new w3 26 #[.pointer (some ⟨w1.heap.size, 0, none⟩), .pointer (some ⟨w2.heap.size, 0, none⟩)]) (sblo w3 _) (fun b hb => by simp [obBox] at hb; omega))
  have SE := hide ((SD.out.add (o := obTop none 0 0 [] []) (obTop_ok _ _ _ _ _) ⟨Own.nil _ _ _ _, Rows.nil _⟩ (Below.refl _ _) (by simp [obTop])).add (o := obInts none 0 0 []) (obInts_ok _ _ _ _) (Own.nil _ _ _ _) (Below.refl _ _) (by simp [obInts]))
  clear SA SB SC SD
  rw [z2, z3] at SE
  rw [← hw2e, ← hw3e]
  obtain ⟨w5, hw5⟩ : ∃ w5, w5 = w3.alloc (.cells #[.pointer (some ⟨w1.heap.size, 0, none⟩), .pointer (some ⟨w1.heap.size + 1, 0, none⟩)] 26) := ⟨_, rfl⟩
  rw [← hw5] at SE ⊢
  obtain ⟨p, hp⟩ : ∃ p : Nat → Nat, Hid (p = fun j => if j = 0 then pa else pb) := ⟨_, hide rfl⟩
  obtain ⟨m, hm⟩ : ∃ m : Nat → Nat, Hid (m = fun j => if j = 0 then ma else mb) := ⟨_, hide rfl⟩
  obtain ⟨r, hr⟩ : ∃ r : Nat → Nat, Hid (r = fun j => if j = 0 then w1.heap.size else w1.heap.size + 1) := ⟨_, hide rfl⟩
  obtain ⟨gM, hgM⟩ : ∃ gM, w1.heap.size + 1 + 1 = gM := ⟨_, rfl⟩
  rw [hgM] at SE ⊢
  obtain ⟨e0, he0⟩ : ∃ e0 : Nat → En, Hid ((fun j => if j = 0 then newE (1 + na) key else newE (1 + nb) key) = e0) := ⟨_, hide rfl⟩
  obtain ⟨g0, hg0⟩ : ∃ g0 : Nat → Option Nat, Hid ((fun _ => none : Nat → Option Nat) = g0) := ⟨_, hide rfl⟩
  obtain ⟨S0, hS0⟩ : ∃ S0 : Nat → List (List UInt8), Hid ((fun _ => [] : Nat → List (List UInt8)) = S0) := ⟨_, hide rfl⟩
  have SF : Hid (Sy w w5 (RL p m r gE gM g0 e0 g0 g0 e0 S0 [obTop none ([] : List (List UInt8)).length 0 [] [], obInts none ([] : List Int).length 0 []])) := hide (by
    rw [hp.out, hm.out, hr.out, ← he0.out, ← hg0.out, ← hS0.out]
    exact SE.out)
  have IF : Hid (RInv key 0 e0 S0 [] []) := hide (by
    have hc : ∀ j, j < 2 → ∃ n, n ≤ 16 ∧ e0 j = newE n key := fun j hj => by
      rw [← he0.out]
      by_cases c : j = 0
      · exact ⟨1 + na, by omega, if_pos c⟩
      · exact ⟨1 + nb, by omega, if_neg c⟩
    refine ⟨fun j hj => ?_, fun j hj => ?_, fun j hj => ?_, fun j hj => ?_, fun j hj => ?_, fun j hj => ?_, fun j hj => ?_, fun j r h => by simp at h, fun j t h => by simp at h, rfl, Nat.zero_le _⟩
    · obtain ⟨n, hn, h⟩ := hc j hj; rw [h]; rfl
    · obtain ⟨n, hn, h⟩ := hc j hj; rw [h]; exact hn
    · obtain ⟨n, hn, h⟩ := hc j hj; rw [h]; exact newE_quiet _ _
    · obtain ⟨n, hn, h⟩ := hc j hj; rw [h]; exact Nat.le_refl _
    · obtain ⟨n, hn, h⟩ := hc j hj; rw [h]; exact Nat.le_refl _
    · rw [← hS0.out]; exact Nat.le_refl _
    · rw [← hS0.out]; intro x hx; cases hx)
  clear SE hp hm hr he0 hg0 hS0 hw5 hw3e hw2e z2 z3 hgM
  go_upto_region 8 with fail
  go_loopg [9, 10, 11] 60 (fun gq v9 v10 v11 w' => ∃ (i : Nat) (s : RunSt), i ≤ 60 ∧ gq = 60 - i ∧ v9 = .slice s.aK s.P.length s.cK ∧ v10 = .slice s.ta s.TO.length s.tc ∧ v11 = .int .i64 (i : Int) ∧ Hid (Sy w w' (s.L p m r gE gM)) ∧ Hid (s.Inv key i))
  case atStart => exact ⟨0, (⟨g0, e0, g0, g0, S0, none, 0, [], [], none, 0, []⟩ : RunSt), by omega, by omega, rfl, rfl, rfl, SF, IF⟩
  case round =>
    clear SF IF
    as_aux_lemma =>
      obtain ⟨i, ⟨g, e, gs, gh, S, aK, cK, hK, P, ta, tc, TO⟩, hi, hg, rfl, rfl, rfl, SYx, INVx⟩ := hrel
      have SY : Hid (Sy w wr (RL p m r gE gM g e gs gh e S [obTop aK P.length cK hK P, obInts ta TO.length tc TO])) := SYx
      have INV : Hid (RInv key i e S P TO) := INVx
      clear SYx INVx
      have HG := hide hg
      clear hg
      obtain ⟨np, hnp⟩ : ∃ np, Hid (P.length = np) := ⟨_, hide rfl⟩
      have hnt : Hid (TO.length = np) := hide (INV.out.len.symm.trans hnp.out)
      have hnp2 : np ≤ 1020 := by have h1 := INV.out.cnt; have h2 := hnp.out; omega
      rw [show (⟨g, e, gs, gh, S, aK, cK, hK, P, ta, tc, TO⟩ : RunSt).P.length = np from hnp.out, show (⟨g, e, gs, gh, S, aK, cK, hK, P, ta, tc, TO⟩ : RunSt).TO.length = np from hnt.out]
      by_cases hc : i < n ∧ i < 60
      · obtain ⟨hin, hi60⟩ := hc
        have d0 : decide ((i : Int) < (n : Int)) = true := decide_eq_true (by omega)
        have d0n : decide (i < n) = true := decide_eq_true hin
        have d1 : decide ((i : Int) < 60) = true := decide_eq_true (by omega)
        have d1n : decide (i < 60) = true := decide_eq_true hi60
        obtain ⟨x, hx⟩ : ∃ x, l[i]? = some x := ⟨_, List.getElem?_eq_getElem (by rw [← HN.out]; exact hin)⟩
        have hxb := hlb.out x (List.mem_of_getElem? hx)
        have HX := hide hx
        have hsl := hs0.out.below SY.out.bel
        obtain ⟨d, hd⟩ : ∃ d, x.tdiv 8 = d := ⟨_, rfl⟩
        have hdr := tdiv_nat x hxb.1 hxb.2 8 (by omega)
        rw [hd] at hdr
        obtain ⟨hdr1, hdr2⟩ := hdr
        have hwd : IntKind.i64.wrap d = d := IntWalk.i64_in _ (by omega)
        obtain ⟨nn, hnn⟩ : ∃ nn, Hid (aroundF d 1073741824 = nn) := ⟨_, hide rfl⟩
        have hnn2 : nn < 1073741824 := by rw [← hnn.out]; exact aroundF_lt (by omega)
        obtain ⟨sw, hsw⟩ : ∃ sw, Hid (aroundF x 8 = sw) := ⟨_, hide rfl⟩
        have hsw2 : sw < 8 := by rw [← hsw.out]; exact aroundF_lt (by omega)
        have hA1 : Hid (∀ w, Calls Try.prog 10 #[.int .i64 d, .int .i64 1073741824] w fun e w' => e = .returned (.int .i64 (nn : Int)) ∧ w = w') := hide (fun w => by
          have h := ref_Around2 d 1073741824 1073741824 w rfl (by omega) (by omega) (by omega) (by omega)
          rw [hnn.out] at h
          exact h)
        have hA2 : Hid (∀ w, Calls Try.prog 10 #[.int .i64 x, .int .i64 8] w fun e w' => e = .returned (.int .i64 (sw : Int)) ∧ w = w') := hide (fun w => by
          have h := ref_Around2 x 8 8 w rfl hxb.1 hxb.2 (by omega) (by omega)
          rw [hsw.out] at h
          exact h)
        obtain ⟨k, hk2, hk3, hk4⟩ := two_mod nn
        clear hx hxb
        go_upto_block 2 with (first
          | (with_reducible refine idx_i 56 _ _ _ _ _ _ rfl hsl _ _ i rfl rfl _ HX.out ?_; intro b o hcell hbo)
          | (go_at_call_of 10 (Value.int IntKind.i64 d); refine (hA1.out _).mono ?_; rintro e1 w1 ⟨rfl, rfl⟩; clear hcell hbo)
          | (with_reducible refine idx_i 64 _ _ _ _ _ _ rfl hsl _ _ i rfl rfl _ HX.out ?_; intro b o hcell hbo)
          | (go_at_call_of 10 (I64 x); refine (hA2.out _).mono ?_; rintro e1 w1 ⟨rfl, rfl⟩; clear hcell hbo))
        clear hd hwd hA1 hA2 HX d0 d0n d1 d1n hdr1 hdr2 hsl
        go_cut [9, 10] (fun v9 v10 w' => ∃ s : RunSt, v9 = .slice s.aK s.P.length s.cK ∧ v10 = .slice s.ta s.TO.length s.tc ∧ Hid (Sy w w' (s.L p m r gE gM)) ∧ Hid (s.Inv key (i + 1)))
        case first =>
          as_aux_lemma =>
            obtain ⟨x0, hx0⟩ : ∃ b, ((sw : Int) == 0) = b := ⟨_, rfl⟩
            obtain ⟨x1, hx1⟩ : ∃ b, ((sw : Int) == 1) = b := ⟨_, rfl⟩
            go_upto_if 160 with fail
            go_cut [160] (fun v w' => v = .bool (x0 || x1) ∧ wr = w')
            case first =>
              cases x0
              · cases x1
                · go_wp2_with fail
                  go_meet
                  exact ⟨rfl, rfl⟩
                · go_wp2_with fail
                  go_meet
                  exact ⟨rfl, rfl⟩
              · go_wp2_with fail
                go_meet
                exact ⟨rfl, rfl⟩
            case rest =>
              obtain ⟨rfl, rfl⟩ := hcut
              cases hb : (x0 || x1)
              · have hsw3 : 2 ≤ sw := by
                  rw [Bool.or_eq_false_iff] at hb
                  have h1 := hb.1
                  have h2 := hb.2
                  rw [← hx0] at h1
                  rw [← hx1] at h2
                  simp at h1 h2
                  omega
                clear hx0 hx1 hb
                as_aux_lemma =>
                  obtain ⟨x0, hx0⟩ : ∃ b, ((sw : Int) == 2) = b := ⟨_, rfl⟩
                  obtain ⟨x1, hx1⟩ : ∃ b, ((sw : Int) == 3) = b := ⟨_, rfl⟩
                  go_upto_if 181 with fail
                  go_cut [181] (fun v w' => v = .bool (x0 || x1) ∧ wr = w')
                  case first =>
                    cases x0
                    · cases x1
                      · go_wp2_with fail
                        go_meet
                        exact ⟨rfl, rfl⟩
                      · go_wp2_with fail
                        go_meet
                        exact ⟨rfl, rfl⟩
                    · go_wp2_with fail
                      go_meet
                      exact ⟨rfl, rfl⟩
                  case rest =>
                    obtain ⟨rfl, rfl⟩ := hcut
                    cases hb : (x0 || x1)
                    · have hsw3 : 4 ≤ sw := by
                        rw [Bool.or_eq_false_iff] at hb
                        have h1 := hb.1
                        have h2 := hb.2
                        rw [← hx0] at h1
                        rw [← hx1] at h2
                        simp at h1 h2
                        omega
                      clear hx0 hx1 hb
                      as_aux_lemma =>
                        by_cases hz : np = 0
                        · have dz : ((np : Int) == 0) = true := by simp; omega
                          go_wp2_with fail
                          go_roundg (60 - (i + 1))
                          case measure => have := HG.out; omega
                          case rel => exact ⟨i + 1, (⟨g, e, gs, gh, S, aK, cK, hK, P, ta, tc, TO⟩ : RunSt), by omega, rfl, by rw [← hnp.out], by rw [← hnt.out], by go_num, SY, hide INV.out.mono⟩
                        · have dz : ((np : Int) == 0) = false := by simp; omega
                          obtain ⟨mn, hmn⟩ : ∃ mn, min np 20 = mn := ⟨_, rfl⟩
                          have hmn0 : 0 < mn := by omega
                          have hmi : min (np : Int) 20 = (mn : Int) := by omega
                          obtain ⟨jr, hj1, hj2, hj3, hj4, hj5, hj6⟩ := half_mod nn mn hmn0
                          obtain ⟨hf, hhf⟩ : ∃ hf, nn / 2 = hf := ⟨_, rfl⟩
                          rw [hhf] at hj2 hj3 hj4 hj5 hj6
                          have hwf : IntKind.i64.wrap (hf : Int) = (hf : Int) := IntWalk.i64_in _ (by omega)
                          obtain ⟨jp, hjp⟩ : ∃ jp, np - 1 - jr = jp := ⟨_, rfl⟩
                          have hjp2 : jp < np := by omega
                          have hs1 : IntKind.i64.wrap ((np : Int) - 1) = ((np - 1 : Nat) : Int) := by rw [show (np : Int) - 1 = ((np - 1 : Nat) : Int) by omega]; exact IntWalk.i64_in _ (by omega)
                          have hs2 : IntKind.i64.wrap (((np - 1 : Nat) : Int) - (jr : Int)) = (jp : Int) := by rw [show ((np - 1 : Nat) : Int) - (jr : Int) = (jp : Int) by omega]; exact IntWalk.i64_in _ (by omega)
                          obtain ⟨np1, hnp1⟩ : ∃ z, np - 1 = z := ⟨_, rfl⟩
                          rw [hnp1] at hs1 hs2
                          clear hj2 hhf hmn
                          obtain ⟨b0, hr⟩ : ∃ r, P[jp]? = some r := ⟨_, List.getElem?_eq_getElem (by rw [hnp.out]; exact hjp2)⟩
                          obtain ⟨t, ht⟩ : ∃ t, TO[jp]? = some t := ⟨_, List.getElem?_eq_getElem (by rw [hnt.out]; exact hjp2)⟩
                          obtain ⟨u, hu2, rfl⟩ := INV.out.dst jp t ht
                          obtain ⟨hbl1, hbl2⟩ := INV.out.pl jp b0 hr
                          have TK : Own wr 0 33 1 aK P.length cK (hK.map hv) ∧ Rows wr hK P := SY.out.get (i := 6) rfl
                          have TKK : Tops wr [] aK P.length cK hK P := ⟨TK.1, TK.2, fun q hq hS => by cases hS⟩
                          obtain ⟨gP, x1, y1, z1, haP, qP, sP, kP, -⟩ := TKK.get hr
                          have hy1 := sP.n_eq
                          have TI : Own wr 0 3 1 ta TO.length tc (TO.map I64) := SY.out.get (i := 7) rfl
                          obtain ⟨gI, hgI⟩ := own_zero TI (by rw [hnt.out]; omega)
                          have HT := hide ht
                          have sPh := hide sP
                          have hjpi : (jp : Int) < (np : Int) := by omega
                          have hFew := ref_Few b0 y1 x1 y1 z1
                          have y1r : 12 ≤ y1 ∧ y1 ≤ 200 := by omega
                          obtain ⟨y1a, y1b⟩ := y1r
                          have hL12 : b0.length = y1 := hy1.symm
                          have HL12 := hide hL12
                          clear TK TKK sP kP TI hr ht hy1 hL12 hbl1 hbl2
                          rw [haP, hgI]
                          go_upto_region 15 with fail
                          clear hj3 hj4 hj5 hj6 hwf hs1 hs2 dz hmi hjp hnp1 hj1 hmn0
                          refine wp_region_free 9 [⟨0, 80, [80], fun vs _ => vs = [.slice (some ⟨gP, 0, none⟩) np cK]⟩, ⟨1, 81, [81], fun vs _ => vs = [.int .i64 (jp : Int)]⟩, ⟨2, 82, [82], fun vs _ => vs = [.pointer (some ⟨gP, jp, none⟩)]⟩, ⟨3, 83, [83], fun vs _ => vs = [.slice x1 y1 z1]⟩, ⟨4, 84, [84], fun vs _ => vs = [.slice (some ⟨gP, 0, none⟩) np cK]⟩, ⟨5, 85, [85], fun vs _ => vs = [.int .i64 (jp : Int)]⟩, ⟨6, 86, [86], fun vs _ => vs = [.pointer (some ⟨gP, jp, none⟩)]⟩, ⟨7, 87, [87], fun vs _ => vs = [.slice x1 y1 z1]⟩, ⟨8, 88, [88], fun vs _ => vs = [.int .i64 (y1 : Int)]⟩] (by kernel_rfl) (by kernel_rfl) ?_ ?_ ?_
                          · simp only [All]
                            refine ⟨fun _ _ _ _ h => h, fun _ _ _ _ h => h, fun _ _ _ _ h => h, fun _ _ _ _ h => h, fun _ _ _ _ h => h, fun _ _ _ _ h => h, fun _ _ _ _ h => h, fun _ _ _ _ h => h, fun _ _ _ _ h => h, trivial⟩
                          · simp only [All]
                            refine ⟨?_, ?_, ?_, ?_, ?_, ?_, ?_, ?_, ?_, trivial⟩
                            · intro o ho a' w' hb hfr hdep
                              obtain rfl := Option.some.inj ho
                              have g9 : a'.tmps[9]?.getD undef = .slice (some ⟨gP, 0, none⟩) np cK := by have h := hfr 9 (by kernel_rfl); simpa using h
                              clear ho hfr hdep
                              go_wp2_with fail
                              exact ⟨rfl, _, rfl, Below.refl _ _, rfl⟩
                            · intro o ho a' w' hb hfr hdep
                              obtain rfl := Option.some.inj ho
                              have g18 : a'.tmps[18]?.getD undef = .int .i64 (jp : Int) := by have h := hfr 18 (by kernel_rfl); simpa using h
                              clear ho hfr hdep
                              go_wp2_with fail
                              exact ⟨rfl, _, rfl, Below.refl _ _, rfl⟩
                            · intro o ho a' w' hb hfr hdep
                              obtain rfl := Option.some.inj ho
                              have g80 : a'.tmps[80]?.getD undef = .slice (some ⟨gP, 0, none⟩) np cK := by have h := hdep 0 _ rfl (by kernel_rfl); simpa using h
                              have g81 : a'.tmps[81]?.getD undef = .int .i64 (jp : Int) := by have h := hdep 1 _ rfl (by kernel_rfl); simpa using h
                              clear ho hfr hdep
                              go_wp2_with fail
                              exact ⟨rfl, _, rfl, Below.refl _ _, rfl⟩
                            · intro o ho a' w' hb hfr hdep
                              obtain rfl := Option.some.inj ho
                              have g82 : a'.tmps[82]?.getD undef = .pointer (some ⟨gP, jp, none⟩) := by have h := hdep 2 _ rfl (by kernel_rfl); simpa using h
                              clear ho hfr hdep
                              have hcl := cell_blw qP hb
                              go_wp2_with fail
                              exact ⟨rfl, _, rfl, Below.refl _ _, rfl⟩
                            · intro o ho a' w' hb hfr hdep
                              obtain rfl := Option.some.inj ho
                              have g9 : a'.tmps[9]?.getD undef = .slice (some ⟨gP, 0, none⟩) np cK := by have h := hfr 9 (by kernel_rfl); simpa using h
                              clear ho hfr hdep
                              go_wp2_with fail
                              exact ⟨rfl, _, rfl, Below.refl _ _, rfl⟩
                            · intro o ho a' w' hb hfr hdep
                              obtain rfl := Option.some.inj ho
                              have g18 : a'.tmps[18]?.getD undef = .int .i64 (jp : Int) := by have h := hfr 18 (by kernel_rfl); simpa using h
                              clear ho hfr hdep
                              go_wp2_with fail
                              exact ⟨rfl, _, rfl, Below.refl _ _, rfl⟩
                            · intro o ho a' w' hb hfr hdep
                              obtain rfl := Option.some.inj ho
                              have g84 : a'.tmps[84]?.getD undef = .slice (some ⟨gP, 0, none⟩) np cK := by have h := hdep 4 _ rfl (by kernel_rfl); simpa using h
                              have g85 : a'.tmps[85]?.getD undef = .int .i64 (jp : Int) := by have h := hdep 5 _ rfl (by kernel_rfl); simpa using h
                              clear ho hfr hdep
                              go_wp2_with fail
                              exact ⟨rfl, _, rfl, Below.refl _ _, rfl⟩
                            · intro o ho a' w' hb hfr hdep
                              obtain rfl := Option.some.inj ho
                              have g86 : a'.tmps[86]?.getD undef = .pointer (some ⟨gP, jp, none⟩) := by have h := hdep 6 _ rfl (by kernel_rfl); simpa using h
                              clear ho hfr hdep
                              have hcl := cell_blw qP hb
                              go_wp2_with fail
                              exact ⟨rfl, _, rfl, Below.refl _ _, rfl⟩
                            · intro o ho a' w' hb hfr hdep
                              obtain rfl := Option.some.inj ho
                              have g87 : a'.tmps[87]?.getD undef = .slice x1 y1 z1 := by have h := hdep 7 _ rfl (by kernel_rfl); simpa using h
                              clear ho hfr hdep
                              go_wp2_with fail
                              exact ⟨rfl, _, rfl, Below.refl _ _, rfl⟩
                          · intro g0 w5 hb hp'
                            have p83 := hp' 3 _ rfl
                            have p88 := hp' 8 _ rfl
                            clear hp'
                            simp at p83 p88
                            simp only [List.drop_succ_cons, List.drop_zero, List.map_cons, List.map_nil, putAll, Act.put, List.setIfInBounds_toArray, List.set_cons_succ, List.set_cons_zero, List.cons_append, List.nil_append, p83, p88]
                            clear p83 p88 qP
                            have SY5 := hide (SY.out.below hb)
                            have sP5 := hide (sPh.out.below hb)
                            have b5 := hide hb
                            have hF5 := hFew w5 sP5.out (by omega)
                            rw [List.take_of_length_le (by rw [HL12.out]; exact Nat.le_refl _)] at hF5
                            clear SY sPh hFew hb
                            go_upto_region 16 with (go_at_call 16; refine hF5.mono ?_; rintro e6 w6 ⟨a6, c6, rfl, o6, b6⟩; have O6 := hide o6; have B6 := hide b6; clear o6 b6)
                            clear hF5
                            rw [HL12.out] at O6
                            rw [HL12.out]
                            obtain ⟨gB, hgB⟩ := own_zero O6.out (by omega)
                            obtain ⟨m13, hm13⟩ : ∃ z, nn % 13 = z := ⟨_, rfl⟩
                            have h13 := rem_nat nn 13 (by decide)
                            rw [hm13] at h13
                            obtain ⟨x13, hx13⟩ : ∃ b, ((m13 : Int) == 0) = b := ⟨_, rfl⟩
                            obtain ⟨h13a, h13b⟩ := h13
                            simp only [Int.cast_ofNat_Int] at h13a h13b
                            have SY6 := hide (SY5.out.below B6.out)
                            have hgBl := hide (own_lt O6.out gB (by rw [hgB]; simp))
                            rw [hgB] at O6 ⊢
                            go_upto_if 92 with fail
                            go_cut [19] (fun v19 w' => Hid (Dlv w5 v19 w'))
                            case first =>
                              cases x13
                              · go_wp2_with fail
                                go_meet
                                exact hide ⟨_, _, _, b0, rfl, O6.out.sl, own_kindB O6.out, y1a, by omega, B6.out⟩
                              · obtain ⟨q13, hq13⟩ : ∃ z, nn / 13 = z := ⟨_, rfl⟩
                                have hq := quo_nat nn 13 (by decide)
                                rw [hq13] at hq
                                obtain ⟨hqa, hqb⟩ := hq
                                simp only [Int.cast_ofNat_Int] at hqa hqb
                                have hwq : IntKind.i64.wrap (q13 : Int) = (q13 : Int) := IntWalk.i64_in _ (by omega)
                                obtain ⟨iw, hiw⟩ : ∃ z, q13 % y1 = z := ⟨_, rfl⟩
                                have hr2 := rem_nat q13 y1 (by omega)
                                rw [hiw] at hr2
                                obtain ⟨hra, hrb⟩ := hr2
                                have hiwl : iw < y1 := by rw [← hiw]; exact Nat.mod_lt _ (by omega)
                                obtain ⟨bn, hbn⟩ : ∃ bn : UInt8, IntKind.u8.wrap (nn : Int) = (bn.toNat : Int) := ⟨_, byte_any nn⟩
                                obtain ⟨u0, hu0⟩ : ∃ u0, b0[iw]? = some u0 := ⟨_, List.getElem?_eq_getElem (by rw [HL12.out]; exact hiwl)⟩
                                have fX := own_free O6.out iw
                                have cX := own_cell O6.out (box_at hu0)
                                have hiwi : (iw : Int) < (y1 : Int) := by omega
                                clear hu0
                                go_upto_region 17 with fail
                                go_wp2_with fail
                                have o7 := own_set O6.out iw (B8 bn)
                                rw [← List.map_set] at o7
                                go_meet
                                exact hide ⟨_, _, _, b0.set iw bn, rfl, o7.sl, own_kindB o7, y1a, by omega, B6.out.grown grown_set B6.out.size (fun x hx => by cases hx; exact hgBl.out.1)⟩
                            case rest =>
                              obtain ⟨a7, n7, c7, bb7, hv7, s7, kd7, l7, l7b, b7⟩ := hcut.out
                              subst hv7
                              have S7 := hide s7
                              have K7 := hide kd7
                              have B7 := hide b7
                              clear hcut s7 kd7 b7 O6 B6 SY6 hgBl h13a h13b hx13
                              as_aux_lemma =>
                                obtain ⟨m17, hm17⟩ : ∃ z, nn % 17 = z := ⟨_, rfl⟩
                                have h17 := rem_nat nn 17 (by decide)
                                rw [hm17] at h17
                                obtain ⟨x17, hx17⟩ : ∃ b, ((m17 : Int) == 0) = b := ⟨_, rfl⟩
                                obtain ⟨h17a, h17b⟩ := h17
                                simp only [Int.cast_ofNat_Int] at h17a h17b
                                go_upto_if 104 with fail
                                go_cut [19] (fun v19 w' => Hid (Dlv w5 v19 w'))
                                case first =>
                                  cases x17
                                  · go_wp2_with fail
                                    go_meet
                                    exact hide ⟨_, _, _, bb7, rfl, S7.out, K7.out, l7, l7b, B7.out⟩
                                  · obtain ⟨q17, hq17⟩ : ∃ z, nn / 17 = z := ⟨_, rfl⟩
                                    have hq := quo_nat nn 17 (by decide)
                                    rw [hq17] at hq
                                    obtain ⟨hqa, hqb⟩ := hq
                                    simp only [Int.cast_ofNat_Int] at hqa hqb
                                    have hwq : IntKind.i64.wrap (q17 : Int) = (q17 : Int) := IntWalk.i64_in _ (by omega)
                                    obtain ⟨s17, hs17⟩ : ∃ z, q17 % 30 = z := ⟨_, rfl⟩
                                    have hr2 := rem_nat q17 30 (by decide)
                                    rw [hs17] at hr2
                                    obtain ⟨hra, hrb⟩ := hr2
                                    simp only [Int.cast_ofNat_Int] at hra hrb
                                    have hs17l : s17 < 30 := by rw [← hs17]; exact Nat.mod_lt _ (by decide)
                                    obtain ⟨q510, hq510⟩ : ∃ z, nn / 510 = z := ⟨_, rfl⟩
                                    have hq5 := quo_nat nn 510 (by decide)
                                    rw [hq510] at hq5
                                    obtain ⟨hq5a, hq5b⟩ := hq5
                                    simp only [Int.cast_ofNat_Int] at hq5a hq5b
                                    have hwq5 : IntKind.i64.wrap (q510 : Int) = (q510 : Int) := IntWalk.i64_in _ (by omega)
                                    obtain ⟨s9, hs9⟩ : ∃ z, q510 % 9 = z := ⟨_, rfl⟩
                                    have hr9 := rem_nat q510 9 (by decide)
                                    rw [hs9] at hr9
                                    obtain ⟨hr9a, hr9b⟩ := hr9
                                    simp only [Int.cast_ofNat_Int] at hr9a hr9b
                                    have hs9l : s9 < 9 := by rw [← hs9]; exact Nat.mod_lt _ (by decide)
                                    obtain ⟨ak, hak⟩ : ∃ z : Int, (s9 : Int) - 1 = z := ⟨_, rfl⟩
                                    have hwak : IntKind.i64.wrap ((s9 : Int) - 1) = ak := by rw [hak]; exact IntWalk.i64_in _ (by omega)
                                    have hakb : -1 ≤ ak ∧ ak ≤ 8 := by omega
                                    obtain ⟨m3, hm3⟩ : ∃ z, nn % 3 = z := ⟨_, rfl⟩
                                    have h3 := rem_nat nn 3 (by decide)
                                    rw [hm3] at h3
                                    obtain ⟨h3a, h3b⟩ := h3
                                    simp only [Int.cast_ofNat_Int] at h3a h3b
                                    have hm3l : m3 < 3 := by rw [← hm3]; exact Nat.mod_lt _ (by decide)
                                    have hm3n : m3 ≤ n7 := by omega
                                    obtain ⟨PB, hPB⟩ : ∃ P, Hid (pkB ⟨(s17 : Int), ak, bb7.take m3⟩ = P) := ⟨_, hide rfl⟩
                                    have htl : (bb7.take m3).length ≤ 3 := by rw [List.length_take]; omega
                                    have hPBl : PB.length ≤ 100 ∧ 4 ≤ PB.length := by
                                      rw [← hPB.out]
                                      exact ⟨Nat.le_trans (pkB_short _ _ _ (by omega)) (by decide), pkB_ge _⟩
                                    obtain ⟨ZZ, hZZ⟩ : ∃ Z, Hid (sealL key PB = Z) := ⟨_, hide rfl⟩
                                    have hZl : ZZ.length = PB.length + 8 := by rw [← hZZ.out, sealL_len]
                                    have HZL := hide hZl
                                    have hZ2 : 12 ≤ ZZ.length ∧ ZZ.length ≤ 200 := by omega
                                    have HBY : Hid (∀ a n c w, Sl w 1 a n c ((bb7.take m3).map B8) → Calls Try.prog 18 #[.agg #[.int .i64 (s17 : Int), .int .i64 ak, .slice a n c]] w (Gives 5 1 PB.length (PB.map B8) w)) := hide (fun a n c w h => ref_PBytes ⟨(s17 : Int), ak, bb7.take m3⟩ ⟨by show _ ≤ (s17 : Int); omega, by show (s17 : Int) ≤ _; omega⟩ ⟨by show _ ≤ ak; omega, by show ak ≤ _; omega⟩ (by show (bb7.take m3).length ≤ 900; omega) a n c w h hPB.out)
                                    obtain ⟨hZ2a, hZ2b⟩ := hZ2
                                    obtain ⟨hPB1, hPB2⟩ := hPBl
                                    clear hZl hak hq17 hs17 hq510 hs9 hm3 hm17
                                    go_wp2_with (first
                                      | (with_reducible refine cuthi_b 116 _ _ _ _ _ bb7 rfl S7.out _ _ m3 rfl rfl hm3n ?_; intro s8; have S8 := hide s8; clear s8)
                                      | (go_at_call 18; refine (HBY.out _ _ _ _ S8.out).mono ?_; rintro e9 w9 ⟨a9, c9, rfl, o9, b9⟩; have S9 := hide o9.sl; have B9 := hide (B7.out.trans (b9.mono B7.out.size)); clear o9 b9)
                                      | (go_at_call 17; refine (ref_Seal key PB _ _ _ _ S9.out (Nat.le_trans hPB1 (by decide)) hZZ.out).mono ?_; rintro e10 w10 ⟨a10, c10, rfl, o10, b10⟩; have S10 := hide o10.sl; have K10 := hide (own_kindB o10); have B10 := hide (B9.out.trans (b10.mono B9.out.size)); clear o10 b10))
                                    go_meet
                                    exact hide ⟨_, _, _, ZZ, rfl, S10.out, K10.out, hZ2a, by omega, B10.out⟩
                                case rest =>
                                  obtain ⟨a8, n8, c8, bb8, hv8, s8, kd8, l8, l8b, b8⟩ := hcut.out
                                  subst hv8
                                  have S8 := hide s8
                                  have K8 := hide kd8
                                  have B8 := hide b8
                                  clear hcut s8 kd8 b8 S7 K7 B7 h17a h17b hx17
                                  as_aux_lemma =>
                                    obtain ⟨m19, hm19⟩ : ∃ z, nn % 19 = z := ⟨_, rfl⟩
                                    have h19 := rem_nat nn 19 (by decide)
                                    rw [hm19] at h19
                                    obtain ⟨x19, hx19⟩ : ∃ b, ((m19 : Int) == 0) = b := ⟨_, rfl⟩
                                    obtain ⟨h19a, h19b⟩ := h19
                                    simp only [Int.cast_ofNat_Int] at h19a h19b
                                    go_upto_if 122 with fail
                                    go_cut [19] (fun v19 w' => Hid (Dlv2 w5 v19 w'))
                                    case first =>
                                      cases x19
                                      · go_wp2_with fail
                                        go_meet
                                        exact hide ⟨_, _, _, bb8, rfl, S8.out, K8.out, l8b, B8.out⟩
                                      · obtain ⟨m12, hm12⟩ : ∃ z, nn % 12 = z := ⟨_, rfl⟩
                                        have h12 := rem_nat nn 12 (by decide)
                                        rw [hm12] at h12
                                        obtain ⟨h12a, h12b⟩ := h12
                                        simp only [Int.cast_ofNat_Int] at h12a h12b
                                        have hm12l : m12 < 12 := by rw [← hm12]; exact Nat.mod_lt _ (by decide)
                                        have hm12n : m12 ≤ n8 := by omega
                                        clear hm12 hm19
                                        go_wp2_with (with_reducible refine cuthi_b 126 _ _ _ _ _ bb8 rfl S8.out _ _ m12 rfl rfl hm12n ?_; intro s9; have S9 := hide s9; clear s9)
                                        go_meet
                                        exact hide ⟨_, _, _, bb8.take m12, rfl, S9.out, K8.out, by omega, B8.out⟩
                                    case rest =>
                                      obtain ⟨a9, n9, c9, bb, hv9, s9, kd9, l9, b9⟩ := hcut.out
                                      subst hv9
                                      have S9 := hide s9
                                      have K9 := hide kd9
                                      have B9 := hide b9
                                      have SW := hide (SY5.out.below b9)
                                      clear hcut s9 kd9 b9 S8 K8 B8 h19a h19b hx19 SY5
                                      as_aux_lemma =>
                                        clear hm13 hm17 hm19
                                        have hbb : bb.length ≤ 200 := by have hnb9 := S9.out.n_eq; omega
                                        have TI : Own wc 0 3 1 ta TO.length tc (TO.map I64) := SW.out.get (i := 7) rfl
                                        rw [hgI] at TI
                                        have qI := own_cell TI (box_at HT.out)
                                        have qE : wc.cell? ⟨gE, u, none⟩ = some (.pointer (some ⟨p u, 0, none⟩)) := (show Box wc gE _ _ from SW.out.get (i := 2) rfl).at_ (ord_ptr hu2)
                                        have hui : (u : Int) < 2 := by omega
                                        have haw := RAt.aw (show RAt wc (r u) (gs u) (gh u) (e u) (S u) from SW.out.get (rl_ref hu2))
                                        have hsl := INV.out.sl u hu2
                                        have hdh := INV.out.dh u hu2
                                        have hfg := INV.out.fg u hu2
                                        have hwln : (e u).wait.length ≤ 60 := by rw [haw.2, List.length_drop]; omega
                                        have hin := hide (INV.out.in_ hu2 bb)
                                        obtain ⟨⟨E1, XX, er⟩, hz2⟩ : ∃ z, Hid (inE (e u) bb = z) := ⟨_, hide rfl⟩
                                        have hI := lk_In (p u) (g u) (m u) (e u) bb a9 n9 c9 wc (SW.out.get (rl_fin hu2)) S9.out (by omega) (by omega) (by omega) (by omega) (by omega) (by omega)
                                        unfold GivesIn at hI
                                        rw [hz2.out] at hI hin
                                        simp only at hI hin
                                        have hXXl : XX.length ≤ 61 := by have h1 := inE_count (e u) bb; rw [hz2.out] at h1; simp only at h1; omega
                                        clear TI haw
                                        go_upto_region 23 with (go_at_call 19; refine hI.mono ?_; rintro e11 w11 ⟨aY, cY, hoY, rfl, oY, rY, A11, F11⟩; have S11 : Hid (Sy w w11 (RL p m r gE gM g (upd e u E1) gs gh e S ([obTop aK P.length cK hK P, obInts ta TO.length tc TO] ++ [obTop aY XX.length cY hoY XX]))) := hide (rl_out hu2 SW.out A11 F11 (fun b hb => hb) oY rY); have SS9 := hide (sl_fr_row S9.out K9.out (EndAt.nob (SW.out.get (rl_fin hu2))) F11); clear oY rY A11 F11)
                                        clear hI qE qI
                                        have TI : Own w11 0 3 1 ta TO.length tc (TO.map I64) := S11.out.get (i := 7) rfl
                                        rw [hgI] at TI
                                        have qI := own_cell TI (box_at HT.out)
                                        have qM : w11.cell? ⟨gM, u, none⟩ = some (.pointer (some ⟨r u, 0, none⟩)) := (show Box w11 gM _ _ from S11.out.get (i := 5) rfl).at_ (ord_ptr (p := r) hu2)
                                        have hI2 := r_In (r u) (gs u) (gh u) (e u) (S u) bb a9 n9 c9 w11 (S11.out.get (rl_ref hu2)) SS9.out.1 (by omega) (by omega) (by omega) (by omega) (by omega) (INV.out.q u hu2)
                                        unfold GivesRI at hI2
                                        rw [hz2.out] at hI2
                                        simp only at hI2
                                        clear TI
                                        go_upto_region 24 with (go_at_call 20; refine hI2.mono ?_; rintro e12 w12 ⟨aZ, cZ, hoZ, gh2, rfl, oZ, rZ, A12, F12, n12⟩; have S12 : Hid (Sy w w12 (RL p m r gE gM g (upd e u E1) gs (upd gh u gh2) (upd e u E1) S ([obTop aK P.length cK hK P, obInts ta TO.length tc TO] ++ [obTop aY XX.length cY hoY XX] ++ [obTop aZ XX.length cZ hoZ XX]))) := hide (rl_rout hu2 S11.out A12 F12 (fun b hb => hb) n12 oZ rZ); clear oZ rZ A12 F12 n12)
                                        clear hI2 qM qI S11 SS9
                                        have TX : Own w12 0 33 1 aY XX.length cY (hoY.map hv) ∧ Rows w12 hoY XX := S12.out.get (i := 8) rfl
                                        have TZ : Own w12 0 33 1 aZ XX.length cZ (hoZ.map hv) ∧ Rows w12 hoZ XX := S12.out.get (i := 9) rfl
                                        have hSL := r_SameLists XX aY aZ cY cZ hoY hoZ w12 TX.1 TX.2 TZ.1 TZ.2 (by omega)
                                        clear TX TZ
                                        have dee : (er != er) = false := by simp
                                        go_wp2_with (go_at_call 15; refine hSL.mono ?_; rintro e13 w13 ⟨rfl, nq13, rfl⟩; have S13 := hide (S12.out.below (Still.below nq13)))
                                        go_meet
                                        rw [← haP, ← hgI]
                                        exact ⟨⟨g, upd e u E1, gs, upd gh u gh2, S, aK, cK, hK, P, ta, tc, TO⟩, by rw [hnp.out], by rw [hnt.out], hide (S13.out.drop 8), hin⟩
                    · have hsw1 : sw < 4 := by
                        rw [Bool.or_eq_true_iff] at hb
                        rcases hb with h1 | h1
                        · rw [← hx0] at h1
                          simp at h1
                          omega
                        · rw [← hx1] at h1
                          simp at h1
                          omega
                      clear hx0 hx1 hb
                      as_aux_lemma =>
                        have haw := RAt.aw (show RAt wr (r k) (gs k) (gh k) (e k) (S k) from SY.out.get (rl_ref hk2))
                        have hslk := INV.out.sl k hk2
                        have hwln : (e k).wait.length ≤ 60 := by rw [haw.2, List.length_drop]; omega
                        have hwrw : ∀ x ∈ (e k).wait, x.length ≤ 60 := fun x hx => by rw [haw.2] at hx; exact INV.out.row k hk2 x (List.mem_of_mem_drop hx)
                        have hdh := INV.out.dh k hk2
                        have hO := lk_Out (p k) (g k) (m k) (e k) wr (SY.out.get (rl_fin hk2)) (by omega) (fun x hx => by have := hwrw x hx; omega) (by omega) (by omega) (INV.out.win k hk2)
                        have qE : wr.cell? ⟨gE, k, none⟩ = some (.pointer (some ⟨p k, 0, none⟩)) := (show Box wr gE _ _ from SY.out.get (i := 2) rfl).at_ (ord_ptr hk2)
                        have hXl : (outE (e k)).length ≤ 17 := by have h1 := outE_len (e k); have h2 := INV.out.win k hk2; omega
                        have hSrow : Hid (∀ x ∈ S k, x.length ≤ 900) := hide (fun x hx => by have := INV.out.row k hk2 x hx; omega)
                        have hOI := hide (INV.out.out hk2 hwrw)
                        obtain ⟨X, hX⟩ : ∃ X, Hid (outE (e k) = X) := ⟨_, hide rfl⟩
                        rw [hX.out] at hO hXl hOI
                        have hki : (k : Int) < 2 := by omega
                        clear haw hwrw hwln
                        go_upto_region 34 with (go_at_call 13; refine hO.mono ?_; rintro e2 w2 ⟨aX, cX, hsX, rfl, oX, rX, A2, F2⟩; have S4 : Hid (Sy w w2 (RL p m r gE gM g (upd e k (outS (e k))) gs gh e S ([obTop aK P.length cK hK P, obInts ta TO.length tc TO] ++ [obTop aX X.length cX hsX X]))) := hide (rl_out hk2 SY.out A2 F2 (foot_p _ _ _) oX rX.rows); clear oX rX A2 F2)
                        clear hO qE
                        have qM : w2.cell? ⟨gM, k, none⟩ = some (.pointer (some ⟨r k, 0, none⟩)) := (show Box w2 gM _ _ from S4.out.get (i := 5) rfl).at_ (ord_ptr (p := r) hk2)
                        have hO2 := r_Out (r k) (gs k) (gh k) (e k) (S k) w2 (S4.out.get (rl_ref hk2)) (by omega) hSrow.out (by omega) (INV.out.win k hk2)
                        rw [hX.out] at hO2
                        go_upto_region 35 with (go_at_call 14; refine hO2.mono ?_; rintro e3 w3 ⟨aZ, cZ, hsZ, rfl, oZ, rZ, A3, F3⟩; have S5 : Hid (Sy w w3 (RL p m r gE gM g (upd e k (outS (e k))) gs gh (upd e k (outS (e k))) S ([obTop aK P.length cK hK P, obInts ta TO.length tc TO] ++ [obTop aX X.length cX hsX X] ++ [obTop aZ X.length cZ hsZ X]))) := hide (by have h := rl_rout hk2 S4.out A3 F3 (fun b hb => by simp at hb; subst hb; simp [rfoot]) (fun b hb => .inl hb) oZ rZ.rows; rw [upd_same] at h; exact h); clear oZ rZ A3 F3)
                        clear hO2 qM S4
                        have TX : Own w3 0 33 1 aX X.length cX (hsX.map hv) ∧ Rows w3 hsX X := S5.out.get (i := 8) rfl
                        have TZ : Own w3 0 33 1 aZ X.length cZ (hsZ.map hv) ∧ Rows w3 hsZ X := S5.out.get (i := 9) rfl
                        have hSL := r_SameLists X aX aZ cX cZ hsX hsZ w3 TX.1 TX.2 TZ.1 TZ.2 (by omega)
                        clear TX TZ
                        go_upto_region 37 with (go_at_call 15; refine hSL.mono ?_; rintro e4 w4 ⟨rfl, nq4, rfl⟩; have S6 := hide (S5.out.below (Still.below nq4)))
                        clear hSL S5
                        generalize w3.drewN nq4 = w4 at *
                        obtain ⟨e2, he2⟩ : ∃ e2, Hid (upd e k (outS (e k)) = e2) := ⟨_, hide rfl⟩
                        rw [he2.out] at S6 hOI
                        have hk1 : IntKind.i64.wrap ((1 : Int) - (k : Int)) = ((1 - k : Nat) : Int) := by rw [show (1 : Int) - (k : Int) = ((1 - k : Nat) : Int) by omega]; exact IntWalk.i64_in _ (by omega)
                        obtain ⟨k', hk'⟩ : ∃ k', Hid (1 - k = k') := ⟨_, hide rfl⟩
                        rw [hk'.out] at hk1 hOI
                        clear he2 hX hSrow
                        go_wp2_with fail
                        go_loopg [9, 10, 17] X.length (fun gq v9 v10 v17 w' => ∃ (j : Nat) (aK2 : Option Addr) (cK2 : Nat) (hK2 : List Hd) (ta2 : Option Addr) (tc2 : Nat), j ≤ X.length ∧ gq = X.length - j ∧ v9 = .slice aK2 (np + j) cK2 ∧ v10 = .slice ta2 (np + j) tc2 ∧ v17 = .int .i64 (j : Int) ∧ Hid (Sy w w' (RL p m r gE gM g e2 gs gh e2 S [obTop aK2 (P ++ X.take j).length cK2 hK2 (P ++ X.take j), obInts ta2 (TO ++ List.replicate j (k' : Int)).length tc2 (TO ++ List.replicate j (k' : Int)), obTop aX X.length cX hsX X, obTop aZ X.length cZ hsZ X])))
                        case atStart =>
                          refine ⟨0, aK, cK, hK, ta, tc, by omega, by omega, rfl, rfl, rfl, ?_⟩
                          rw [List.take_zero, List.append_nil, List.replicate_zero, List.append_nil]
                          exact S6
                        case round =>
                          clear S6
                          obtain ⟨j, aK2, cK2, hK2, ta2, tc2, hj, hgj, rfl, rfl, rfl, SJ⟩ := hrel
                          have HGJ := hide hgj
                          clear hgj
                          have hPj : Hid ((P ++ X.take j).length = np + j) := hide (by rw [List.length_append, List.length_take, hnp.out]; omega)
                          have hTj : Hid ((TO ++ List.replicate j (k' : Int)).length = np + j) := hide (by rw [List.length_append, List.length_replicate, hnt.out])
                          by_cases hjX : j < X.length
                          · have d2 : decide ((j : Int) < (X.length : Int)) = true := decide_eq_true (by omega)
                            obtain ⟨rw0, hr⟩ : ∃ r, X[j]? = some r := ⟨_, List.getElem?_eq_getElem hjX⟩
                            have TX : Own wr 0 33 1 aZ X.length cZ (hsZ.map hv) ∧ Rows wr hsZ X := SJ.out.get (i := 9) rfl
                            have TT : Tops wr [] aZ X.length cZ hsZ X := ⟨TX.1, TX.2, fun q hq hS => by cases hS⟩
                            obtain ⟨gX, x1, y1, z1, rfl, qX, sX, kX, -⟩ := TT.get hr
                            have hTk : Hid (P ++ X.take (j + 1) = (P ++ X.take j) ++ [rw0]) := hide (by rw [List.take_add_one, hr]; simp)
                            have hTOk : Hid (TO ++ List.replicate (j + 1) (k' : Int) = (TO ++ List.replicate j (k' : Int)) ++ [(k' : Int)]) := hide (by rw [List.replicate_succ', List.append_assoc])
                            have TK : Own wr 0 33 1 aK2 (P ++ X.take j).length cK2 (hK2.map hv) ∧ Rows wr hK2 (P ++ X.take j) := SJ.out.get (i := 6) rfl
                            rw [hPj.out] at TK
                            obtain ⟨w3, hw3⟩ : ∃ w3, w3 = wr.alloc (.cells #[.slice x1 y1 z1] 33) := ⟨_, rfl⟩
                            have b3 : Below wr.heap.size wr w3 := by rw [hw3]; exact sblo wr _
                            have s3 : Sl w3 1 (some ⟨wr.heap.size, 0, none⟩) 1 1 [hv (x1, y1, z1)] := by rw [hw3]; exact Sl.fresh _ _ 1 1 [.slice x1 y1 z1] rfl (by decide)
                            have S3 := hide (SJ.out.below b3)
                            have R3 : Hid (Rows w3 [(x1, y1, z1)] [rw0]) := hide ((Rows.one (x := (x1, y1, z1)) sX kX).below b3)
                            have T3 := hide (TK.1.below b3)
                            have T3n := TK.1.below b3
                            have T3r := hide (TK.2.below b3)
                            clear TX TT sX kX TK hr
                            rw [hw3] at s3 T3
                            go_wp2_with (at_builtin; refine app_e rfl _ _ rfl _ 0 aK2 (np + j) cK2 hK2 rfl T3.out (x1, y1, z1) (some ⟨wr.heap.size, 0, none⟩) 1 rfl s3 (by omega) (Nat.zero_le _) (Below.refl _ _) ?_; intro a8 c8 w8 ho8 hg8 hf8 b8; refine shold ?_)
                            refine hide ?_
                            rw [← hw3] at hg8 hf8
                            have F8 := Fr.ofGrown hg8
                            have hlen : (P ++ X.take (j + 1)).length = np + j + 1 := by rw [hTk.out, List.length_append, hPj.out]; rfl
                            have S8 : Hid (Sy w w8 (RL p m r gE gM g e2 gs gh e2 S [obTop a8 (P ++ X.take (j + 1)).length c8 (hK2 ++ [(x1, y1, z1)]) (P ++ X.take (j + 1)), obInts ta2 (TO ++ List.replicate j (k' : Int)).length tc2 (TO ++ List.replicate j (k' : Int)), obTop aX X.length cX hsX X, obTop (some ⟨gX, 0, none⟩) X.length cZ hsZ X])) := hide (S3.out.step (i := 6) rfl (obTop_ok a8 (P ++ X.take (j + 1)).length c8 (hK2 ++ [(x1, y1, z1)]) (P ++ X.take (j + 1))) (by rw [hlen, hTk.out]; exact ⟨ho8, (T3r.out.append R3.out).fr F8 (own_nobs T3n (by decide))⟩) F8 (fun b hb => hb) (blk_new hf8))
                            clear ho8 hg8 hf8 b8 F8 s3 T3 T3r T3n b3 S3 R3 SJ qX hlen
                            have TI : Own w8 0 3 1 ta2 (TO ++ List.replicate j (k' : Int)).length tc2 ((TO ++ List.replicate j (k' : Int)).map I64) := S8.out.get (i := 7) rfl
                            rw [hTj.out] at TI
                            have b9 := sblo w8 (.cells #[.int .i64 (k' : Int)] 3)
                            have TI2 := hide TI
                            clear TI
                            go_wp2_with (at_builtin; refine app_if rfl _ _ rfl w8 0 ta2 (np + j) tc2 _ rfl TI2.out (k' : Int) rfl (by omega) (Nat.zero_le _) (Below.refl 0 w8) ?_; intro a10 c10 w10 ho10 hg10 hf10 b10; refine shold ?_)
                            refine hide ?_
                            have hlen : (TO ++ List.replicate (j + 1) (k' : Int)).length = np + j + 1 := by rw [hTOk.out, List.length_append, hTj.out]; rfl
                            have F10 := Fr.ofGrown hg10
                            have S10 : Hid (Sy w w10 (RL p m r gE gM g e2 gs gh e2 S [obTop a8 (P ++ X.take (j + 1)).length c8 (hK2 ++ [(x1, y1, z1)]) (P ++ X.take (j + 1)), obInts a10 (TO ++ List.replicate (j + 1) (k' : Int)).length c10 (TO ++ List.replicate (j + 1) (k' : Int)), obTop aX X.length cX hsX X, obTop (some ⟨gX, 0, none⟩) X.length cZ hsZ X])) := hide (S8.out.step (i := 7) rfl (obInts_ok a10 (TO ++ List.replicate (j + 1) (k' : Int)).length c10 (TO ++ List.replicate (j + 1) (k' : Int))) (by rw [hlen, hTOk.out]; show Own w10 0 _ 1 a10 (np + j + 1) c10 _; rw [List.map_append]; exact ho10) F10 (fun b hb => hb) (blk_new hf10))
                            clear ho10 hg10 hf10 b10 F10 TI2 b9 S8 hlen
                            go_wp2_with fail
                            go_roundg (X.length - (j + 1))
                            case measure => have := HGJ.out; omega
                            case rel => exact ⟨j + 1, a8, c8, hK2 ++ [(x1, y1, z1)], a10, c10, by omega, rfl, rfl, rfl, by go_num, S10⟩
                          · obtain rfl : j = X.length := by omega
                            have d2 : decide ((X.length : Int) < (X.length : Int)) = false := by simp
                            rw [List.take_of_length_le (Nat.le_refl _)] at SJ hPj
                            have S11 : Hid (Sy w wr (RL p m r gE gM g e2 gs gh e2 S [obTop aK2 (P ++ X).length cK2 hK2 (P ++ X), obInts ta2 (TO ++ List.replicate X.length (k' : Int)).length tc2 (TO ++ List.replicate X.length (k' : Int))])) := hide (SJ.out.drop 8)
                            go_wp2_with fail
                            go_meet
                            exact ⟨⟨g, e2, gs, gh, S, aK2, cK2, hK2, P ++ X, ta2, tc2, TO ++ List.replicate X.length (k' : Int)⟩, by rw [← hPj.out], by rw [← hTj.out], S11, hOI⟩
              · have hsw1 : sw < 2 := by
                  rw [Bool.or_eq_true_iff] at hb
                  rcases hb with h1 | h1
                  · rw [← hx0] at h1
                    simp at h1
                    omega
                  · rw [← hx1] at h1
                    simp at h1
                    omega
                clear hx0 hx1 hb
                as_aux_lemma =>
                  obtain ⟨bi, hbi⟩ : ∃ bi : UInt8, IntKind.u8.wrap (i : Int) = (bi.toNat : Int) := ⟨_, byte_any i⟩
                  obtain ⟨bn, hbn⟩ : ∃ bn : UInt8, IntKind.u8.wrap (nn : Int) = (bn.toNat : Int) := ⟨_, byte_any nn⟩
                  have haw := RAt.aw (show RAt wr (r k) (gs k) (gh k) (e k) (S k) from SY.out.get (rl_ref hk2))
                  have hslk := INV.out.sl k hk2
                  have hwln : (e k).wait.length ≤ 60 := by rw [haw.2, List.length_drop]; omega
                  have hwrw : ∀ x ∈ (e k).wait, x.length ≤ 60 := fun x hx => by rw [haw.2] at hx; exact INV.out.row k hk2 x (List.mem_of_mem_drop hx)
                  have hdh := INV.out.dh k hk2
                  obtain ⟨w1, hw1e⟩ : ∃ w1, w1 = wr.alloc (.cells #[.int .u8 (bi.toNat : Int), .int .u8 (bn.toNat : Int)] 5) := ⟨_, rfl⟩
                  have o1 : Own w1 0 5 1 (some ⟨wr.heap.size, 0, none⟩) 2 2 (([bi, bn] : List UInt8).map B8) := by rw [hw1e]; exact Own.built wr 0 5 1 2 #[.int .u8 (bi.toNat : Int), .int .u8 (bn.toNat : Int)] (Nat.zero_le _) rfl (by decide)
                  have S1 := hide (SY.out.below (by rw [hw1e]; exact sblo wr _ : Below wr.heap.size wr w1))
                  have R1 := hide (Rows.one (x := ((some ⟨wr.heap.size, 0, none⟩ : Option Addr), 2, 2)) o1.sl (own_kindB o1))
                  obtain ⟨E1, hE1⟩ : ∃ E1, Hid ({ e k with wait := (e k).wait ++ [[bi, bn]] } = E1) := ⟨_, hide rfl⟩
                  have hse : Hid (sendE (e k) [bi, bn] = (E1, 0)) := hide (by
                    unfold sendE
                    rw [if_pos ⟨by simp, by omega⟩, hE1.out])
                  have bE : Hid (Box w1 gE 35 [.pointer (some ⟨p 0, 0, none⟩), .pointer (some ⟨p 1, 0, none⟩)]) := hide (S1.out.get (i := 2) rfl)
                  have bM : Hid (Box w1 gM 26 [.pointer (some ⟨r 0, 0, none⟩), .pointer (some ⟨r 1, 0, none⟩)]) := hide (S1.out.get (i := 5) rfl)
                  have hki : (k : Int) < 2 := by omega
                  clear o1 haw hwrw
                  go_upto_region 29 with fail
                  rw [← hw1e]
                  clear hw1e hbi hbn
                  generalize wr.heap.size = gb at *
                  obtain ⟨GG, hGG⟩ : ∃ GG, Hid (GSend w gE gM [.pointer (some ⟨p 0, 0, none⟩), .pointer (some ⟨p 1, 0, none⟩)] [.pointer (some ⟨r 0, 0, none⟩), .pointer (some ⟨r 1, 0, none⟩)] (RL p m r gE gM g e gs gh e S [obTop aK P.length cK hK P, obInts ta TO.length tc TO]) (fun g2 => (RL p m r gE gM (upd g k g2) (upd e k E1) gs gh e S [obTop aK P.length cK hK P, obInts ta TO.length tc TO])) (fun g2 gs2 => (RL p m r gE gM (upd g k g2) (upd e k E1) (upd gs k gs2) gh (upd e k E1) (upd S k (S k ++ [[bi, bn]])) [obTop aK P.length cK hK P, obInts ta TO.length tc TO])) (some ⟨gb, 0, none⟩, 2, 2) [bi, bn] = GG) := ⟨_, hide rfl⟩
                  have HGM : Hid (∀ (j : Nat) (vs : List Value) (u u' : World), Below u.heap.size u u' → GG j vs u → GG j vs u') := hide (by rw [← hGG.out]; exact GSend.mono)
                  refine wp_region_chain4 12 (fun _ _ => True) GG [⟨5, 173, [], fun _ _ => True⟩, ⟨11, 179, [], fun _ _ => True⟩] [⟨0, 168, [168], fun vs _ => vs = [.slice (some ⟨gE, 0, none⟩) 2 2]⟩, ⟨1, 169, [169], fun vs _ => vs = [.int .i64 (k : Int)]⟩, ⟨2, 170, [170], fun vs _ => vs = [.pointer (some ⟨gE, k, none⟩)]⟩, ⟨3, 171, [171], fun vs _ => vs = [.pointer (some ⟨p k, 0, none⟩)]⟩, ⟨4, 172, [172], fun vs _ => vs = [.slice (some ⟨gb, 0, none⟩) 2 2]⟩, ⟨6, 174, [174], fun vs _ => vs = [.slice (some ⟨gM, 0, none⟩) 2 2]⟩, ⟨7, 175, [175], fun vs _ => vs = [.int .i64 (k : Int)]⟩, ⟨8, 176, [176], fun vs _ => vs = [.pointer (some ⟨gM, k, none⟩)]⟩, ⟨9, 177, [177], fun vs _ => vs = [.pointer (some ⟨r k, 0, none⟩)]⟩, ⟨10, 178, [178], fun vs _ => vs = [.slice (some ⟨gb, 0, none⟩) 2 2]⟩] (by kernel_rfl) (by kernel_rfl) ?_ (fun _ _ _ => trivial) HGM.out ?_ ?_ ?_ ?_
                  · rw [← hGG.out]
                    exact ⟨R1.out.below (Still.below 1), bE.out.drewN 1, bM.out.drewN 1, fun _ => S1.out.below (Still.below 1), fun h => absurd h (by omega), fun h => absurd h (by omega)⟩
                  · simp only [All]
                    refine ⟨(fun _ _ _ _ h => h), (fun _ _ _ _ h => h), (fun _ _ _ _ h => h), (fun _ _ _ _ h => h), (fun _ _ _ _ h => h), (fun _ _ _ _ h => h), (fun _ _ _ _ h => h), (fun _ _ _ _ h => h), (fun _ _ _ _ h => h), (fun _ _ _ _ h => h), trivial⟩
                  · intro mm c hc o ho a w' hG hfr hdep
                    rw [← hGG.out] at hG
                    rcases mm with _ | _ | mm
                    · cases hc
                      obtain rfl := Option.some.inj ho
                      have g171 : a.tmps[171]?.getD undef = .pointer (some ⟨p k, 0, none⟩) := by have h := hdep 3 _ rfl (by kernel_rfl); simpa using h
                      have g172 : a.tmps[172]?.getD undef = .slice (some ⟨gb, 0, none⟩) 2 2 := by have h := hdep 4 _ rfl (by kernel_rfl); simpa using h
                      obtain ⟨hr1, hE, hM, hS0, -, -⟩ := hG
                      have hS := hS0 rfl
                      clear hfr hdep hS0
                      obtain ⟨sl1, kl1⟩ := hr1.2 0 _ _ rfl rfl
                      have hcall := lk_Send (p k) (g k) (m k) (e k) [bi, bn] (some ⟨gb, 0, none⟩) 2 2 w' (hS.get (rl_fin hk2)) sl1 (by omega)
                      rw [hse.out] at hcall
                      have hnb := EndAt.nob (hS.get (rl_fin hk2))
                      go_wp2_with fail
                      refine hcall.mono ?_
                      rintro e9 w9 ⟨rfl, g2, A2, F2, n2⟩
                      have S9 : Sy w w9 (RL p m r gE gM (upd g k g2) (upd e k E1) gs gh e S [obTop aK P.length cK hK P, obInts ta TO.length tc TO]) := Sy.cast (rl_setfin hk2 g2 E1) (hS.step (rl_fin hk2) (obFin_ok _ _ _ _) A2 F2 (fun b hb => hb) n2)
                      have R9 := hr1.fr F2 hnb
                      have bE9 : Box w9 gE _ _ := S9.get (i := 2) rfl
                      have bM9 : Box w9 gM _ _ := S9.get (i := 5) rfl
                      clear hcall hS A2 F2 n2 hr1 hE hM hnb
                      go_wp2_with fail
                      refine ⟨rfl, _, rfl, ?_⟩
                      rw [← hGG.out]
                      exact ⟨R9, bE9, bM9, fun h => absurd h (by omega), fun _ => ⟨⟨a.tmps[179]?.getD undef, by simp⟩, g2, S9⟩, fun h => absurd h (by omega)⟩
                    · cases hc
                      obtain rfl := Option.some.inj ho
                      have g177 : a.tmps[177]?.getD undef = .pointer (some ⟨r k, 0, none⟩) := by have h := hdep 8 _ rfl (by kernel_rfl); simpa using h
                      have g178 : a.tmps[178]?.getD undef = .slice (some ⟨gb, 0, none⟩) 2 2 := by have h := hdep 9 _ rfl (by kernel_rfl); simpa using h
                      obtain ⟨hr1, hE, hM, -, hS1, -⟩ := hG
                      obtain ⟨⟨y1, hvs⟩, g2, hS⟩ := hS1 rfl
                      have g173 : a.tmps[173]?.getD undef = .int .i64 0 := by simp at hvs; exact hvs.1
                      clear hfr hdep hS1 hvs
                      obtain ⟨sl1, kl1⟩ := hr1.2 0 _ _ rfl rfl
                      have hcall := r_Send (r k) (gs k) (gh k) (e k) (S k) [bi, bn] (some ⟨gb, 0, none⟩) 2 2 w' (hS.get (rl_ref hk2)) sl1 kl1 (by simp) (by omega)
                      have hnb := (obRef_ok (r k) (gs k) (gh k) (e k) (S k)).nob w' (hS.get (rl_ref hk2))
                      go_wp2_with fail
                      refine hcall.mono ?_
                      rintro e9 w9 ⟨rfl, gs2, A2, F2, n2⟩
                      have S9 : Sy w w9 (RL p m r gE gM (upd g k g2) (upd e k E1) (upd gs k gs2) gh (upd e k E1) (upd S k (S k ++ [[bi, bn]])) [obTop aK P.length cK hK P, obInts ta TO.length tc TO]) := Sy.cast (by
                        rw [rl_setref hk2 gs2 (gh k) E1 (S k ++ [[bi, bn]]), upd_same]) (hS.step (rl_ref hk2) (obRef_ok (r k) gs2 (gh k) E1 (S k ++ [[bi, bn]])) (hE1.out ▸ A2) F2 (fun b hb => hb) n2)
                      have R9 := hr1.fr F2 hnb
                      have bE9 : Box w9 gE _ _ := S9.get (i := 2) rfl
                      have bM9 : Box w9 gM _ _ := S9.get (i := 5) rfl
                      clear hcall hS A2 F2 n2 hr1 hE hM hnb
                      go_wp2_with fail
                      refine ⟨rfl, _, rfl, ?_⟩
                      rw [← hGG.out]
                      exact ⟨R9, bE9, bM9, fun h => absurd h (by omega), fun h => absurd h (by omega), fun _ => ⟨by simp [g173], g2, gs2, S9⟩⟩
                    · cases hc
                  · simp only [All]
                    refine ⟨?_, ?_, ?_, ?_, ?_, ?_, ?_, ?_, ?_, ?_, trivial⟩
                    · intro o ho a' w' hfr hdep hst
                      obtain rfl := Option.some.inj ho
                      have g7 : a'.tmps[7]?.getD undef = .slice (some ⟨gE, 0, none⟩) 2 2 := by have h := hfr 7 (by kernel_rfl); simpa using h
                      clear ho hfr hdep hst
                      go_wp2_with fail
                      exact ⟨rfl, _, rfl, Below.refl _ _, rfl⟩
                    · intro o ho a' w' hfr hdep hst
                      obtain rfl := Option.some.inj ho
                      have g13 : a'.tmps[13]?.getD undef = .int .i64 (k : Int) := by have h := hfr 13 (by kernel_rfl); simpa using h
                      clear ho hfr hdep hst
                      go_wp2_with fail
                      exact ⟨rfl, _, rfl, Below.refl _ _, rfl⟩
                    · intro o ho a' w' hfr hdep hst
                      obtain rfl := Option.some.inj ho
                      have g168 : a'.tmps[168]?.getD undef = .slice (some ⟨gE, 0, none⟩) 2 2 := by have h := hdep 0 _ rfl (by kernel_rfl); simpa using h
                      have g169 : a'.tmps[169]?.getD undef = .int .i64 (k : Int) := by have h := hdep 1 _ rfl (by kernel_rfl); simpa using h
                      clear ho hfr hdep hst
                      go_wp2_with fail
                      exact ⟨rfl, _, rfl, Below.refl _ _, rfl⟩
                    · intro o ho a' w' hfr hdep hst
                      obtain rfl := Option.some.inj ho
                      have g170 : a'.tmps[170]?.getD undef = .pointer (some ⟨gE, k, none⟩) := by have h := hdep 2 _ rfl (by kernel_rfl); simpa using h
                      obtain ⟨js, _, _, hG⟩ := hst
                      rw [← hGG.out] at hG
                      have hcl := hG.2.1.at_ (ord_ptr (p := p) hk2)
                      clear ho hfr hdep hG
                      go_wp2_with fail
                      exact ⟨rfl, _, rfl, Below.refl _ _, rfl⟩
                    · intro o ho a' w' hfr hdep hst
                      obtain rfl := Option.some.inj ho
                      have g14 : a'.tmps[14]?.getD undef = .slice (some ⟨gb, 0, none⟩) 2 2 := by have h := hfr 14 (by kernel_rfl); simpa using h
                      clear ho hfr hdep hst
                      go_wp2_with fail
                      exact ⟨rfl, _, rfl, Below.refl _ _, rfl⟩
                    · intro o ho a' w' hfr hdep hst
                      obtain rfl := Option.some.inj ho
                      have g8 : a'.tmps[8]?.getD undef = .slice (some ⟨gM, 0, none⟩) 2 2 := by have h := hfr 8 (by kernel_rfl); simpa using h
                      clear ho hfr hdep hst
                      go_wp2_with fail
                      exact ⟨rfl, _, rfl, Below.refl _ _, rfl⟩
                    · intro o ho a' w' hfr hdep hst
                      obtain rfl := Option.some.inj ho
                      have g13 : a'.tmps[13]?.getD undef = .int .i64 (k : Int) := by have h := hfr 13 (by kernel_rfl); simpa using h
                      clear ho hfr hdep hst
                      go_wp2_with fail
                      exact ⟨rfl, _, rfl, Below.refl _ _, rfl⟩
                    · intro o ho a' w' hfr hdep hst
                      obtain rfl := Option.some.inj ho
                      have g174 : a'.tmps[174]?.getD undef = .slice (some ⟨gM, 0, none⟩) 2 2 := by have h := hdep 5 _ rfl (by kernel_rfl); simpa using h
                      have g175 : a'.tmps[175]?.getD undef = .int .i64 (k : Int) := by have h := hdep 6 _ rfl (by kernel_rfl); simpa using h
                      clear ho hfr hdep hst
                      go_wp2_with fail
                      exact ⟨rfl, _, rfl, Below.refl _ _, rfl⟩
                    · intro o ho a' w' hfr hdep hst
                      obtain rfl := Option.some.inj ho
                      have g176 : a'.tmps[176]?.getD undef = .pointer (some ⟨gM, k, none⟩) := by have h := hdep 7 _ rfl (by kernel_rfl); simpa using h
                      obtain ⟨js, _, _, hG⟩ := hst
                      rw [← hGG.out] at hG
                      have hcl := hG.2.2.1.at_ (ord_ptr (p := r) hk2)
                      clear ho hfr hdep hG
                      go_wp2_with fail
                      exact ⟨rfl, _, rfl, Below.refl _ _, rfl⟩
                    · intro o ho a' w' hfr hdep hst
                      obtain rfl := Option.some.inj ho
                      have g14 : a'.tmps[14]?.getD undef = .slice (some ⟨gb, 0, none⟩) 2 2 := by have h := hfr 14 (by kernel_rfl); simpa using h
                      clear ho hfr hdep hst
                      go_wp2_with fail
                      exact ⟨rfl, _, rfl, Below.refl _ _, rfl⟩
                  · intro gg w9 hG hp
                    rw [← hGG.out] at hG
                    obtain ⟨-, -, -, -, -, hS2⟩ := hG
                    obtain ⟨hvs, g2, gs2, S9⟩ := hS2 (Nat.le_refl _)
                    have p173 : gg 173 = .int .i64 0 := by simp at hvs; exact hvs.1
                    have p179 : gg 179 = .int .i64 0 := by simp at hvs; exact hvs.2
                    clear hp hS2 hvs
                    simp only [List.drop_succ_cons, List.drop_zero, List.map_cons, List.map_nil, putAll, Act.put, List.setIfInBounds_toArray, List.set_cons_succ, List.set_cons_zero, List.cons_append, List.nil_append, p173, p179]
                    clear p173 p179
                    have S9h := hide S9
                    clear S9 HGM hGG bE bM S1 R1
                    go_wp2_with fail
                    go_meet
                    have hinv := INV.out.send hk2 [bi, bn] (by simp)
                    rw [hE1.out] at hinv
                    exact ⟨⟨upd g k g2, upd e k E1, upd gs k gs2, gh, upd S k (S k ++ [[bi, bn]]), aK, cK, hK, P, ta, tc, TO⟩, by rw [← hnp.out], by rw [← hnt.out], S9h, hide hinv⟩
        case rest =>
          as_aux_lemma =>
            clear hsw hnn hnn2
            obtain ⟨⟨g2, e2, gs2, gh2, S2, aK2, cK2, hK2, P2, ta2, tc2, TO2⟩, rfl, rfl, SYx, INVx⟩ := hcut
            have SYc : Hid (Sy w wc (RL p m r gE gM g2 e2 gs2 gh2 e2 S2 [obTop aK2 P2.length cK2 hK2 P2, obInts ta2 TO2.length tc2 TO2])) := SYx
            have INVc : Hid (RInv key (i + 1) e2 S2 P2 TO2) := INVx
            clear SYx INVx
            obtain ⟨w5, rfl⟩ : ∃ w5 : World, w5 = wc := ⟨_, rfl⟩
            obtain ⟨np2, hnp2x⟩ : ∃ np, Hid (P2.length = np) := ⟨_, hide rfl⟩
            have hnt2 : Hid (TO2.length = np2) := hide (INVc.out.len.symm.trans hnp2x.out)
            rw [show (⟨g2, e2, gs2, gh2, S2, aK2, cK2, hK2, P2, ta2, tc2, TO2⟩ : RunSt).P.length = np2 from hnp2x.out, show (⟨g2, e2, gs2, gh2, S2, aK2, cK2, hK2, P2, ta2, tc2, TO2⟩ : RunSt).TO.length = np2 from hnt2.out]
            go_wp2_with fail
            go_loopg [24] 2 (fun gq v24 w' => ∃ (q : Nat), q ≤ 2 ∧ gq = 2 - q ∧ v24 = .int .i64 (q : Int) ∧ Hid (Below w5.heap.size w5 w'))
            case atStart => exact ⟨0, by omega, by omega, rfl, hide (Below.refl _ _)⟩
            case round =>
              obtain ⟨q, hq, hgq, rfl, bq⟩ := hrel
              have HGQ := hide hgq
              clear hgq
              by_cases hq2 : q < 2
              · have d2 : decide ((q : Int) < 2) = true := decide_eq_true (by omega)
                have SQ := hide (SYc.out.below bq.out)
                have qE : wr.cell? ⟨gE, q, none⟩ = some (.pointer (some ⟨p q, 0, none⟩)) := (show Box wr gE _ _ from SQ.out.get (i := 2) rfl).at_ (ord_ptr hq2)
                have qM : wr.cell? ⟨gM, q, none⟩ = some (.pointer (some ⟨r q, 0, none⟩)) := (show Box wr gM _ _ from SQ.out.get (i := 5) rfl).at_ (ord_ptr (p := r) hq2)
                obtain ⟨aS, cS, hsS, ah, ch, hh, hR, -, -⟩ := (show RAt wr (r q) (gs2 q) (gh2 q) (e2 q) (S2 q) from SQ.out.get (rl_ref hq2))
                have c2 := hR.box.at_ (j := 2) rfl
                have c3 := hR.box.at_ (j := 3) rfl
                have c7 := hR.box.at_ (j := 7) rfl
                have haw := hR.ack
                have hwt := congrArg List.length hR.wait
                rw [List.length_drop] at hwt
                have hsl := INVc.out.sl q hq2
                have hfg := INVc.out.fg q hq2
                have hq2i : (q : Int) < 2 := by omega
                obtain ⟨W, hW⟩ : ∃ W, Hid ((e2 q).wait.length = W) := ⟨_, hide rfl⟩
                obtain ⟨LS, hLS⟩ : ∃ LS, Hid ((S2 q).length = LS) := ⟨_, hide rfl⟩
                obtain ⟨AK, hAK⟩ : ∃ AK, Hid ((e2 q).acked = AK) := ⟨_, hide rfl⟩
                obtain ⟨FG, hFG⟩ : ∃ FG, Hid ((e2 q).forged = FG) := ⟨_, hide rfl⟩
                rw [hLS.out] at c2 hwt hsl haw
                rw [hAK.out] at c3 hwt haw
                rw [hFG.out] at c7 hfg
                rw [hW.out] at hwt
                have hz : IntKind.i64.wrap ((LS : Int) - (AK : Int)) = (W : Int) := by rw [show (LS : Int) - (AK : Int) = (W : Int) by omega]; exact IntWalk.i64_in _ (by omega)
                have hWc : Hid (∀ n, Calls Try.prog 21 #[.pointer (some ⟨p q, 0, none⟩)] (wr.drewN n) fun r w' => r = .returned (.int .i64 (W : Int)) ∧ w' = wr.drewN n) := hide (fun n => by
                  have h := lk_Waiting (p q) (g2 q) (m q) (e2 q) (wr.drewN n) ((show EndAt wr (p q) (g2 q) (m q) (e2 q) from SQ.out.get (rl_fin hq2)).below (Still.below n))
                  rw [hW.out] at h
                  exact h)
                have hFc : Hid (∀ n, Calls Try.prog 22 #[.pointer (some ⟨p q, 0, none⟩)] (wr.drewN n) fun r w' => r = .returned (.int .i64 (FG : Int)) ∧ w' = wr.drewN n) := hide (fun n => by
                  have h := lk_Forged (p q) (g2 q) (m q) (e2 q) (wr.drewN n) ((show EndAt wr (p q) (g2 q) (m q) (e2 q) from SQ.out.get (rl_fin hq2)).below (Still.below n))
                  rw [hFG.out] at h
                  exact h)
                clear hR haw hwt hsl hfg
                have hb : Hid (∀ n, Below wr.heap.size wr (wr.drewN n)) := hide (fun n => Still.below n)
                go_wp2_with fail
                have hWq : ∀ n, Calls Try.prog 21 #[.pointer (some ⟨p q, 0, none⟩)] (wr.drewN n) fun e w'' => e = .returned (.int .i64 (W : Int)) ∧ ∃ m, w'' = wr.drewN m := fun n => Calls.quiet_of_same (hWc.out n)
                have hFq : ∀ n, Calls Try.prog 22 #[.pointer (some ⟨p q, 0, none⟩)] (wr.drewN n) fun e w'' => e = .returned (.int .i64 (FG : Int)) ∧ ∃ m, w'' = wr.drewN m := fun n => Calls.quiet_of_same (hFc.out n)
                clear hWc hFc
                go_quiet (first
                  | (go_at_call 21; exact hWq _)
                  | (go_at_call 22; exact hFq _))
                clear hWq hFq
                have bq2 := bq.out.trans ((hb.out nq).mono bq.out.size)
                clear hb qE qM c2 c3 c7 hz
                generalize wr.drewN nq = w11 at *
                go_wp2_with fail
                go_roundg (2 - (q + 1))
                case measure => have := HGQ.out; omega
                case rel => exact ⟨q + 1, by omega, rfl, by go_num, hide bq2⟩
              · obtain rfl : q = 2 := by omega
                have d2 : decide ((2 : Int) < 2) = false := by decide
                go_wp2_with fail
                go_roundg (60 - (i + 1))
                case measure => have := HG.out; omega
                case rel => exact ⟨i + 1, (⟨g2, e2, gs2, gh2, S2, aK2, cK2, hK2, P2, ta2, tc2, TO2⟩ : RunSt), by omega, rfl, by rw [← hnp2x.out], by rw [← hnt2.out], by go_num, hide (SYc.out.below bq.out), INVc⟩
      · as_aux_lemma =>
          by_cases hin : i < n
          · obtain rfl : i = 60 := by omega
            have d0 : decide ((60 : Int) < (n : Int)) = true := decide_eq_true (by omega)
            have d0n : decide (60 < n) = true := decide_eq_true hin
            have d1 : decide ((60 : Int) < 60) = false := by decide
            go_wp2_with (go_at_call 23; refine (law37_lives _).mono ?_; rintro e9 w9 ⟨rfl, h9⟩)
            go_ret
            exact ⟨rfl, SY.out.bel.trans (h9.mono SY.out.bel.size)⟩
          · have d0 : decide ((i : Int) < (n : Int)) = false := decide_eq_false (by omega)
            have d0n : decide (i < n) = false := decide_eq_false hin
            go_wp2_with (go_at_call 23; refine (law37_lives _).mono ?_; rintro e9 w9 ⟨rfl, h9⟩)
            go_ret
            exact ⟨rfl, SY.out.bel.trans (h9.mono SY.out.bel.size)⟩
theorem walk_Runs (l : List Int) (window z : Int) (a : Option Addr) (n c : Nat) (w : World) (hw : -9223372036854775808 ≤ window ∧ window ≤ 9223372036854775807) (hz : (Lit.int .u64 z).wf = true) (hs : Sl w 1 a n c (l.map I64)) (hl : ∀ x ∈ l, -9223372036854775808 ≤ x ∧ x ≤ 9223372036854775807) :
    Calls Try.prog 3 #[.int .i64 window, .int .u64 z, .slice a n c] w fun r w' => r = .returned (.bool true) ∧ Below w.heap.size w w' := by
  obtain ⟨key, rfl⟩ := u64_of hz
  exact walk_Runs0 window key l a n c w hw.1 hw.2 hs hl
end Go.Proofs.Ytjdnmbapmobaaaa
end
