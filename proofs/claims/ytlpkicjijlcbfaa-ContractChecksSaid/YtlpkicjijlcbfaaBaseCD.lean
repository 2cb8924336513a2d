/- The contracts of the functions that the law reaches, joined into one text. -/
import Derived.Test.YtlpkicjijlcbfaaBaseCC
import Derived.Deep.CutBlock
set_option linter.unusedVariables false
set_option linter.unusedSimpArgs false

section
/- A region that draws its order: some operations follow one another (CH) and may change what they own; the others (TL) may make memory, come at any time, and their facts outlast what the chain does (R). No program in sight. -/
namespace Go.Dx
open Go.RowKit

def headOk4 (l : List Oper) (n : Nat) (T : List (Nat × Nat × List Nat)) : Bool :=
 let ops := l.toArray
 decide ((T.map (·.1)).Nodup) && decide (n < l.length) && Region.sinkB .any ops n && Region.chainB .any ops n && Region.seqB .any ops (l.length - n) n ((List.replicate n true ++ List.replicate (l.length - n) false).toArray) &&
 (List.range n).all (fun j => T.any fun t => t.1 == j) &&
 T.all (fun t => decide (t.1 < n) && (match l[t.1]? with | some o => (o.after.all fun e => !Region.binds .any e || decide (e.on < t.1)) | none => false)) &&
 T.all (fun t => T.all fun u => t.1 == u.1 || (t.2.1 != u.2.1 && (!u.2.2.contains t.2.1 || Region.waitsFor .any ops u.1 t.1)))
theorem putAll_get4 (g : Nat → Value) : ∀ (L : List Nat) (a : Act) (k : Nat), (putAll a (L.map fun d => (d, g d))).tmps.getD k undef = if k ∈ L ∧ k < a.tmps.size then g k else a.tmps.getD k undef := by
 intro L
 induction L with
 | nil => intro a k; simp [putAll]
 | cons d L ih =>
  intro a k
  have hz : (a.put (some d) (g d)).tmps.size = a.tmps.size := by simp [Act.put]
  rw [List.map_cons, putAll, ih, put_get, hz]
  by_cases h0 : k < a.tmps.size
  ·by_cases h1 : k ∈ L
   ·rw [if_pos ⟨h1, h0⟩, if_pos ⟨List.mem_cons_of_mem _ h1, h0⟩]
   ·rw [if_neg (fun h => h1 h.1)]
    by_cases h2 : d = k
    ·subst h2; rw [if_pos ⟨rfl, h0⟩, if_pos ⟨List.mem_cons_self, h0⟩]
    ·rw [if_neg (fun h => h2 h.1), if_neg (fun h => by rcases List.mem_cons.1 h.1 with h | h; exact h2 h.symm; exact h1 h)]
  ·rw [if_neg (fun h => h0 h.2), if_neg (fun h => h0 (by omega)), if_neg (fun h => h0 h.2)]
section
variable {P : Program}
def OneTurn4 (c : HOp) (a : Act) (R : Value → World → Prop) (e : Exit) (a' : Act) (w' : World) : Prop := e = .normal ∧ ∃ v, a' = (if c.s = [] then a.put (some c.d) v else a) ∧ R v w'
theorem put_out (a : Act) (d : Nat) (v : Value) (h : a.tmps.size ≤ d) : a.put (some d) v = a := by
 refine act_ext rfl (by simp [Act.put]) (fun k => ?_)
 rw [put_get, if_neg (fun hh => by omega)]
theorem wp_region_chain4 {id : Nat} {Q : Exit → Act → World → Prop} {a0 : Act} {w0 : World} {l : List Oper} (n : Nat) (R4 : World → World → Prop) (G : Nat → List Value → World → Prop) (CH TL : List HOp) (hm : P.follows .mixedOrders = true)
  (hB : ((TL.all fun t => decide (t.d < a0.tmps.size)) && (CH.all fun c => if c.s = [] then decide (c.d < a0.tmps.size) else decide (a0.tmps.size ≤ c.d)) && headOk4 l n ((CH ++ TL).map fun t => (t.i, t.d, if TL.any (fun u => u.i == t.i) then t.s else [])) && linkOk l.toArray (CH.map (·.i)) && (TL.all fun t => CH.all fun c => t.i != c.i && t.d != c.d)) = true)
  (hG0 : G 0 (CH.map fun c => a0.tmps.getD c.d undef) { w0 with drawn := w0.drawn + 1 })
  (hR : ∀ w w', Below w.heap.size w w' → R4 w w')
  (hGm : ∀ j vs w w', Below w.heap.size w w' → G j vs w → G j vs w')
  (hmono : All (fun t : HOp => ∀ vs w w', R4 w w' → t.p vs w → t.p vs w') TL)
  (hopC : ∀ m c, CH[m]? = some c → ∀ o, l[c.i]? = some o → ∀ (a : Act) (w : World), G m (CH.map fun c => a.tmps.getD c.d undef) w →
   (∀ k, ((CH ++ TL).map (·.d)).contains k = false → a.tmps.getD k undef = a0.tmps.getD k undef) →
   (∀ (k : Nat) (u : HOp), TL[k]? = some u → Region.waitsFor .any l.toArray c.i u.i = true → u.p (u.s.map fun k => a.tmps.getD k undef) w) →
   wpList P l.toArray (OneTurn4 c a fun v w' => R4 w w' ∧ G (m + 1) (CH.map fun e => if e.d = c.d then (if c.s = [] then v else undef) else a.tmps.getD e.d undef) w') [o] a w)
  (hopL : All (fun t : HOp => ∀ o, l[t.i]? = some o → ∀ (a : Act) (w : World),
   (∀ k, ((CH ++ TL).map (·.d)).contains k = false → a.tmps.getD k undef = a0.tmps.getD k undef) →
   (∀ (k : Nat) (u : HOp), TL[k]? = some u → Region.waitsFor .any l.toArray t.i u.i = true → u.p (u.s.map fun k => a.tmps.getD k undef) w) →
   (∃ j, (∀ m c, CH[m]? = some c → Region.waitsFor .any l.toArray t.i c.i = true → m < j) ∧ j ≤ CH.length ∧ G j (CH.map fun c => a.tmps.getD c.d undef) w) →
   wpList P l.toArray (OneDone t.d a w fun v w' => t.p (t.s.map fun k => if t.d = k then v else a.tmps.getD k undef) w') [o] a w) TL)
  (hend : ∀ (g : Nat → Value) (w : World), G CH.length (CH.map fun c => g c.d) w → (∀ (k : Nat) (u : HOp), TL[k]? = some u → u.p (u.s.map fun k => if k ∈ (CH ++ TL).map (·.d) then g k else a0.tmps.getD k undef) w) →
   wpList P l.toArray Q (l.drop n) (putAll a0 (((CH ++ TL).map (·.d)).map fun d => (d, g d))) w) : (Code.region id l.toArray true).wp P Q a0 w0 := by
 obtain ⟨T, hTdef⟩ : ∃ T, CH ++ TL = T := ⟨_, rfl⟩
 have memC : ∀ t ∈ CH, t ∈ T := fun t ht => by rw [← hTdef]; exact List.mem_append_left _ ht
 have memL : ∀ t ∈ TL, t ∈ T := fun t ht => by rw [← hTdef]; exact List.mem_append_right _ ht
 have split : ∀ t ∈ T, t ∈ CH ∨ t ∈ TL := fun t ht => by rw [← hTdef] at ht; exact List.mem_append.1 ht
 rw [hTdef] at hB hopC hopL hend
 rw [Bool.and_eq_true, Bool.and_eq_true] at hB
 obtain ⟨⟨hB, hlink⟩, hdis⟩ := hB
 rw [Bool.and_eq_true, Bool.and_eq_true] at hB
 obtain ⟨⟨hTLd, hCHd⟩, hB⟩ := hB
 have htl : ∀ t ∈ TL, t.d < a0.tmps.size := fun t ht => by simpa using List.all_eq_true.1 hTLd t ht
 have hch : ∀ c ∈ CH, c.s = [] → c.d < a0.tmps.size := fun c hc hs => by have := List.all_eq_true.1 hCHd c hc; simpa [hs] using this
 have hch2 : ∀ c ∈ CH, c.s ≠ [] → a0.tmps.size ≤ c.d := fun c hc hs => by have := List.all_eq_true.1 hCHd c hc; simpa [hs] using this
 have hdis2 : ∀ t ∈ TL, ∀ c ∈ CH, t.i ≠ c.i ∧ t.d ≠ c.d := by
  intro t ht c hc
  have := List.all_eq_true.1 (List.all_eq_true.1 hdis t ht) c hc
  simpa using this
 have hlk : ∀ m c e, CH[m]? = some c → CH[m + 1]? = some e → Region.waitsFor .any l.toArray e.i c.i = true := fun m c e h1 h2 =>
  linkOk_get hlink m c.i e.i (by rw [List.getElem?_map, h1]; rfl) (by rw [List.getElem?_map, h2]; rfl)
 simp only [headOk4, Bool.and_eq_true, decide_eq_true_eq] at hB
 obtain ⟨⟨⟨⟨⟨⟨⟨hnd, hn⟩, hs⟩, hc⟩, hseq⟩, hcov⟩, hT⟩, hpair⟩ := hB
 have hnodup : ∀ t ∈ T, ∀ u ∈ T, t.i = u.i → t = u := inj_nodup (·.i) T (by rw [List.map_map] at hnd; exact hnd)
 have hn' : n < l.toArray.size := by simpa using hn
 have cover : ∀ j, j < n → ∃ t ∈ T, t.i = j := by
  intro j hj
  have h := List.all_eq_true.1 hcov j (List.mem_range.2 hj)
  obtain ⟨x, hx, he⟩ := List.any_eq_true.1 h
  obtain ⟨t, ht, rfl⟩ := List.mem_map.1 hx
  exact ⟨t, ht, by simpa using he⟩
 have own : ∀ t ∈ T, t.i < n ∧ ∃ o, l[t.i]? = some o ∧ ∀ e ∈ o.after, Region.binds .any e = true → e.on < t.i := by
  intro t ht
  have h := List.all_eq_true.1 hT _ (List.mem_map.2 ⟨t, ht, rfl⟩)
  simp only [Bool.and_eq_true, decide_eq_true_eq] at h
  obtain ⟨h1, h3⟩ := h
  refine ⟨h1, ?_⟩
  cases ho : l[t.i]? with
  | none => rw [ho] at h3; cases h3
  | some o =>
   rw [ho] at h3
   refine ⟨o, rfl, fun e he hb => ?_⟩
   have := Array.all_eq_true_iff_forall_mem.1 h3 e he
   simpa [hb] using this
 have pair : ∀ t ∈ T, ∀ u ∈ T, t.i ≠ u.i → t.d ≠ u.d ∧ (u ∈ TL → t.d ∈ u.s → Region.waitsFor .any l.toArray u.i t.i = true) := by
  intro t ht u hu hne
  have h := List.all_eq_true.1 (List.all_eq_true.1 hpair _ (List.mem_map.2 ⟨t, ht, rfl⟩)) _ (List.mem_map.2 ⟨u, hu, rfl⟩)
  simp only [Bool.or_eq_true, beq_iff_eq, hne, false_or, Bool.and_eq_true, bne_iff_ne, ne_eq, Bool.not_eq_true'] at h
  refine ⟨h.1, fun huL hin => ?_⟩
  have hany : (TL.any fun v => v.i == u.i) = true := List.any_eq_true.2 ⟨u, huL, by simp⟩
  rw [hany, if_pos rfl] at h
  rcases h.2 with h2 | h2
  ·have : u.s.contains t.d = true := by simpa using hin
   rw [this] at h2; cases h2
  ·exact h2
 have key : ∀ (f : Nat) (listed : Array Bool) (a : Act) (w : World), ChInv l n CH TL T a0 G listed a w → todo listed n = f → wpAny P .any l.toArray Q (f + (l.length - n)) listed a w := by
  intro f
  induction f with
  | zero =>
   intro listed a w I h0
   have hall : ∀ j, j < n → listed.getD j true = true := by
    intro j hj
    cases hb : listed.getD j true with
    | true => rfl
    | false =>
     have : j ∈ (List.range n).filter fun j => !listed.getD j true := List.mem_filter.2 ⟨List.mem_range.2 hj, by rw [hb]; rfl⟩
     unfold todo at h0
     rw [List.eq_nil_of_length_eq_zero h0] at this
     cases this
   have hlist : listed = (List.replicate n true ++ List.replicate (l.length - n) false).toArray := by
    have hsz := I.inv.size
    apply Array.ext
    ·simp at hsz ⊢; omega
    ·intro j h1 h2
     by_cases hj : j < n
     ·have := hall j hj
      simp [Array.getD, h1] at this
      simp [this, List.getElem_append_left, hj]
     ·have := I.inv.tail j (by omega) (by rw [← hsz]; exact h1)
      simp [Array.getD, h1] at this
      simp only [this, List.getElem_toArray]
      rw [List.getElem_append_right (by simp; omega)]
      simp
   have ha : a = putAll a0 ((T.map (·.d)).map fun d => (d, a.tmps.getD d undef)) := by
    refine act_ext (by rw [putAll_defers]; exact I.defers) (by rw [putAll_size]; exact I.size) (fun k => ?_)
    rw [putAll_get4 (fun d => a.tmps.getD d undef)]
    by_cases h0 : k < a0.tmps.size
    ·by_cases h : k ∈ T.map (·.d)
     ·rw [if_pos ⟨h, h0⟩]
     ·rw [if_neg (fun hh => h hh.1)]
      exact I.frame k (fun t ht e => h (List.mem_map.2 ⟨t, ht, e⟩))
    ·rw [if_neg (fun hh => h0 hh.2)]
     have h1 := I.size
     have hk : ¬ k < a.tmps.size := by omega
     simp [Array.getD, hk, h0]
   have hls : ∀ t ∈ T, listed.getD t.i false = true := by
    intro t ht
    have := hall t.i (own t ht).1
    rcases Nat.lt_or_ge t.i listed.size with h' | h'
    ·simp [h'] at this ⊢; exact this
    ·have := I.inv.size; have := (own t ht).1; omega
   obtain ⟨j, hj, hjs, hG⟩ := I.stage
   have hjl : j = CH.length := by
    rcases Nat.lt_or_ge j CH.length with h | h
    ·have h1 : CH[j]? = some CH[j] := by simp [h]
     have := (hjs j _ h1).1 (hls _ (memC _ (List.getElem_mem h)))
     omega
    ·omega
   rw [hjl] at hG
   have hfin := hend (fun d => a.tmps.getD d undef) w hG (fun k u hu => by
    have hu' := List.mem_of_getElem? hu
    have h1 := I.facts u hu' (hls u (memL u hu'))
    unfold HOp.fact at h1
    have e : (u.s.map fun k => if k ∈ T.map (·.d) then a.tmps.getD k undef else a0.tmps.getD k undef) = u.s.map fun k => a.tmps.getD k undef := by
     apply List.map_congr_left
     intro k _
     by_cases h : k ∈ T.map (·.d)
     ·rw [if_pos h]
     ·rw [if_neg h]
      exact (I.frame k (fun t ht e => h (List.mem_map.2 ⟨t, ht, e⟩))).symm
    rw [e]
    exact h1)
   rw [← ha] at hfin
   rw [Nat.zero_add]
   have hseq' : Region.seqB .any l.toArray (l.drop n).length n listed = true := by rw [hlist, List.length_drop]; exact hseq
   have := wpAny_of_seq (md := .any) (Q' := Q) (l.drop n) n listed a w (fun j => by simp [List.getElem?_drop]) hseq' hfin
   rwa [List.length_drop] at this
  | succ f ih =>
   intro listed a w I hf
   have hex : ∃ j, j < n ∧ listed.getD j true = false := by
    cases hL : (List.range n).filter fun j => !listed.getD j true with
    | nil => unfold todo at hf; rw [hL] at hf; cases hf
    | cons j L =>
     have : j ∈ (List.range n).filter fun j => !listed.getD j true := by rw [hL]; exact List.mem_cons_self
     obtain ⟨h1, h2⟩ := List.mem_filter.1 this
     exact ⟨j, List.mem_range.1 h1, by simpa using h2⟩
   have hready : Region.ready .any l.toArray listed ≠ [] := by
    have hmin : ∀ m j, j ≤ m → j < n → listed.getD j true = false → ∃ i, i ∈ Region.ready .any l.toArray listed := by
     intro m
     induction m with
     | zero =>
      intro j hj hjn hjl
      have hj0 : j = 0 := by omega
      subst hj0
      obtain ⟨t, ht, hti⟩ := cover 0 hjn
      obtain ⟨_, o, ho, hb⟩ := own t ht
      rw [hti] at ho hb
      exact ⟨0, mem_ready.2 ⟨hjl, o, by simpa using ho, fun e he hbe => absurd (hb e he hbe) (by omega)⟩⟩
     | succ m ihm =>
      intro j hj hjn hjl
      obtain ⟨t, ht, hti⟩ := cover j hjn
      obtain ⟨_, o, ho, hb⟩ := own t ht
      rw [hti] at ho hb
      by_cases hall : ∀ e ∈ o.after, Region.binds .any e = true → listed.getD e.on false = true
      ·exact ⟨j, mem_ready.2 ⟨hjl, o, by simpa using ho, hall⟩⟩
      ·simp only [Classical.not_forall] at hall
       obtain ⟨e, he, hbe, hne⟩ := hall
       have hlt := hb e he hbe
       have hes : e.on < listed.size := by rw [I.inv.size]; simp; omega
       exact ihm e.on (by omega) (by omega) (getD_in hes (by simpa using hne))
    obtain ⟨j, hj, hjl⟩ := hex
    obtain ⟨i, hi⟩ := hmin j j (Nat.le_refl _) hj hjl
    intro h
    rw [h] at hi
    cases hi
   rw [show f + 1 + (l.length - n) = (f + (l.length - n)) + 1 by omega]
   refine ⟨fun h => absurd h hready, fun i hi => ?_⟩
   have hin : i < n := by
    rcases Nat.lt_or_ge i n with h | h
    ·exact h
    ·obtain ⟨j, hj, hjl⟩ := hex
     exact absurd hi (tail_waits hs hc hn' I.inv _ j rfl hj hjl i h)
   obtain ⟨t, ht, hti⟩ := cover i hin
   obtain ⟨_, o, ho, _⟩ := own t ht
   obtain ⟨hil, oi, hoi, hafter⟩ := mem_ready.1 hi
   have hoo : oi = o := by rw [hti] at ho; exact Option.some.inj (hoi.symm.trans (by simpa using ho))
   subst hoo
   have hframe : ∀ k, (T.map (·.d)).contains k = false → a.tmps.getD k undef = a0.tmps.getD k undef := fun k hk => I.frame k (fun u hu e => by
     have : (T.map (·.d)).contains k = true := by simpa using ⟨u, hu, e⟩
     rw [this] at hk; cases hk)
   have hfacts : ∀ (k : Nat) (u : HOp), TL[k]? = some u → Region.waitsFor .any l.toArray t.i u.i = true → u.p (u.s.map fun k => a.tmps.getD k undef) w := fun k u hu hw => by
    have hu' := List.mem_of_getElem? hu
    obtain ⟨oj, hoj, e, he, hb, hon⟩ := Region.waitsFor_spec hw
    have : oj = oi := by rw [hti] at hoj; exact Option.some.inj (hoj.symm.trans hoi)
    subst this
    have h1 := hafter e he hb
    rw [hon] at h1
    exact I.facts u hu' h1
   have step0 : ∀ (v : Value) (w' : World), R4 w w' → (∃ j, j ≤ CH.length ∧ (∀ m c, CH[m]? = some c → ((listed.setIfInBounds i true).getD c.i false = true ↔ m < j)) ∧ G j (CH.map fun c => (a.put (some t.d) v).tmps.getD c.d undef) w') →
     (t ∈ TL → t.p (t.s.map fun k => if t.d = k then v else a.tmps.getD k undef) w') → wpAny P .any l.toArray Q (f + (l.length - n)) (listed.setIfInBounds i true) (a.put (some t.d) v) w' := by
    intro v w' hrr hst hp
    refine ih _ _ _ ⟨I.inv.set hi hin, I.defers, ?_, ?_, hst, ?_⟩ ?_
    ·rw [← I.size]; simp [Act.put]
    ·intro k hk
     rw [put_get, if_neg (fun h => hk t ht h.1)]
     exact I.frame k hk
    ·intro u hu hul
     by_cases hui : t.i = u.i
     ·unfold HOp.fact
      have hut : u = t := hnodup u (memL u hu) t ht hui.symm
      subst hut
      have e : (u.s.map fun k => (a.put (some u.d) v).tmps.getD k undef) = u.s.map fun k => if u.d = k then v else a.tmps.getD k undef := by
       apply List.map_congr_left
       intro k _
       rw [put_get, I.size]
       by_cases hk : u.d = k
       ·rw [if_pos ⟨hk, htl _ hu⟩, if_pos hk]
       ·rw [if_neg (fun h => hk h.1), if_neg hk]
      rw [e]
      exact hp hu
     ·unfold HOp.fact
      have hul2 : listed.getD u.i false = true := by rw [← getD_set_ne false (i := i) (j := u.i) (by rw [← hti]; exact hui)]; exact hul
      have h1 := hmono.mem u hu _ w w' hrr (I.facts u hu hul2)
      have hnot : t.d ∉ u.s := by
       intro hin2
       have hw := (pair t ht u (memL u hu) hui).2 hu hin2
       obtain ⟨ou, hou, e, he, hb, hon⟩ := Region.waitsFor_spec hw
       have := I.inv.closed u.i ou hou hul2 e he hb
       rw [hon, hti, getD_both hil] at this
       cases this
      have e : (u.s.map fun k => (a.put (some t.d) v).tmps.getD k undef) = u.s.map fun k => a.tmps.getD k undef := by
       apply List.map_congr_left
       intro k hk
       rw [put_get, if_neg (fun (h : t.d = k ∧ t.d < a.tmps.size) => hnot (by rw [h.1]; exact hk))]
      rw [e]
      exact h1
    ·have := todo_set hin hil; omega
   have fin : ∀ (R : Exit → Act → World → Prop), (∀ e a' w', R e a' w' → e = .normal) → (∀ a' w', R .normal a' w' → wpAny P .any l.toArray Q (f + (l.length - n)) (listed.setIfInBounds i true) a' w') → wpList P l.toArray R [oi] a w → wpOp P l.toArray Q i (fun a' w' => wpAny P .any l.toArray Q (f + (l.length - n)) (listed.setIfInBounds i true) a' w') a w := by
    intro R hR step H
    unfold wpList at H
    unfold wpOp
    rw [hoi]
    simp only
    by_cases hwant : Region.wanted oi (yielded l.toArray a.tmps) = true
    ·rw [if_pos hwant] at H
     rw [if_pos hwant]
     left
     rcases H with H | ⟨_, a1, w1, h1⟩
     ·exact wp_both (fun a' w' h => step a' w' h) (fun e a' w' he h => absurd (hR _ _ _ h) he) H
     ·exact absurd (hR _ _ _ h1) (by simp)
    ·rw [if_neg hwant] at H
     rw [if_neg hwant]
     exact step _ _ H
   obtain ⟨j, hj, hjs, hG⟩ := I.stage
   rcases split t ht with h | h
   ·obtain ⟨j0, hj0l, hj0⟩ := List.mem_iff_getElem.1 h
    have hg0 : CH[j0]? = some t := by rw [List.getElem?_eq_getElem hj0l, hj0]
    have hnl : listed.getD t.i false = false := by rw [hti]; exact getD_both hil
    have h1 : ¬ j0 < j := fun h => by rw [(hjs j0 t hg0).2 h] at hnl; cases hnl
    have h2 : j0 ≤ j := by
     cases j0 with
     | zero => omega
     | succ q =>
      have hq : CH[q]? = some CH[q] := by simp
      obtain ⟨oj, hoj, e, he, hb, hon⟩ := Region.waitsFor_spec (hlk q _ t hq hg0)
      have : oj = oi := by rw [hti] at hoj; exact Option.some.inj (hoj.symm.trans hoi)
      subst this
      have h3 := hafter e he hb
      rw [hon] at h3
      have := (hjs q _ hq).1 h3
      omega
    obtain rfl : j0 = j := by omega
    refine fin _ (fun e a' w' h => h.1) ?_ (hopC j0 t hg0 oi ho a w hG hframe hfacts)
    rintro a' w' ⟨_, v, ha', hrr, hG'⟩
    obtain rfl : a' = a.put (some t.d) v := by
     rw [ha']
     by_cases hs0 : t.s = []
     ·rw [if_pos hs0]
     ·rw [if_neg hs0, put_out a t.d v (by rw [I.size]; exact hch2 t h hs0)]
    refine step0 v w' hrr ⟨j0 + 1, by omega, ?_, ?_⟩ (fun hL => absurd rfl (hdis2 t hL t h).1)
    ·intro m c hc
     by_cases hci : c.i = i
     ·have hct : c = t := hnodup c (memC c (List.mem_of_getElem? hc)) t ht (by rw [hci, hti])
      subst hct
      have hm0 : m = j0 := by
       rcases Nat.lt_trichotomy m j0 with h | h | h
       ·have := (hjs m c hc).2 h
        rw [hnl] at this; cases this
       ·exact h
       ·exfalso
        have hnd2 : (CH.map (·.i)).Nodup := by
         have h5 := hnd
         rw [← hTdef, List.map_map, List.map_append] at h5
         exact (List.nodup_append.1 h5).1
        have h6 : (CH.map (·.i))[m]? = some c.i := by rw [List.getElem?_map, hc]; rfl
        have h7 : (CH.map (·.i))[j0]? = some c.i := by rw [List.getElem?_map, hg0]; rfl
        obtain ⟨hm1, hm2⟩ := List.getElem?_eq_some_iff.1 h6
        have := (List.getElem?_inj hm1 hnd2).1 (h6.trans h7.symm)
        omega
      subst hm0
      have hlt : i < listed.size := by rw [I.inv.size]; simp; have := hn; omega
      rw [hci]
      simp [hlt]
     ·rw [getD_set_ne false (fun e => hci e.symm), hjs m c hc]
      constructor
      ·intro h; omega
      ·intro h
       rcases Nat.lt_or_ge m j0 with h' | h'
       ·exact h'
       ·obtain rfl : m = j0 := by omega
        rw [hg0] at hc
        cases hc
        exact absurd hti hci
    ·have e : (CH.map fun c => (a.put (some t.d) v).tmps.getD c.d undef) = CH.map fun e => if e.d = t.d then (if t.s = [] then v else undef) else a.tmps.getD e.d undef := by
      apply List.map_congr_left
      intro c _
      rw [put_get, I.size]
      by_cases hk : t.d = c.d
      ·by_cases hs0 : t.s = []
       ·rw [if_pos ⟨hk, hch t h hs0⟩, if_pos hk.symm, if_pos hs0]
       ·have h2 := hch2 t h hs0
        rw [if_neg (fun hh => by omega), if_pos hk.symm, if_neg hs0]
        have h1 := I.size
        have hk : ¬ c.d < a.tmps.size := by omega
        simp [Array.getD, hk]
      ·rw [if_neg (fun h => hk h.1), if_neg (fun h => hk h.symm)]
     rw [e]
     exact hG'
   ·refine fin _ (fun e a' w' h => h.1) ?_ (hopL.mem t h oi ho a w hframe hfacts ⟨j, ?_, hj, hG⟩)
    rotate_left
    ·intro m c hc hw
     obtain ⟨oj, hoj, e, he, hb, hon⟩ := Region.waitsFor_spec hw
     have : oj = oi := by rw [hti] at hoj; exact Option.some.inj (hoj.symm.trans hoi)
     subst this
     have h3 := hafter e he hb
     rw [hon] at h3
     exact (hjs m c hc).1 h3
    rintro a' w' ⟨_, v, rfl, hbl, hp⟩
    refine step0 v _ (hR _ _ hbl) ⟨j, hj, ?_, ?_⟩ (fun _ => hp)
    ·intro m c hc
     rw [getD_set_ne false (by rw [← hti]; exact (hdis2 t h c (List.mem_of_getElem? hc)).1)]
     exact hjs m c hc
    ·have e : (CH.map fun c => (a.put (some t.d) v).tmps.getD c.d undef) = CH.map fun c => a.tmps.getD c.d undef := by
      apply List.map_congr_left
      intro c hc
      rw [put_get, if_neg (fun hh => (hdis2 t h c hc).2 hh.1)]
     rw [e]
     exact hGm _ _ _ _ hbl hG
 refine wp_region_any hm ?_
 have inv0 : HeadInv .any l.toArray n (Array.replicate l.toArray.size false) :=
  ⟨by simp, fun j oj _ hl => (by rw [getD_replicate_false] at hl; cases hl), fun t _ ht => getD_in (by simpa using ht) (getD_replicate_false _ _)⟩
 have I0 : ChInv l n CH TL T a0 G (Array.replicate l.toArray.size false) a0 { w0 with drawn := w0.drawn + 1 } :=
  ⟨inv0, rfl, rfl, fun _ _ => rfl, ⟨0, Nat.zero_le _, fun m c _ => (by rw [getD_replicate_false]; simp), hG0⟩, fun t _ hl => (by rw [getD_replicate_false] at hl; cases hl)⟩
 have ht0 : todo (Array.replicate l.toArray.size false) n = n := by
  unfold todo
  rw [List.filter_eq_self.2 (fun j hj => by
   have hj' := List.mem_range.1 hj
   have : (Array.replicate l.toArray.size false).getD j true = false := getD_in (by simp; omega) (getD_replicate_false _ _)
   rw [this]; rfl), List.length_range]
 have := key n _ _ _ I0 ht0
 rwa [show n + (l.length - n) = l.toArray.size by simp; omega] at this
end
end Go.Dx
end

section
/- Chapter 06: the law's example. -/
namespace Go.Dx
open Go.RowKit
def GEx (wr wo : World) (TT TR U : TypeId) (g1 g0 : Nat) (VC Z : List Value) (n : Nat) (ps : List RH) (ru : Ru) : Nat → List Value → World → Prop
 | 0, _, w => Below wr.heap.size wr w
 | _ + 1, vs, w => (∃ a' c', vs = [.slice a' n c'] ∧ ∃ b, ORu w TR U wo.heap.size a' c' (ps ++ [(ru, (some ⟨b, 0, none⟩, 1, 1))])) ∧ Box w g1 TT VC ∧ Box w g0 TT Z ∧ wo.grownBy w (some g1) ∧ wr.heap.size ≤ w.heap.size
section
variable {wr wo w w' : World} {TT TR U : TypeId} {g1 g0 : Nat} {VC Z : List Value} {n : Nat} {ps : List RH} {ru : Ru}
theorem GEx.mono : ∀ (j : Nat) (vs : List Value) (w w' : World), Below w.heap.size w w' → GEx wr wo TT TR U g1 g0 VC Z n ps ru j vs w → GEx wr wo TT TR U g1 g0 VC Z n ps ru j vs w'
 | 0, _, w, w', hb, h => Below.trans h (hb.mono (Below.size h))
 | _ + 1, vs, w, w', hb, ⟨⟨a', c', h1, b, h2⟩, h3, h4, h5, h6⟩ => ⟨⟨a', c', h1, b, h2.below hb⟩, h3.under hb, h4.under hb, grown_below h5 (hb.mono h5.size), Nat.le_trans h6 hb.size⟩
theorem GEx.box {j : Nat} {vs : List Value} (h : GEx wr wo TT TR U g1 g0 VC Z n ps ru j vs w) (hB : Box wr g1 TT VC) : Box w g1 TT VC := by
 cases j with
 | zero => exact hB.under h
 | succ j => exact h.2.1
theorem GEx.size {j : Nat} {vs : List Value} (h : GEx wr wo TT TR U g1 g0 VC Z n ps ru j vs w) : wr.heap.size ≤ w.heap.size := by
 cases j with
 | zero => exact Below.size h
 | succ j => exact h.2.2.2.2
end
end Go.Dx
namespace Go.Proofs.Ytlpkicjijlcbfaa
open Go.RowKit Go.Dx
theorem size_rules : (Try.prog.info? 23).map (·.size) = some 1 := by kernel_rfl
theorem agg_tables : IsAgg Try.prog 29 := .inr ⟨_, Try.underlying29⟩
theorem size_tables : (Try.prog.info? 29).map (·.size) = some 7 := by kernel_rfl
theorem size7 (v0 v1 v2 v3 v4 v5 v6 : Value) : (Try.prog.info? 29).map (·.size) = some ([v0, v1, v2, v3, v4, v5, v6] : List Value).length := size_tables
section
variable {w : World} {ops : Array Oper} {rest : List Oper} {o : Oper} {act : Act} {Q : Exit → Act → World → Prop}
theorem app_rus (hg : o.guard = none) (s x : Operand) (hop : o.op = Op.call { callee := Callee.builtin Builtin.append, args := #[s, x], argTypes := #[23, 23] })
  (w0 : World) (B : Nat) (a : Option Addr) (c : Nat) (ps qs : List RH) (hs : act.eval s = .slice a ps.length c) (hown : ORu w 84 5 B a c ps)
  (hq : ∀ p ∈ qs, Own w 0 5 1 p.2.1 p.2.2.1 p.2.2.2 (p.1.cells.map B8) ∧ p.1.text.size ≤ 1000) (a2 : Option Addr) (c2 : Nat) (hx : act.eval x = .slice a2 qs.length c2) (hy : Sl w 3 a2 qs.length c2 (qs.flatMap rc))
  (hn : ps.length ≤ 1000000) (hn2 : qs.length ≤ 1000000) (hB : B ≤ w.heap.size) (hbel : Below B w0 w)
  (hK : ∀ a' c' w', ORu w' 84 5 B a' c' (ps ++ qs) → Below B w0 w' → w.grownBy w' (a.map (·.block)) → wpList Try.prog ops Q rest (act.put o.dst (.slice a' (ps.length + qs.length) c')) w') :
  wpList Try.prog ops Q (o :: rest) act w := by
 refine append_own hg s x 23 hop 84 zeroRule 3 48 Try.underlying23 info_rule rfl w0 B a _ c _ hs hown.top a2 qs.length c2 (qs.flatMap rc) hx hy (one_flat rc_one qs) (by omega) (by unfold maxLen; omega) hB hbel ?_
 intro a' c' w' ho hgr hb
 refine hK a' c' w' ⟨by rw [List.length_append, List.flatMap_append]; exact ho, ?_⟩ hb hgr
 intro p hp
 have key : ∀ {q : RH}, Own w 0 5 1 q.2.1 q.2.2.1 q.2.2.2 (q.1.cells.map B8) → Own w' 0 5 1 q.2.1 q.2.2.1 q.2.2.2 (q.1.cells.map B8) := fun {q} h => h.kept hgr (fun r hr => by
  rw [hr] at h; exact far_map h hown.top (by decide))
 rcases List.mem_append.1 hp with hp | hp
 ·exact ⟨key (hown.row p hp).1, (hown.row p hp).2⟩
 ·exact ⟨key (hq p hp).1, (hq p hp).2⟩
end
def RO (w : World) (B : Nat) (v : Value) (L : List Ru) : Prop := ∃ a c ps, v = .slice a ps.length c ∧ ORu w 84 5 B a c ps ∧ rus ps = L
theorem RO.kept {w w' : World} {B : Nat} {v : Value} {L : List Ru} {g : Nat} {us : List Value} (h : RO w B v L) (hg : w.grownBy w' (some g)) (hx : Box w g 29 us) : RO w' B v L := by
 obtain ⟨a, c, ps, h1, h2, h3⟩ := h
 exact ⟨a, c, ps, h1, h2.kept hg hx (by decide) (by decide), h3⟩
theorem RO.below {w w' : World} {B : Nat} {v : Value} {L : List Ru} (h : RO w B v L) (hb : Below w.heap.size w w') : RO w' B v L := by
 obtain ⟨a, c, ps, h1, h2, h3⟩ := h
 exact ⟨a, c, ps, h1, h2.below hb, h3⟩
def blk : Value → Option Nat
 | .slice a _ _ => a.map (·.block)
 | _ => none
def apt (v0 v1 : Value) : Prop := ∀ b, blk v0 = some b → blk v1 ≠ some b
theorem apt_of {w w' : World} {B : Nat} {v : Value} {L : List Ru} (h : RO w B v L) {e : TypeId} {sz n c : Nat} {a : Option Addr} {cs : List Value} (h' : Own w' w.heap.size e sz a n c cs) : apt v (.slice a n c) := by
 obtain ⟨a0, c0, ps, rfl, ho, _⟩ := h
 intro b hb hb2
 have ht := ho.top
 cases a0 with
 | none => cases hb
 | some p =>
  cases a with
  | none => cases hb2
  | some q =>
   have h1 := ht.base.2
   have h2 := h'.base.1
   have e1 : p.block = b := by simpa [blk] using hb
   have e2 : q.block = b := by simpa [blk] using hb2
   omega
theorem box_map {w : World} {g B : Nat} {t e : TypeId} {us : List Value} {sz : Nat} {a : Option Addr} {n c : Nat} {cs : List Value} (h : Box w g t us) (h' : Own w B e sz a n c cs) (he : t ≠ e) : some g ≠ a.map (·.block) := by
 cases a with
 | none => simp
 | some q => have := box_far h h' he; simp; omega
def UB (w : World) (v : Value) (l : List UInt8) : Prop := ∃ a n c, v = .slice a n c ∧ Own w 0 5 1 a n c (l.map B8)
theorem UB.kept {w w' : World} {v : Value} {l : List UInt8} {g : Nat} {us : List Value} (h : UB w v l) (hg : w.grownBy w' (some g)) (hx : Box w g 29 us) : UB w' v l := by
 obtain ⟨a, n, c, h1, h2⟩ := h
 refine ⟨a, n, c, h1, h2.kept hg fun q hq => ?_⟩
 rw [hq] at h2
 have := box_far hx h2 (by decide)
 simpa using this
theorem UB.below {w w' : World} {v : Value} {l : List UInt8} (h : UB w v l) (hb : Below w.heap.size w w') : UB w' v l := by
 obtain ⟨a, n, c, h1, h2⟩ := h
 exact ⟨a, n, c, h1, h2.below hb⟩
theorem UB.new (w : World) (l : List UInt8) (n : Nat) (hn : l.length = n) (hm : n ≤ 100) : UB (w.alloc (.cells (l.map B8).toArray 5)) (.slice (some ⟨w.heap.size, 0, none⟩) n n) l := by
 refine ⟨_, _, _, rfl, ?_⟩
 have := Own.built w 0 5 1 n (l.map B8).toArray (Nat.zero_le _) (by simp [hn]) (by unfold maxLen; omega)
 simpa using this

end Go.Proofs.Ytlpkicjijlcbfaa
end

section
/- A slice literal, as a law of the walk that hands on an unnamed world. No program in sight. -/
namespace Go.Dx
open Go.RowKit
section
variable {P : Program} {w : World} {ops : Array Oper} {rest : List Oper} {act : Act} {Q : Exit → Act → World → Prop} {ty : TypeId} {pos : String} {after : Array Edge}
end
end Go.Dx
end

section
/- Chapter 06: the section's examples hold. -/
namespace Go.Dx
open Go.RowKit
def scells (s : St) : List Value := [.int .i64 s.lang, .bool s.num, .bool s.wrd]
end Go.Dx
namespace Go.Proofs.Ytlpkicjijlcbfaa
open Go.RowKit Go.Dx
theorem size_state : (Try.prog.info? 63).map (·.size) = some 3 := by kernel_rfl
theorem size_st3 (v0 v1 v2 : Value) : (Try.prog.info? 63).map (·.size) = some ([v0, v1, v2] : List Value).length := size_state
end Go.Proofs.Ytlpkicjijlcbfaa
end

section
/- Chapter 06: the tables that the reference makes. -/
namespace Go.Dx
open Go.RowKit
def GAp (wr wo : World) (TR U : TypeId) (n : Nat) (ps : List RH) (ru : Ru) : Nat → List Value → World → Prop
 | 0, _, w => Below wr.heap.size wr w
 | _ + 1, vs, w => (∃ a' c', vs = [.slice a' n c'] ∧ ∃ h, ORu w TR U wo.heap.size a' c' (ps ++ [(ru, h)])) ∧ Below wo.heap.size wo w ∧ wr.heap.size ≤ w.heap.size
section
variable {wr wo w w' : World} {TR U : TypeId} {n : Nat} {ps : List RH} {ru : Ru}
theorem GAp.mono : ∀ (j : Nat) (vs : List Value) (w w' : World), Below w.heap.size w w' → GAp wr wo TR U n ps ru j vs w → GAp wr wo TR U n ps ru j vs w'
 | 0, _, w, w', hb, h => Below.trans h (hb.mono (Below.size h))
 | _ + 1, vs, w, w', hb, ⟨⟨a', c', h1, b, h2⟩, h3, h4⟩ => ⟨⟨a', c', h1, b, h2.below hb⟩, h3.trans (hb.mono h3.size), Nat.le_trans h4 hb.size⟩
theorem GAp.size {j : Nat} {vs : List Value} (h : GAp wr wo TR U n ps ru j vs w) : wr.heap.size ≤ w.heap.size := by
 cases j with
 | zero => exact Below.size h
 | succ j => exact h.2.2
end
theorem wrap_in (x : Int) : -9223372036854775808 ≤ wrap64 x ∧ wrap64 x ≤ 9223372036854775807 := by unfold wrap64; omega
theorem marks_at : ∀ (i : Nat) (c : UInt8), i < 6 → marks6[i]? = some c → chars ((⟨#[32, 46, 44, 63, 39, 45]⟩ : ByteArray).extract i (i + 1)) = [c] := by
 intro i c hi
 rcases i with _ | _ | _ | _ | _ | _ | i
 ·intro h; cases h; decide
 ·intro h; cases h; decide
 ·intro h; cases h; decide
 ·intro h; cases h; decide
 ·intro h; cases h; decide
 ·intro h; cases h; decide
 ·omega
def GDg (wr w5 : World) (TT U : TypeId) (g1 : Nat) (us : List Value) (n : Nat) (ds : List UInt8) : Nat → List Value → World → Prop
 | 0, _, w => Below wr.heap.size wr w
 | _ + 1, vs, w => (∃ a' c', vs = [.slice a' n c'] ∧ Own w w5.heap.size U 1 a' n c' (ds.map B8)) ∧ Box w g1 TT us ∧ w5.grownBy w (some g1) ∧ wr.heap.size ≤ w.heap.size
section
variable {wr w5 w : World} {TT U : TypeId} {g1 : Nat} {us : List Value} {n : Nat} {ds : List UInt8}
theorem GDg.mono : ∀ (j : Nat) (vs : List Value) (w w' : World), Below w.heap.size w w' → GDg wr w5 TT U g1 us n ds j vs w → GDg wr w5 TT U g1 us n ds j vs w'
 | 0, _, w, w', hb, h => Below.trans h (hb.mono (Below.size h))
 | _ + 1, vs, w, w', hb, ⟨⟨a', c', h1, h2⟩, h3, h5, h6⟩ => ⟨⟨a', c', h1, h2.below hb⟩, h3.under hb, grown_below h5 (hb.mono h5.size), Nat.le_trans h6 hb.size⟩
theorem GDg.box {j : Nat} {vs : List Value} (h : GDg wr w5 TT U g1 us n ds j vs w) (hB : Box wr g1 TT us) : Box w g1 TT us := by
 cases j with
 | zero => exact hB.under h
 | succ j => exact h.2.1
theorem GDg.size {j : Nat} {vs : List Value} (h : GDg wr w5 TT U g1 us n ds j vs w) : wr.heap.size ≤ w.heap.size := by
 cases j with
 | zero => exact Below.size h
 | succ j => exact h.2.2.2
end
def texts12 : List ByteArray := [⟨#[116, 104]⟩, ⟨#[101, 114]⟩, ⟨#[116, 104, 101]⟩, ⟨#[105, 110, 103]⟩, ⟨#[97, 110, 100]⟩, ⟨#[97, 110]⟩, ⟨#[115, 116]⟩, ⟨#[105, 110]⟩, ⟨#[111, 117]⟩, ⟨#[116, 105, 111, 110]⟩, ⟨#[98, 101]⟩, ⟨#[98, 117, 116]⟩]
theorem texts12_ok : ∀ s ∈ texts12, (decide (1 ≤ s.size) && decide (s.size ≤ 8) && small s) = true := by decide
theorem contr_ok {s : ByteArray} (hs : s ∈ texts12) {wh : Int} (h0 : 0 ≤ wh) (h3 : wh ≤ 3) {cs : List UInt8} (hc : indic cs = true) : ruOk ⟨s, wh, cs⟩ = true := by
 have := texts12_ok s hs
 unfold ruOk
 simp only [Bool.and_eq_true, decide_eq_true_eq] at this ⊢
 simp [this.1.1, this.1.2, this.2, h0, h3, hc]
end Go.Dx
namespace Go.Proofs.Ytlpkicjijlcbfaa
open Go.RowKit Go.Dx
theorem size_tab : (Try.prog.info? 25).map (·.size) = some 1 := by kernel_rfl
theorem size_tab1 (v : Value) : (Try.prog.info? 25).map (·.size) = some ([v] : List Value).length := size_tab
theorem size_ru3 (v0 v1 v2 : Value) : (Try.prog.info? 84).map (·.size) = some ([v0, v1, v2] : List Value).length := size_rule
theorem around_ex (m : Nat) (x v : Int) (w : World) (hv : (m : Int) = v) (h0 : -9223372036854775808 ≤ x ∧ x ≤ 9223372036854775807) (hm : 1 ≤ m) (hm2 : m ≤ 1000000000) :
  Calls Try.prog 23 #[.int .i64 x, .int .i64 v] w fun e w' => ∃ r : Nat, r < m ∧ e = .returned (.int .i64 (r : Int)) ∧ w = w' := by
 obtain ⟨r, hr, h⟩ := around_any x v m w hv h0.1 h0.2 hm hm2
 exact (h w).mono (fun e w' ⟨h1, h2⟩ => ⟨r, hr, h1, h2⟩)
theorem cell_ex (n : Int) (h0 : -9223372036854775808 ≤ n) (h1 : n ≤ 9223372036854775807) (k : Nat) (x : Int) (hx : (k : Int) = x) (hk : k ≤ 100) (w : World) :
  Calls Try.prog 36 #[.int .i64 n, .int .i64 x] w fun e w' => ∃ v : UInt8, cellOk v = true ∧ e = .returned (.int .u8 (v.toNat : Int)) ∧ Below w.heap.size w w' := by
 subst hx
 obtain ⟨v, hv, h⟩ := ref_cell n h0 h1 k hk
 exact (h w).mono (fun e w' ⟨h1, h2⟩ => ⟨v, hv, h1, h2⟩)
def RB (wr w : World) (g : Nat) (s : ByteArray) (r : Int) : Prop := ∃ (cs : List UInt8) (a : Option Addr) (m c : Nat), indic cs = true ∧ Box w g 84 [.string s, .int .i64 r, .slice a m c] ∧ Own w 0 5 1 a m c (cs.map B8) ∧ Below wr.heap.size wr w
theorem RB.set {wr w w' : World} {g : Nat} {s : ByteArray} {r : Int} {a : Option Addr} {m c : Nat} {old : List Value} {cs : List UInt8} (hx : Box w g 84 old) (ho : Own w 0 5 1 a m c (cs.map B8)) (hc : indic cs = true)
  (hb : Below wr.heap.size wr w) (hg : wr.heap.size ≤ g) (hgr : w.grownBy w' (some g)) (hx' : Box w' g 84 [.string s, .int .i64 r, .slice a m c]) : RB wr w' g s r := by
 refine ⟨cs, a, m, c, hc, hx', ho.kept hgr fun q hq => ?_, hb.grown hgr hb.size (fun q hq => by cases hq; exact hg)⟩
 rw [hq] at ho
 have := box_far hx ho (by decide)
 simpa using this
def RG (w : World) (B : Nat) (v : Value) : Prop := ∃ L L', Raw L ∧ OnceOf L L' ∧ RO w B v L'
theorem RG.below {w w' : World} {B : Nat} {v : Value} (h : RG w B v) (hb : Below w.heap.size w w') : RG w' B v := by
 obtain ⟨L, L', h1, h2, h3⟩ := h
 exact ⟨L, L', h1, h2, h3.below hb⟩
theorem RG.kept {w w' : World} {B : Nat} {v : Value} {g : Nat} {us : List Value} (h : RG w B v) (hg : w.grownBy w' (some g)) (hx : Box w g 29 us) : RG w' B v := by
 obtain ⟨L, L', h1, h2, h3⟩ := h
 exact ⟨L, L', h1, h2, h3.kept hg hx⟩
theorem UB.nil (w : World) : UB w (.slice none 0 0) [] := ⟨none, 0, 0, rfl, Own.nil _ _ _ _⟩
structure TW (w0 w : World) (B g1 g0 : Nat) (v0 v1 : Value) (vs : List Value) (ls : List (List UInt8)) : Prop where
 box : Box w g1 29 (v0 :: v1 :: vs)
 out : Box w g0 29 [.slice none 0 0, .slice none 0 0, .slice none 0 0, .slice none 0 0, .slice none 0 0, .slice none 0 0, .slice none 0 0]
 l0 : RG w B v0
 l1 : RG w B v1
 len : vs.length = 5
 row : ∀ (j : Nat) (v : Value) (l : List UInt8), vs[j]? = some v → ls[j]? = some l → UB w v l
 bel : Below B w0 w
theorem TW.below {w0 w w' : World} {B g1 g0 : Nat} {v0 v1 : Value} {vs : List Value} {ls : List (List UInt8)} (h : TW w0 w B g1 g0 v0 v1 vs ls) (hb : Below w.heap.size w w') (hB : B ≤ w0.heap.size) : TW w0 w' B g1 g0 v0 v1 vs ls :=
 ⟨h.box.under hb, h.out.under hb, h.l0.below hb, h.l1.below hb, h.len, fun j v l h1 h2 => (h.row j v l h1 h2).below hb, h.bel.trans (hb.mono (Nat.le_trans hB h.bel.size))⟩
theorem TW.store {w0 w w' : World} {B g1 g0 : Nat} {v0 v1 : Value} {vs : List Value} {ls : List (List UInt8)} (h : TW w0 w B g1 g0 v0 v1 vs ls) {j : Nat} {u : Value} {l : List UInt8} (hg : w.grownBy w' (some g1)) (hx : Box w' g1 29 (v0 :: v1 :: vs.set j u)) (hu : UB w u l) (hB : B ≤ g1) (hB0 : B ≤ w0.heap.size) (h01 : some g0 ≠ some g1) :
  TW w0 w' B g1 g0 v0 v1 (vs.set j u) (ls.set j l) := by
 refine ⟨hx, h.out.grown hg h01, h.l0.kept hg h.box, h.l1.kept hg h.box, by rw [List.length_set]; exact h.len, ?_, h.bel.grown hg (Nat.le_trans hB0 h.bel.size) (fun q hq => by cases hq; exact hB)⟩
 intro i v m h1 h2
 rw [List.getElem?_set] at h1 h2
 by_cases e : j = i
 ·subst e
  rw [if_pos rfl] at h1 h2
  split at h1
  ·split at h2
   ·cases h1; cases h2; exact hu.kept hg h.box
   ·cases h2
  ·cases h1
 ·rw [if_neg e] at h1 h2
  exact (h.row i v m h1 h2).kept hg h.box
theorem UB8 {w w' : World} {g B n c : Nat} {a : Option Addr} {us cs : List Value} (hx : Box w g 29 us) (h2 : Own w B 5 1 a n c cs) (hg : w.grownBy w' (some g)) : Own w' B 5 1 a n c cs := by
 refine h2.kept hg fun q hq => ?_
 rw [hq] at h2
 have := box_far hx h2 (by decide)
 simpa using this

set_option maxRecDepth 100000 in
set_option maxHeartbeats 8000000 in
theorem ref_Tables (n : Int) (hn0 : -9223372036854775808 ≤ n) (hn1 : n ≤ 9223372036854775807) (w : World) : Calls Try.prog 9 #[.int .i64 n] w fun e w' => ∃ H t, e = .returned (TH.v H) ∧ TaIs w' H t ∧ GoodTa t ∧ Below w.heap.size w w' := by
 have X0 := (Box.new w 29 #[.slice none 0 0, .slice none 0 0, .slice none 0 0, .slice none 0 0, .slice none 0 0, .slice none 0 0, .slice none 0 0]).alloc (.cells #[.slice none 0 0, .slice none 0 0, .slice none 0 0, .slice none 0 0, .slice none 0 0, .slice none 0 0, .slice none 0 0] 29)
 have X1 := Box.new (w.alloc (.cells #[.slice none 0 0, .slice none 0 0, .slice none 0 0, .slice none 0 0, .slice none 0 0, .slice none 0 0, .slice none 0 0] 29)) 29 #[.slice none 0 0, .slice none 0 0, .slice none 0 0, .slice none 0 0, .slice none 0 0, .slice none 0 0, .slice none 0 0]
 rw [show (w.alloc (.cells #[.slice none 0 0, .slice none 0 0, .slice none 0 0, .slice none 0 0, .slice none 0 0, .slice none 0 0, .slice none 0 0] 29)).heap.size = w.heap.size + 1 by simp] at X1
 have hb0 : Below w.heap.size w ((w.alloc (.cells #[.slice none 0 0, .slice none 0 0, .slice none 0 0, .slice none 0 0, .slice none 0 0, .slice none 0 0, .slice none 0 0] 29)).alloc (.cells #[.slice none 0 0, .slice none 0 0, .slice none 0 0, .slice none 0 0, .slice none 0 0, .slice none 0 0, .slice none 0 0] 29)) := (blo w _).trans ((blo _ _).mono (by simp))
 obtain ⟨g1, hg1⟩ : ∃ g1, g1 = w.heap.size + 1 := ⟨_, rfl⟩
 have hg1w : w.heap.size ≤ g1 := by omega
 have hg01 : some w.heap.size ≠ some g1 := by simp; omega
 go_enter Try.func9, Try.ntmps9
 go_wp2_with fail
 rw [← hg1] at X1 ⊢
 clear hg1
 generalize (w.alloc (.cells _ 29)).alloc (.cells _ 29) = w2 at *
 go_loopg [4] 2 (fun gh v w' => ∃ (k : Nat) (v0 v1 : Value), k ≤ 2 ∧ gh = 2 - k ∧ v = .int .i64 (k : Int) ∧ Box w' g1 29 [v0, v1, .slice none 0 0, .slice none 0 0, .slice none 0 0, .slice none 0 0, .slice none 0 0] ∧ Box w' w.heap.size 29 [.slice none 0 0, .slice none 0 0, .slice none 0 0, .slice none 0 0, .slice none 0 0, .slice none 0 0, .slice none 0 0] ∧ (1 ≤ k → RG w' w.heap.size v0) ∧ (2 ≤ k → RG w' w.heap.size v1) ∧ Below w.heap.size w w')
 case atStart => exact ⟨0, _, _, by omega, by omega, rfl, X1, X0, fun h => by omega, fun h => by omega, hb0⟩
 case round =>
  clear X0 X1 hb0
  obtain ⟨k, v0, v1, hk, hg, rfl, hX1, hX0, hr0, hr1, hb⟩ := hrel
  have HG := hide hg
  clear hg
  by_cases hkl : k < 2
  ·obtain ⟨wo, rfl⟩ : ∃ wo : World, wo = wr := ⟨_, rfl⟩
   have d0 : decide (k < 2) = true := decide_eq_true hkl
   have d0' : decide ((k : Int) < 2) = true := decide_eq_true (by omega)
   go_wp2_with fail
   go_loopg [5, 6] 26 (fun gh l v w' => ∃ (i : Nat) (ps : List RH) (a : Option Addr) (c : Nat), i ≤ 26 ∧ gh = 26 - i ∧ l = .slice a ps.length c ∧ v = .int .i64 (i : Int) ∧ Hid (Raw1 (rus ps) i) ∧ ORu w' 84 5 wo.heap.size a c ps ∧ Below wo.heap.size wo w')
   case atStart => exact ⟨0, [], none, 0, by omega, by omega, rfl, rfl, hide Raw1.zero, ORu.nil _ _ _ _, Below.refl _ _⟩
   case round =>
    obtain ⟨i, ps, a, c, hi, hgi, rfl, rfl, HRW, hOR, hbo⟩ := hrel
    have HGI := hide hgi
    have hple : ps.length ≤ 26 := by have := HRW.out.len; unfold rus at this; rw [List.length_map] at this; omega
    clear hgi
    by_cases hil : i < 26
    ·obtain ⟨cu, hcu⟩ : ∃ cu, cu = UInt8.ofNat (97 + i) := ⟨_, rfl⟩
     have HU97 : Hid (([.int .u8 (97 + (i : Int))] : List Value) = [cu].map B8) := hide (by
      have : (cu.toNat : Int) = 97 + (i : Int) := by rw [hcu, UInt8.toNat_ofNat']; omega
      show _ = [Value.int .u8 (cu.toNat : Int)]
      rw [this])
     obtain ⟨kk, hkk⟩ : ∃ kk : Nat, kk = (i + 3 * k) % 26 := ⟨_, rfl⟩
     have HKK : Hid (((i : Int) + 3 * (k : Int)) % 26 = (kk : Int)) := hide (by omega)
     have HKT : Hid (((i : Int) + 3 * (k : Int)).tmod 26 = (kk : Int)) := hide (by rw [Int.tmod_eq_emod_of_nonneg (by omega)]; exact HKK.out)
     obtain ⟨cv, hcv, hcal⟩ := ref_cell n hn0 hn1 kk (by omega)
     have HCV := hide hcal
     have HST : Hid (∀ h, Hid (Raw1 (rus (ps ++ [((⟨⟨#[cu]⟩, 0, [cv]⟩ : Ru), h)])) (i + 1))) := hide (fun h => hide (by
      have := HRW.out.step hil (s := ⟨#[cu]⟩) (by rw [hcu]; rfl) hcv
      unfold rus at this ⊢
      simpa using this))
     clear hcu hkk hcal hcv
     have HNE : Hid (∀ b, wr.heap.size ≤ b → some b ≠ a.map (·.block)) := hide (fun b hb => own_map hOR.top hb)
     go_wp2_with fail
     refine wp_region_chain4 17 (fun w w' => w.grownBy w' (a.map (·.block))) (GAp wr wo 84 5 (ps.length + 1) ps (⟨⟨#[cu]⟩, 0, [cv]⟩ : Ru)) [⟨16, 39, [], fun _ _ => True⟩] [⟨0, 23, [23], fun vs _ => vs = [.slice a ps.length c]⟩, ⟨1, 24, [24], fun vs _ => vs = [.int .i64 (i : Int)]⟩, ⟨2, 25, [25], fun vs _ => vs = [.int .i64 (97 + (i : Int))]⟩, ⟨3, 26, [26], fun vs _ => vs = [.int .u8 (97 + (i : Int))]⟩, ⟨4, 27, [27], fun vs w' => ∃ b, vs = [.slice (some ⟨b, 0, none⟩) 1 1] ∧ wr.heap.size ≤ b ∧ Own w' 0 5 1 (some ⟨b, 0, none⟩) 1 1 [.int .u8 (97 + (i : Int))]⟩, ⟨5, 28, [28], fun vs _ => vs = [.string ⟨#[cu]⟩]⟩, ⟨6, 29, [29], fun vs _ => vs = [.int .i64 n]⟩, ⟨7, 30, [30], fun vs _ => vs = [.int .i64 (i : Int)]⟩, ⟨8, 31, [31], fun vs _ => vs = [.int .i64 (k : Int)]⟩, ⟨9, 32, [32], fun vs _ => vs = [.int .i64 (3 * (k : Int))]⟩, ⟨10, 33, [33], fun vs _ => vs = [.int .i64 ((i : Int) + 3 * (k : Int))]⟩, ⟨11, 34, [34], fun vs _ => vs = [.int .i64 (kk : Int)]⟩, ⟨12, 35, [35], fun vs _ => vs = [.int .u8 (cv.toNat : Int)]⟩, ⟨13, 36, [36], fun vs w' => ∃ b, vs = [.slice (some ⟨b, 0, none⟩) 1 1] ∧ wr.heap.size ≤ b ∧ Own w' 0 5 1 (some ⟨b, 0, none⟩) 1 1 ([cv].map B8)⟩, ⟨14, 37, [37], fun vs w' => ∃ b, vs = [.agg #[.string (⟨⟨#[cu]⟩, 0, [cv]⟩ : Ru).text, .int .i64 0, .slice (some ⟨b, 0, none⟩) 1 1]] ∧ wr.heap.size ≤ b ∧ Own w' 0 5 1 (some ⟨b, 0, none⟩) 1 1 ([cv].map B8)⟩, ⟨15, 38, [38], fun vs w' => ∃ b2, vs = [.slice (some ⟨b2, 0, none⟩) 1 1] ∧ wr.heap.size ≤ b2 ∧ ∃ b, wr.heap.size ≤ b ∧ Sl w' 3 (some ⟨b2, 0, none⟩) 1 1 (rc ((⟨⟨#[cu]⟩, 0, [cv]⟩ : Ru), (some ⟨b, 0, none⟩, 1, 1))) ∧ Own w' 0 5 1 (some ⟨b, 0, none⟩) 1 1 ([cv].map B8)⟩] (by kernel_rfl) (by kernel_rfl) ?_ (fun _ _ h => grown_of_below h _) GAp.mono ?_ ?_ ?_ ?_
     ·exact (Still.below 1 : Below wr.heap.size wr (wr.drewN 1))
     ·simp only [All]
      refine ⟨(fun _ _ _ _ h => h), (fun _ _ _ _ h => h), (fun _ _ _ _ h => h), (fun _ _ _ _ h => h), (fun vs w1 w2 hr ⟨b, h1, h0, h2⟩ => ⟨b, h1, h0, h2.kept hr (fun q hq => by cases hq; exact HNE.out b h0)⟩), (fun _ _ _ _ h => h), (fun _ _ _ _ h => h), (fun _ _ _ _ h => h), (fun _ _ _ _ h => h), (fun _ _ _ _ h => h), (fun _ _ _ _ h => h), (fun _ _ _ _ h => h), (fun _ _ _ _ h => h), (fun vs w1 w2 hr ⟨b, h1, h0, h2⟩ => ⟨b, h1, h0, h2.kept hr (fun q hq => by cases hq; exact HNE.out b h0)⟩), (fun vs w1 w2 hr ⟨b, h1, h0, h2⟩ => ⟨b, h1, h0, h2.kept hr (fun q hq => by cases hq; exact HNE.out b h0)⟩), (fun vs w1 w2 hr ⟨b2, h1, h2, b, h0, h3, h4⟩ => ⟨b2, h1, h2, b, h0, h3.grown hr (fun q hq => by cases hq; exact HNE.out b2 h2), h4.kept hr (fun q hq => by cases hq; exact HNE.out b h0)⟩), trivial⟩
     ·intro m c hc o ho a' w' hG hfr hdep
      rcases m with _ | m
      ·cases hc
       obtain rfl := oj ho
       have hb : Below wr.heap.size wr w' := hG
       have g23 : a'.tmps[23]?.getD undef = .slice a ps.length c := by simpa using hdep 0 _ rfl (by kernel_rfl)
       obtain ⟨b2, g38, hb2, b8, _, hs2, ho8⟩ := hdep 15 _ rfl (by kernel_rfl)
       simp at g38
       clear hfr hdep hG
       have hOw := hOR.below hb
       have hbo2 := hbo.trans (hb.mono hbo.size)
       refine app_ru2 rfl _ _ rfl wo wo.heap.size a c ps (by show a'.tmps.getD 23 undef = _; simpa using g23) hOw ((⟨⟨#[cu]⟩, 0, [cv]⟩ : Ru), (some ⟨b8, 0, none⟩, 1, 1)) ho8 (by show (1 : Nat) ≤ 1000; decide) (some ⟨b2, 0, none⟩) 1 (by show a'.tmps.getD 38 undef = _; simpa using g38) hs2 (by omega) hbo2.size hbo2 ?_
       intro a3 c3 w7 ho7 hb7 hgr7
       go_wp2
       exact ⟨rfl, _, rfl, hgr7, ⟨a3, c3, rfl, _, ho7⟩, hb7, Nat.le_trans hb.size hgr7.size⟩
      ·cases hc
     ·simp only [All]
      refine ⟨?_, ?_, ?_, ?_, ?_, ?_, ?_, ?_, ?_, ?_, ?_, ?_, ?_, ?_, ?_, ?_, trivial⟩
      ·intro o ho a' w' hfr hdep hst; obtain rfl := oj ho
       have g5 : a'.tmps[5]?.getD undef = .slice a ps.length c := by simpa using hfr 5 (by kernel_rfl)
       clear ho hfr hdep hst; go_wp2_with fail; exact ⟨rfl, _, rfl, br, rfl⟩
      ·intro o ho a' w' hfr hdep hst; obtain rfl := oj ho
       have g6 : a'.tmps[6]?.getD undef = .int .i64 (i : Int) := by simpa using hfr 6 (by kernel_rfl)
       clear ho hfr hdep hst; go_wp2_with fail; exact ⟨rfl, _, rfl, br, rfl⟩
      ·intro o ho a' w' hfr hdep hst; obtain rfl := oj ho
       have g24 : a'.tmps[24]?.getD undef = .int .i64 (i : Int) := by simpa using hdep 1 _ rfl (by kernel_rfl)
       clear ho hfr hdep hst; go_wp2_with fail; exact ⟨rfl, _, rfl, br, rfl⟩
      ·intro o ho a' w' hfr hdep hst; obtain rfl := oj ho
       have g25 : a'.tmps[25]?.getD undef = .int .i64 (97 + (i : Int)) := by simpa using hdep 2 _ rfl (by kernel_rfl)
       clear ho hfr hdep hst; go_wp2_with fail; exact ⟨rfl, _, rfl, br, rfl⟩
      ·intro o ho a' w' hfr hdep hst; obtain rfl := oj ho
       have g26 : a'.tmps[26]?.getD undef = .int .u8 (97 + (i : Int)) := by simpa using hdep 3 _ rfl (by kernel_rfl)
       obtain ⟨j, _, _, hG⟩ := hst
       clear ho hfr hdep; have hsz := hG.size
       clear hG
       go_wp2_with fail
       exact ⟨rfl, _, rfl, blo _ _, _, rfl, hsz, Own.built w' 0 5 1 1 #[.int .u8 (97 + (i : Int))] (Nat.zero_le _) rfl (by decide)⟩
      ·intro o ho a' w' hfr hdep hst; obtain rfl := oj ho
       obtain ⟨b8, g27, hb8, ho8⟩ := hdep 4 _ rfl (by kernel_rfl)
       simp at g27
       clear ho hfr hdep hst; have hs8 := ho8.sl
       rw [HU97.out] at hs8
       refine to_str 28 _ (some ⟨b8, 0, none⟩) 1 1 [cu] (by show a'.tmps.getD 27 undef = _; simpa using g27) hs8 ?_
       go_wp2_with fail; exact ⟨rfl, _, rfl, br, rfl⟩
      ·intro o ho a' w' hfr hdep hst; obtain rfl := oj ho
       have g0 : a'.tmps[0]?.getD undef = .int .i64 n := by simpa using hfr 0 (by kernel_rfl)
       clear ho hfr hdep hst; go_wp2_with fail; exact ⟨rfl, _, rfl, br, rfl⟩
      ·intro o ho a' w' hfr hdep hst; obtain rfl := oj ho
       have g6 : a'.tmps[6]?.getD undef = .int .i64 (i : Int) := by simpa using hfr 6 (by kernel_rfl)
       clear ho hfr hdep hst; go_wp2_with fail; exact ⟨rfl, _, rfl, br, rfl⟩
      ·intro o ho a' w' hfr hdep hst; obtain rfl := oj ho
       have g4 : a'.tmps[4]?.getD undef = .int .i64 (k : Int) := by simpa using hfr 4 (by kernel_rfl)
       clear ho hfr hdep hst; go_wp2_with fail; exact ⟨rfl, _, rfl, br, rfl⟩
      ·intro o ho a' w' hfr hdep hst; obtain rfl := oj ho
       have g31 : a'.tmps[31]?.getD undef = .int .i64 (k : Int) := by simpa using hdep 8 _ rfl (by kernel_rfl)
       clear ho hfr hdep hst; go_wp2_with fail; exact ⟨rfl, _, rfl, br, rfl⟩
      ·intro o ho a' w' hfr hdep hst; obtain rfl := oj ho
       have g30 : a'.tmps[30]?.getD undef = .int .i64 (i : Int) := by simpa using hdep 7 _ rfl (by kernel_rfl)
       have g32 : a'.tmps[32]?.getD undef = .int .i64 (3 * (k : Int)) := by simpa using hdep 9 _ rfl (by kernel_rfl)
       clear ho hfr hdep hst; go_wp2_with fail; exact ⟨rfl, _, rfl, br, rfl⟩
      ·intro o ho a' w' hfr hdep hst; obtain rfl := oj ho
       have g33 : a'.tmps[33]?.getD undef = .int .i64 ((i : Int) + 3 * (k : Int)) := by simpa using hdep 10 _ rfl (by kernel_rfl)
       clear ho hfr hdep hst; have hkk := HKK.out
       have hkt := HKT.out
       go_wp2_with fail; exact ⟨rfl, _, rfl, br, rfl⟩
      ·intro o ho a' w' hfr hdep hst; obtain rfl := oj ho
       have g29 : a'.tmps[29]?.getD undef = .int .i64 n := by simpa using hdep 6 _ rfl (by kernel_rfl)
       have g34 : a'.tmps[34]?.getD undef = .int .i64 (kk : Int) := by simpa using hdep 11 _ rfl (by kernel_rfl)
       clear ho hfr hdep hst; go_wp2_with fail
       refine (HCV.out _).mono ?_
       rintro e w2 ⟨rfl, hb2⟩
       go_wp2_with fail
       exact ⟨rfl, _, rfl, hb2, rfl⟩
      ·intro o ho a' w' hfr hdep hst; obtain rfl := oj ho
       have g35 : a'.tmps[35]?.getD undef = .int .u8 (cv.toNat : Int) := by simpa using hdep 12 _ rfl (by kernel_rfl)
       obtain ⟨j, _, _, hG⟩ := hst
       clear ho hfr hdep; have hsz := hG.size
       clear hG
       go_wp2_with fail
       exact ⟨rfl, _, rfl, blo _ _, _, rfl, hsz, Own.built w' 0 5 1 1 #[.int .u8 (cv.toNat : Int)] (Nat.zero_le _) rfl (by decide)⟩
      ·intro o ho a' w' hfr hdep hst; obtain rfl := oj ho
       have g28 : a'.tmps[28]?.getD undef = .string ⟨#[cu]⟩ := by simpa using hdep 5 _ rfl (by kernel_rfl)
       obtain ⟨b8, g36, hb8, ho8⟩ := hdep 13 _ rfl (by kernel_rfl)
       simp at g36
       clear ho hfr hdep hst; go_wp2_with fail; exact ⟨rfl, _, rfl, br, b8, rfl, hb8, ho8⟩
      ·intro o ho a' w' hfr hdep hst; obtain rfl := oj ho
       obtain ⟨b8, g37, hb8, ho8⟩ := hdep 14 _ rfl (by kernel_rfl)
       simp at g37
       obtain ⟨j, _, _, hG⟩ := hst
       clear ho hfr hdep; have hsz := hG.size
       clear hG
       go_wp2_with fail
       exact ⟨rfl, _, rfl, blo _ _, _, rfl, hsz, b8, hb8, Sl.fresh _ _ 3 1 (rc ((⟨⟨#[cu]⟩, 0, [cv]⟩ : Ru), (some ⟨b8, 0, none⟩, 1, 1))) rfl (by decide), ho8.alloc _⟩
     ·intro g w7 hG hp
      obtain ⟨⟨a7, c7, p39, h7, ho7⟩, hB7, _⟩ := hG
      clear hp
      simp at p39
      simp only [List.drop_succ_cons, List.drop_zero, List.map_cons, List.map_nil, putAll, Act.put, List.setIfInBounds_toArray, List.set_cons_succ, List.set_cons_zero, List.cons_append, List.nil_append, p39]
      clear p39
      go_wp2_with fail
      go_roundg (26 - (i + 1))
      case measure => have := HGI.out; omega
      case rel => exact ⟨i + 1, ps ++ [((⟨⟨#[cu]⟩, 0, [cv]⟩ : Ru), h7)], a7, c7, by omega, rfl, by rw [List.length_append]; rfl, by go_num, HST.out h7, ho7, hB7⟩
    ·obtain rfl : i = 26 := by omega
     have HR2 := hide (Raw2.zero HRW.out)
     go_wp2_with fail
     go_loopg [5, 8] 6 (fun gh l v w' => ∃ (i : Nat) (ps : List RH) (a : Option Addr) (c : Nat), i ≤ 6 ∧ gh = 6 - i ∧ l = .slice a ps.length c ∧ v = .int .i64 (i : Int) ∧ Hid (Raw2 (rus ps) i) ∧ ORu w' 84 5 wo.heap.size a c ps ∧ Below wo.heap.size wo w')
     case atStart => exact ⟨0, ps, a, c, by omega, by omega, rfl, rfl, HR2, hOR, hbo⟩
     case round =>
      clear hOR hbo HRW HGI hple HR2
      obtain ⟨i, ps, a, c, hi, hgi, rfl, rfl, HRW, hOR, hbo⟩ := hrel
      have HGI := hide hgi
      have hple : ps.length ≤ 32 := by have := HRW.out.len; unfold rus at this; rw [List.length_map] at this; omega
      clear hgi
      by_cases hil : i < 6
      ·obtain ⟨cm, hcm⟩ : ∃ cm, marks6[i]? = some cm := ⟨_, List.getElem?_eq_getElem (show i < marks6.length from hil)⟩
       obtain ⟨sm, hsm⟩ : ∃ sm, sm = (⟨#[32, 46, 44, 63, 39, 45]⟩ : ByteArray).extract i (i + 1) := ⟨_, rfl⟩
       have hsc : chars sm = [cm] := by rw [hsm]; exact marks_at i cm hil hcm
       have HSZ : Hid (sm.size ≤ 1000) := hide (by rw [size_chars, hsc]; show (1 : Nat) ≤ 1000; decide)
       have HSL : Hid (∀ wx : World, (Instr.slice 9 (.string ⟨#[32, 46, 44, 63, 39, 45]⟩) (some (.int .i64 (i : Int))) (some (.int .i64 ((i : Int) + 1))) none).run Try.prog wx = .ok (.string sm) wx) := hide (fun wx => by
        rw [run_slice_string (P := Try.prog) (w := wx) 9 _ .i64 .i64 (i : Int) ((i : Int) + 1) Try.underlying9 (by omega) (by omega) (by show (i : Int) + 1 ≤ ((6 : Nat) : Int); omega), hsm]
        rfl)
       obtain ⟨cv, hcv, hcal⟩ := ref_cell n hn0 hn1 (26 + i) (by omega)
       rw [show (((26 + i : Nat)) : Int) = 26 + (i : Int) by omega] at hcal
       have HCV := hide hcal
       have HST : Hid (∀ h, Hid (Raw2 (rus (ps ++ [((⟨sm, 0, [cv]⟩ : Ru), h)])) (i + 1))) := hide (fun h => hide (by
        have := HRW.out.step hcm hsc hcv
        unfold rus at this ⊢
        simpa using this))
       clear hsm hcm hsc hcal hcv
       have HNE : Hid (∀ b, wr.heap.size ≤ b → some b ≠ a.map (·.block)) := hide (fun b hb => own_map hOR.top hb)
       go_wp2_with fail
       refine wp_region_chain4 14 (fun w w' => w.grownBy w' (a.map (·.block))) (GAp wr wo 84 5 (ps.length + 1) ps (⟨sm, 0, [cv]⟩ : Ru)) [⟨13, 59, [], fun _ _ => True⟩] [⟨0, 46, [46], fun vs _ => vs = [.slice a ps.length c]⟩, ⟨1, 47, [47], fun vs _ => vs = [.string ⟨#[32, 46, 44, 63, 39, 45]⟩]⟩, ⟨2, 48, [48], fun vs _ => vs = [.int .i64 (i : Int)]⟩, ⟨3, 49, [49], fun vs _ => vs = [.int .i64 (i : Int)]⟩, ⟨4, 50, [50], fun vs _ => vs = [.int .i64 ((i : Int) + 1)]⟩, ⟨5, 51, [51], fun vs _ => vs = [.string sm]⟩, ⟨6, 52, [52], fun vs _ => vs = [.int .i64 n]⟩, ⟨7, 53, [53], fun vs _ => vs = [.int .i64 (i : Int)]⟩, ⟨8, 54, [54], fun vs _ => vs = [.int .i64 (26 + (i : Int))]⟩, ⟨9, 55, [55], fun vs _ => vs = [.int .u8 (cv.toNat : Int)]⟩, ⟨10, 56, [56], fun vs w' => ∃ b, vs = [.slice (some ⟨b, 0, none⟩) 1 1] ∧ wr.heap.size ≤ b ∧ Own w' 0 5 1 (some ⟨b, 0, none⟩) 1 1 ([cv].map B8)⟩, ⟨11, 57, [57], fun vs w' => ∃ b, vs = [.agg #[.string (⟨sm, 0, [cv]⟩ : Ru).text, .int .i64 0, .slice (some ⟨b, 0, none⟩) 1 1]] ∧ wr.heap.size ≤ b ∧ Own w' 0 5 1 (some ⟨b, 0, none⟩) 1 1 ([cv].map B8)⟩, ⟨12, 58, [58], fun vs w' => ∃ b2, vs = [.slice (some ⟨b2, 0, none⟩) 1 1] ∧ wr.heap.size ≤ b2 ∧ ∃ b, wr.heap.size ≤ b ∧ Sl w' 3 (some ⟨b2, 0, none⟩) 1 1 (rc ((⟨sm, 0, [cv]⟩ : Ru), (some ⟨b, 0, none⟩, 1, 1))) ∧ Own w' 0 5 1 (some ⟨b, 0, none⟩) 1 1 ([cv].map B8)⟩] (by kernel_rfl) (by kernel_rfl) ?_ (fun _ _ h => grown_of_below h _) GAp.mono ?_ ?_ ?_ ?_
       ·exact (Still.below 1 : Below wr.heap.size wr (wr.drewN 1))
       ·simp only [All]
        refine ⟨(fun _ _ _ _ h => h), (fun _ _ _ _ h => h), (fun _ _ _ _ h => h), (fun _ _ _ _ h => h), (fun _ _ _ _ h => h), (fun _ _ _ _ h => h), (fun _ _ _ _ h => h), (fun _ _ _ _ h => h), (fun _ _ _ _ h => h), (fun _ _ _ _ h => h), (fun vs w1 w2 hr ⟨b, h1, h0, h2⟩ => ⟨b, h1, h0, h2.kept hr (fun q hq => by cases hq; exact HNE.out b h0)⟩), (fun vs w1 w2 hr ⟨b, h1, h0, h2⟩ => ⟨b, h1, h0, h2.kept hr (fun q hq => by cases hq; exact HNE.out b h0)⟩), (fun vs w1 w2 hr ⟨b2, h1, h2, b, h0, h3, h4⟩ => ⟨b2, h1, h2, b, h0, h3.grown hr (fun q hq => by cases hq; exact HNE.out b2 h2), h4.kept hr (fun q hq => by cases hq; exact HNE.out b h0)⟩), trivial⟩
       ·intro m c hc o ho a' w' hG hfr hdep
        rcases m with _ | m
        ·cases hc
         obtain rfl := oj ho
         have hb : Below wr.heap.size wr w' := hG
         have g46 : a'.tmps[46]?.getD undef = .slice a ps.length c := by simpa using hdep 0 _ rfl (by kernel_rfl)
         obtain ⟨b2, g58, hb2, b8, _, hs2, ho8⟩ := hdep 12 _ rfl (by kernel_rfl)
         simp at g58
         clear hfr hdep hG
         have hOw := hOR.below hb
         have hbo2 := hbo.trans (hb.mono hbo.size)
         refine app_ru2 rfl _ _ rfl wo wo.heap.size a c ps (by show a'.tmps.getD 46 undef = _; simpa using g46) hOw ((⟨sm, 0, [cv]⟩ : Ru), (some ⟨b8, 0, none⟩, 1, 1)) ho8 (HSZ.out) (some ⟨b2, 0, none⟩) 1 (by show a'.tmps.getD 58 undef = _; simpa using g58) hs2 (by omega) hbo2.size hbo2 ?_
         intro a3 c3 w7 ho7 hb7 hgr7
         go_wp2
         exact ⟨rfl, _, rfl, hgr7, ⟨a3, c3, rfl, _, ho7⟩, hb7, Nat.le_trans hb.size hgr7.size⟩
        ·cases hc
       ·simp only [All]
        refine ⟨?_, ?_, ?_, ?_, ?_, ?_, ?_, ?_, ?_, ?_, ?_, ?_, ?_, trivial⟩
        ·intro o ho a' w' hfr hdep hst; obtain rfl := oj ho
         have g5 : a'.tmps[5]?.getD undef = .slice a ps.length c := by simpa using hfr 5 (by kernel_rfl)
         clear ho hfr hdep hst; go_wp2_with fail; exact ⟨rfl, _, rfl, br, rfl⟩
        ·intro o ho a' w' hfr hdep hst; obtain rfl := oj ho
         have g7 : a'.tmps[7]?.getD undef = .string ⟨#[32, 46, 44, 63, 39, 45]⟩ := by simpa using hfr 7 (by kernel_rfl)
         clear ho hfr hdep hst; go_wp2_with fail; exact ⟨rfl, _, rfl, br, rfl⟩
        ·intro o ho a' w' hfr hdep hst; obtain rfl := oj ho
         have g8 : a'.tmps[8]?.getD undef = .int .i64 (i : Int) := by simpa using hfr 8 (by kernel_rfl)
         clear ho hfr hdep hst; go_wp2_with fail; exact ⟨rfl, _, rfl, br, rfl⟩
        ·intro o ho a' w' hfr hdep hst; obtain rfl := oj ho
         have g8 : a'.tmps[8]?.getD undef = .int .i64 (i : Int) := by simpa using hfr 8 (by kernel_rfl)
         clear ho hfr hdep hst; go_wp2_with fail; exact ⟨rfl, _, rfl, br, rfl⟩
        ·intro o ho a' w' hfr hdep hst; obtain rfl := oj ho
         have g49 : a'.tmps[49]?.getD undef = .int .i64 (i : Int) := by simpa using hdep 3 _ rfl (by kernel_rfl)
         clear ho hfr hdep hst; go_wp2_with fail; exact ⟨rfl, _, rfl, br, rfl⟩
        ·intro o ho a' w' hfr hdep hst; obtain rfl := oj ho
         have g47 : a'.tmps[47]?.getD undef = .string ⟨#[32, 46, 44, 63, 39, 45]⟩ := by simpa using hdep 1 _ rfl (by kernel_rfl)
         have g48 : a'.tmps[48]?.getD undef = .int .i64 (i : Int) := by simpa using hdep 2 _ rfl (by kernel_rfl)
         have g50 : a'.tmps[50]?.getD undef = .int .i64 ((i : Int) + 1) := by simpa using hdep 4 _ rfl (by kernel_rfl)
         clear ho hfr hdep hst; have hsl := HSL.out
         go_wp2_with fail; exact ⟨rfl, _, rfl, br, rfl⟩
        ·intro o ho a' w' hfr hdep hst; obtain rfl := oj ho
         have g0 : a'.tmps[0]?.getD undef = .int .i64 n := by simpa using hfr 0 (by kernel_rfl)
         clear ho hfr hdep hst; go_wp2_with fail; exact ⟨rfl, _, rfl, br, rfl⟩
        ·intro o ho a' w' hfr hdep hst; obtain rfl := oj ho
         have g8 : a'.tmps[8]?.getD undef = .int .i64 (i : Int) := by simpa using hfr 8 (by kernel_rfl)
         clear ho hfr hdep hst; go_wp2_with fail; exact ⟨rfl, _, rfl, br, rfl⟩
        ·intro o ho a' w' hfr hdep hst; obtain rfl := oj ho
         have g53 : a'.tmps[53]?.getD undef = .int .i64 (i : Int) := by simpa using hdep 7 _ rfl (by kernel_rfl)
         clear ho hfr hdep hst; go_wp2_with fail; exact ⟨rfl, _, rfl, br, rfl⟩
        ·intro o ho a' w' hfr hdep hst; obtain rfl := oj ho
         have g52 : a'.tmps[52]?.getD undef = .int .i64 n := by simpa using hdep 6 _ rfl (by kernel_rfl)
         have g54 : a'.tmps[54]?.getD undef = .int .i64 (26 + (i : Int)) := by simpa using hdep 8 _ rfl (by kernel_rfl)
         clear ho hfr hdep hst; go_wp2_with fail
         refine (HCV.out _).mono ?_
         rintro e w2 ⟨rfl, hb2⟩
         go_wp2_with fail
         exact ⟨rfl, _, rfl, hb2, rfl⟩
        ·intro o ho a' w' hfr hdep hst; obtain rfl := oj ho
         have g55 : a'.tmps[55]?.getD undef = .int .u8 (cv.toNat : Int) := by simpa using hdep 9 _ rfl (by kernel_rfl)
         obtain ⟨j, _, _, hG⟩ := hst
         clear ho hfr hdep; have hsz := hG.size
         clear hG
         go_wp2_with fail
         exact ⟨rfl, _, rfl, blo _ _, _, rfl, hsz, Own.built w' 0 5 1 1 #[.int .u8 (cv.toNat : Int)] (Nat.zero_le _) rfl (by decide)⟩
        ·intro o ho a' w' hfr hdep hst; obtain rfl := oj ho
         have g51 : a'.tmps[51]?.getD undef = .string sm := by simpa using hdep 5 _ rfl (by kernel_rfl)
         obtain ⟨b8, g56, hb8, ho8⟩ := hdep 10 _ rfl (by kernel_rfl)
         simp at g56
         clear ho hfr hdep hst; go_wp2_with fail; exact ⟨rfl, _, rfl, br, b8, rfl, hb8, ho8⟩
        ·intro o ho a' w' hfr hdep hst; obtain rfl := oj ho
         obtain ⟨b8, g57, hb8, ho8⟩ := hdep 11 _ rfl (by kernel_rfl)
         simp at g57
         obtain ⟨j, _, _, hG⟩ := hst
         clear ho hfr hdep; have hsz := hG.size
         clear hG
         go_wp2_with fail
         exact ⟨rfl, _, rfl, blo _ _, _, rfl, hsz, b8, hb8, Sl.fresh _ _ 3 1 (rc ((⟨sm, 0, [cv]⟩ : Ru), (some ⟨b8, 0, none⟩, 1, 1))) rfl (by decide), ho8.alloc _⟩
       ·intro g w7 hG hp
        obtain ⟨⟨a7, c7, p59, h7, ho7⟩, hB7, _⟩ := hG
        clear hp
        simp at p59
        simp only [List.drop_succ_cons, List.drop_zero, List.map_cons, List.map_nil, putAll, Act.put, List.setIfInBounds_toArray, List.set_cons_succ, List.set_cons_zero, List.cons_append, List.nil_append, p59]
        clear p59
        go_wp2_with fail
        go_roundg (6 - (i + 1))
        case measure => have := HGI.out; omega
        case rel => exact ⟨i + 1, ps ++ [((⟨sm, 0, [cv]⟩ : Ru), h7)], a7, c7, by omega, rfl, by rw [List.length_append]; rfl, by go_num, HST.out h7, ho7, hB7⟩
      ·obtain rfl : i = 6 := by omega
       have HR3 := hide (Raw3.zero HRW.out)
       go_wp2_with fail
       refine (around_ex 6 _ _ _ rfl (wrap_in _) (by decide) (by decide)).mono ?_
       rintro e w3 ⟨r6, hr6, rfl, hw3⟩
       obtain ⟨tb, htb⟩ : ∃ tb, tb = wr.heap.size := ⟨_, rfl⟩
       have HTX : Own w3 0 9 1 (some ⟨tb, 0, none⟩) 12 12 (texts12.map Value.string) := by
        rw [← hw3, htb]
        exact Own.built wr 0 9 1 12 (texts12.map Value.string).toArray (Nat.zero_le _) rfl (by decide)
       have hb3 : Below wr.heap.size wr w3 := by rw [← hw3]; exact blo _ _
       rw [← htb]
       clear htb hw3
       go_wp2_with fail
       obtain ⟨M, hM⟩ : ∃ M : Nat, M = 3 + r6 := ⟨_, rfl⟩
       have HMI : Hid ((3 : Int) + (r6 : Int) = (M : Int)) := hide (by omega)
       rw [HMI.out]
       have hM8 : M ≤ 8 := by omega
       clear hM hr6
       have hOR3 := hOR.below hb3
       have hbo3 := hbo.trans (hb3.mono hbo.size)
       clear hOR hbo hb3
       go_loopg [5, 11] M (fun gh l v w' => ∃ (i : Nat) (ps : List RH) (a : Option Addr) (c : Nat), i ≤ M ∧ gh = M - i ∧ l = .slice a ps.length c ∧ v = .int .i64 (i : Int) ∧ Hid (Raw3 (rus ps) i) ∧ ORu w' 84 5 wo.heap.size a c ps ∧ Own w' 0 9 1 (some ⟨tb, 0, none⟩) 12 12 (texts12.map Value.string) ∧ Below wo.heap.size wo w')
       case atStart => exact ⟨0, ps, a, c, by omega, by omega, rfl, rfl, HR3, hOR3, HTX, hbo3⟩
       case round =>
        clear hOR3 hbo3 HTX HRW HGI hple HR3
        obtain ⟨i, ps, a, c, hi, hgi, rfl, rfl, HRW, hOR, hTX, hbo⟩ := hrel
        have HGI := hide hgi
        have hple : ps.length ≤ 40 := by have := HRW.out.len; unfold rus at this; rw [List.length_map] at this; omega
        clear hgi
        by_cases hil : i < M
        ·have d1 : decide (i < M) = true := decide_eq_true hil
         have d1' : decide ((i : Int) < (M : Int)) = true := decide_eq_true (by omega)
         go_wp2_with fail
         refine (around_ex 12 _ _ _ rfl (wrap_in _) (by decide) (by decide)).mono ?_
         rintro e w4 ⟨kt, hkt, rfl, rfl⟩
         obtain ⟨st, hst⟩ : ∃ st, texts12[kt]? = some st := ⟨_, List.getElem?_eq_getElem (show kt < texts12.length from hkt)⟩
         have hsm := List.mem_of_getElem? hst
         have HCT : Hid (wr.cell? ⟨tb, kt, none⟩ = some (.string st)) := hide (by
          have := hTX.sl.cell ⟨tb, 0, none⟩ rfl kt (.string st) (by rw [List.getElem?_map, hst]; rfl)
          simpa [Addr.add_lit] using this)
         have hcl := HCT.out
         obtain ⟨ii, hii⟩ : ∃ ii : Nat, ii = i * i := ⟨_, rfl⟩
         have HII : Hid ((i : Int) * (i : Int) = (ii : Int)) := hide (by rw [hii]; exact (Int.natCast_mul i i).symm)
         have hii64 : ii ≤ 64 := by rw [hii]; exact Nat.mul_le_mul (show i ≤ 8 by omega) (show i ≤ 8 by omega)
         obtain ⟨cv, hcv, hcal⟩ := ref_cell n hn0 hn1 (37 + i) (by omega)
         rw [show (((37 + i : Nat)) : Int) = 37 + (i : Int) by omega] at hcal
         have HCV := hide hcal
         clear hii hcal hst
         go_wp2_with fail
         refine wp_region_free 19 [⟨0, 80, [80], fun vs _ => vs = [.slice (some ⟨tb, 0, none⟩) 12 12]⟩, ⟨1, 81, [81], fun vs _ => vs = [.int .i64 (kt : Int)]⟩, ⟨2, 82, [82], fun vs _ => vs = [.pointer (some ⟨tb, kt, none⟩)]⟩, ⟨3, 83, [83], fun vs _ => vs = [.string st]⟩, ⟨4, 84, [84], fun vs _ => vs = [.int .i64 n]⟩, ⟨5, 85, [85], fun vs _ => vs = [.int .i64 (n.tdiv 7)]⟩, ⟨6, 86, [86], fun vs _ => vs = [.int .i64 (i : Int)]⟩, ⟨7, 87, [87], fun vs _ => vs = [.int .i64 (i : Int)]⟩, ⟨8, 88, [88], fun vs _ => vs = [.int .i64 (ii : Int)]⟩, ⟨9, 89, [89], fun vs _ => vs = [.int .i64 (wrap64 (n.tdiv 7 + (ii : Int)))]⟩, ⟨10, 90, [90], fun vs w' => ∃ r : Nat, vs = [.int .i64 (r : Int)] ∧ r < 6⟩, ⟨11, 91, [91], fun vs w' => ∃ r : Nat, vs = [.int .i64 (r : Int)] ∧ r < 4⟩, ⟨12, 92, [92], fun vs _ => vs = [.int .i64 n]⟩, ⟨13, 93, [93], fun vs _ => vs = [.int .i64 (i : Int)]⟩, ⟨14, 94, [94], fun vs _ => vs = [.int .i64 (37 + (i : Int))]⟩, ⟨15, 95, [95], fun vs _ => vs = [.int .u8 (cv.toNat : Int)]⟩, ⟨16, 96, [96], fun vs w' => ∃ b, vs = [.slice (some ⟨b, 0, none⟩) 1 1] ∧ Own w' 0 5 1 (some ⟨b, 0, none⟩) 1 1 ([cv].map B8)⟩, ⟨17, 97, [97], fun vs w' => ∃ (b r : Nat), vs = [.agg #[.string st, .int .i64 (r : Int), .slice (some ⟨b, 0, none⟩) 1 1]] ∧ r < 4 ∧ Own w' 0 5 1 (some ⟨b, 0, none⟩) 1 1 ([cv].map B8)⟩, ⟨18, 13, [13], fun vs w' => ∃ b, vs = [.pointer (some ⟨b, 0, none⟩)] ∧ wr.heap.size ≤ b ∧ Box w' b 84 [.string ⟨#[]⟩, .int .i64 0, .slice none 0 0]⟩] (by kernel_rfl) (by kernel_rfl) ?_ ?_ ?_
         ·simp only [All]
          refine ⟨fun _ _ _ _ h => h, fun _ _ _ _ h => h, fun _ _ _ _ h => h, fun _ _ _ _ h => h, fun _ _ _ _ h => h, fun _ _ _ _ h => h, fun _ _ _ _ h => h, fun _ _ _ _ h => h, fun _ _ _ _ h => h, fun _ _ _ _ h => h, ?_, ?_, fun _ _ _ _ h => h, fun _ _ _ _ h => h, fun _ _ _ _ h => h, fun _ _ _ _ h => h, ?_, ?_, ?_, trivial⟩
          ·exact fun _ _ _ _ h => h
          ·exact fun _ _ _ _ h => h
          ·rintro vs w2 w3 hb ⟨b, h1, h2⟩
           exact ⟨b, h1, h2.below hb⟩
          ·rintro vs w2 w3 hb ⟨b, r, h1, h3, h2⟩
           exact ⟨b, r, h1, h3, h2.below hb⟩
          ·rintro vs w2 w3 hb ⟨b, h1, h2, h3⟩
           exact ⟨b, h1, h2, h3.under hb⟩
         ·simp only [All]
          refine ⟨?_, ?_, ?_, ?_, ?_, ?_, ?_, ?_, ?_, ?_, ?_, ?_, ?_, ?_, ?_, ?_, ?_, ?_, ?_, trivial⟩
          ·intro o ho a' w' hb hfr hdep; obtain rfl := oj ho
           have g9 : a'.tmps[9]?.getD undef = .slice (some ⟨tb, 0, none⟩) 12 12 := by simpa using hfr 9 (by kernel_rfl)
           clear ho hfr hdep; go_wp2_with fail; exact ⟨rfl, _, rfl, br, rfl⟩
          ·intro o ho a' w' hb hfr hdep; obtain rfl := oj ho
           have g12 : a'.tmps[12]?.getD undef = .int .i64 (kt : Int) := by simpa using hfr 12 (by kernel_rfl)
           clear ho hfr hdep; go_wp2_with fail; exact ⟨rfl, _, rfl, br, rfl⟩
          ·intro o ho a' w' hb hfr hdep; obtain rfl := oj ho
           have g80 : a'.tmps[80]?.getD undef = .slice (some ⟨tb, 0, none⟩) 12 12 := by simpa using hdep 0 _ rfl (by kernel_rfl)
           have g81 : a'.tmps[81]?.getD undef = .int .i64 (kt : Int) := by simpa using hdep 1 _ rfl (by kernel_rfl)
           clear ho hfr hdep; go_wp2_with fail; exact ⟨rfl, _, rfl, br, rfl⟩
          ·intro o ho a' w' hb hfr hdep; obtain rfl := oj ho
           have g82 : a'.tmps[82]?.getD undef = .pointer (some ⟨tb, kt, none⟩) := by simpa using hdep 2 _ rfl (by kernel_rfl)
           clear ho hfr hdep; have hcl := cell_below HCT.out hb
           go_wp2_with fail; exact ⟨rfl, _, rfl, br, rfl⟩
          ·intro o ho a' w' hb hfr hdep; obtain rfl := oj ho
           have g0 : a'.tmps[0]?.getD undef = .int .i64 n := by simpa using hfr 0 (by kernel_rfl)
           clear ho hfr hdep; go_wp2_with fail; exact ⟨rfl, _, rfl, br, rfl⟩
          ·intro o ho a' w' hb hfr hdep; obtain rfl := oj ho
           have g84 : a'.tmps[84]?.getD undef = .int .i64 n := by simpa using hdep 4 _ rfl (by kernel_rfl)
           clear ho hfr hdep; go_wp2_with fail; exact ⟨rfl, _, rfl, br, rfl⟩
          ·intro o ho a' w' hb hfr hdep; obtain rfl := oj ho
           have g11 : a'.tmps[11]?.getD undef = .int .i64 (i : Int) := by simpa using hfr 11 (by kernel_rfl)
           clear ho hfr hdep; go_wp2_with fail; exact ⟨rfl, _, rfl, br, rfl⟩
          ·intro o ho a' w' hb hfr hdep; obtain rfl := oj ho
           have g11 : a'.tmps[11]?.getD undef = .int .i64 (i : Int) := by simpa using hfr 11 (by kernel_rfl)
           clear ho hfr hdep; go_wp2_with fail; exact ⟨rfl, _, rfl, br, rfl⟩
          ·intro o ho a' w' hb hfr hdep; obtain rfl := oj ho
           have g86 : a'.tmps[86]?.getD undef = .int .i64 (i : Int) := by simpa using hdep 6 _ rfl (by kernel_rfl)
           have g87 : a'.tmps[87]?.getD undef = .int .i64 (i : Int) := by simpa using hdep 7 _ rfl (by kernel_rfl)
           clear ho hfr hdep; have hii := HII.out
           go_wp2_with fail; exact ⟨rfl, _, rfl, br, rfl⟩
          ·intro o ho a' w' hb hfr hdep; obtain rfl := oj ho
           have g85 : a'.tmps[85]?.getD undef = .int .i64 (n.tdiv 7) := by simpa using hdep 5 _ rfl (by kernel_rfl)
           have g88 : a'.tmps[88]?.getD undef = .int .i64 (ii : Int) := by simpa using hdep 8 _ rfl (by kernel_rfl)
           clear ho hfr hdep; go_wp2_with fail; exact ⟨rfl, _, rfl, br, rfl⟩
          ·intro o ho a' w' hb hfr hdep; obtain rfl := oj ho
           have g89 : a'.tmps[89]?.getD undef = .int .i64 (wrap64 (n.tdiv 7 + (ii : Int))) := by simpa using hdep 9 _ rfl (by kernel_rfl)
           clear ho hfr hdep; go_wp2_with fail
           refine (around_ex 6 _ _ _ rfl (wrap_in _) (by decide) (by decide)).mono ?_
           rintro e w2 ⟨r, hr, rfl, rfl⟩
           go_wp2_with fail; exact ⟨rfl, _, rfl, br, r, rfl, hr⟩
          ·intro o ho a' w' hb hfr hdep; obtain rfl := oj ho
           obtain ⟨r, g90, hr⟩ := hdep 10 _ rfl (by kernel_rfl)
           replace g90 : a'.tmps[90]?.getD undef = .int .i64 (r : Int) := by simpa using g90
           obtain ⟨s, hs⟩ : ∃ s, s = r % 4 := ⟨_, rfl⟩
           have hs1 : (r : Int) % 4 = (s : Int) := by omega
           have hs2 : (r : Int).tmod 4 = (s : Int) := by rw [Int.tmod_eq_emod_of_nonneg (by omega)]; exact hs1
           have hs4 : s < 4 := by omega
           clear hs hr
           clear ho hfr hdep; go_wp2_with fail; exact ⟨rfl, _, rfl, br, s, rfl, hs4⟩
          ·intro o ho a' w' hb hfr hdep; obtain rfl := oj ho
           have g0 : a'.tmps[0]?.getD undef = .int .i64 n := by simpa using hfr 0 (by kernel_rfl)
           clear ho hfr hdep; go_wp2_with fail; exact ⟨rfl, _, rfl, br, rfl⟩
          ·intro o ho a' w' hb hfr hdep; obtain rfl := oj ho
           have g11 : a'.tmps[11]?.getD undef = .int .i64 (i : Int) := by simpa using hfr 11 (by kernel_rfl)
           clear ho hfr hdep; go_wp2_with fail; exact ⟨rfl, _, rfl, br, rfl⟩
          ·intro o ho a' w' hb hfr hdep; obtain rfl := oj ho
           have g93 : a'.tmps[93]?.getD undef = .int .i64 (i : Int) := by simpa using hdep 13 _ rfl (by kernel_rfl)
           clear ho hfr hdep; go_wp2_with fail; exact ⟨rfl, _, rfl, br, rfl⟩
          ·intro o ho a' w' hb hfr hdep; obtain rfl := oj ho
           have g92 : a'.tmps[92]?.getD undef = .int .i64 n := by simpa using hdep 12 _ rfl (by kernel_rfl)
           have g94 : a'.tmps[94]?.getD undef = .int .i64 (37 + (i : Int)) := by simpa using hdep 14 _ rfl (by kernel_rfl)
           clear ho hfr hdep; go_wp2_with fail
           refine (HCV.out _).mono ?_
           rintro e w2 ⟨rfl, hb2⟩
           go_wp2_with fail
           exact ⟨rfl, _, rfl, hb2, rfl⟩
          ·intro o ho a' w' hb hfr hdep; obtain rfl := oj ho
           have g95 : a'.tmps[95]?.getD undef = .int .u8 (cv.toNat : Int) := by simpa using hdep 15 _ rfl (by kernel_rfl)
           clear ho hfr hdep; go_wp2_with fail
           exact ⟨rfl, _, rfl, blo _ _, _, rfl, Own.built w' 0 5 1 1 #[.int .u8 (cv.toNat : Int)] (Nat.zero_le _) rfl (by decide)⟩
          ·intro o ho a' w' hb hfr hdep; obtain rfl := oj ho
           have g83 : a'.tmps[83]?.getD undef = .string st := by simpa using hdep 3 _ rfl (by kernel_rfl)
           obtain ⟨r, g91, hr⟩ := hdep 11 _ rfl (by kernel_rfl)
           replace g91 : a'.tmps[91]?.getD undef = .int .i64 (r : Int) := by simpa using g91
           obtain ⟨b8, g96, ho8⟩ := hdep 16 _ rfl (by kernel_rfl)
           replace g96 : a'.tmps[96]?.getD undef = .slice (some ⟨b8, 0, none⟩) 1 1 := by simpa using g96
           clear ho hfr hdep; go_wp2_with fail; exact ⟨rfl, _, rfl, br, b8, r, rfl, hr, ho8⟩
          ·intro o ho a' w' hb hfr hdep; obtain rfl := oj ho
           clear ho hfr hdep; have hxn := Box.new w' 84 #[.string ⟨#[]⟩, .int .i64 0, .slice none 0 0]
           have hsz := hb.size
           go_wp2_with fail
           exact ⟨rfl, _, rfl, blo _ _, _, rfl, hsz, hxn⟩
         ·intro g w9 hb9 hp9
          obtain ⟨b9, r9, p97, hr9, ho9⟩ := hp9 17 _ rfl
          obtain ⟨b13, p13, hb13, hx13⟩ := hp9 18 _ rfl
          clear hp9
          simp at p97 p13
          simp only [List.drop_succ_cons, List.drop_zero, List.map_cons, List.map_nil, putAll, Act.put, List.setIfInBounds_toArray, List.set_cons_succ, List.set_cons_zero, List.cons_append, List.nil_append, p97, p13]
          clear p97 p13
          go_wp2_with (with_reducible refine store_all 84 _ _ 84 b13 [.string ⟨#[]⟩, .int .i64 0, .slice none 0 0] [.string st, .int .i64 (r9 : Int), .slice (some ⟨b9, 0, none⟩) 1 1] _ (size_ru3 _ _ _) hx13 rfl rfl rfl (Eq.refl 3) (by simp [Value.oneCell']) ?_; intro w10 hx10 hg10 hs10; refine hold ?_)
          refine hide ?_
          have hRB : RB wr w10 b13 st (r9 : Int) := RB.set (cs := [cv]) hx13 ho9 (one_ok hcv) hb9 hb13 hg10 hx10
          clear hx13 ho9 hb9 hg10 hx10 hs10
          go_wp2_with fail
          refine (around_ex 3 _ _ _ rfl (wrap_in _) (by decide) (by decide)).mono ?_
          rintro e w11 ⟨q, hq, rfl, rfl⟩
          go_upto_if 103 with fail
          go_cut [13] from 104 to 114 (fun p w' => p = .pointer (some ⟨b13, 0, none⟩) ∧ RB wr w' b13 st (r9 : Int))
          case first =>
           by_cases hq0 : q = 0
           ·subst hq0
            obtain ⟨cs0, a0, m0, c0, _, hx0, _, hbw⟩ := hRB
            go_wp2_with fail
            refine (cell_ex n hn0 hn1 36 _ rfl (by decide) _).mono ?_
            rintro e w12 ⟨cA, hcA, rfl, hb12⟩
            go_wp2_with fail
            refine (around_ex 26 _ _ _ rfl (wrap_in _) (by decide) (by decide)).mono ?_
            rintro e w13 ⟨q2, hq2, rfl, rfl⟩
            go_wp2_with fail
            refine (cell_ex n hn0 hn1 q2 _ rfl (by omega) _).mono ?_
            rintro e w14 ⟨cB, hcB, rfl, hb14b⟩
            have hb14 := hb12.trans (hb14b.mono hb12.size)
            have ub := Own.built w14 0 5 1 2 #[.int .u8 (cA.toNat : Int), .int .u8 (cB.toNat : Int)] (Nat.zero_le _) rfl (by decide)
            have hxs := (hx0.under hb14).alloc (.cells #[.int .u8 (cA.toNat : Int), .int .u8 (cB.toNat : Int)] 5)
            have hbs := (hbw.trans (hb14.mono hbw.size)).trans ((blo w14 (.cells #[.int .u8 (cA.toNat : Int), .int .u8 (cB.toNat : Int)] 5)).mono (Nat.le_trans hbw.size hb14.size))
            have hln : 2 < ([.string st, .int .i64 (r9 : Int), .slice a0 m0 c0] : List Value).length := by simp
            go_wp2_with (with_reducible refine store_cell 27 _ _ 84 b13 2 [.string st, .int .i64 (r9 : Int), .slice a0 m0 c0] (.slice (some ⟨w14.heap.size, 0, none⟩) 2 2) size_row hxs rfl rfl rfl rfl hln ?_; intro w15 hx15 hg15 hs15)
            go_meet
            exact ⟨rfl, RB.set (cs := [cA, cB]) hxs ub (two_ok hcA hcB) hbs hb13 hg15 hx15⟩
           ·have dq : ((q : Int) == 0) = false := by simpa using hq0
            have dq2 : decide ((q : Int) = 0) = false := by simpa using hq0
            go_wp2_with fail
            go_meet
            exact ⟨rfl, hRB⟩
          case rest =>
          clear hRB hq
          obtain ⟨rfl, hRB⟩ := hcut
          obtain ⟨wd, rfl⟩ : ∃ wd : World, wd = wc := ⟨_, rfl⟩
          go_wp2_with fail
          refine (around_ex 23 _ _ _ rfl (wrap_in _) (by decide) (by decide)).mono ?_
          rintro e w11 ⟨q, hq, rfl, rfl⟩
          go_upto_if 120 with fail
          go_cut [13] from 121 to 132 (fun p w' => p = .pointer (some ⟨b13, 0, none⟩) ∧ RB wr w' b13 st (r9 : Int))
          case first =>
           by_cases hq0 : q = 0
           ·subst hq0
            obtain ⟨cs0, a0, m0, c0, _, hx0, _, hbw⟩ := hRB
            go_wp2_with fail
            refine (around_ex 32 _ _ _ rfl (tdiv_in hn0 hn1 (by decide)) (by decide) (by decide)).mono ?_
            rintro e wz ⟨q1, hq1, rfl, rfl⟩
            go_wp2_with fail
            refine (cell_ex n hn0 hn1 q1 _ rfl (by omega) _).mono ?_
            rintro e w12 ⟨cA, hcA, rfl, hb12⟩
            go_wp2_with fail
            refine (around_ex 32 _ _ _ rfl (tdiv_in hn0 hn1 (by decide)) (by decide) (by decide)).mono ?_
            rintro e w13 ⟨q2, hq2, rfl, rfl⟩
            go_wp2_with fail
            refine (cell_ex n hn0 hn1 q2 _ rfl (by omega) _).mono ?_
            rintro e w14 ⟨cB, hcB, rfl, hb14b⟩
            have hb14 := hb12.trans (hb14b.mono hb12.size)
            have ub := Own.built w14 0 5 1 2 #[.int .u8 (cA.toNat : Int), .int .u8 (cB.toNat : Int)] (Nat.zero_le _) rfl (by decide)
            have hxs := (hx0.under hb14).alloc (.cells #[.int .u8 (cA.toNat : Int), .int .u8 (cB.toNat : Int)] 5)
            have hbs := (hbw.trans (hb14.mono hbw.size)).trans ((blo w14 (.cells #[.int .u8 (cA.toNat : Int), .int .u8 (cB.toNat : Int)] 5)).mono (Nat.le_trans hbw.size hb14.size))
            have hln : 2 < ([.string st, .int .i64 (r9 : Int), .slice a0 m0 c0] : List Value).length := by simp
            go_wp2_with (with_reducible refine store_cell 27 _ _ 84 b13 2 [.string st, .int .i64 (r9 : Int), .slice a0 m0 c0] (.slice (some ⟨w14.heap.size, 0, none⟩) 2 2) size_row hxs rfl rfl rfl rfl hln ?_; intro w15 hx15 hg15 hs15)
            go_meet
            exact ⟨rfl, RB.set (cs := [cA, cB]) hxs ub (two_ok hcA hcB) hbs hb13 hg15 hx15⟩
           ·have dq : ((q : Int) == 0) = false := by simpa using hq0
            have dq2 : decide ((q : Int) = 0) = false := by simpa using hq0
            go_wp2_with fail
            go_meet
            exact ⟨rfl, hRB⟩
          case rest =>
          clear hRB hq
          obtain ⟨rfl, hRB⟩ := hcut
          obtain ⟨wd, rfl⟩ : ∃ wd : World, wd = wc := ⟨_, rfl⟩
          obtain ⟨cs, a1, m1, c1, hcs, hx, hcells, hbw⟩ := hRB
          have HST : Hid (∀ h, Hid (Raw3 (rus (ps ++ [((⟨st, (r9 : Int), cs⟩ : Ru), h)])) (i + 1))) := hide (fun h => hide (by
           have := HRW.out.step (contr_ok hsm (show (0 : Int) ≤ (r9 : Int) by omega) (show (r9 : Int) ≤ 3 by omega) hcs)
           unfold rus at this ⊢
           simpa using this))
          have HSZ : Hid (st.size ≤ 1000) := hide (by
           have := texts12_ok st hsm
           simp only [Bool.and_eq_true, decide_eq_true_eq] at this
           omega)
          have hOw := hOR.below hbw
          have hTw := hTX.below hbw
          have hbo2 := hbo.trans (hbw.mono hbo.size)
          go_wp2_with (first
           | (with_reducible refine load_struct 134 84 _ 3 size_rule _ Try.underlying84 ⟨b13, 0, none⟩ rfl [.string st, .int .i64 (r9 : Int), .slice a1 m1 c1] rfl (fun j u hj => by rw [Addr.add_lit, Nat.zero_add]; exact hx.at_ hj) ?_)
           | (at_builtin; refine app_ru rfl _ _ rfl wo wo.heap.size a c ps rfl hOw (⟨st, (r9 : Int), cs⟩, (a1, m1, c1)) hcells HSZ.out rfl (by omega) hbo2.size hbo2 ?_; intro a9 c9 w21 ho21 hb21 hg21))
          go_roundg (M - (i + 1))
          case measure => have := HGI.out; omega
          case rel => exact ⟨i + 1, ps ++ [((⟨st, (r9 : Int), cs⟩ : Ru), (a1, m1, c1))], a9, c9, by omega, rfl, by rw [List.length_append]; rfl, by go_num, HST.out _, ho21, hTw.kept hg21 (fun q hq => by cases hq; exact far_map hTw hOw.top (by decide)), hb21⟩
        ·obtain rfl : i = M := by omega
         have HRaw := hide (Raw3.raw HRW.out (by omega))
         have hV7 : ([v0, v1, .slice none 0 0, .slice none 0 0, .slice none 0 0, .slice none 0 0, .slice none 0 0] : List Value).length = 7 := rfl
         obtain ⟨V, hV⟩ : ∃ V : List Value, V = [v0, v1, .slice none 0 0, .slice none 0 0, .slice none 0 0, .slice none 0 0, .slice none 0 0] := ⟨_, rfl⟩
         rw [← hV] at hX1 hV7
         have HV := hide hV
         clear hV
         go_wp2_with fail
         refine (ref_Once ps a c wo.heap.size (by omega) wr hOR).mono ?_
         rintro e w22 ⟨a2, c2, qs, rfl, hQ, hON, hb22⟩
         have hb022 := hbo.trans (hb22.mono hbo.size)
         have hx22 := hX1.under hb022
         have hz22 := hX0.under hb022
         have hkl2 : k + ([.slice a2 qs.length c2] : List Value).length ≤ V.length := by rw [hV7]; simp; omega
         have hone : ∀ u ∈ ([.slice a2 qs.length c2] : List Value), u.oneCell' = true := by simp [Value.oneCell']
         clear hV7
         go_wp2_with (with_reducible refine store_box 25 _ _ 29 g1 k V [.slice a2 qs.length c2] _ (size_tab1 _) hx22 rfl rfl rfl hkl2 hone ?_; intro w23 hx23 hg23 hs23)
         have hnew : RG w23 w.heap.size (.slice a2 qs.length c2) := by
          refine RG.kept ⟨rus ps, rus qs, HRaw.out, hON, a2, c2, qs, rfl, hQ.mono ?_, rfl⟩ hg23 hx22
          exact Nat.le_trans hb.size hbo.size
         have HKN : Hid (∃ v0' v1', Box w23 g1 29 [v0', v1', .slice none 0 0, .slice none 0 0, .slice none 0 0, .slice none 0 0, .slice none 0 0] ∧ (1 ≤ k + 1 → RG w23 w.heap.size v0') ∧ (2 ≤ k + 1 → RG w23 w.heap.size v1')) := by
          rw [HV.out] at hx23
          rcases k with _ | _ | k
          ·exact hide ⟨_, v1, hx23, fun _ => hnew, fun h => by omega⟩
          ·exact hide ⟨v0, _, hx23, fun _ => ((hr0 (by omega)).below hb022).kept hg23 hx22, fun _ => hnew⟩
          ·omega
         obtain ⟨v0', v1', z1, z4, z5⟩ := HKN.out
         have hbw := (hb.trans (hb022.mono hb.size)).grown hg23 (Nat.le_trans hb.size hb022.size) (fun q hq => by cases hq; exact hg1w)
         have hz23 := hz22.grown hg23 hg01
         go_roundg (2 - (k + 1))
         case measure => have := HG.out; omega
         case rel => exact ⟨k + 1, v0', v1', by omega, rfl, by go_num, z1, hz23, z4, z5, hbw⟩
  ·obtain rfl : k = 2 := by omega
   have r0 := hr0 (by omega)
   have r1 := hr1 (by omega)
   obtain ⟨w5, rfl⟩ : ∃ w5 : World, w5 = wr := ⟨_, rfl⟩
   have hg15 : g1 < w5.heap.size := hX1.lt
   have hbx5 := hX1
   have HX5 := hide hX1
   have hz5 := hX0
   clear hr0 hr1 hkl hk HG hX1 hX0
   go_wp2_with fail
   go_loopg [14] 10 (fun gh v w' => ∃ (i : Nat) (a : Option Addr) (c : Nat) (ds : List UInt8), i ≤ 10 ∧ gh = 10 - i ∧ v = .int .i64 (i : Int) ∧ ds.length = i ∧ okCells ds = true ∧ Box w' g1 29 [v0, v1, .slice a i c, .slice none 0 0, .slice none 0 0, .slice none 0 0, .slice none 0 0] ∧ Own w' w5.heap.size 5 1 a i c (ds.map B8) ∧ w5.grownBy w' (some g1))
   case atStart => exact ⟨0, none, 0, [], by omega, by omega, rfl, rfl, rfl, hbx5, Own.nil _ _ _ _, grown_of_below (Below.refl _ _) _⟩
   case round =>
    clear hbx5
    obtain ⟨i, a, c, ds, hi, hgi, rfl, hdl, hok, hBx, hOd, hgo⟩ := hrel
    have HGI := hide hgi
    clear hgi
    by_cases hil : i < 10
    ·obtain ⟨cv, hcv, hcal⟩ := ref_cell n hn0 hn1 i (by omega)
     have HCV := hide hcal
     have HOK : Hid (okCells (ds ++ [cv]) = true) := hide (by unfold okCells at hok ⊢; rw [List.all_append, hok]; simp [hcv])
     have HNE : Hid (∀ b, wr.heap.size ≤ b → some b ≠ a.map (·.block)) := hide (fun b hb => own_map hOd hb)
     clear hcal hcv hok
     have HDL := hide hdl
     clear hdl
     have hdl := HDL
     go_wp2_with fail
     refine wp_region_chain4 7 (fun w w' => w.grownBy w' (a.map (·.block))) (GDg wr w5 29 5 g1 [v0, v1, .slice a i c, .slice none 0 0, .slice none 0 0, .slice none 0 0, .slice none 0 0] (i + 1) (ds ++ [cv])) [⟨6, 153, [], fun _ _ => True⟩] [⟨0, 147, [147], fun vs _ => vs = [.pointer (some ⟨g1, 1 + 1, none⟩)]⟩, ⟨1, 148, [148], fun vs _ => vs = [.slice a i c]⟩, ⟨2, 149, [149], fun vs _ => vs = [.int .i64 n]⟩, ⟨3, 150, [150], fun vs _ => vs = [.int .i64 (i : Int)]⟩, ⟨4, 151, [151], fun vs _ => vs = [.int .u8 (cv.toNat : Int)]⟩, ⟨5, 152, [152], fun vs w' => ∃ b, vs = [.slice (some ⟨b, 0, none⟩) 1 1] ∧ wr.heap.size ≤ b ∧ Own w' 0 5 1 (some ⟨b, 0, none⟩) 1 1 ([cv].map B8)⟩] (by kernel_rfl) (by kernel_rfl) ?_ (fun _ _ h => grown_of_below h _) GDg.mono ?_ ?_ ?_ ?_
     ·exact (Still.below 1 : Below wr.heap.size wr (wr.drewN 1))
     ·simp only [All]
      refine ⟨(fun _ _ _ _ h => h), (fun _ _ _ _ h => h), (fun _ _ _ _ h => h), (fun _ _ _ _ h => h), (fun _ _ _ _ h => h), (fun vs w1 w2 hr ⟨b, h1, h0, h2⟩ => ⟨b, h1, h0, h2.kept hr (fun q hq => by cases hq; exact HNE.out b h0)⟩), trivial⟩
     ·intro m c hc o ho a' w' hG hfr hdep
      rcases m with _ | m
      ·cases hc
       obtain rfl := oj ho
       have hb : Below wr.heap.size wr w' := hG
       have g148 : a'.tmps[148]?.getD undef = .slice a i c := by simpa using hdep 1 _ rfl (by kernel_rfl)
       obtain ⟨b2, g152, hb2, hs2⟩ := hdep 5 _ rfl (by kernel_rfl)
       simp at g152
       clear hfr hdep hG
       have hOw := hOd.below hb
       have hsz9 := Nat.le_trans hgo.size hb.size
       refine append_own rfl _ _ 27 rfl 5 (.int .u8 0) 1 1 Try.underlying27 info_u8 rfl w' w5.heap.size a i c _ (by show a'.tmps.getD 148 undef = _; simpa using g148) hOw (some ⟨b2, 0, none⟩) 1 1 _ (by show a'.tmps.getD 152 undef = _; simpa using g152) hs2.sl (by simp [Value.oneCell', B8]) (by omega) (by unfold maxLen; omega) hsz9 (Below.refl _ _) ?_
       intro a3 c3 w7 ho7 hgr7 hb7
       rw [← List.map_append] at ho7
       go_wp2
       exact ⟨rfl, _, rfl, hgr7, ⟨a3, c3, rfl, ho7⟩, (hBx.under hb).below hb7 hg15, grown_below (grown_below hgo (hb.mono hgo.size)) hb7, Nat.le_trans hb.size hgr7.size⟩
      ·cases hc
     ·simp only [All]
      refine ⟨?_, ?_, ?_, ?_, ?_, ?_, trivial⟩
      ·intro o ho a' w' hfr hdep hst; obtain rfl := oj ho
       have g3 : a'.tmps[3]?.getD undef = .pointer (some ⟨g1, 0, none⟩) := by simpa using hfr 3 (by kernel_rfl)
       clear ho hfr hdep hst; go_wp2_with fail; exact ⟨rfl, _, rfl, br, rfl⟩
      ·intro o ho a' w' hfr hdep hst; obtain rfl := oj ho
       have g147 : a'.tmps[147]?.getD undef = .pointer (some ⟨g1, 1 + 1, none⟩) := by simpa using hdep 0 _ rfl (by kernel_rfl)
       obtain ⟨j, _, _, hG⟩ := hst
       clear ho hfr hdep; have hcl := (hG.box hBx).at_ (j := 2) rfl
       clear hG
       go_wp2_with fail; exact ⟨rfl, _, rfl, br, rfl⟩
      ·intro o ho a' w' hfr hdep hst; obtain rfl := oj ho
       have g0 : a'.tmps[0]?.getD undef = .int .i64 n := by simpa using hfr 0 (by kernel_rfl)
       clear ho hfr hdep hst; go_wp2_with fail; exact ⟨rfl, _, rfl, br, rfl⟩
      ·intro o ho a' w' hfr hdep hst; obtain rfl := oj ho
       have g14 : a'.tmps[14]?.getD undef = .int .i64 (i : Int) := by simpa using hfr 14 (by kernel_rfl)
       clear ho hfr hdep hst; go_wp2_with fail; exact ⟨rfl, _, rfl, br, rfl⟩
      ·intro o ho a' w' hfr hdep hst; obtain rfl := oj ho
       have g149 : a'.tmps[149]?.getD undef = .int .i64 n := by simpa using hdep 2 _ rfl (by kernel_rfl)
       have g150 : a'.tmps[150]?.getD undef = .int .i64 (i : Int) := by simpa using hdep 3 _ rfl (by kernel_rfl)
       clear ho hfr hdep hst; go_wp2_with fail
       refine (HCV.out _).mono ?_
       rintro e w2 ⟨rfl, hb2⟩
       go_wp2_with fail
       exact ⟨rfl, _, rfl, hb2, rfl⟩
      ·intro o ho a' w' hfr hdep hst; obtain rfl := oj ho
       have g151 : a'.tmps[151]?.getD undef = .int .u8 (cv.toNat : Int) := by simpa using hdep 4 _ rfl (by kernel_rfl)
       obtain ⟨j, _, _, hG⟩ := hst
       clear ho hfr hdep; have hsz := hG.size
       clear hG
       go_wp2_with fail
       exact ⟨rfl, _, rfl, blo _ _, _, rfl, hsz, Own.built w' 0 5 1 1 #[.int .u8 (cv.toNat : Int)] (Nat.zero_le _) rfl (by decide)⟩
     ·intro g w7 hG hp
      obtain ⟨⟨a7, c7, p153, ho7⟩, gB, gG, _⟩ := hG
      clear hp
      simp at p153
      simp only [List.drop_succ_cons, List.drop_zero, List.map_cons, List.map_nil, putAll, Act.put, List.setIfInBounds_toArray, List.set_cons_succ, List.set_cons_zero, List.cons_append, List.nil_append, p153]
      clear p153
      have hln : 2 < ([v0, v1, .slice a i c, .slice none 0 0, .slice none 0 0, .slice none 0 0, .slice none 0 0] : List Value).length := by simp
      go_wp2_with (with_reducible refine store_cell 27 _ _ 29 g1 2 [v0, v1, .slice a i c, .slice none 0 0, .slice none 0 0, .slice none 0 0, .slice none 0 0] (.slice a7 (i + 1) c7) size_row gB rfl rfl rfl rfl hln ?_; intro w8 hx8 hg8 hs8)
      have ho8 := UB8 gB ho7 hg8
      have hgo8 := grown_trans gG hg8
      go_roundg (10 - (i + 1))
      case measure => have := HGI.out; omega
      case rel => exact ⟨i + 1, a7, c7, ds ++ [cv], by omega, rfl, by go_num, by rw [List.length_append, hdl]; rfl, HOK.out, hx8, ho8, hgo8⟩
    ·obtain rfl : i = 10 := by omega
     have hT : TW w wr w.heap.size g1 w.heap.size v0 v1 [.slice a 10 c, .slice none 0 0, .slice none 0 0, .slice none 0 0, .slice none 0 0] [ds, [], [], [], []] := by
      refine ⟨hBx, hz5.grown hgo hg01, r0.kept hgo HX5.out, r1.kept hgo HX5.out, rfl, ?_, hb.grown hgo hb.size (fun q hq => by cases hq; exact hg1w)⟩
      intro j v l h1 h2
      rcases j with _ | _ | _ | _ | _ | j
      ·cases h1; cases h2; exact ⟨a, 10, c, rfl, hOd.mono (Nat.zero_le _)⟩
      ·cases h1; cases h2; exact UB.nil _
      ·cases h1; cases h2; exact UB.nil _
      ·cases h1; cases h2; exact UB.nil _
      ·cases h1; cases h2; exact UB.nil _
      ·cases h1
     have HDS := hide (And.intro hdl hok)
     obtain ⟨vs, hvs⟩ : ∃ vs : List Value, vs = [.slice a 10 c, .slice none 0 0, .slice none 0 0, .slice none 0 0, .slice none 0 0] := ⟨_, rfl⟩
     rw [← hvs] at hT
     clear hdl hok hBx hOd hgo r0 r1 hz5 hb hvs
     go_wp2_with fail
     refine (cell_ex n hn0 hn1 32 _ rfl (by decide) _).mono ?_
     rintro e wa ⟨x1, hx1, rfl, hba⟩
     have T1 := (hT.below hba (Nat.le_refl _)).below (blo wa (.cells #[.int .u8 (x1.toNat : Int)] 5)) (Nat.le_refl _)
     have hu : UB (wa.alloc (.cells #[.int .u8 (x1.toNat : Int)] 5)) (.slice (some ⟨wa.heap.size, 0, none⟩) 1 1) [x1] := UB.new wa [x1] 1 rfl (by decide)
     have hbx1 := T1.box
     have hln : 3 < (v0 :: v1 :: vs).length := by simp [T1.len]
     clear hT hba
     go_wp2_with (with_reducible refine store_cell 27 _ _ 29 g1 3 (v0 :: v1 :: vs) (.slice (some ⟨wa.heap.size, 0, none⟩) 1 1) size_row hbx1 rfl rfl rfl rfl hln ?_; intro wb hxb hgb hsb; refine hold ?_)
     refine hide ?_
     have T2 : TW w wb w.heap.size g1 w.heap.size v0 v1 _ [ds, [x1], [], [], []] := T1.store (j := 1) (l := [x1]) hgb hxb hu hg1w (Nat.le_refl _) hg01
     clear T1 hu hbx1 hln hxb hgb hsb
     generalize vs.set 1 _ = vs' at T2
     have hT := T2
     clear T2
     obtain ⟨vs, rfl⟩ : ∃ vs : List Value, vs = vs' := ⟨_, rfl⟩
     go_wp2_with fail
     refine (cell_ex n hn0 hn1 33 _ rfl (by decide) _).mono ?_
     rintro e wa ⟨x2, hx2, rfl, hba⟩
     have T1 := (hT.below hba (Nat.le_refl _)).below (blo wa (.cells #[.int .u8 (x2.toNat : Int)] 5)) (Nat.le_refl _)
     have hu : UB (wa.alloc (.cells #[.int .u8 (x2.toNat : Int)] 5)) (.slice (some ⟨wa.heap.size, 0, none⟩) 1 1) [x2] := UB.new wa [x2] 1 rfl (by decide)
     have hbx1 := T1.box
     have hln : 4 < (v0 :: v1 :: vs).length := by simp [T1.len]
     clear hT hba
     go_wp2_with (with_reducible refine store_cell 27 _ _ 29 g1 4 (v0 :: v1 :: vs) (.slice (some ⟨wa.heap.size, 0, none⟩) 1 1) size_row hbx1 rfl rfl rfl rfl hln ?_; intro wb hxb hgb hsb; refine hold ?_)
     refine hide ?_
     have T2 : TW w wb w.heap.size g1 w.heap.size v0 v1 _ [ds, [x1], [x2], [], []] := T1.store (j := 2) (l := [x2]) hgb hxb hu hg1w (Nat.le_refl _) hg01
     clear T1 hu hbx1 hln hxb hgb hsb
     generalize vs.set 2 _ = vs' at T2
     have hT := T2
     clear T2
     obtain ⟨vs, rfl⟩ : ∃ vs : List Value, vs = vs' := ⟨_, rfl⟩
     go_wp2_with fail
     refine (cell_ex n hn0 hn1 34 _ rfl (by decide) _).mono ?_
     rintro e wa ⟨x3, hx3, rfl, hba⟩
     have T1 := (hT.below hba (Nat.le_refl _)).below (blo wa (.cells #[.int .u8 (x3.toNat : Int)] 5)) (Nat.le_refl _)
     have hu : UB (wa.alloc (.cells #[.int .u8 (x3.toNat : Int)] 5)) (.slice (some ⟨wa.heap.size, 0, none⟩) 1 1) [x3] := UB.new wa [x3] 1 rfl (by decide)
     have hbx1 := T1.box
     have hln : 5 < (v0 :: v1 :: vs).length := by simp [T1.len]
     clear hT hba
     go_wp2_with (with_reducible refine store_cell 27 _ _ 29 g1 5 (v0 :: v1 :: vs) (.slice (some ⟨wa.heap.size, 0, none⟩) 1 1) size_row hbx1 rfl rfl rfl rfl hln ?_; intro wb hxb hgb hsb; refine hold ?_)
     refine hide ?_
     have T2 : TW w wb w.heap.size g1 w.heap.size v0 v1 _ [ds, [x1], [x2], [x3], []] := T1.store (j := 3) (l := [x3]) hgb hxb hu hg1w (Nat.le_refl _) hg01
     clear T1 hu hbx1 hln hxb hgb hsb
     generalize vs.set 3 _ = vs' at T2
     have hT := T2
     clear T2
     obtain ⟨vs, rfl⟩ : ∃ vs : List Value, vs = vs' := ⟨_, rfl⟩
     go_wp2_with fail
     refine (cell_ex n hn0 hn1 35 _ rfl (by decide) _).mono ?_
     rintro e wa ⟨x4, hx4, rfl, hba⟩
     have T1 := (hT.below hba (Nat.le_refl _)).below (blo wa (.cells #[.int .u8 (x4.toNat : Int)] 5)) (Nat.le_refl _)
     have hu : UB (wa.alloc (.cells #[.int .u8 (x4.toNat : Int)] 5)) (.slice (some ⟨wa.heap.size, 0, none⟩) 1 1) [x4] := UB.new wa [x4] 1 rfl (by decide)
     have hbx1 := T1.box
     have hln : 6 < (v0 :: v1 :: vs).length := by simp [T1.len]
     clear hT hba
     go_wp2_with (with_reducible refine store_cell 27 _ _ 29 g1 6 (v0 :: v1 :: vs) (.slice (some ⟨wa.heap.size, 0, none⟩) 1 1) size_row hbx1 rfl rfl rfl rfl hln ?_; intro wb hxb hgb hsb; refine hold ?_)
     refine hide ?_
     have T2 : TW w wb w.heap.size g1 w.heap.size v0 v1 _ [ds, [x1], [x2], [x3], [x4]] := T1.store (j := 4) (l := [x4]) hgb hxb hu hg1w (Nat.le_refl _) hg01
     clear T1 hu hbx1 hln hxb hgb hsb
     generalize vs.set 4 _ = vs' at T2
     have hT := T2
     clear T2
     obtain ⟨vs, rfl⟩ : ∃ vs : List Value, vs = vs' := ⟨_, rfl⟩
     go_wp2_with fail
     refine (around_ex 5 _ _ _ rfl (tdiv_in hn0 hn1 (by decide)) (by decide) (by decide)).mono ?_
     rintro e wc1 ⟨q, hq, rfl, rfl⟩
     go_upto_if 174 with fail
     go_cut [3] from 175 to 180 (fun p w' => p = .pointer (some ⟨g1, 0, none⟩) ∧ ∃ (vs : List Value) (s : List UInt8), indic s = true ∧ TW w w' w.heap.size g1 w.heap.size v0 v1 vs [ds, [x1], [x2], [x3], s])
     case first =>
      by_cases hq0 : q = 0
      ·subst hq0
       go_wp2_with fail
       refine (cell_ex n hn0 hn1 35 _ rfl (by decide) _).mono ?_
       rintro e wa1 ⟨cA, hcA, rfl, hba1⟩
       go_wp2_with fail
       refine (cell_ex n hn0 hn1 34 _ rfl (by decide) _).mono ?_
       rintro e wa ⟨cB, hcB, rfl, hba2⟩
       have T1 := ((hT.below hba1 (Nat.le_refl _)).below hba2 (Nat.le_refl _)).below (blo wa (.cells #[.int .u8 (cA.toNat : Int), .int .u8 (cB.toNat : Int)] 5)) (Nat.le_refl _)
       have hu : UB (wa.alloc (.cells #[.int .u8 (cA.toNat : Int), .int .u8 (cB.toNat : Int)] 5)) (.slice (some ⟨wa.heap.size, 0, none⟩) 2 2) [cA, cB] := UB.new wa [cA, cB] 2 rfl (by decide)
       have hbx1 := T1.box
       have hln : 6 < (v0 :: v1 :: vs).length := by simp [T1.len]
       go_wp2_with (with_reducible refine store_cell 27 _ _ 29 g1 6 (v0 :: v1 :: vs) (.slice (some ⟨wa.heap.size, 0, none⟩) 2 2) size_row hbx1 rfl rfl rfl rfl hln ?_; intro wb hxb hgb hsb)
       go_meet
       exact ⟨rfl, _, [cA, cB], two_ok hcA hcB, T1.store (j := 4) (l := [cA, cB]) hgb hxb hu hg1w (Nat.le_refl _) hg01⟩
      ·have dq : ((q : Int) == 0) = false := by simpa using hq0
       have dq2 : decide ((q : Int) = 0) = false := by simpa using hq0
       go_wp2_with fail
       go_meet
       exact ⟨rfl, vs, [x4], one_ok hx4, hT⟩
     case rest =>
      clear hT hq
      obtain ⟨rfl, vs, s, hs, hT⟩ := hcut
      obtain ⟨u2, u3, u4, u5, u6, rfl⟩ : ∃ u2 u3 u4 u5 u6, vs = [u2, u3, u4, u5, u6] := by
       have := hT.len
       match vs, this with
       | [u2, u3, u4, u5, u6], _ => exact ⟨_, _, _, _, _, rfl⟩
      have hOUT := hide hT.out
      have hBB := hide hT.bel
      obtain ⟨L0, L0', hW0, hO0, z0, y0, p0, rfl, hR0, hp0⟩ := hT.l0
      obtain ⟨L1, L1', hW1, hO1, z1, y1, p1, rfl, hR1, hp1⟩ := hT.l1
      obtain ⟨z2, n2, y2, rfl, ho2⟩ := hT.row 0 _ _ rfl rfl
      obtain ⟨z3, n3, y3, rfl, ho3⟩ := hT.row 1 _ _ rfl rfl
      obtain ⟨z4, n4, y4, rfl, ho4⟩ := hT.row 2 _ _ rfl rfl
      obtain ⟨z5, n5, y5, rfl, ho5⟩ := hT.row 3 _ _ rfl rfl
      obtain ⟨z6, n6, y6, rfl, ho6⟩ := hT.row 4 _ _ rfl rfl
      have hbx := hT.box
      have hone : ∀ u ∈ ([.slice z0 p0.length y0, .slice z1 p1.length y1, .slice z2 n2 y2, .slice z3 n3 y3, .slice z4 n4 y4, .slice z5 n5 y5, .slice z6 n6 y6] : List Value), u.oneCell' = true := by simp [Value.oneCell']
      have hgood : GoodTa ⟨L0', L1', ds, [x1], [x2], [x3], s⟩ := good_tables hW0 hW1 hO0 hO1 HDS.out.1 HDS.out.2 (one_ok hx1) (one_ok hx2) (one_ok hx3) hs
      have HGOOD := hide hgood
      have hH0 := hide hp0
      have hH1 := hide hp1
      clear hT hW0 hO0 hW1 hO1 hgood hs hp0 hp1
      have hout := hOUT.out
      go_wp2_with (first
       | (with_reducible refine load_struct 181 29 _ 7 size_tables _ Try.underlying29 ⟨g1, 0, none⟩ rfl [.slice z0 p0.length y0, .slice z1 p1.length y1, .slice z2 n2 y2, .slice z3 n3 y3, .slice z4 n4 y4, .slice z5 n5 y5, .slice z6 n6 y6] rfl (fun j u hj => by rw [Addr.add_lit, Nat.zero_add]; exact hbx.at_ hj) ?_)
       | (with_reducible refine store_all 29 _ _ 29 w.heap.size [.slice none 0 0, .slice none 0 0, .slice none 0 0, .slice none 0 0, .slice none 0 0, .slice none 0 0, .slice none 0 0] [.slice z0 p0.length y0, .slice z1 p1.length y1, .slice z2 n2 y2, .slice z3 n3 y3, .slice z4 n4 y4, .slice z5 n5 y5, .slice z6 n6 y6] _ (size7 _ _ _ _ _ _ _) hout rfl rfl rfl (Eq.refl 7) hone ?_; intro w12 hx12 hg12 hs12))
      have hbw12 := hBB.out.grown hg12 hBB.out.size (fun q hq => by cases hq; exact Nat.le_refl _)
      have hR0' := (hR0.kept hg12 hOUT.out (by decide) (by decide)).rul
      have hR1' := (hR1.kept hg12 hOUT.out (by decide) (by decide)).rul
      have ho2c := UB8 hOUT.out ho2 hg12
      have ho3c := UB8 hOUT.out ho3 hg12
      have ho4c := UB8 hOUT.out ho4 hg12
      have ho5c := UB8 hOUT.out ho5 hg12
      have ho6c := UB8 hOUT.out ho6 hg12
      refine bodyPost_ret (run_results_cell rfl rfl agg_tables (size7 _ _ _ _ _ _ _) hx12) rfl ⟨⟨(z0, p0.length, y0), (z1, p1.length, y1), p0, p1, (z2, n2, y2), (z3, n3, y3), (z4, n4, y4), (z5, n5, y5), (z6, n6, y6)⟩, _, rfl, ⟨hR0', hR1', hH0.out, hH1.out, ho2c.sl, ho3c.sl, ho4c.sl, ho5c.sl, ho6c.sl⟩, HGOOD.out, hbw12⟩
end Go.Proofs.Ytlpkicjijlcbfaa
end

section
/- Chapter 06: the characters that the reference makes of numbers. -/
namespace Go.Dx
open Go.RowKit
def theS : List UInt8 := [116, 104, 101, 114, 105, 110, 103, 97, 110, 100, 115, 116, 111, 117, 98, 99, 97, 102, 120]
def digS : List UInt8 := [48, 49, 50, 51, 52, 53, 54, 55, 56, 57]
def words7 : List ByteArray := [⟨#[116, 104, 101]⟩, ⟨#[97, 110, 100]⟩, ⟨#[105, 110, 103]⟩, ⟨#[116, 105, 111, 110]⟩, ⟨#[98, 117, 116]⟩, ⟨#[98, 101]⟩, ⟨#[115, 116]⟩]
def charF (n : Nat) : UInt8 :=
 if n / 12 = 12 ∨ n / 12 = 13 then digS.getD (n % 10) 0 else if n / 12 = 14 then marks6.getD (n % 6) 0 else if n / 12 = 15 ∨ n / 12 = 16 then 32
 else if n / 12 = 17 then theS.getD (n % 19) 0 - 32 else theS.getD (n % 19) 0
def plainC (c : UInt8) : Bool := isW c && (isL c || isD c || isM c)
theorem charF_plain : ∀ n, n < 240 → plainC (charF n) = true := by decide +kernel
theorem words7_plain : ∀ s ∈ words7, (chars s).all plainC = true := by decide +kernel
theorem plain_sy {g : Nat} (hg : g ≤ 1) {c : UInt8} (hc : plainC c = true) : plainSy ⟨(g : Int), c⟩ = true := by
 unfold plainC at hc
 unfold plainSy symOk
 simp only [Bool.and_eq_true] at hc ⊢
 refine ⟨⟨?_, hc.1⟩, hc.2⟩
 rcases g with _ | _ | g
 ·rfl
 ·rfl
 ·omega
theorem words7_len : ∀ s ∈ words7, s.size ≤ 4 := by decide
def outW (o : List Sy) (g : Nat) (w : List UInt8) : List Sy := o ++ (w.take (24 - o.length)).map fun c => ⟨(g : Int), c⟩
def langS (g n : Nat) : Nat := if n / 12 = 19 then 1 - g else g
def stepS (o : List Sy) (g n : Nat) : List Sy :=
 if n / 12 = 18 then outW (o ++ [⟨(langS g n : Int), charF n⟩]) (langS g n) (chars (words7.getD (n % 7) ⟨#[]⟩)) else o ++ [⟨(langS g n : Int), charF n⟩]
def symsS (f : Int → Nat) : List Int → List Sy → Nat → List Sy
 | [], o, _ => o
 | x :: xs, o, g => if o.length < 24 then symsS f xs (stepS o g (f x)) (langS g (f x)) else o
theorem langS_le {g n : Nat} (hg : g ≤ 1) : langS g n ≤ 1 := by unfold langS; split <;> omega
theorem outW_len {o : List Sy} {g : Nat} {w : List UInt8} (ho : o.length ≤ 24) : (outW o g w).length ≤ 24 := by
 unfold outW; rw [List.length_append, List.length_map, List.length_take]; omega
theorem stepS_len {o : List Sy} {g n : Nat} (ho : o.length < 24) : (stepS o g n).length ≤ 24 := by
 unfold stepS
 split
 ·exact outW_len (by rw [List.length_append]; simp; omega)
 ·rw [List.length_append]; simp; omega
theorem stepS_plain {o : List Sy} {g n : Nat} (hg : g ≤ 1) (hn : n < 240) (ho : ∀ x ∈ o, plainSy x = true) : ∀ x ∈ stepS o g n, plainSy x = true := by
 have h1 : ∀ x ∈ o ++ [(⟨(langS g n : Int), charF n⟩ : Sy)], plainSy x = true := by
  intro x hx
  rcases List.mem_append.1 hx with hx | hx
  ·exact ho x hx
  ·rw [List.mem_singleton] at hx; subst hx; exact plain_sy (langS_le hg) (charF_plain n hn)
 unfold stepS
 split
 ·intro x hx
  unfold outW at hx
  rcases List.mem_append.1 hx with hx | hx
  ·exact h1 x hx
  ·obtain ⟨c, hc, rfl⟩ := List.mem_map.1 hx
   have hm : words7.getD (n % 7) ⟨#[]⟩ ∈ words7 := by
    have : n % 7 < words7.length := Nat.mod_lt _ (by decide)
    rw [List.getD_eq_getElem?_getD, List.getElem?_eq_getElem this]
    exact List.getElem_mem _
   have := words7_plain _ hm
   rw [List.all_eq_true] at this
   exact plain_sy (langS_le hg) (this c (List.mem_of_mem_take hc))
 ·exact h1
theorem symsS_ok {f : Int → Nat} (hf : ∀ x, f x < 240) : ∀ (l : List Int) (o : List Sy) (g : Nat), g ≤ 1 → o.length ≤ 24 → (∀ x ∈ o, plainSy x = true) → (∀ x ∈ symsS f l o g, plainSy x = true) ∧ (symsS f l o g).length ≤ 24
 | [], o, g, _, h2, h3 => ⟨h3, h2⟩
 | x :: xs, o, g, h1, h2, h3 => by
  unfold symsS
  split
  ·rename_i h
   exact symsS_ok hf xs _ _ (langS_le h1) (stepS_len h) (stepS_plain h1 (hf x) h3)
  ·exact ⟨h3, h2⟩
theorem symsS_drop {f : Int → Nat} {l : List Int} {i : Nat} {x : Int} (hx : l[i]? = some x) {o : List Sy} {g : Nat} (ho : o.length < 24) : symsS f (l.drop i) o g = symsS f (l.drop (i + 1)) (stepS o g (f x)) (langS g (f x)) := by
 rw [List.drop_eq_getElem_cons (List.getElem?_eq_some_iff.1 hx).1, (List.getElem?_eq_some_iff.1 hx).2]
 show (if o.length < 24 then _ else _) = _
 rw [if_pos ho]
theorem symsS_full {f : Int → Nat} {l : List Int} {o : List Sy} {g : Nat} (ho : 24 ≤ o.length) : symsS f l o g = o := by
 cases l with
 | nil => rfl
 | cons x xs => show (if o.length < 24 then _ else _) = _; rw [if_neg (by omega)]
section ops
variable {P : Program} {w : World} {ops : Array Oper} {rest : List Oper} {act : Act} {Q : Exit → Act → World → Prop} {ty : TypeId} {pos : String} {after : Array Edge}
theorem idx_str (d : Nat) (t : TypeId) (ht : P.underlying t = some .string) (x y : Operand) (s : ByteArray) (r : Nat) (c : UInt8) (hx : act.eval x = .string s) (hy : act.eval y = .int .i64 (r : Int)) (hc : (chars s)[r]? = some c)
  (hK : wpList P ops Q rest (act.put (some d) (.int .u8 (c.toNat : Int))) w) :
  wpList P ops Q ({ dst := some d, op := .index t x y, type := ty, pos := pos, after := after, guard := none } :: rest) act w := by
 have hr : r < s.size := by rw [size_chars]; exact (List.getElem?_eq_some_iff.1 hc).1
 have he : s[r]'hr = c := by
  have := chars_get hr
  rw [hc] at this
  exact (Option.some.inj this).symm
 refine val_at rfl (.int .u8 (c.toNat : Int)) ?_ hK
 have hrun := run_index_string (P := P) (w := w) t s .i64 (r : Int) ht
 simp [execOp, hx, hy, hrun, hr, he, Result.andThen]
end ops
end Go.Dx
end

section
/- Chapter 06: the reference's Syms. -/
namespace Go.Dx
open Go.RowKit
theorem cF_d {m : Nat} (h : m / 12 = 12 ∨ m / 12 = 13) : (chars ⟨#[48, 49, 50, 51, 52, 53, 54, 55, 56, 57]⟩)[m % 10]? = some (charF m) := by
 unfold charF
 rw [if_pos h, show chars ⟨#[48, 49, 50, 51, 52, 53, 54, 55, 56, 57]⟩ = digS from rfl, List.getD_eq_getElem?_getD, List.getElem?_eq_getElem (show m % 10 < digS.length from Nat.mod_lt _ (by decide))]
 rfl
theorem cF_m {m : Nat} (h : m / 12 = 14) : (chars ⟨#[32, 46, 44, 63, 39, 45]⟩)[m % 6]? = some (charF m) := by
 unfold charF
 rw [if_neg (by omega), if_pos h, show chars ⟨#[32, 46, 44, 63, 39, 45]⟩ = marks6 from rfl, List.getD_eq_getElem?_getD, List.getElem?_eq_getElem (show m % 6 < marks6.length from Nat.mod_lt _ (by decide))]
 rfl
theorem cF_b {m : Nat} (h : m / 12 = 15 ∨ m / 12 = 16) : charF m = 32 := by
 unfold charF
 rw [if_neg (by omega), if_neg (by omega), if_pos h]
theorem theS_low : ∀ c ∈ theS, 97 ≤ c.toNat := by decide
theorem cF_c {m : Nat} (h : m / 12 = 17) {c : UInt8} (hc : theS[m % 19]? = some c) : (c.toNat : Int) - 32 = ((charF m).toNat : Int) ∧ 97 ≤ c.toNat := by
 have h97 := theS_low c (List.mem_of_getElem? hc)
 refine ⟨?_, h97⟩
 unfold charF
 rw [if_neg (by omega), if_neg (by omega), if_neg (by omega), if_pos h, List.getD_eq_getElem?_getD, hc]
 show _ = (((c - 32).toNat : Nat) : Int)
 rw [UInt8.toNat_sub_of_le _ _ (by rw [UInt8.le_iff_toNat_le]; show 32 ≤ c.toNat; omega)]
 show _ = ((c.toNat - 32 : Nat) : Int)
 omega
theorem cF_e {m : Nat} (h : m / 12 ≠ 12 ∧ m / 12 ≠ 13 ∧ m / 12 ≠ 14 ∧ m / 12 ≠ 15 ∧ m / 12 ≠ 16 ∧ m / 12 ≠ 17) {c : UInt8} (hc : theS[m % 19]? = some c) : charF m = c := by
 unfold charF
 rw [if_neg (by omega), if_neg (by omega), if_neg (by omega), if_neg (by omega), List.getD_eq_getElem?_getD, hc]
 rfl
theorem theS_get (m : Nat) : ∃ c, theS[m % 19]? = some c := ⟨_, List.getElem?_eq_getElem (show m % 19 < theS.length from Nat.mod_lt _ (by decide))⟩
def wordK (S : List Sy) (g : Nat) (w : List UInt8) (k : Nat) : List Sy := S ++ (w.take k).map fun c => ⟨(g : Int), c⟩
theorem wordK_zero (S : List Sy) (g : Nat) (w : List UInt8) : wordK S g w 0 = S := by unfold wordK; simp
theorem wordK_step {S : List Sy} {g : Nat} {w : List UInt8} {k : Nat} {c : UInt8} (hc : w[k]? = some c) : wordK S g w (k + 1) = wordK S g w k ++ [⟨(g : Int), c⟩] := by
 unfold wordK
 rw [take_succ_get hc, List.map_append, List.append_assoc]
 rfl
theorem wordK_out {S : List Sy} {g : Nat} {w : List UInt8} {k : Nat} (hS : S.length + k ≤ 24) (h : k = w.length ∨ S.length + k = 24) : wordK S g w k = outW S g w := by
 unfold wordK outW
 rcases h with h | h
 ·rw [List.take_of_length_le (by omega), List.take_of_length_le (by omega)]
 ·rw [show 24 - S.length = k by omega]
theorem wordK_len {S : List Sy} {g : Nat} {w : List UInt8} {k : Nat} (hk : k ≤ w.length) : (wordK S g w k).length = S.length + k := by
 unfold wordK
 rw [List.length_append, List.length_map, List.length_take]; omega
end Go.Dx
namespace Go.Proofs.Ytlpkicjijlcbfaa
open Go.RowKit Go.Dx
def symsL (l : List Int) : List Sy := symsS (fun x => aroundF x 240) l [] 0
theorem symsL_ok (l : List Int) : (∀ x ∈ symsL l, plainSy x = true) ∧ (symsL l).length ≤ 24 := symsS_ok (fun x => aroundF_lt (by decide)) l [] 0 (by decide) (by decide) (fun x h => by simp at h)
set_option maxRecDepth 100000 in
set_option maxHeartbeats 4000000 in
theorem ref_Syms (l : List Int) (hl64 : ∀ x ∈ l, -9223372036854775808 ≤ x ∧ x ≤ 9223372036854775807) (a : Option Addr) (n c : Nat) (w : World) (hs : Sl w 1 a n c (l.map I64)) :
  Calls Try.prog 10 #[.slice a n c] w fun e w' => ∃ a' c', e = .returned (.slice a' (symsL l).length c') ∧ Own w' w.heap.size 88 2 a' (symsL l).length c' ((symsL l).flatMap sc) ∧ Below w.heap.size w w' := by
 obtain ⟨R, HR⟩ : ∃ R, Hid (symsL l = R) := ⟨_, hide rfl⟩
 rw [HR.out]
 have hnl : l.length = n := by exact hs.n_eq.symm
 have hm1 := Nat.le_trans hs.le hs.cap
 unfold maxLen at hm1
 have HNL := hide hnl
 clear hnl
 have HL64 := hide hl64
 clear hl64
 go_enter Try.func10, Try.ntmps10
 go_wp2_with fail
 go_loopg [3, 4, 5] n (fun gh o g v w' => ∃ (i : Nat) (S : List Sy) (g0 : Nat) (ao : Option Addr) (co : Nat), i ≤ n ∧ gh = n - i ∧ o = .slice ao S.length co ∧ g = .int .i64 (g0 : Int) ∧ v = .int .i64 (i : Int) ∧ g0 ≤ 1 ∧ S.length ≤ 24 ∧ Hid (symsS (fun x => aroundF x 240) (l.drop i) S g0 = R) ∧ Own w' w.heap.size 88 2 ao S.length co (S.flatMap sc) ∧ Below w.heap.size w w')
 case atStart => exact ⟨0, [], 0, none, 0, by omega, by omega, rfl, rfl, rfl, by omega, by simp, hide HR.out, Own.nil _ _ _ _, Below.refl _ _⟩
 case round =>
  obtain ⟨i, S, g0, ao, co, hi, hgi, rfl, rfl, rfl, hg1, hS24, HD, hO, hb⟩ := hrel
  have HGI := hide hgi
  clear hgi
  by_cases hil : i < n
  ·by_cases hSl : S.length < 24
   ·obtain ⟨wo, rfl⟩ : ∃ wo : World, wo = wr := ⟨_, rfl⟩
    obtain ⟨x, hx⟩ : ∃ x, l[i]? = some x := ⟨_, List.getElem?_eq_getElem (show i < l.length by rw [HNL.out]; exact hil)⟩
    have hx64 := HL64.out x (List.mem_of_getElem? hx)
    have hA := fun w => ref_Around x 240 240 w rfl hx64.1 hx64.2 (by decide) (by decide)
    have hm240 : aroundF x 240 < 240 := aroundF_lt (by decide)
    have HDS := symsS_drop (f := fun x => aroundF x 240) hx hSl (g := g0)
    obtain ⟨m, HM⟩ : ∃ m, Hid (aroundF x 240 = m) := ⟨_, hide rfl⟩
    rw [HM.out] at hA hm240 HDS
    have HD2 : Hid (symsS (fun x => aroundF x 240) (l.drop (i + 1)) (stepS S g0 m) (langS g0 m) = R) := hide (by rw [← HDS]; exact HD.out)
    have HSL24 := hide (stepS_len (g := g0) (n := m) hSl)
    have HG1 := hide (langS_le (n := m) hg1)
    have HXI := hide hx
    have hsl := hs.below hb
    have d1 : decide (i < n) = true := decide_eq_true hil
    have d1' : decide ((i : Int) < (n : Int)) = true := decide_eq_true (by omega)
    have d2 : decide (S.length < 24) = true := decide_eq_true hSl
    have d2' : decide ((S.length : Int) < 24) = true := decide_eq_true (by omega)
    obtain ⟨q, hq⟩ : ∃ q, q = m / 12 := ⟨_, rfl⟩
    have hq1 : (m : Int) / 12 = (q : Int) := by omega
    have hq2 : (m : Int).tdiv 12 = (q : Int) := by rw [Int.tdiv_eq_ediv_of_nonneg (by omega)]; exact hq1
    have HQ := hide hq
    clear hx hx64 HDS hq
    go_upto_if 29 with (first
     | (with_reducible refine idx_i 24 _ _ _ _ _ _ rfl hsl _ _ i rfl rfl _ HXI.out ?_; intro b o hcell hbo)
     | (go_at_call_of 23 (Value.int IntKind.i64 240); refine (hA _).mono ?_; rintro e w2 ⟨rfl, rfl⟩))
    go_cut [4] from 30 to 31 (fun v w' => v = .int .i64 ((langS g0 m : Nat) : Int) ∧ wo = w')
    case first =>
     by_cases h19 : q = 19
     ·have e0 : langS g0 m = 1 - g0 := by unfold langS; rw [if_pos (by rw [← HQ.out]; exact h19)]
      have e1 : (1 : Int) - (g0 : Int) = ((langS g0 m : Nat) : Int) := by rw [e0]; omega
      have HE1 := hide e1
      clear e0 e1
      subst h19
      go_wp2_with fail
      go_meet
      exact ⟨by rw [← HE1.out], rfl⟩
     ·have e0 : langS g0 m = g0 := by unfold langS; rw [if_neg (by rw [← HQ.out]; exact h19)]
      have dq : ((q : Int) == 19) = false := by simp; omega
      have dq2 : decide ((q : Int) = 19) = false := by simp; omega
      go_wp2_with fail
      go_meet
      exact ⟨by rw [e0], rfl⟩
    case rest =>
     obtain ⟨rfl, rfl⟩ := hcut
     clear hcell hbo hA hsl
     obtain ⟨g1, hg1'⟩ : ∃ g1, Hid (langS g0 m = g1) := ⟨_, hide rfl⟩
     rw [hg1'.out] at HD2 HG1 ⊢
     obtain ⟨c0, hc0⟩ := theS_get m
     have HC0 := hide hc0
     obtain ⟨r19, hr19⟩ : ∃ r, r = m % 19 := ⟨_, rfl⟩
     have hr1 : (m : Int) % 19 = (r19 : Int) := by omega
     have hr2 : (m : Int).tmod 19 = (r19 : Int) := by rw [Int.tmod_eq_emod_of_nonneg (by omega)]; exact hr1
     have HC00 := hide hc0
     rw [← hr19] at HC0
     have hg0 : ∀ (h : r19 < (⟨#[116, 104, 101, 114, 105, 110, 103, 97, 110, 100, 115, 116, 111, 117, 98, 99, 97, 102, 120]⟩ : ByteArray).size), (⟨#[116, 104, 101, 114, 105, 110, 103, 97, 110, 100, 115, 116, 111, 117, 98, 99, 97, 102, 120]⟩ : ByteArray)[r19]'h = c0 := fun h => by
      have h1 := chars_get h
      rw [show chars (⟨#[116, 104, 101, 114, 105, 110, 103, 97, 110, 100, 115, 116, 111, 117, 98, 99, 97, 102, 120]⟩ : ByteArray) = theS from rfl, HC0.out] at h1
      exact (Option.some.inj h1).symm
     clear hc0 hr19
     go_upto_block 2 with (with_reducible refine idx_str 34 _ Try.underlying9 _ _ ⟨#[116, 104, 101, 114, 105, 110, 103, 97, 110, 100, 115, 116, 111, 117, 98, 99, 97, 102, 120]⟩ r19 c0 rfl rfl HC0.out ?_)
     go_cut [7] from 37 to 54 (fun c w' => c = .int .u8 ((charF m).toNat : Int) ∧ wo = w')
     case first =>
      have hcase : q = 12 ∨ q = 13 ∨ q = 14 ∨ q = 15 ∨ q = 16 ∨ q = 17 ∨ (q ≠ 12 ∧ q ≠ 13 ∧ q ≠ 14 ∧ q ≠ 15 ∧ q ≠ 16 ∧ q ≠ 17) := by omega
      rcases hcase with h | h | h | h | h | h | h
      ·have HC := hide (cF_d (m := m) (by rw [← HQ.out]; omega))
       obtain ⟨r, hr⟩ : ∃ r, r = m % 10 := ⟨_, rfl⟩
       have hr1' : (m : Int) % 10 = (r : Int) := by omega
       have hr2' : (m : Int).tmod 10 = (r : Int) := by rw [Int.tmod_eq_emod_of_nonneg (by omega)]; exact hr1'
       rw [← hr] at HC
       clear hr
       subst h
       go_wp2_with (with_reducible refine idx_str 42 _ Try.underlying9 _ _ ⟨#[48, 49, 50, 51, 52, 53, 54, 55, 56, 57]⟩ r (charF m) rfl rfl HC.out ?_)
       go_meet
       exact ⟨rfl, rfl⟩
      ·have HC := hide (cF_d (m := m) (by rw [← HQ.out]; omega))
       obtain ⟨r, hr⟩ : ∃ r, r = m % 10 := ⟨_, rfl⟩
       have hr1' : (m : Int) % 10 = (r : Int) := by omega
       have hr2' : (m : Int).tmod 10 = (r : Int) := by rw [Int.tmod_eq_emod_of_nonneg (by omega)]; exact hr1'
       rw [← hr] at HC
       clear hr
       subst h
       go_wp2_with (with_reducible refine idx_str 42 _ Try.underlying9 _ _ ⟨#[48, 49, 50, 51, 52, 53, 54, 55, 56, 57]⟩ r (charF m) rfl rfl HC.out ?_)
       go_meet
       exact ⟨rfl, rfl⟩
      ·have HC := hide (cF_m (m := m) (by rw [← HQ.out]; omega))
       obtain ⟨r, hr⟩ : ∃ r, r = m % 6 := ⟨_, rfl⟩
       have hr1' : (m : Int) % 6 = (r : Int) := by omega
       have hr2' : (m : Int).tmod 6 = (r : Int) := by rw [Int.tmod_eq_emod_of_nonneg (by omega)]; exact hr1'
       rw [← hr] at HC
       clear hr
       subst h
       go_wp2_with (with_reducible refine idx_str 47 _ Try.underlying9 _ _ ⟨#[32, 46, 44, 63, 39, 45]⟩ r (charF m) rfl rfl HC.out ?_)
       go_meet
       exact ⟨rfl, rfl⟩
      ·have HC := hide (cF_b (m := m) (by rw [← HQ.out]; omega))
       subst h
       go_wp2_with fail
       go_meet
       exact ⟨by rw [HC.out]; rfl, rfl⟩
      ·have HC := hide (cF_b (m := m) (by rw [← HQ.out]; omega))
       subst h
       go_wp2_with fail
       go_meet
       exact ⟨by rw [HC.out]; rfl, rfl⟩
      ·obtain ⟨c1, hc1⟩ := theS_get m
       have HC : Hid (charF m = charF m) := hide rfl
       have hcc := cF_c (m := m) (by rw [← HQ.out]; omega) HC00.out
       have hc97 := hcc.2
       have hce := hcc.1
       have HCE := hide hce
       clear hcc hce hc1
       have hce := HCE.out
       subst h
       go_wp2_with fail
       go_meet
       exact ⟨by rw [← HCE.out]; exact congrArg (Value.int .u8) (by have := c0.toNat_lt; omega), rfl⟩
      ·obtain ⟨h1, h2, h3, h4, h5, h6⟩ := h
       have HC := hide (cF_e (m := m) (by rw [← HQ.out]; exact ⟨h1, h2, h3, h4, h5, h6⟩) HC00.out)
       have e1 : ((q : Int) == 12) = false := by simp; omega
       have e2 : ((q : Int) == 13) = false := by simp; omega
       have e3 : ((q : Int) == 14) = false := by simp; omega
       have e4 : ((q : Int) == 15) = false := by simp; omega
       have e5 : ((q : Int) == 16) = false := by simp; omega
       have e6 : ((q : Int) == 17) = false := by simp; omega
       have f1 : decide ((q : Int) = 12) = false := by simp; omega
       have f2 : decide ((q : Int) = 13) = false := by simp; omega
       have f3 : decide ((q : Int) = 14) = false := by simp; omega
       have f4 : decide ((q : Int) = 15) = false := by simp; omega
       have f5 : decide ((q : Int) = 16) = false := by simp; omega
       have f6 : decide ((q : Int) = 17) = false := by simp; omega
       go_wp2_with fail
       go_meet
       exact ⟨by rw [HC.out], rfl⟩
     case rest =>
      obtain ⟨rfl, rfl⟩ := hcut
      obtain ⟨ch, hch⟩ : ∃ ch, Hid (charF m = ch) := ⟨_, hide rfl⟩
      rw [hch.out]
      go_upto_if 64 with (at_builtin; refine app_sy rfl _ _ rfl w w.heap.size ao S.length co _ rfl hO ⟨(g1 : Int), ch⟩ rfl (by omega) hb.size hb ?_; intro a1 c1 w1 hO1 _ hb1)
      obtain ⟨S1, hS1⟩ : ∃ S1, Hid (S ++ [(⟨(g1 : Int), ch⟩ : Sy)] = S1) := ⟨_, hide rfl⟩
      have hO1 : Own w1 w.heap.size 88 2 a1 S1.length c1 (S1.flatMap sc) := by
       rw [← hS1.out, List.length_append, List.flatMap_append, List.flatMap_singleton]; exact hO1
      have hS1l : S1.length = S.length + 1 := by rw [← hS1.out, List.length_append]; rfl
      rw [← hS1l]
      have hS124 : S1.length ≤ 24 := by omega
      clear hS1l hg0
      have hg1'' := HG1.out
      by_cases h18 : q = 18
      ·obtain ⟨wd, hwd⟩ : ∃ wd, words7[m % 7]? = some wd := ⟨_, List.getElem?_eq_getElem (show m % 7 < words7.length from Nat.mod_lt _ (by decide))⟩
       have HST : Hid (stepS S g0 m = outW S1 g1 (chars wd)) := hide (by
        unfold stepS
        rw [if_pos (by rw [← HQ.out]; exact h18), hg1'.out, hch.out, hS1.out, List.getD_eq_getElem?_getD, hwd]; rfl)
       obtain ⟨r, hr⟩ : ∃ r, r = m % 7 := ⟨_, rfl⟩
       have hr1' : (m : Int) % 7 = (r : Int) := by omega
       have hr2' : (m : Int).tmod 7 = (r : Int) := by rw [Int.tmod_eq_emod_of_nonneg (by omega)]; exact hr1'
       have hr7 : r < 7 := by omega
       rw [← hr] at hwd
       obtain ⟨w3, hw3⟩ : ∃ w3, w3 = w1.alloc (.cells (words7.map Value.string).toArray 9) := ⟨_, rfl⟩
       have hcl : w3.cell? ⟨w1.heap.size, r, none⟩ = some (.string wd) := by
        have := (Sl.fresh w1 9 1 7 (words7.map Value.string) rfl (by decide)).cell ⟨w1.heap.size, 0, none⟩ rfl r (.string wd) (by rw [List.getElem?_map, hwd]; rfl)
        rw [hw3]
        simpa [Addr.add_lit] using this
       have hO3 : Own w3 w.heap.size 88 2 a1 S1.length c1 (S1.flatMap sc) := by rw [hw3]; exact hO1.alloc _
       have hb3 : Below w.heap.size w w3 := by rw [hw3]; exact hb1.trans ((blo w1 _).mono hb1.size)
       have hwsz : wd.size ≤ 4 := words7_len wd (List.mem_of_getElem? hwd)
       rw [show w1.alloc (.cells #[.string ⟨#[116, 104, 101]⟩, .string ⟨#[97, 110, 100]⟩, .string ⟨#[105, 110, 103]⟩, .string ⟨#[116, 105, 111, 110]⟩, .string ⟨#[98, 117, 116]⟩, .string ⟨#[98, 101]⟩, .string ⟨#[115, 116]⟩] 9) = w3 from hw3.symm]
       subst h18
       clear hr hw3 hO1 hb1 hwd
       go_wp2_with fail
       go_loopg [3, 10] wd.size (fun gh o v w' => ∃ (k : Nat) (ak : Option Addr) (ck : Nat), k ≤ wd.size ∧ gh = wd.size - k ∧ S1.length + k ≤ 24 ∧ o = .slice ak (S1.length + k) ck ∧ v = .int .i64 (k : Int) ∧ Own w' w.heap.size 88 2 ak (S1.length + k) ck ((wordK S1 g1 (chars wd) k).flatMap sc) ∧ Below w.heap.size w w')
       case atStart => exact ⟨0, a1, c1, by omega, by omega, by omega, rfl, rfl, by rw [wordK_zero]; exact hO3, hb3⟩
       case round =>
        clear hO3 hb3 hcl
        obtain ⟨k, ak, ck, hk, hgk, hk24, rfl, rfl, hOk, hbk⟩ := hrel
        have HGK := hide hgk
        clear hgk
        have hfin : (k = wd.size ∨ S1.length + k = 24) → Hid (symsS (fun x => aroundF x 240) (l.drop (i + 1)) (wordK S1 g1 (chars wd) k) g1 = R) ∧ Hid ((wordK S1 g1 (chars wd) k).length = S1.length + k) := fun h => by
         refine ⟨hide ?_, hide (wordK_len (by rw [← size_chars]; exact hk))⟩
         rw [wordK_out hk24 (by rw [← size_chars]; exact h), ← HST.out]; exact HD2.out
        have HFIN := hide hfin
        clear hfin
        by_cases hkl : k < wd.size
        ·have e1 : decide (k < wd.size) = true := decide_eq_true hkl
         have e1' : decide ((k : Int) < (wd.size : Int)) = true := decide_eq_true (by omega)
         by_cases hkS : S1.length + k < 24
         ·have e2 : decide (S1.length + k < 24) = true := decide_eq_true hkS
          have e2' : decide ((S1.length : Int) + (k : Int) < 24) = true := decide_eq_true (by omega)
          have HWS := hide (wordK_step (S := S1) (g := g1) (chars_get hkl))
          go_wp2_with (at_builtin; refine app_sy rfl _ _ rfl w w.heap.size ak (S1.length + k) ck _ rfl hOk ⟨(g1 : Int), wd[k]⟩ rfl (by omega) hbk.size hbk ?_; intro a9 c9 w9 hO9 _ hb9)
          go_roundg (wd.size - (k + 1))
          case measure => have := HGK.out; omega
          case rel => exact ⟨k + 1, a9, c9, by omega, rfl, by omega, rfl, by go_num, by rw [HWS.out, List.flatMap_append, List.flatMap_singleton]; exact hO9, hb9⟩
         ·obtain ⟨f1, f2⟩ := HFIN.out (.inr (by omega))
          have e2 : decide (S1.length + k < 24) = false := decide_eq_false hkS
          have e2' : decide ((S1.length : Int) + (k : Int) < 24) = false := decide_eq_false (by omega)
          go_wp2_with fail
          go_roundg (n - (i + 1))
          case measure => have := HGI.out; omega
          case rel => exact ⟨i + 1, wordK S1 g1 (chars wd) k, g1, ak, ck, by omega, rfl, by rw [f2.out], rfl, by go_num, hg1'', by rw [f2.out]; exact hk24, f1, by rw [f2.out]; exact hOk, hbk⟩
        ·obtain rfl : k = wd.size := by omega
         obtain ⟨f1, f2⟩ := HFIN.out (.inl rfl)
         go_wp2_with fail
         go_roundg (n - (i + 1))
         case measure => have := HGI.out; omega
         case rel => exact ⟨i + 1, wordK S1 g1 (chars wd) wd.size, g1, ak, ck, by omega, rfl, by rw [f2.out], rfl, by go_num, hg1'', by rw [f2.out]; exact hk24, f1, by rw [f2.out]; exact hOk, hbk⟩
      ·have hst : Hid (S1 = stepS S g0 m) := hide (by
        unfold stepS
        rw [if_neg (by rw [← HQ.out]; exact h18), hg1'.out, hch.out]; exact hS1.out.symm)
       have HD3 : Hid (symsS (fun x => aroundF x 240) (l.drop (i + 1)) S1 g1 = R) := hide (by rw [hst.out]; exact HD2.out)
       have e1 : ((q : Int) == 18) = false := by simp; omega
       have e2 : decide ((q : Int) = 18) = false := by simp; omega
       have al := blo w1 (.cells (words7.map Value.string).toArray 9)
       have hO2 := hO1.below al
       have hb2 := hb1.trans (al.mono hb1.size)
       go_wp2_with fail
       go_roundg (n - (i + 1))
       case measure => have := HGI.out; omega
       case rel => exact ⟨i + 1, S1, g1, a1, c1, by omega, rfl, rfl, rfl, by go_num, hg1'', hS124, HD3, hO2, hb2⟩
   ·have hS : S.length = 24 := by omega
    have hfin := HD.out
    rw [symsS_full (by omega)] at hfin
    have d1 : decide (i < n) = true := decide_eq_true hil
    have d1' : decide ((i : Int) < (n : Int)) = true := decide_eq_true (by omega)
    have d2 : decide (S.length < 24) = false := decide_eq_false hSl
    have d2' : decide ((S.length : Int) < 24) = false := decide_eq_false (by omega)
    have HF := hide hfin
    clear hfin hS
    go_wp2_with fail
    go_ret
    rw [← HF.out]
    exact ⟨ao, co, rfl, hO, hb⟩
  ·obtain rfl : i = n := by omega
   have hfin := HD.out
   rw [List.drop_of_length_le (by rw [HNL.out]; exact Nat.le_refl _)] at hfin
   have HF : Hid (S = R) := hide hfin
   clear hfin
   go_wp2_with fail
   go_ret
   rw [← HF.out]
   exact ⟨ao, co, rfl, hO, hb⟩
end Go.Proofs.Ytlpkicjijlcbfaa
end

section
/- Chapter 06: what every law of the chapter takes, in one text. -/
namespace Go.Dx
open Go.RowKit
def FStn (n : Nat) (L : List Stp) (vs : List Value) (w : World) : Prop := ∃ a c ps, vs = [.slice a n c] ∧ Stl w a n c ps L
theorem FStn.below {n : Nat} {l : List Stp} {vs : List Value} {w w' : World} (h : FStn n l vs w) (hb : Below w.heap.size w w') : FStn n l vs w' := by obtain ⟨a, c, ps, h1, h2⟩ := h; exact ⟨a, c, ps, h1, h2.below hb⟩
end Go.Dx
namespace Go.Proofs.Ytlpkicjijlcbfaa
open Go.RowKit Go.Dx
theorem steps_of (H : TH) (t : Ta) (s : St) (l : List Sy) (i : Int) {L : List Stp} (hL : stepsL t s l i = L) (a : Option Addr) (n c : Nat) (hll : l.length ≤ 1000000) (w : World) (hT : TaIs w H t) (hs : Sl w 2 a n c (l.flatMap sc)) :
  Calls Try.prog 28 #[H.v, sv s, .slice a n c, .int .i64 i] w (StepsR L w) := by
 have := tab_Steps H t s l a n c i hll w hT hs
 rw [hL] at this
 exact this
theorem steps_ofT (H : TH) (t : Ta) (s : St) (l : List Sy) (i : Int) {L : List Stp} (hL : stepsL t s l i = L) (a : Option Addr) (n c : Nat) (hll : l.length ≤ 1000000) (w : World) (hT : TaIs w H t) (hs : Sl w 2 a n c (l.flatMap sc)) :
  Calls Try.prog 28 #[H.v, sv s, .slice a n c, .int .i64 i] w (StepsT 67 L w) := by
 have := tab_StepsT H t s l a n c i hll w hT hs
 rw [hL] at this
 exact this
end Go.Proofs.Ytlpkicjijlcbfaa
end

section
/- Chapter 06: plain and SameSteps (steps of the reference). -/
namespace Go.Proofs.Ytlpkicjijlcbfaa
open Go.RowKit Go.Dx
theorem size_rst : (Try.prog.info? 70).map (·.size) = some 3 := by kernel_rfl
theorem size_r3 (x y z : Value) : (Try.prog.info? 70).map (·.size) = some ([x, y, z] : List Value).length := by rw [size_rst]; rfl
theorem same_at {x y : List UInt8} {a1 a2 : Option Addr} {n1 n2 c1 c2 : Nat} {w : World} (hxy : x = y) (h1 : Sl w 1 a1 n1 c1 (x.map B8)) (h2 : Sl w 1 a2 n2 c2 (y.map B8)) :
  Calls Try.prog 20 #[.slice a1 n1 c1, .slice a2 n2 c2] w fun e w' => e = .returned (.bool true) ∧ Below w.heap.size w w' := by
 refine (ref_Same x y a1 a2 n1 n2 c1 c2 w ⟨h1.len, h1.le, h1.cap, h1.nil, h1.cell⟩ ⟨h2.len, h2.le, h2.cap, h2.nil, h2.cell⟩).mono ?_
 rintro e w' ⟨rfl, m, hm⟩
 exact ⟨by rw [decide_eq_true hxy], hm ▸ Still.below m⟩
section
variable {w : World} {ops : Array Oper} {rest : List Oper} {o : Oper} {act : Act} {Q : Exit → Act → World → Prop}
end
end Go.Proofs.Ytlpkicjijlcbfaa
end

section
/- Chapter 08: the numbers of states; the error of tables and a text. -/
namespace Go.Proofs.Ytlpkicjijlcbfaa
open Go.RowKit Go.Dx
theorem agg_tst8 : IsAgg Try.prog 63 := .inr ⟨_, Try.underlying63⟩
theorem agg_rst8 : IsAgg Try.prog 70 := .inr ⟨_, Try.underlying70⟩
theorem con_number (s : St) (hs : s.lang = 0 ∨ s.lang = 1) (w : World) : Calls Try.prog 76 #[sv s] w fun e w' => e = .returned (.int .i64 (numS s : Int)) ∧ Below w.heap.size w w' := by
 obtain ⟨g, a, b⟩ := s
 simp only at hs
 rcases hs with rfl | rfl <;> cases a <;> cases b
 all_goals
  unfold sv
  go_enter Try.func76, Try.ntmps76
  go_wp2_with fail
  go_ret
  exact ⟨rfl, blo w _⟩
set_option maxRecDepth 100000 in
set_option maxHeartbeats 1000000 in
theorem con_state (n : Nat) (hn : n < 8) (w : World) : Calls Try.prog 53 #[.int .i64 (n : Int)] w fun e w' => e = .returned (sv (stN n)) ∧ Below w.heap.size w w' := by
 have h8 : n = 0 ∨ n = 1 ∨ n = 2 ∨ n = 3 ∨ n = 4 ∨ n = 5 ∨ n = 6 ∨ n = 7 := by omega
 have hb0 := blo w (.cells #[.int .i64 0, .bool false, .bool false] 63)
 have X1 := Box.new w 63 #[.int .i64 0, .bool false, .bool false]
 have hone : ∀ (x : Int) (y z : Bool), ∀ u ∈ ([.int .i64 x, .bool y, .bool z] : List Value), u.oneCell' = true := fun x y z => by simp [Value.oneCell']
 clear hn
 rcases h8 with rfl | rfl | rfl | rfl | rfl | rfl | rfl | rfl
 all_goals
  go_enter Try.func53, Try.ntmps53
  go_upto_region 1 with fail
  generalize w.alloc (.cells _ 63) = w2 at *
  go_wp2_with (with_reducible refine store_all 63 _ _ 63 w.heap.size [.int .i64 0, .bool false, .bool false] [.int .i64 _, .bool _, .bool _] _ (size_st3 _ _ _) X1 rfl rfl rfl (Eq.refl 3) (hone _ _ _) ?_; intro w3 hx3 hg3 hz3)
  exact bodyPost_ret (run_results_cell rfl rfl agg_tst8 (size_st3 _ _ _) hx3) rfl ⟨rfl, hb0.grown hg3 hb0.size (fun q hq => by cases hq; omega)⟩
theorem r8_Number (s : St) (hs : s.lang = 0 ∨ s.lang = 1) (w : World) : Calls Try.prog 29 #[sv s] w fun e w' => e = .returned (.int .i64 (numS s : Int)) ∧ Below w.heap.size w w' := by
 obtain ⟨g, a, b⟩ := s
 simp only at hs
 rcases hs with rfl | rfl <;> cases a <;> cases b
 all_goals
  unfold sv
  go_enter Try.func29, Try.ntmps29
  go_wp2_with fail
  go_ret
  exact ⟨rfl, blo w _⟩
set_option maxRecDepth 100000 in
set_option maxHeartbeats 1000000 in
theorem r8_State (n : Nat) (hn : n < 8) (w : World) : Calls Try.prog 70 #[.int .i64 (n : Int)] w fun e w' => e = .returned (sv (stN n)) ∧ Below w.heap.size w w' := by
 have h8 : n = 0 ∨ n = 1 ∨ n = 2 ∨ n = 3 ∨ n = 4 ∨ n = 5 ∨ n = 6 ∨ n = 7 := by omega
 have hb0 := blo w (.cells #[.int .i64 0, .bool false, .bool false] 70)
 have X1 := Box.new w 70 #[.int .i64 0, .bool false, .bool false]
 have hone : ∀ (x : Int) (y z : Bool), ∀ u ∈ ([.int .i64 x, .bool y, .bool z] : List Value), u.oneCell' = true := fun x y z => by simp [Value.oneCell']
 clear hn
 rcases h8 with rfl | rfl | rfl | rfl | rfl | rfl | rfl | rfl
 all_goals
  go_enter Try.func70, Try.ntmps70
  go_upto_region 1 with fail
  generalize w.alloc (.cells _ 70) = w2 at *
  go_wp2_with (with_reducible refine store_all 70 _ _ 70 w.heap.size [.int .i64 0, .bool false, .bool false] [.int .i64 _, .bool _, .bool _] _ (size_r3 _ _ _) X1 rfl rfl rfl (Eq.refl 3) (hone _ _ _) ?_; intro w3 hx3 hg3 hz3)
  exact bodyPost_ret (run_results_cell rfl rfl agg_rst8 (size_r3 _ _ _) hx3) rfl ⟨rfl, hb0.grown hg3 hb0.size (fun q hq => by cases hq; omega)⟩
set_option maxHeartbeats 400000 in
theorem fits_1 (x : Sy) (w : World) : Calls Try.prog 67 #[.agg #[.int .i64 x.lang, .int .u8 (x.c.toNat : Int)]] w fun e w' => e = .returned (.bool (badS x)) ∧ Below w.heap.size w w' := by
 obtain ⟨g, c⟩ := x
 have hc := c.toNat_lt
 have hx : badS ⟨g, c⟩ = (decide (g < 0) || decide (1 < g) || decide (c.toNat < 32) || decide (126 < c.toNat)) := by
  unfold badS symOk isW
  simp only
  by_cases h1 : g < 0
  ·have : g ≠ 0 ∧ g ≠ 1 := by omega
   simp [h1, this.1, this.2]
  ·by_cases h2 : 1 < g
   ·have : g ≠ 0 ∧ g ≠ 1 := by omega
    simp [h1, h2, this.1, this.2]
   ·have : (decide (g = 0) || decide (g = 1)) = true := by simp; omega
    rw [this]
    by_cases h3 : c.toNat < 32
    ·simp [h1, h2, h3]
    ·by_cases h4 : 126 < c.toNat
     ·simp [h1, h2, h3, h4]
     ·have : 32 ≤ c.toNat ∧ c.toNat ≤ 126 := by omega
      simp [h1, h2, h3, h4, this.1, this.2]
 rw [hx]
 simp only
 generalize c.toNat = k at hc ⊢
 clear hx
 by_cases h1 : g < 0
 ·have d1 : decide (g < 0) = true := decide_eq_true h1
  rw [d1]
  go_enter Try.func67, Try.ntmps67
  go_wp2_with fail
  go_ret
  exact ⟨rfl, blo w _⟩
 ·have d1 : decide (g < 0) = false := decide_eq_false h1
  rw [d1]
  by_cases h2 : 1 < g
  ·have d2 : decide (1 < g) = true := decide_eq_true h2
   rw [d2]
   go_enter Try.func67, Try.ntmps67
   go_wp2_with fail
   go_ret
   exact ⟨rfl, blo w _⟩
  ·have d2 : decide (1 < g) = false := decide_eq_false h2
   rw [d2]
   by_cases h3 : k < 32
   ·have d3 : decide ((k : Int) < 32) = true := decide_eq_true (by omega)
    have d4 : decide (k < 32) = true := decide_eq_true h3
    rw [d4]
    go_enter Try.func67, Try.ntmps67
    go_wp2_with fail
    go_ret
    exact ⟨rfl, blo w _⟩
   ·have d3 : decide ((k : Int) < 32) = false := decide_eq_false (by omega)
    have d4 : decide (k < 32) = false := decide_eq_false h3
    rw [d4]
    have d5 : decide (126 < k) = decide ((126 : Int) < (k : Int)) := by
     by_cases h4 : 126 < k
     ·rw [decide_eq_true h4, decide_eq_true (by omega)]
     ·rw [decide_eq_false h4, decide_eq_false (by omega)]
    rw [d5]
    go_enter Try.func67, Try.ntmps67
    go_wp2_with fail
    go_ret
    exact ⟨rfl, blo w _⟩
set_option maxHeartbeats 400000 in
theorem index_yf (l : List Sy) (a : Option Addr) (n c : Nat) (w : World) (hs : Sl w 2 a n c (l.flatMap sc)) :
  Calls Try.prog 83 #[.slice a n c, fnv 67] w fun e w' => ∃ i : Int, e = .returned (.int .i64 i) ∧ decide (0 ≤ i) = l.any badS ∧ Below w.heap.size w w' := by
 unfold fnv
 obtain rfl := hs.nf sc_len (by decide)
 have hm1 := Nat.le_trans hs.le hs.cap
 unfold maxLen at hm1
 go_enter Try.func83, Try.ntmps83
 go_wp2_with fail
 go_loopg [8] l.length (fun g i w' => ∃ (k : Nat), k ≤ l.length ∧ g = l.length - k ∧ (l.take k).any badS = false ∧ i = .int .i64 k ∧ Below w.heap.size w w')
 case atStart => exact ⟨0, by omega, by omega, rfl, rfl, Below.refl _ _⟩
 case round =>
  obtain ⟨k, hk, hg, ht, rfl, hb⟩ := hrel
  have HG := hide hg
  have HT := hide ht
  clear hg ht
  by_cases hkl : k < l.length
  ·obtain ⟨x, hx⟩ : ∃ x, l[k]? = some x := ⟨l[k], by simp [hkl]⟩
   have HH := hide hx
   have hs1 := hs.below hb
   clear hx
   have hc := fits_1 x wr
   cases hq : badS x
   ·have HN := hide (any_take_no HH.out HT.out hq)
    rw [hq] at hc
    clear hq
    go_wp2_with (first
     | (with_reducible refine idx_y 14 _ _ _ _ _ _ rfl hs1 _ _ k rfl rfl _ HH.out ?_; intro b o hcell hcell2 hbo)
     | (go_at_call 67; refine hc.mono ?_; rintro e w2 ⟨rfl, hb2⟩))
    have hb3 := hb.trans (hb2.mono hb.size)
    go_roundg (l.length - (k + 1))
    case measure => have := HG.out; omega
    case rel => exact ⟨k + 1, by omega, rfl, HN.out, by go_num, hb3⟩
   ·have HN := hide (any_of_get HH.out hq)
    rw [hq] at hc
    clear hq
    go_wp2_with (first
     | (with_reducible refine idx_y 14 _ _ _ _ _ _ rfl hs1 _ _ k rfl rfl _ HH.out ?_; intro b o hcell hcell2 hbo)
     | (go_at_call 67; refine hc.mono ?_; rintro e w2 ⟨rfl, hb2⟩))
    go_ret
    exact ⟨_, rfl, by rw [HN.out]; exact decide_eq_true (by omega), hb.trans (hb2.mono hb.size)⟩
  ·obtain rfl : k = l.length := by omega
   go_wp2
   go_ret
   have := HT.out
   rw [List.take_length] at this
   exact ⟨_, rfl, by rw [this]; rfl, hb⟩
set_option maxHeartbeats 400000 in
theorem contains_yf (l : List Sy) (a : Option Addr) (n c : Nat) (w : World) (hs : Sl w 2 a n c (l.flatMap sc)) :
  Calls Try.prog 57 #[.slice a n c, fnv 67] w fun e w' => e = .returned (.bool (!goodS l)) ∧ Below w.heap.size w w' := by
 have hc := index_yf l a n c w hs
 rw [goodS_eq, Bool.not_not]
 unfold fnv at hc ⊢
 go_enter Try.func57, Try.ntmps57
 go_wp2_with (go_at_call 83; refine hc.mono ?_; rintro e w2 ⟨i, rfl, hi, hb⟩)
 go_ret
 exact ⟨by rw [← hi]; rfl, hb⟩
end Go.Proofs.Ytlpkicjijlcbfaa
end

section
/- Chapter 08: what a step and what follows it need; the search for the least. -/
namespace Go.Proofs.Ytlpkicjijlcbfaa
open Go.RowKit Go.Dx
def spv (p : SH) : Value := .agg (stc p).toArray
def RCH (b1 b2 : Nat) : Value := .func (.func 75) #[] #[.pointer (some ⟨b1, 0, none⟩), .pointer (some ⟨b2, 0, none⟩)]
theorem size_row8 : (Try.prog.info? 93).map (·.size) = some 8 := by kernel_rfl
theorem size_stp6 : (Try.prog.info? 67).map (·.size) = some 6 := by kernel_rfl
structure RBx (w : World) (b1 b2 bA at_ : Nat) (A : Nums) : Prop where
 x1 : Box w b1 90 [.slice (some ⟨bA, 0, none⟩) A.length A.length]
 x2 : Box w b2 3 [.int .i64 (at_ : Int)]
 xA : Box w bA 93 (A.flatMap rowc)
 r8 : R8 A
 few : A.length ≤ 1000000
theorem RBx.below {w w' : World} {b1 b2 bA at_ : Nat} {A : Nums} (h : RBx w b1 b2 bA at_ A) (hb : Below w.heap.size w w') : RBx w' b1 b2 bA at_ A := ⟨h.x1.under hb, h.x2.under hb, h.xA.under hb, h.r8, h.few⟩
theorem st3_at {sl : Int} {sn si : Bool} {a b c : Value} {j : Nat} {u : Value} (h : ([.int .i64 sl, .bool sn, .bool si] : List Value)[j]? = some u) : ([.int .i64 sl, .bool sn, .bool si, a, b, c] : List Value)[j]? = some u := by
 match j, h with
 | 0, h => exact h
 | 1, h => exact h
 | 2, h => exact h
 | j + 3, h => cases h
set_option maxRecDepth 100000 in
set_option maxHeartbeats 2000000 in
theorem reach_1 (p : SH) (A : Nums) (bA b1 b2 at_ : Nat) (w : World) (hR : RBx w b1 b2 bA at_ A) (hL : LkT A at_ p.1) (hn : p.2.2.1 = p.1.cells.length) :
  Calls Try.prog 75 #[spv p, .pointer (some ⟨b1, 0, none⟩), .pointer (some ⟨b2, 0, none⟩)] w fun e w' => e = .returned (.tuple #[.int .i64 (lookA A at_ p.1 + p.1.cells.length), .bool (decide (0 ≤ lookA A at_ p.1))]) ∧ Below w.heap.size w w' := by
 obtain ⟨⟨⟨sl, sn, si⟩, ln, cs, ru⟩, ⟨pa, pn, pc⟩⟩ := p
 simp only at hn
 obtain ⟨v, hv⟩ : ∃ v, Hid (lookA A at_ ⟨⟨sl, sn, si⟩, ln, cs, ru⟩ = v) := ⟨_, hide rfl⟩
 have hLl := hL.lang
 simp only at hLl ⊢
 rw [hv.out, ← hn]
 have hlo := hL.lo
 have hhi := hL.hi
 have hfw := hL.few
 have hlt := hL.lt
 have hln := hL.len
 simp only at hfw hlt hln
 rw [hv.out] at hlo hhi
 rw [← hn] at hfw
 obtain ⟨lk, rfl⟩ : ∃ lk : Nat, ln = (lk : Int) := ⟨ln.toNat, by omega⟩
 rw [Int.toNat_natCast] at hlt
 obtain ⟨nd, hnd⟩ : ∃ nd, Hid (numS ⟨sl, sn, si⟩ = nd) := ⟨_, hide rfl⟩
 have hnd8 : nd < 8 := by rw [← hnd.out]; exact numS_lt hLl
 have hnum := hide (fun w => con_number ⟨sl, sn, si⟩ hLl w)
 rw [hnd.out] at hnum
 obtain ⟨N, hN⟩ : ∃ N, Hid (A.length = N) := ⟨_, hide rfl⟩
 have hx1 := hR.x1
 have hN6 := hR.few
 rw [hN.out] at hx1 hlt hN6
 obtain ⟨ak, hak⟩ : ∃ ak, Hid (at_ + lk = ak) := ⟨_, hide rfl⟩
 have hakI : (at_ : Int) + (lk : Int) = (ak : Int) := by have := hak.out; omega
 have hakN : ak < N := by have := hak.out; omega
 have hVA : Hid ((A.flatMap rowc)[ak * 8 + nd]? = some (I64 v)) := hide (by
  have hr : A[ak]? = some (A[ak]'(by rw [hN.out]; exact hakN)) := by simp
  have h8 := hR.r8.get hr
  have hg : (A[ak]'(by rw [hN.out]; exact hakN))[nd]? = some v := by
   rw [List.getElem?_eq_getElem (by omega)]
   have h1 := hv.out
   unfold lookA at h1
   simp only [Int.toNat_natCast] at h1
   rw [hnd.out, hak.out, List.getD_eq_getElem?_getD (l := A), hr] at h1
   simp only [Option.getD_some] at h1
   rw [List.getD_eq_getElem?_getD, List.getElem?_eq_getElem (by omega)] at h1
   simpa using h1
  exact nf_get A hR.r8 hr hg)
 have hxA := hR.xA
 have hb2 := blo w (.cells #[.int .i64 sl, .bool sn, .bool si, .int .i64 (lk : Int), .slice pa pn pc, .int .i64 ru] 67)
 have HX := Box.new w 67 #[.int .i64 sl, .bool sn, .bool si, .int .i64 (lk : Int), .slice pa pn pc, .int .i64 ru]
 have c1 : (w.alloc (.cells #[.int .i64 sl, .bool sn, .bool si, .int .i64 (lk : Int), .slice pa pn pc, .int .i64 ru] 67)).cell? ⟨b1, 0, none⟩ = some (.slice (some ⟨bA, 0, none⟩) N N) := (hx1.under hb2).at_ rfl
 have c2 : (w.alloc (.cells #[.int .i64 sl, .bool sn, .bool si, .int .i64 (lk : Int), .slice pa pn pc, .int .i64 ru] 67)).cell? ⟨b2, 0, none⟩ = some (.int .i64 (at_ : Int)) := (hR.x2.under hb2).at_ rfl
 have cV : (w.alloc (.cells #[.int .i64 sl, .bool sn, .bool si, .int .i64 (lk : Int), .slice pa pn pc, .int .i64 ru] 67)).cell? ⟨bA, ak * 8 + nd, none⟩ = some (.int .i64 v) := (hxA.under hb2).at_ hVA.out
 have HB2 := hide hb2
 clear hR hL hb2 hx1 hxA hVA hn hLl hlt
 unfold spv stc hdv
 simp only
 go_enter Try.func75, Try.ntmps75
 go_wp2_with fail
 generalize w.alloc (.cells #[.int .i64 sl, .bool sn, .bool si, .int .i64 (lk : Int), .slice pa pn pc, .int .i64 ru] 67) = w2 at *
 obtain ⟨g, hg⟩ : ∃ g, Hid (w.heap.size = g) := ⟨_, hide rfl⟩
 rw [hg.out] at HX ⊢
 have c3 : w2.cell? ⟨g, 3, none⟩ = some (.int .i64 (lk : Int)) := HX.at_ rfl
 refine wp_region_free 11 [⟨0, 7, [7], fun vs _ => vs = [.slice (some ⟨bA, 0, none⟩) N N]⟩, ⟨1, 8, [8], fun vs _ => vs = [.int .i64 (at_ : Int)]⟩, ⟨2, 9, [9], fun vs _ => vs = [.pointer (some ⟨g, 3, none⟩)]⟩, ⟨3, 10, [10], fun vs _ => vs = [.int .i64 (lk : Int)]⟩, ⟨4, 11, [11], fun vs _ => vs = [.int .i64 (ak : Int)]⟩, ⟨5, 12, [12], fun vs _ => vs = [.pointer (some ⟨g, 0, none⟩)]⟩, ⟨6, 13, [13], fun vs _ => vs = [sv ⟨sl, sn, si⟩]⟩, ⟨7, 14, [14], fun vs _ => vs = [.int .i64 (nd : Int)]⟩, ⟨8, 15, [15], fun vs _ => vs = [.pointer (some ⟨bA, ak * 8, none⟩)]⟩, ⟨9, 16, [16], fun vs _ => vs = [.pointer (some ⟨bA, ak * 8 + nd, none⟩)]⟩, ⟨10, 17, [17], fun vs _ => vs = [.int .i64 v]⟩] (by kernel_rfl) (by kernel_rfl) ?_ ?_ ?_
 ·simp only [All]
  refine ⟨fun _ _ _ _ h => h, fun _ _ _ _ h => h, fun _ _ _ _ h => h, fun _ _ _ _ h => h, fun _ _ _ _ h => h, fun _ _ _ _ h => h, fun _ _ _ _ h => h, fun _ _ _ _ h => h, fun _ _ _ _ h => h, fun _ _ _ _ h => h, fun _ _ _ _ h => h, trivial⟩
 ·simp only [All]
  refine ⟨?_, ?_, ?_, ?_, ?_, ?_, ?_, ?_, ?_, ?_, ?_, trivial⟩
  ·intro o ho a' w' hb hfr hdep; obtain rfl := oj ho
   have g1 : a'.tmps[1]?.getD undef = .pointer (some ⟨b1, 0, none⟩) := by simpa using hfr 1 (by kernel_rfl)
   clear ho hfr hdep; have hcl := cell_below c1 hb
   go_wp2_with fail; exact ⟨rfl, _, rfl, br, rfl⟩
  ·intro o ho a' w' hb hfr hdep; obtain rfl := oj ho
   have g2 : a'.tmps[2]?.getD undef = .pointer (some ⟨b2, 0, none⟩) := by simpa using hfr 2 (by kernel_rfl)
   clear ho hfr hdep; have hcl := cell_below c2 hb
   go_wp2_with fail; exact ⟨rfl, _, rfl, br, rfl⟩
  ·intro o ho a' w' hb hfr hdep; obtain rfl := oj ho
   have g3 : a'.tmps[3]?.getD undef = .pointer (some ⟨g, 0, none⟩) := by simpa using hfr 3 (by kernel_rfl)
   clear ho hfr hdep; go_wp2_with fail; exact ⟨rfl, _, rfl, br, rfl⟩
  ·intro o ho a' w' hb hfr hdep; obtain rfl := oj ho
   have g9 : a'.tmps[9]?.getD undef = .pointer (some ⟨g, 3, none⟩) := by simpa using hdep 2 _ rfl (by kernel_rfl)
   clear ho hfr hdep; have hcl := cell_below c3 hb
   go_wp2_with fail; exact ⟨rfl, _, rfl, br, rfl⟩
  ·intro o ho a' w' hb hfr hdep; obtain rfl := oj ho
   have g8 : a'.tmps[8]?.getD undef = .int .i64 (at_ : Int) := by simpa using hdep 1 _ rfl (by kernel_rfl)
   have g10 : a'.tmps[10]?.getD undef = .int .i64 (lk : Int) := by simpa using hdep 3 _ rfl (by kernel_rfl)
   clear ho hfr hdep; go_wp2_with fail; exact ⟨rfl, _, rfl, br, rfl⟩
  ·intro o ho a' w' hb hfr hdep; obtain rfl := oj ho
   have g3 : a'.tmps[3]?.getD undef = .pointer (some ⟨g, 0, none⟩) := by simpa using hfr 3 (by kernel_rfl)
   clear ho hfr hdep; go_wp2_with fail; exact ⟨rfl, _, rfl, br, rfl⟩
  ·intro o ho a' w' hb hfr hdep; obtain rfl := oj ho
   have g12 : a'.tmps[12]?.getD undef = .pointer (some ⟨g, 0, none⟩) := by simpa using hdep 5 _ rfl (by kernel_rfl)
   clear ho hfr hdep; refine load_struct 13 63 _ 3 size_state _ Try.underlying63 ⟨g, 0, none⟩ (by show a'.tmps.getD 12 undef = _; simpa using g12) [.int .i64 sl, .bool sn, .bool si] rfl (fun j u hj => by rw [Addr.add_lit, Nat.zero_add]; exact (HX.under hb).at_ (st3_at hj)) ?_
   exact ⟨rfl, _, rfl, br, rfl⟩
  ·intro o ho a' w' hb hfr hdep; obtain rfl := oj ho
   have g13 : a'.tmps[13]?.getD undef = sv ⟨sl, sn, si⟩ := by simpa using hdep 6 _ rfl (by kernel_rfl)
   clear ho hfr hdep; go_wp2_with (go_at_call 76; refine (hnum.out _).mono ?_; rintro e w2 ⟨rfl, h2⟩)
   exact ⟨rfl, _, rfl, h2, rfl⟩
  ·intro o ho a' w' hb hfr hdep; obtain rfl := oj ho
   have g7 : a'.tmps[7]?.getD undef = .slice (some ⟨bA, 0, none⟩) N N := by simpa using hdep 0 _ rfl (by kernel_rfl)
   have g11 : a'.tmps[11]?.getD undef = .int .i64 (ak : Int) := by simpa using hdep 4 _ rfl (by kernel_rfl)
   clear ho hfr hdep; refine index_knownN 15 90 _ _ 93 Try.underlying90 8 size_row8 bA N N (by show a'.tmps.getD 7 undef = _; simpa using g7) _ _ ak (by show a'.tmps.getD 11 undef = _; simpa using g11) rfl hakN ?_
   exact ⟨rfl, _, rfl, br, rfl⟩
  ·intro o ho a' w' hb hfr hdep; obtain rfl := oj ho
   have g15 : a'.tmps[15]?.getD undef = .pointer (some ⟨bA, ak * 8, none⟩) := by simpa using hdep 8 _ rfl (by kernel_rfl)
   have g14 : a'.tmps[14]?.getD undef = .int .i64 (nd : Int) := by simpa using hdep 7 _ rfl (by kernel_rfl)
   clear ho hfr hdep; refine index_arrp 16 93 _ _ 3 8 Try.underlying93 size_int bA (ak * 8) (by show a'.tmps.getD 15 undef = _; simpa using g15) _ _ nd (by show a'.tmps.getD 14 undef = _; simpa using g14) rfl hnd8 ?_
   exact ⟨rfl, _, rfl, br, rfl⟩
  ·intro o ho a' w' hb hfr hdep; obtain rfl := oj ho
   have g16 : a'.tmps[16]?.getD undef = .pointer (some ⟨bA, ak * 8 + nd, none⟩) := by simpa using hdep 9 _ rfl (by kernel_rfl)
   clear ho hfr hdep; have hcl := cell_below cV hb
   go_wp2_with fail; exact ⟨rfl, _, rfl, br, rfl⟩
 ·intro gg w5 hbl hp'
  have p17 := hp' 10 _ rfl
  clear hp'
  simp at p17
  simp only [List.drop_succ_cons, List.drop_zero, List.map_cons, List.map_nil, putAll, Act.put, List.setIfInBounds_toArray, List.set_cons_succ, List.set_cons_zero, List.cons_append, List.nil_append, p17]
  clear p17
  have c4 : w5.cell? ⟨g, 4, none⟩ = some (.slice pa pn pc) := (HX.under hbl).at_ rfl
  have hb5 := HB2.out.trans (hbl.mono HB2.out.size)
  have hsm : -1 ≤ v + (pn : Int) ∧ v + (pn : Int) ≤ 1001000 := by omega
  clear hnum c1 c2 c3 cV HX
  go_wp2_with fail
  go_ret2
  exact ⟨rfl, hb5⟩

set_option maxRecDepth 100000 in
set_option maxHeartbeats 2000000 in
theorem con_least (f : Stp → Int) (ps : List SH) (L : List Stp) (a : Option Addr) (n c : Nat) (b1 b2 : Nat) (w : World) (hS : Stl w a n c ps L) (hn : n ≤ 1000000)
  (hf : ∀ p ∈ ps, ∀ w', Below w.heap.size w w' → Calls Try.prog 75 #[spv p, .pointer (some ⟨b1, 0, none⟩), .pointer (some ⟨b2, 0, none⟩)] w' fun e w2 => e = .returned (.tuple #[.int .i64 (f p.1 + p.1.cells.length), .bool (decide (0 ≤ f p.1))]) ∧ Below w'.heap.size w' w2) :
  Calls Try.prog 52 #[.slice a n c, RCH b1 b2] w fun e w' => e = .returned (.tuple #[.int .i64 (leastF f L).1, .int .i64 (leastF f L).2]) ∧ Below w.heap.size w w' := by
 have hpl : n = ps.length := hS.top.nf stc_len (by decide)
 have HPL := hide hpl
 have HL := hide hS.eq
 have HS := hide hS
 have HF := hide hf
 clear hpl hS hf
 unfold RCH
 go_enter Try.func52, Try.ntmps52
 go_wp2_with fail
 go_loopg [6, 7, 14] n (fun gh va vb v w' => ∃ k : Nat, k ≤ n ∧ gh = n - k ∧ va = .int .i64 (leastF f (L.take k)).1 ∧ vb = .int .i64 (leastF f (L.take k)).2 ∧ v = .int .i64 (k : Int) ∧ Below w.heap.size w w')
 case atStart => exact ⟨0, by omega, by omega, rfl, rfl, rfl, Below.refl _ _⟩
 case round =>
  obtain ⟨k, hk, hg, rfl, rfl, rfl, hb⟩ := hrel
  have HG := hide hg
  clear hg
  by_cases hkl : k < n
  ·obtain ⟨p, hp⟩ : ∃ p, ps[k]? = some p := ⟨_, List.getElem?_eq_getElem (by have := HPL.out; omega)⟩
   have hLk : L[k]? = some p.1 := by rw [← HL.out, List.getElem?_map, hp]; rfl
   have HT := hide (leastF_take (f := f) hLk)
   obtain ⟨pa, pb, hpab⟩ : ∃ pa pb, leastF f (L.take k) = (pa, pb) := ⟨_, _, rfl⟩
   rw [hpab] at HT ⊢
   have hSr := HS.out.below hb
   obtain ⟨b1', o1, hab, hb1, x0, x1, x2, x3, x4, x5⟩ := st_cells hSr hp
   subst hab
   have HP := hide (List.mem_of_getElem? hp)
   clear hp hSr hLk hpab
   obtain ⟨⟨⟨sl, sn, si⟩, ln, cs, ru⟩, ⟨qa, qn, qc⟩⟩ := p
   simp only at x0 x1 x2 x3 x4 x5 HT
   have hcf := HF.out _ HP.out
   unfold spv stc hdv at hcf
   simp only at hcf
   obtain ⟨fv, hfv⟩ : ∃ fv, Hid (f ⟨⟨sl, sn, si⟩, ln, cs, ru⟩ = fv) := ⟨_, hide rfl⟩
   unfold lstep8 at HT
   simp only at HT
   rw [hfv.out] at HT hcf
   obtain ⟨nc, hnc⟩ : ∃ nc : Nat, Hid (cs.length = nc) := ⟨_, hide rfl⟩
   rw [hnc.out] at HT hcf
   have hldc : ∀ j u, ([.int .i64 sl, .bool sn, .bool si, .int .i64 ln, .slice qa qn qc, .int .i64 ru] : List Value)[j]? = some u → wr.cell? ((⟨b1', o1 + k * 6, none⟩ : Addr).add j) = some u := fun j u hj => by
    rw [Addr.add_lit]
    match j, hj with
    | 0, hj => cases hj; exact x0
    | 1, hj => cases hj; exact x1
    | 2, hj => cases hj; exact x2
    | 3, hj => cases hj; exact x3
    | 4, hj => cases hj; exact x4
    | 5, hj => cases hj; exact x5
    | j + 6, hj => cases hj
   have HLD := hide hldc
   clear hldc x0 x1 x2 x3 x4 x5
   have d1 : decide ((k : Int) < (n : Int)) = true := decide_eq_true (by omega)
   have hbA := hb.trans ((blo wr (.cells #[.int .i64 sl, .bool sn, .bool si, .int .i64 ln, .slice qa qn qc, .int .i64 ru] 67)).mono hb.size)
   by_cases h0 : 0 ≤ fv
   ·have d2 : decide (0 ≤ fv) = true := decide_eq_true h0
    rw [d2] at hcf
    by_cases h1 : pa < 0
    ·have d3 : decide (pa < 0) = true := decide_eq_true h1
     have HT2 := hide (HT.out.trans (if_pos ⟨h0, .inl h1⟩))
     go_wp2_with (first
      | (with_reducible refine load_struct 18 67 _ 6 size_stp6 _ Try.underlying67 ⟨b1', o1 + k * 6, none⟩ rfl [.int .i64 sl, .bool sn, .bool si, .int .i64 ln, .slice qa qn qc, .int .i64 ru] rfl HLD.out ?_)
      | (refine (hcf _ hbA).mono ?_; rintro e w2 ⟨rfl, hb2⟩))
     have hb3 := hbA.trans (hb2.mono hbA.size)
     go_roundg (n - (k + 1))
     case measure => have := HG.out; omega
     case rel => exact ⟨k + 1, by omega, rfl, by rw [HT2.out], by rw [HT2.out], by go_num, hb3⟩
    ·have d3 : decide (pa < 0) = false := decide_eq_false h1
     by_cases h2 : fv + (nc : Int) < pb
     ·have d4 : decide (fv + (nc : Int) < pb) = true := decide_eq_true h2
      have HT2 := hide (HT.out.trans (if_pos ⟨h0, .inr h2⟩))
      go_wp2_with (first
       | (with_reducible refine load_struct 18 67 _ 6 size_stp6 _ Try.underlying67 ⟨b1', o1 + k * 6, none⟩ rfl [.int .i64 sl, .bool sn, .bool si, .int .i64 ln, .slice qa qn qc, .int .i64 ru] rfl HLD.out ?_)
       | (refine (hcf _ hbA).mono ?_; rintro e w2 ⟨rfl, hb2⟩))
      have hb3 := hbA.trans (hb2.mono hbA.size)
      go_roundg (n - (k + 1))
      case measure => have := HG.out; omega
      case rel => exact ⟨k + 1, by omega, rfl, by rw [HT2.out], by rw [HT2.out], by go_num, hb3⟩
     ·have d4 : decide (fv + (nc : Int) < pb) = false := decide_eq_false h2
      have HT2 := hide (HT.out.trans (if_neg (fun q => by rcases q.2 with q | q; exact h1 q; exact h2 q)))
      go_wp2_with (first
       | (with_reducible refine load_struct 18 67 _ 6 size_stp6 _ Try.underlying67 ⟨b1', o1 + k * 6, none⟩ rfl [.int .i64 sl, .bool sn, .bool si, .int .i64 ln, .slice qa qn qc, .int .i64 ru] rfl HLD.out ?_)
       | (refine (hcf _ hbA).mono ?_; rintro e w2 ⟨rfl, hb2⟩))
      have hb3 := hbA.trans (hb2.mono hbA.size)
      go_roundg (n - (k + 1))
      case measure => have := HG.out; omega
      case rel => exact ⟨k + 1, by omega, rfl, by rw [HT2.out], by rw [HT2.out], by go_num, hb3⟩
   ·have d2 : decide (0 ≤ fv) = false := decide_eq_false h0
    have HT2 := hide (HT.out.trans (if_neg (fun q => h0 q.1)))
    rw [d2] at hcf
    go_wp2_with (first
     | (with_reducible refine load_struct 18 67 _ 6 size_stp6 _ Try.underlying67 ⟨b1', o1 + k * 6, none⟩ rfl [.int .i64 sl, .bool sn, .bool si, .int .i64 ln, .slice qa qn qc, .int .i64 ru] rfl HLD.out ?_)
     | (refine (hcf _ hbA).mono ?_; rintro e w2 ⟨rfl, hb2⟩))
    have hb3 := hbA.trans (hb2.mono hbA.size)
    go_roundg (n - (k + 1))
    case measure => have := HG.out; omega
    case rel => exact ⟨k + 1, by omega, rfl, by rw [HT2.out], by rw [HT2.out], by go_num, hb3⟩
  ·obtain rfl : k = n := by omega
   have e : L.take k = L := by rw [List.take_of_length_le]; have := HPL.out; have := HL.out; rw [← this, List.length_map]; omega
   rw [e]
   go_wp2_with fail
   go_ret2
   exact ⟨rfl, hb⟩
theorem con_reach (a : Value) (at_ : Nat) (N : Nat) (bA : Nat) (w : World) (ha : a = .slice (some ⟨bA, 0, none⟩) N N) :
  Calls Try.prog 54 #[a, .int .i64 (at_ : Int)] w fun e w' => ∃ b1 b2, e = .returned (RCH b1 b2) ∧ Box w' b1 90 [a] ∧ Box w' b2 3 [.int .i64 (at_ : Int)] ∧ Below w.heap.size w w' := by
 subst ha
 have X1 := (Box.new w 90 #[.slice (some ⟨bA, 0, none⟩) N N]).alloc (.cells #[.int .i64 (at_ : Int)] 3)
 have X2 := Box.new (w.alloc (.cells #[.slice (some ⟨bA, 0, none⟩) N N] 90)) 3 #[.int .i64 (at_ : Int)]
 have hs : (w.alloc (.cells #[.slice (some ⟨bA, 0, none⟩) N N] 90)).heap.size = w.heap.size + 1 := by simp
 rw [hs] at X2
 have hb := (blo w (.cells #[.slice (some ⟨bA, 0, none⟩) N N] 90)).trans ((blo (w.alloc (.cells #[.slice (some ⟨bA, 0, none⟩) N N] 90)) (.cells #[.int .i64 (at_ : Int)] 3)).mono (by rw [hs]; omega))
 clear hs
 go_enter Try.func54, Try.ntmps54
 go_wp2_with fail
 go_ret
 exact ⟨_, _, rfl, X1, X2, hb⟩
end Go.Proofs.Ytlpkicjijlcbfaa
end

section
/- Boxes just made, strings cut and joined, stops for the walk. No program in sight but the seat's types. -/
namespace Go.Al
open Go.RowKit Go.Dx
section
variable {P : Program} {w : World} {ops : Array Oper} {rest : List Oper} {act : Act} {Q : Exit → Act → World → Prop} {ty : TypeId} {pos : String} {after : Array Edge}
end
theorem hold_store {P : Program} {w : World} {ops : Array Oper} {rest : List Oper} {act : Act} {Q : Exit → Act → World → Prop} {dst : Option Tmp} {t ty : TypeId} {x y : Operand} {pos : String} {after : Array Edge} {g : Option (Nat × Bool)}
  (h : Hid (wpList P ops Q ({ dst := dst, op := .store t x y, type := ty, pos := pos, after := after, guard := g } :: rest) act w)) : wpList P ops Q ({ dst := dst, op := .store t x y, type := ty, pos := pos, after := after, guard := g } :: rest) act w := h
section
variable {P : Program} {w : World} {ops : Array Oper} {rest : List Oper} {act : Act} {Q : Exit → Act → World → Prop} {ty : TypeId} {pos : String} {after : Array Edge}
end
end Go.Al
end
