/- The contracts of the functions that the law reaches, joined into one text. -/
import Derived.Test.YtjdnmbapmobaaaaBaseK21A
import Derived.Lib.Strings
import Derived.WideShapes
import Derived.Lib.AppendZerosOnto
import Derived.Lib.SliceRun
set_option linter.unusedVariables false
set_option linter.unusedSimpArgs false

/- the text B3 -/
section
/- Chapter 06, in plain Lean: what the steps of valid tables are like (Always). No program in sight. -/
namespace Go.Dx

theorem ruleSteps_mem (t : Ta) (s : St) (x : Sy) (l : List Sy) (i : Nat) : ∀ (rs : List Ru) (k : Nat) (st : Stp), st ∈ ruleSteps t s x l i k rs →
    ∃ r, r ∈ rs ∧ fitsB r l i = true ∧ st.dst = ⟨x.lang, false, isL x.c⟩ ∧ st.len = (r.text.size : Int) ∧ st.cells = headC t s x ++ r.cells := by
  intro rs
  induction rs with
  | nil => intro k st h; cases h
  | cons r rs ih =>
    intro k st h
    simp only [ruleSteps, List.mem_append] at h
    rcases h with h | h
    · by_cases hf : fitsB r l i = true
      · rw [if_pos hf, List.mem_singleton] at h
        subst h
        exact ⟨r, by simp, hf, rfl, rfl, rfl⟩
      · rw [if_neg hf] at h; cases h
    · obtain ⟨q, hq, h2⟩ := ih (k + 1) st h
      exact ⟨q, List.mem_cons_of_mem _ hq, h2⟩
theorem ruleSteps_some (t : Ta) (s : St) (x : Sy) (l : List Sy) (i : Nat) : ∀ (rs : List Ru) (k : Nat), (∃ r, r ∈ rs ∧ fitsB r l i = true) → ruleSteps t s x l i k rs ≠ [] := by
  intro rs
  induction rs with
  | nil => rintro k ⟨r, h, _⟩; cases h
  | cons r rs ih =>
    rintro k ⟨q, hq, hf⟩ he
    simp only [ruleSteps, List.append_eq_nil_iff] at he
    rcases List.mem_cons.1 hq with rfl | hq
    · rw [if_pos hf] at he; exact absurd he.1 (by simp)
    · exact ih (k + 1) ⟨q, hq, hf⟩ he.2

theorem valid_parts {t : Ta} (h : validE t = 0) : t.l0.length ≤ 96 ∧ t.l1.length ≤ 96 ∧ goodT t = true ∧ dupB t.l0 = false ∧ dupB t.l1 = false ∧ missB t.l0 = false ∧ missB t.l1 = false := by
  unfold validE at h
  split at h
  · cases h
  · rename_i h1
    split at h
    · cases h
    · rename_i h2
      split at h
      · cases h
      · rename_i h3
        split at h
        · cases h
        · rename_i h4
          simp only [Bool.or_eq_true, not_or, Bool.not_eq_true] at h2 h3 h4
          refine ⟨by omega, by omega, by simpa using h2, h3.1, h3.2, h4.1, h4.2⟩
theorem good_parts {t : Ta} (h : goodT t = true) : t.dig.length = 10 ∧ indic t.cap = true ∧ indic t.num = true ∧ indic t.fin = true ∧ indic t.sw = true ∧ (∀ r ∈ t.l0, ruOk r = true) ∧ (∀ r ∈ t.l1, ruOk r = true) := by
  unfold goodT at h
  simp only [Bool.and_eq_true, decide_eq_true_eq, List.all_eq_true] at h
  obtain ⟨⟨⟨⟨⟨⟨⟨h1, _⟩, h2⟩, h3⟩, h4⟩, h5⟩, h6⟩, h7⟩ := h
  exact ⟨h1, h2, h3, h4, h5, h6, h7⟩
theorem lang_ok {t : Ta} (h : goodT t = true) (g : Int) : ∀ r ∈ langOf t g, ruOk r = true := by
  intro r hr
  obtain ⟨_, _, _, _, _, h0, h1⟩ := good_parts h
  unfold langOf at hr
  split at hr
  · exact h0 r hr
  · exact h1 r hr
theorem ru_parts {r : Ru} (h : ruOk r = true) : 1 ≤ r.text.size ∧ r.text.size ≤ 8 ∧ 0 ≤ r.whr ∧ r.whr ≤ 3 ∧ indic r.cells = true ∧ (small r.text = true ∨ oneMark r.text = true ∧ r.whr = 0) := by
  unfold ruOk at h
  simp only [Bool.and_eq_true, Bool.or_eq_true, decide_eq_true_eq] at h
  obtain ⟨⟨⟨⟨⟨h1, h2⟩, h3⟩, h4⟩, h5⟩, h6⟩ := h
  exact ⟨h1, h2, h3, h4, h5, h6⟩
theorem indic_pos {l : List UInt8} (h : indic l = true) : l ≠ [] := by
  unfold indic at h
  simp only [Bool.and_eq_true, decide_eq_true_eq] at h
  intro e
  rw [e] at h
  simp at h
theorem indic_le {l : List UInt8} (h : indic l = true) : l.length ≤ 4 := by
  unfold indic at h
  simp only [Bool.and_eq_true, decide_eq_true_eq] at h
  exact h.1.2
theorem own_fits {l : List Ru} {x : Sy} (h : ownB l (low x.c) = true) {L : List Sy} {i : Nat} (hx : L[i]? = some x) : ∃ r, r ∈ l ∧ fitsB r L i = true := by
  unfold ownB at h
  simp only [decide_eq_true_eq, List.mem_map, nameOf, Prod.mk.injEq] at h
  obtain ⟨r, hr, h1, h2⟩ := h
  refine ⟨r, hr, ?_⟩
  have hi := (List.getElem?_eq_some_iff.1 hx).1
  have hd : L.drop i = x :: L.drop (i + 1) := by
    rw [List.drop_eq_getElem_cons hi]
    congr 1
    have := (List.getElem?_eq_some_iff.1 hx).2
    exact this
  unfold fitsB placeOk
  rw [hx]
  simp [h1, hd, sameAt, h2]
/-- the other characters for which all tables of the chapter have a rule -/
def isM (c : UInt8) : Bool := decide (c ∈ ([32, 46, 44, 63, 39, 45] : List UInt8))
structure GoodTa (t : Ta) : Prop where
  ok : validE t = 0
  mark : ∀ g c, isM c = true → ownB (langOf t g) c = true
def plainSy (x : Sy) : Bool := symOk x && (isL x.c || isD x.c || isM x.c)
theorem low_small {c : UInt8} (h : isL c = true) : isS (low c) = true := by
  revert h
  have : ∀ c : UInt8, isL c = true → isS (low c) = true := by
    intro c
    rw [← UInt8.ofNat_toNat (x := c)]
    have hc := c.toNat_lt
    generalize c.toNat = n at hc ⊢
    revert n
    decide +kernel
  exact this c
theorem mark_low {c : UInt8} (h : isM c = true) : low c = c := by
  unfold isM at h
  simp only [List.mem_cons, List.not_mem_nil, or_false, decide_eq_true_eq] at h
  rcases h with rfl | rfl | rfl | rfl | rfl | rfl <;> decide
theorem own_small {l : List Ru} (h : missB l = false) {c : UInt8} (hc : isS c = true) : ownB l c = true := by
  unfold missB at h
  rw [List.any_eq_false] at h
  unfold isS at hc
  simp only [Bool.and_eq_true, decide_eq_true_eq] at hc
  have := h (c.toNat - 97) (by simp; omega)
  have e : 97 + (c.toNat - 97) = c.toNat := by omega
  rw [e, UInt8.ofNat_toNat] at this
  simpa using this
theorem miss_lang {t : Ta} (h : validE t = 0) (g : Int) : missB (langOf t g) = false := by
  obtain ⟨_, _, _, _, _, h0, h1⟩ := valid_parts h
  unfold langOf
  split
  · exact h0
  · exact h1
theorem some_rule {t : Ta} (ht : GoodTa t) {L : List Sy} {i : Nat} {x : Sy} (hx : L[i]? = some x) (hp : isL x.c = true ∨ isM x.c = true) (g : Int) : ∃ r, r ∈ langOf t g ∧ fitsB r L i = true := by
  refine own_fits ?_ hx
  rcases hp with h | h
  · exact own_small (miss_lang ht.ok g) (low_small h)
  · rw [mark_low h]; exact ht.mark g _ h
theorem steps_at {t : Ta} (ht : validE t = 0) {s : St} (hs : s.lang = 0 ∨ s.lang = 1) {l : List Sy} (hl : goodS l = true) {i : Nat} {x : Sy} (hx : l[i]? = some x) : stepsL t s l i = nextL t s l i x := by
  unfold stepsL
  rw [if_pos ⟨ht, hs, by omega, hl⟩]
  simp [hx]
theorem next_some {t : Ta} (ht : GoodTa t) (s : St) {l : List Sy} {i : Nat} {x : Sy} (hx : l[i]? = some x) (hp : plainSy x = true) : nextL t s l i x ≠ [] := by
  unfold nextL
  split
  · simp
  · split
    · simp
    · rename_i hd
      refine ruleSteps_some _ _ _ _ _ _ _ (some_rule ht hx ?_ _)
      unfold plainSy at hp
      simp only [Bool.and_eq_true, Bool.or_eq_true] at hp
      rcases hp.2 with (h | h) | h
      · exact .inl h
      · exact absurd h hd
      · exact .inr h
theorem fits_len {r : Ru} {l : List Sy} {i : Nat} (hi : i < l.length) (h : fitsB r l i = true) : i + r.text.size ≤ l.length := by
  unfold fitsB at h
  rw [List.getElem?_eq_getElem hi] at h
  simp only [Bool.and_eq_true] at h
  have := same_len _ _ _ h.1
  rw [List.length_drop] at this
  have e : (chars r.text).length = r.text.size := Array.length_toList
  omega
/-- what the law asks of a step -/
structure StepOk (t : Ta) (l : List Sy) (i : Nat) (x : Sy) (st : Stp) : Prop where
  pos : 0 ≤ st.len
  le : (i : Int) + st.len ≤ l.length
  cells : st.cells ≠ []
  zero : st.len = 0 → st.dst.lang = x.lang ∧ nextL t st.dst l i x ≠ [] ∧ ∀ q ∈ nextL t st.dst l i x, q.len ≠ 0
theorem rule_len {t : Ta} (ht : validE t = 0) {s : St} {l : List Sy} {i : Nat} {x : Sy} {g : Int} : ∀ q ∈ ruleSteps t s x l i 0 (langOf t g), 1 ≤ q.len ∧ q.cells ≠ [] := by
  intro q hq
  obtain ⟨r, hr, _, _, h2, h3⟩ := ruleSteps_mem _ _ _ _ _ _ _ _ hq
  have hg := (valid_parts ht).2.2.1
  have := ru_parts (lang_ok hg g r hr)
  refine ⟨by rw [h2]; omega, ?_⟩
  rw [h3]
  intro e
  rw [List.append_eq_nil_iff] at e
  exact indic_pos this.2.2.2.2.1 e.2
theorem next_ok {t : Ta} (ht : GoodTa t) (s : St) {l : List Sy} {i : Nat} {x : Sy} (hx : l[i]? = some x) (hp : plainSy x = true) : ∀ st ∈ nextL t s l i x, StepOk t l i x st := by
  intro st hst
  have hi := (List.getElem?_eq_some_iff.1 hx).1
  unfold nextL at hst
  split at hst
  · rw [List.mem_singleton] at hst
    subst hst
    refine ⟨Int.le_refl _, by simp; omega, ?_, fun _ => ⟨rfl, next_some ht _ hx hp, ?_⟩⟩
    · exact indic_pos (good_parts (valid_parts ht.ok).2.2.1).2.2.2.2.1
    · intro q hq
      unfold nextL at hq
      rw [if_neg (by simp)] at hq
      split at hq
      · rw [List.mem_singleton] at hq; subst hq; simp
      · have := (rule_len ht.ok q hq).1; omega
  · split at hst
    · rw [List.mem_singleton] at hst
      subst hst
      refine ⟨by simp, by simp; omega, by simp, fun h => by simp at h⟩
    · have h1 := rule_len ht.ok st hst
      obtain ⟨r, hr, hf, _, h2, _⟩ := ruleSteps_mem _ _ _ _ _ _ _ _ hst
      have := fits_len hi hf
      exact ⟨by omega, by rw [h2]; omega, h1.2, fun h => by omega⟩
end Go.Dx
end

/- the text B4 -/
section
/- Chapter 06, in plain Lean: the steps hang on the word alone (Local). No program in sight. -/
namespace Go.Dx

/-- no letter of the language g -/
def noL (g : Int) (y : Sy) : Prop := ¬ (y.lang = g ∧ isL y.c = true)
def stopB (g : Int) (B : List Sy) : Prop := ∀ y, B[0]? = some y → noL g y
def stopP (g : Int) (P : List Sy) : Prop := ∀ y, P[P.length - 1]? = some y → noL g y
def wordA (g : Int) (A : List Sy) : Prop := ∀ y, y ∈ A → y.lang = g ∧ isL y.c = true

theorem same_cut {g : Int} {B : List Sy} (hB : stopB g B) : ∀ (s : List UInt8) (b : Bool) (A : List Sy), s.all isS = true → sameAt g b s (A ++ B) = sameAt g b s A := by
  intro s
  induction s with
  | nil => intro b A _; cases A <;> cases B <;> rfl
  | cons u s ih =>
    intro b A hs
    rw [List.all_cons, Bool.and_eq_true] at hs
    cases A with
    | nil =>
      cases B with
      | nil => rfl
      | cons y B =>
        have hy := hB y rfl
        simp only [List.nil_append, sameAt]
        by_cases h : low y.c = u ∧ y.lang = g
        · exact absurd ⟨h.2, isS_low (by rw [h.1]; exact hs.1)⟩ hy
        · by_cases h1 : low y.c = u
          · have h2 : y.lang ≠ g := fun e => h ⟨h1, e⟩
            simp [h2]
          · simp [h1]
    | cons x A =>
      simp only [List.cons_append, sameAt, ih false A hs.2]
theorem inWord_of {L : List Sy} {k : Nat} {x y : Sy} (h1 : L[k]? = some x) (h2 : L[k + 1]? = some y) : inWord L (k + 1) = (isL x.c && isL y.c && decide (x.lang = y.lang)) := by
  simp only [inWord, h1, h2]
theorem win {g : Int} {P A B : List Sy} (hP : stopP g P) (hA : wordA g A) (hB : stopB g B) {j : Nat} (hj : j ≤ A.length) (h0 : 0 < A.length) : inWord (P ++ (A ++ B)) (P.length + j) = decide (0 < j ∧ j < A.length) := by
  cases j with
  | zero =>
    simp only [Nat.add_zero, Nat.lt_irrefl, false_and, decide_false]
    cases hp : P.length with
    | zero => rfl
    | succ k =>
      have hk : k < P.length := by omega
      have e1 : (P ++ (A ++ B))[k]? = some P[k] := by rw [List.getElem?_append_left hk]; simp [hk]
      have e2 : (P ++ (A ++ B))[k + 1]? = some A[0] := by
        rw [List.getElem?_append_right (by omega), List.getElem?_append_left (by omega)]
        have : k + 1 - P.length = 0 := by omega
        rw [this]; simp [h0]
      rw [inWord_of e1 e2]
      have hn := hP P[k] (by rw [hp]; simp [hk])
      have ha := hA A[0] (List.getElem_mem _)
      cases hq : isL P[k].c
      · rfl
      · have : P[k].lang ≠ g := fun e => hn ⟨e, hq⟩
        simp [ha.1, this]
  | succ j =>
    have hj1 : j < A.length := by omega
    have e1 : (P ++ (A ++ B))[P.length + j]? = some A[j] := by
      rw [List.getElem?_append_right (by omega), Nat.add_sub_cancel_left, List.getElem?_append_left hj1]; simp [hj1]
    have ha := hA A[j] (List.getElem_mem _)
    rw [← Nat.add_assoc]
    by_cases hl : j + 1 < A.length
    · have e2 : (P ++ (A ++ B))[P.length + j + 1]? = some A[j + 1] := by
        rw [Nat.add_assoc, List.getElem?_append_right (by omega), Nat.add_sub_cancel_left, List.getElem?_append_left hl]; simp [hl]
      have hb := hA A[j + 1] (List.getElem_mem _)
      rw [inWord_of e1 e2]
      simp [ha.1, ha.2, hb.1, hb.2, hl]
    · have e : j + 1 = A.length := by omega
      have hd : decide (0 < j + 1 ∧ j + 1 < A.length) = false := by simp; omega
      rw [hd]
      have e2 : (P ++ (A ++ B))[P.length + j + 1]? = B[0]? := by
        rw [Nat.add_assoc, List.getElem?_append_right (by omega), Nat.add_sub_cancel_left, List.getElem?_append_right (by omega)]
        rw [e, Nat.sub_self]
      cases hb : B[0]? with
      | none => rw [hb] at e2; simp only [inWord, e1, e2]
      | some y =>
        rw [hb] at e2
        rw [inWord_of e1 e2, ha.1, ha.2]
        have hn := hB y hb
        cases hq : isL y.c
        · rfl
        · have : g ≠ y.lang := fun e => hn ⟨e.symm, hq⟩
          simp [this]
def winPlace (r : Ru) (j n : Nat) : Bool :=
  if r.whr = 1 then !decide (0 < j ∧ j < n) && !decide (0 < j + r.text.size ∧ j + r.text.size < n) else if r.whr = 2 then !decide (0 < j ∧ j < n) && decide (0 < j + r.text.size ∧ j + r.text.size < n) else if r.whr = 3 then decide (0 < j ∧ j < n) else true
/-- whether a rule fits, told by the word alone -/
def winFit (r : Ru) (A : List Sy) (j : Nat) (x : Sy) : Bool :=
  if small r.text then isL x.c && sameAt x.lang true (chars r.text) (A.drop j) && winPlace r j A.length else decide (chars r.text = [low x.c])
theorem fits_window {r : Ru} (hr : ruOk r = true) {P A B : List Sy} {x : Sy} {j : Nat} (hx : A[j]? = some x) (hw : isL x.c = true → stopP x.lang P ∧ wordA x.lang A ∧ stopB x.lang B) :
    fitsB r (P ++ (A ++ B)) (P.length + j) = winFit r A j x := by
  have hj := (List.getElem?_eq_some_iff.1 hx).1
  have hL : (P ++ (A ++ B))[P.length + j]? = some x := by
    rw [List.getElem?_append_right (by omega), Nat.add_sub_cancel_left, List.getElem?_append_left hj]; exact hx
  have hd : (P ++ (A ++ B)).drop (P.length + j) = A.drop j ++ B := by
    rw [List.drop_append, List.drop_of_length_le (by omega), List.nil_append, Nat.add_sub_cancel_left, List.drop_append_of_le_length (by omega)]
  have hdx : A.drop j = x :: A.drop (j + 1) := by
    rw [List.drop_eq_getElem_cons hj]
    congr 1
    exact (List.getElem?_eq_some_iff.1 hx).2
  obtain ⟨h1, _, _, _, _, hs⟩ := ru_parts hr
  have hlen : (chars r.text).length = r.text.size := Array.length_toList
  unfold fitsB winFit placeOk
  rw [hL, hd]
  by_cases hsm : small r.text = true
  · rw [if_pos hsm, hsm]
    simp only [Bool.not_true, Bool.false_or]
    by_cases hl : isL x.c = true
    · obtain ⟨hP, hA, hB⟩ := hw hl
      rw [same_cut hB _ _ _ hsm, hl, Bool.true_and]
      cases hq : sameAt x.lang true (chars r.text) (A.drop j)
      · rfl
      · have h3 := same_len _ _ _ hq
        rw [List.length_drop, hlen] at h3
        have w1 := win hP hA hB (j := j) (by omega) (by omega)
        have w2 := win hP hA hB (j := j + r.text.size) (by omega) (by omega)
        rw [← Nat.add_assoc] at w2
        rw [w1, w2]
        rfl
    · have hf : sameAt x.lang true (chars r.text) (A.drop j ++ B) = false := by
        rw [hdx]
        cases hc : chars r.text with
        | nil => rw [hc] at hlen; simp at hlen; omega
        | cons u s =>
          unfold small at hsm
          rw [hc, List.all_cons, Bool.and_eq_true] at hsm
          simp only [List.cons_append, sameAt]
          have : low x.c ≠ u := fun e => hl (isS_low (by rw [e]; exact hsm.1))
          simp [this]
      rw [hf]
      cases hq : isL x.c
      · rfl
      · exact absurd hq hl
  · rw [if_neg hsm]
    rcases hs with hs | ⟨hs, h0⟩
    · exact absurd hs hsm
    · unfold oneMark at hs
      cases hc : chars r.text with
      | nil => rw [hc] at hs; cases hs
      | cons u s =>
        cases s with
        | nil =>
          have hf : small r.text = false := by simpa using hsm
          rw [hdx, hf]
          simp only [List.cons_append, sameAt, Bool.not_false, Bool.true_or, Bool.and_true, decide_true]
          rw [decide_eq_decide]
          simp [eq_comm]
        | cons v s => rw [hc] at hs; cases hs
theorem rules_window {t : Ta} {s : St} {x : Sy} {L L' : List Sy} {i i' : Nat} : ∀ (rs : List Ru) (k : Nat), (∀ r ∈ rs, fitsB r L i = fitsB r L' i') → ruleSteps t s x L i k rs = ruleSteps t s x L' i' k rs := by
  intro rs
  induction rs with
  | nil => intro k _; rfl
  | cons r rs ih =>
    intro k h
    simp only [ruleSteps]
    rw [h r (by simp), ih (k + 1) (fun q hq => h q (List.mem_cons_of_mem _ hq))]
theorem local_next {t : Ta} (ht : validE t = 0) {s : St} {P A B P' B' : List Sy} {x : Sy} {j : Nat} (hx : A[j]? = some x) (hw : isL x.c = true → stopP x.lang P ∧ wordA x.lang A ∧ stopB x.lang B)
    (hw' : isL x.c = true → stopP x.lang P' ∧ wordA x.lang A ∧ stopB x.lang B') : nextL t s (P ++ (A ++ B)) (P.length + j) x = nextL t s (P' ++ (A ++ B')) (P'.length + j) x := by
  unfold nextL
  split
  · rfl
  · split
    · rfl
    · refine rules_window _ _ fun r hr => ?_
      have hok := lang_ok (valid_parts ht).2.2.1 _ r hr
      rw [fits_window hok hx hw, fits_window hok hx hw']
theorem blank_stop (g : Int) : isL 32 = false := by decide
theorem stop_blank (g h : Int) (M : List Sy) : stopB g (⟨h, 32⟩ :: M) := by
  intro y hy
  cases hy
  intro hn
  exact absurd hn.2 (by rw [show isL (32 : UInt8) = false by decide]; simp)
theorem stop_blankP (g h : Int) (K : List Sy) : stopP g (K ++ [⟨h, 32⟩]) := by
  intro y hy
  rw [List.length_append, List.length_singleton, Nat.add_sub_cancel, List.getElem?_append_right (Nat.le_refl _), Nat.sub_self] at hy
  cases hy
  intro hn
  exact absurd hn.2 (by rw [show isL (32 : UInt8) = false by decide]; simp)
end Go.Dx
end

/- the text B5 -/
section
/- Slices whose elements are structs: what they read as, an element's address, an element loaded whole. No program in sight. -/
set_option linter.unusedVariables false
namespace Go.Dx
open Go.RowKit

section
variable {α : Type} {f : α → List Value} {sz : Nat}
theorem flat_len (hf : ∀ x, (f x).length = sz) : ∀ l : List α, (l.flatMap f).length = l.length * sz
  | [] => by simp
  | x :: l => by rw [List.flatMap_cons, List.length_append, hf, flat_len hf l, List.length_cons, Nat.add_mul]; omega
theorem flat_drop (hf : ∀ x, (f x).length = sz) : ∀ (l : List α) (i : Nat), (l.flatMap f).drop (i * sz) = (l.drop i).flatMap f
  | [], i => by simp
  | x :: l, 0 => by simp
  | x :: l, i + 1 => by
    rw [List.flatMap_cons, List.drop_succ_cons, ← flat_drop hf l i, Nat.add_mul, Nat.one_mul, Nat.add_comm, List.drop_append, hf, Nat.add_sub_cancel_left]
    rw [List.drop_of_length_le (by rw [hf]; omega)]
    rfl
theorem flat_take (hf : ∀ x, (f x).length = sz) : ∀ (l : List α) (i : Nat), (l.flatMap f).take (i * sz) = (l.take i).flatMap f
  | [], i => by simp
  | x :: l, 0 => by simp
  | x :: l, i + 1 => by
    rw [List.flatMap_cons, List.take_succ_cons, List.flatMap_cons, ← flat_take hf l i, Nat.add_mul, Nat.one_mul, Nat.add_comm, List.take_append, hf, Nat.add_sub_cancel_left]
    rw [List.take_of_length_le (by rw [hf]; omega)]
theorem flat_get (hf : ∀ x, (f x).length = sz) {l : List α} {i : Nat} {x : α} (hx : l[i]? = some x) {j : Nat} (hj : j < sz) : (l.flatMap f)[i * sz + j]? = (f x)[j]? := by
  have hi := (List.getElem?_eq_some_iff.1 hx).1
  rw [← List.getElem?_drop, flat_drop hf, List.drop_eq_getElem_cons hi, List.flatMap_cons, List.getElem?_append_left (by rw [hf]; exact hj), (List.getElem?_eq_some_iff.1 hx).2]
theorem Sl.nf (hf : ∀ x, (f x).length = sz) (h0 : 0 < sz) {w : World} {a : Option Addr} {n c : Nat} {l : List α} (h : Sl w sz a n c (l.flatMap f)) : n = l.length := by
  have := h.len
  rw [flat_len hf] at this
  exact (Nat.eq_of_mul_eq_mul_right h0 this).symm
theorem Own.nf (hf : ∀ x, (f x).length = sz) (h0 : 0 < sz) {w : World} {B : Nat} {e : TypeId} {a : Option Addr} {n c : Nat} {l : List α} (h : Own w B e sz a n c (l.flatMap f)) : n = l.length := h.sl.nf hf h0
theorem one_flat (hf : ∀ x, ∀ u ∈ f x, u.oneCell' = true) (l : List α) : ∀ u ∈ l.flatMap f, u.oneCell' = true := by
  intro u hu
  obtain ⟨x, _, hx⟩ := List.mem_flatMap.1 hu
  exact hf x u hx
end

section ops
variable {P : Program} {w : World} {ops : Array Oper} {rest : List Oper} {act : Act} {Q : Exit → Act → World → Prop}
  {ty : TypeId} {pos : String} {after : Array Edge}

/-- 'xs[i]', the address, elements of sz cells: what lies there. -/
theorem index_row (d : Nat) (t : TypeId) (x y : Operand) (e : TypeId) (ht : P.underlying t = some (.slice e)) (sz : Nat) (hsz : (P.info? e).map (·.size) = some sz)
    (a : Option Addr) (n c : Nat) (cs : List Value) (hx : act.eval x = .slice a n c) (hs : Sl w sz a n c cs) (k : IntKind) (iv : Int) (i : Nat) (hy : act.eval y = .int k iv) (hiv : iv = (i : Int)) (hi : i < n) (h0 : 0 < sz)
    (hK : ∀ b o, (∀ j u, j < sz → cs[i * sz + j]? = some u → w.cell? ⟨b, o + j, none⟩ = some u) → b < w.heap.size → (∀ p, a = some p → p.block = b) → wpList P ops Q rest (act.put (some d) (.pointer (some ⟨b, o, none⟩))) w) :
    wpList P ops Q ({ dst := some d, op := .indexAddr t x y, type := ty, pos := pos, after := after, guard := none } :: rest) act w := by
  refine wpList_plain rfl fun K hK' => ?_
  have hlen := hs.len
  have hm : (i + 1) * sz ≤ n * sz := Nat.mul_le_mul_right _ hi
  obtain ⟨b, o, rfl, hb, hc⟩ := hs.ex (by rw [hlen]; exact Nat.mul_pos (by omega) h0)
  obtain ⟨i0, hi0, hs0⟩ := Option.map_eq_some_iff.1 hsz
  subst hiv
  have hrun : (Instr.indexAt t (.slice (some ⟨b, o, none⟩) n c) (.int k (i : Int))).run P w = .ok (.pointer (some ⟨b, o + i * sz, none⟩)) w := by
    simp [Instr.indexAt, asIntOf, run_underlying ht, sizeOf, typeInfo, hi0, hs0, hi, Addr.add_lit]
  unfold Oper.wp
  simp [execOp, hx, hy, hrun, Result.andThen]
  exact hK' _ _ (hK b (o + i * sz) (fun j u hj hu => by rw [Nat.add_assoc]; exact hc _ u hu) hb (fun p hp => by cases hp; rfl))

/-- a whole struct is loaded -/
theorem load_struct (d : Nat) (t : TypeId) (x : Operand) (sz : Nat) (hsz : (P.info? t).map (·.size) = some sz) (fs : Array Field) (hag : P.underlying t = some (.struct fs))
    (p : Addr) (hx : act.eval x = .pointer (some p)) (cs : List Value) (hl : cs.length = sz) (hc : ∀ j u, cs[j]? = some u → w.cell? (p.add j) = some u)
    (hK : wpList P ops Q rest (act.put (some d) (.agg cs.toArray)) w) :
    wpList P ops Q ({ dst := some d, op := .load t x, type := ty, pos := pos, after := after, guard := none } :: rest) act w := by
  refine wpList_plain rfl fun K hK' => ?_
  obtain ⟨i, hi, hs0⟩ := Option.map_eq_some_iff.1 hsz
  subst hs0
  have hrun : (Instr.loadAt t (.pointer (some p))).run P w = .ok (.agg cs.toArray) w := by
    have hl2 := run_loadCells_list (P := P) w p cs hc
    rw [hl] at hl2
    simp [Instr.loadAt, Instr.sureAddr, loadVar, isAgg, run_underlying hag, sizeOf, typeInfo, hi, hl2]
  unfold Oper.wp
  simp [execOp, hx, hrun, Result.andThen]
  exact hK' _ _ hK
end ops

/-- A rule's three cells, beside the head of its cells. -/
abbrev RH := Ru × (Option Addr × Nat × Nat)
def hdv (h : Option Addr × Nat × Nat) : Value := .slice h.1 h.2.1 h.2.2
def rc (p : RH) : List Value := [.string p.1.text, .int .i64 p.1.whr, hdv p.2]
theorem rc_len (p : RH) : (rc p).length = 3 := rfl
theorem rc_one (p : RH) : ∀ u ∈ rc p, u.oneCell' = true := by simp [rc, hdv, Value.oneCell']
def sc (x : Sy) : List Value := [.int .i64 x.lang, .int .u8 (x.c.toNat : Int)]
theorem sc_len (x : Sy) : (sc x).length = 2 := rfl
theorem sc_one (x : Sy) : ∀ u ∈ sc x, u.oneCell' = true := by simp [sc, Value.oneCell']
abbrev SH := Stp × (Option Addr × Nat × Nat)
def stc (p : SH) : List Value := [.int .i64 p.1.dst.lang, .bool p.1.dst.num, .bool p.1.dst.wrd, .int .i64 p.1.len, hdv p.2, .int .i64 p.1.rule]
theorem stc_len (p : SH) : (stc p).length = 6 := rfl
theorem stc_one (p : SH) : ∀ u ∈ stc p, u.oneCell' = true := by simp [stc, hdv, Value.oneCell']

/-- The rules of a language, as they lie: the slice, and each rule's cells. -/
structure Rul (w : World) (a : Option Addr) (n c : Nat) (ps : List RH) : Prop where
  top : Sl w 3 a n c (ps.flatMap rc)
  row : ∀ p ∈ ps, Sl w 1 p.2.1 p.2.2.1 p.2.2.2 (p.1.cells.map B8) ∧ p.1.text.size ≤ 1000
def rus (ps : List RH) : List Ru := ps.map (·.1)
theorem Rul.n_eq {w : World} {a : Option Addr} {n c : Nat} {ps : List RH} (h : Rul w a n c ps) : n = ps.length := h.top.nf rc_len (by decide)
theorem Rul.below {w w' : World} {a : Option Addr} {n c : Nat} {ps : List RH} (h : Rul w a n c ps) (hb : Below w.heap.size w w') : Rul w' a n c ps :=
  ⟨h.top.below hb, fun p hp => ⟨(h.row p hp).1.below hb, (h.row p hp).2⟩⟩
theorem Rul.empty (w : World) : Rul w none 0 0 [] := ⟨Sl.empty w 3, fun p hp => by cases hp⟩

/-- Tables as they lie: seven slices. -/
structure TH where
  r0 : Option Addr × Nat × Nat
  r1 : Option Addr × Nat × Nat
  p0 : List RH
  p1 : List RH
  d : Option Addr × Nat × Nat
  c : Option Addr × Nat × Nat
  n : Option Addr × Nat × Nat
  f : Option Addr × Nat × Nat
  s : Option Addr × Nat × Nat
def TH.v (H : TH) : Value := .agg #[hdv H.r0, hdv H.r1, hdv H.d, hdv H.c, hdv H.n, hdv H.f, hdv H.s]
structure TaIs (w : World) (H : TH) (t : Ta) : Prop where
  l0 : Rul w H.r0.1 H.r0.2.1 H.r0.2.2 H.p0
  l1 : Rul w H.r1.1 H.r1.2.1 H.r1.2.2 H.p1
  e0 : rus H.p0 = t.l0
  e1 : rus H.p1 = t.l1
  d : Sl w 1 H.d.1 H.d.2.1 H.d.2.2 (t.dig.map B8)
  c : Sl w 1 H.c.1 H.c.2.1 H.c.2.2 (t.cap.map B8)
  n : Sl w 1 H.n.1 H.n.2.1 H.n.2.2 (t.num.map B8)
  f : Sl w 1 H.f.1 H.f.2.1 H.f.2.2 (t.fin.map B8)
  s : Sl w 1 H.s.1 H.s.2.1 H.s.2.2 (t.sw.map B8)
theorem TaIs.below {w w' : World} {H : TH} {t : Ta} (h : TaIs w H t) (hb : Below w.heap.size w w') : TaIs w' H t :=
  ⟨h.l0.below hb, h.l1.below hb, h.e0, h.e1, h.d.below hb, h.c.below hb, h.n.below hb, h.f.below hb, h.s.below hb⟩
/-- steps as they lie -/
structure Stl (w : World) (a : Option Addr) (n c : Nat) (ps : List SH) (l : List Stp) : Prop where
  top : Sl w 6 a n c (ps.flatMap stc)
  row : ∀ p ∈ ps, Sl w 1 p.2.1 p.2.2.1 p.2.2.2 (p.1.cells.map B8)
  eq : ps.map (·.1) = l
theorem Stl.n_eq {w : World} {a : Option Addr} {n c : Nat} {ps : List SH} {l : List Stp} (h : Stl w a n c ps l) : n = l.length := by
  rw [← h.eq, List.length_map]; exact h.top.nf stc_len (by decide)
theorem Stl.below {w w' : World} {a : Option Addr} {n c : Nat} {ps : List SH} {l : List Stp} (h : Stl w a n c ps l) (hb : Below w.heap.size w w') : Stl w' a n c ps l :=
  ⟨h.top.below hb, fun p hp => (h.row p hp).below hb, h.eq⟩
end Go.Dx
end

/- the text B6 -/
section
/- Chapter 06, in plain Lean: the tables that the generator makes are valid. No program in sight. -/
namespace Go.Dx

/-- what is known of a list of rules before those that come twice are struck -/
structure Raw (l : List Ru) : Prop where
  ok : ∀ r ∈ l, ruOk r = true
  own : ∀ c, (isS c = true ∨ isM c = true) → ([c], (0 : Int)) ∈ l.map nameOf
  len : l.length ≤ 90
def onceL (l : List Ru) : List Ru := l.foldl (fun out r => if isIn (out.map nmOf) (nmOf r) then out else out ++ [r]) []
theorem once_snoc (l : List Ru) (r : Ru) : onceL (l ++ [r]) = if isIn ((onceL l).map nmOf) (nmOf r) then onceL l else onceL l ++ [r] := by
  unfold onceL; rw [List.foldl_append]; rfl
structure OnceOf (l out : List Ru) : Prop where
  sub : ∀ r ∈ out, r ∈ l
  names : ∀ n, n ∈ l.map nameOf → n ∈ out.map nameOf
  nodup : (out.map nameOf).Nodup
  len : out.length ≤ l.length
theorem once_step {l out : List Ru} (h : OnceOf l out) (r : Ru) : OnceOf (l ++ [r]) (if isIn (out.map nmOf) (nmOf r) then out else out ++ [r]) := by
  rw [isIn_eq]
  by_cases hn : (chars (nmOf r).1, (nmOf r).2) ∈ out.map nameOf
  · rw [decide_eq_true hn, if_pos rfl]
    refine ⟨fun q hq => List.mem_append_left _ (h.sub q hq), ?_, h.nodup, by rw [List.length_append]; exact Nat.le_trans h.len (by omega)⟩
    intro n h2
    rw [List.map_append, List.mem_append] at h2
    rcases h2 with h2 | h2
    · exact h.names n h2
    · simp only [List.map_cons, List.map_nil, List.mem_singleton] at h2
      subst h2; exact hn
  · rw [decide_eq_false hn, if_neg (by simp)]
    refine ⟨?_, ?_, ?_, by rw [List.length_append, List.length_append]; have := h.len; simp; omega⟩
    · intro q hq
      rcases List.mem_append.1 hq with hq | hq
      · exact List.mem_append_left _ (h.sub q hq)
      · exact List.mem_append_right _ hq
    · intro n h2
      rw [List.map_append, List.mem_append] at h2 ⊢
      rcases h2 with h2 | h2
      · exact .inl (h.names n h2)
      · exact .inr h2
    · rw [List.map_append, List.nodup_append]
      refine ⟨h.nodup, by simp, ?_⟩
      intro a h1 b h2 e
      simp only [List.map_cons, List.map_nil, List.mem_singleton] at h2
      subst h2; subst e
      exact hn h1
theorem onceOf_nil : OnceOf [] [] := ⟨fun _ h => h, fun _ h => h, by simp, Nat.le_refl _⟩
theorem own_once {l out : List Ru} (hr : Raw l) (h : OnceOf l out) (c : UInt8) (hc : isS c = true ∨ isM c = true) : ownB out c = true := by
  unfold ownB
  exact decide_eq_true (h.names _ (hr.own c hc))
theorem isS_nat (k : Nat) (hk : k < 26) : isS (UInt8.ofNat (97 + k)) = true := by
  have e : (UInt8.ofNat (97 + k)).toNat = 97 + k := by rw [UInt8.toNat_ofNat']; omega
  unfold isS
  rw [e]; simp; omega
theorem once_miss {l out : List Ru} (hr : Raw l) (h : OnceOf l out) : missB out = false := by
  refine miss_no fun j hj => own_once hr h _ (.inl (isS_nat j hj))
/-- the tables of the generator -/
theorem good_tables {t : Ta} {L0 L1 : List Ru} (h0 : Raw L0) (h1 : Raw L1) (o0 : OnceOf L0 t.l0) (o1 : OnceOf L1 t.l1) (hd : t.dig.length = 10) (hdc : okCells t.dig = true) (hc : indic t.cap = true) (hn : indic t.num = true) (hf : indic t.fin = true) (hs : indic t.sw = true) : GoodTa t := by
  constructor
  · unfold validE
    have l0 := o0.len
    have l1 := o1.len
    have q0 := h0.len
    have q1 := h1.len
    rw [if_neg (by omega)]
    have hg : goodT t = true := by
      unfold goodT
      simp only [Bool.and_eq_true, decide_eq_true_eq, List.all_eq_true]
      exact ⟨⟨⟨⟨⟨⟨⟨hd, hdc⟩, hc⟩, hn⟩, hf⟩, hs⟩, fun r hr => h0.ok r (o0.sub r hr)⟩, fun r hr => h1.ok r (o1.sub r hr)⟩
    rw [hg, if_neg (by simp)]
    have d0 : dupB t.l0 = false := by unfold dupB; simp [o0.nodup]
    have d1 : dupB t.l1 = false := by unfold dupB; simp [o1.nodup]
    rw [d0, d1, once_miss h0 o0, once_miss h1 o1]
    rfl
  · intro g c hc
    unfold langOf
    split
    · exact own_once h0 o0 c (.inr hc)
    · exact own_once h1 o1 c (.inr hc)

/-- the letters first -/
structure Raw1 (l : List Ru) (k : Nat) : Prop where
  ok : ∀ r ∈ l, ruOk r = true
  own : ∀ j, j < k → ([UInt8.ofNat (97 + j)], (0 : Int)) ∈ l.map nameOf
  len : l.length = k
theorem Raw1.zero : Raw1 [] 0 := ⟨fun _ h => by simp at h, fun j h => by omega, rfl⟩
theorem one_ok {v : UInt8} (h : cellOk v = true) : indic [v] = true := by simp [indic, okCells, h]
theorem two_ok {v u : UInt8} (h : cellOk v = true) (h2 : cellOk u = true) : indic [v, u] = true := by simp [indic, okCells, h, h2]
theorem size_chars (s : ByteArray) : s.size = (chars s).length := (Array.length_toList).symm
theorem letter_ok {s : ByteArray} {j : Nat} (hj : j < 26) (hs : chars s = [UInt8.ofNat (97 + j)]) {cs : List UInt8} (hc : indic cs = true) : ruOk ⟨s, 0, cs⟩ = true := by
  have hi := isS_nat j hj
  generalize UInt8.ofNat (97 + j) = u at hs hi
  unfold ruOk small
  rw [size_chars]
  simp [hs, hc, hi]
theorem Raw1.step {l : List Ru} {k : Nat} (h : Raw1 l k) (hk : k < 26) {s : ByteArray} (hs : chars s = [UInt8.ofNat (97 + k)]) {v : UInt8} (hv : cellOk v = true) : Raw1 (l ++ [⟨s, 0, [v]⟩]) (k + 1) := by
  refine ⟨?_, ?_, by rw [List.length_append, h.len]; rfl⟩
  · intro r hr
    rcases List.mem_append.1 hr with hr | hr
    · exact h.ok r hr
    · rw [List.mem_singleton] at hr; subst hr; exact letter_ok hk hs (one_ok hv)
  · intro j hj
    rw [List.map_append, List.mem_append]
    by_cases e : j = k
    · subst e; right; simp [nameOf, hs]
    · left; exact h.own j (by omega)
def marks6 : List UInt8 := [32, 46, 44, 63, 39, 45]
/-- then the marks -/
structure Raw2 (l : List Ru) (k : Nat) : Prop where
  ok : ∀ r ∈ l, ruOk r = true
  own : ∀ j, j < 26 → ([UInt8.ofNat (97 + j)], (0 : Int)) ∈ l.map nameOf
  mark : ∀ c, c ∈ marks6.take k → ([c], (0 : Int)) ∈ l.map nameOf
  len : l.length = 26 + k
theorem Raw2.zero {l : List Ru} (h : Raw1 l 26) : Raw2 l 0 := ⟨h.ok, h.own, fun c hc => by simp at hc, h.len⟩
theorem mark_ok : ∀ c ∈ marks6, (isW c && !isL c && !isD c) = true ∧ isS c = false := by decide
theorem Raw2.step {l : List Ru} {k : Nat} (h : Raw2 l k) {c : UInt8} (hk : marks6[k]? = some c) {s : ByteArray} (hs : chars s = [c]) {v : UInt8} (hv : cellOk v = true) : Raw2 (l ++ [⟨s, 0, [v]⟩]) (k + 1) := by
  refine ⟨?_, ?_, ?_, by rw [List.length_append, h.len]; rfl⟩
  · intro r hr
    rcases List.mem_append.1 hr with hr | hr
    · exact h.ok r hr
    · rw [List.mem_singleton] at hr
      subst hr
      obtain ⟨h1, h2⟩ := mark_ok c (List.mem_of_getElem? hk)
      unfold ruOk small oneMark
      rw [size_chars]
      simp [hs, h1, h2, one_ok hv]
  · intro j hj
    rw [List.map_append, List.mem_append]
    exact .inl (h.own j hj)
  · intro d hd
    rw [List.map_append, List.mem_append]
    rw [List.take_add_one, hk, List.mem_append] at hd
    rcases hd with hd | hd
    · exact .inl (h.mark d hd)
    · simp only [Option.toList_some, List.mem_singleton] at hd
      subst hd
      right; simp [nameOf, hs]
/-- then the contractions -/
structure Raw3 (l : List Ru) (k : Nat) : Prop where
  ok : ∀ r ∈ l, ruOk r = true
  own : ∀ c, (isS c = true ∨ isM c = true) → ([c], (0 : Int)) ∈ l.map nameOf
  len : l.length = 32 + k
theorem Raw3.zero {l : List Ru} (h : Raw2 l 6) : Raw3 l 0 := by
  refine ⟨h.ok, ?_, h.len⟩
  intro c hc
  rcases hc with hc | hc
  · have hc2 := hc
    unfold isS at hc2
    simp only [Bool.and_eq_true, decide_eq_true_eq] at hc2
    have := h.own (c.toNat - 97) (by omega)
    have e : 97 + (c.toNat - 97) = c.toNat := by omega
    rw [e, UInt8.ofNat_toNat] at this
    exact this
  · refine h.mark c ?_
    unfold isM at hc
    simpa [marks6] using hc
theorem Raw3.step {l : List Ru} {k : Nat} (h : Raw3 l k) {r : Ru} (hr : ruOk r = true) : Raw3 (l ++ [r]) (k + 1) := by
  refine ⟨?_, ?_, by rw [List.length_append, h.len]; rfl⟩
  · intro q hq
    rcases List.mem_append.1 hq with hq | hq
    · exact h.ok q hq
    · rw [List.mem_singleton] at hq; subst hq; exact hr
  · intro c hc
    rw [List.map_append, List.mem_append]
    exact .inl (h.own c hc)
theorem Raw3.raw {l : List Ru} {k : Nat} (h : Raw3 l k) (hk : k ≤ 50) : Raw l := ⟨h.ok, h.own, by rw [h.len]; omega⟩
end Go.Dx
end

/- the text B7 -/
section
/- Chapter 06: characters: Letter, letter, digit, written, of the program and of the reference. -/
namespace Go.Proofs.Ytjdnmbapmobaaaa
open Go.RowKit Go.Dx

theorem let_S {c : UInt8} (h1 : 97 ≤ c.toNat) (h2 : c.toNat ≤ 122) : low c = c ∧ isL c = true ∧ isC c = false := by
  have hC : isC c = false := by unfold isC; simp; omega
  exact ⟨by unfold low; rw [hC]; rfl, by unfold isL isS; simp [h1, h2], hC⟩
theorem let_C {c : UInt8} (h1 : 65 ≤ c.toNat) (h2 : c.toNat ≤ 90) : ((low c).toNat : Int) = (c.toNat : Int) + 32 ∧ isL c = true ∧ isC c = true := by
  have hC : isC c = true := by unfold isC; simp [h1, h2]
  refine ⟨?_, by unfold isL; rw [hC, Bool.or_true], hC⟩
  unfold low
  rw [if_pos hC, UInt8.toNat_add]
  have : (32 : UInt8).toNat = 32 := rfl
  rw [this]
  omega
theorem let_N {c : UInt8} (h : c.toNat < 65 ∨ (90 < c.toNat ∧ c.toNat < 97) ∨ 122 < c.toNat) : low c = c ∧ isL c = false ∧ isC c = false := by
  have hC : isC c = false := by unfold isC; simp; omega
  have hS : isS c = false := by unfold isS; simp; omega
  exact ⟨by unfold low; rw [hC]; rfl, by unfold isL; rw [hC, hS]; rfl, hC⟩

def LetterR (c : UInt8) : Ending := .returned (.tuple #[.int .u8 ((low c).toNat : Int), .bool (isL c), .bool (isC c)])

end Go.Proofs.Ytjdnmbapmobaaaa
end

/- the text B8 -/
section
/- Chapter 06: characters: letter, digit, written; the reference's Letter, Is, Digit, Written. -/
namespace Go.Proofs.Ytjdnmbapmobaaaa
open Go.RowKit Go.Dx

end Go.Proofs.Ytjdnmbapmobaaaa
end

/- the text Wire1 -/
section
namespace Go.Proofs.Ytjdnmbapmobaaaa
open Go.RowKit Go.Dx

set_option maxHeartbeats 400000 in
theorem wire_Int (n : Int) (hn0 : -9223372036854775808 ≤ n) (hn1 : n ≤ 9223372036854775807) (w : World) :
    Calls Try.prog 43 #[.int .i64 n] w (Gives 5 1 (encInt n).length ((encInt n).map B8) w) := by
  obtain ⟨m, HM⟩ : ∃ m, Hid (m = mag n) := ⟨_, rfl⟩
  have hm2 : m < 9223372036854775808 := by rw [HM.out]; exact mag_lt hn0 hn1
  have hneg : n < 0 → bits .xor .u64 IntKind.u64.max (IntKind.u64.wrap n) = (m : Int) := fun h => by rw [HM.out]; exact mag_neg h hn0
  have HP : Hid (¬ n < 0 → n = (m : Int)) := fun h => by rw [HM.out]; exact mag_pos h
  go_enter Try.func43, Try.ntmps43
  go_wp2
  go_step3
  go_upto_if 11 with (fail)
  go_cut [3, 4] (fun x f w' => x = .int .u64 (m : Int) ∧ f = .int .u8 ((fl (decide (n < 0))).toNat : Int) ∧ w = w')
  case first =>
    go_wp2
    · have h : n < 0 := by assumption
      go_meet
      exact ⟨rfl, by simp [fl, h], rfl⟩
    · have h : 0 ≤ n := by assumption
      go_meet
      exact ⟨by rw [← HP.out (by omega)]; congr 1; rw [IntKind.wrap_u64]; omega, by rw [show decide (n < 0) = false from by simp; omega]; rfl, rfl⟩
  case rest =>
    obtain ⟨neg, HN⟩ : ∃ neg, Hid (neg = decide (n < 0)) := ⟨_, rfl⟩
    rw [← HN.out] at hcut
    obtain ⟨rfl, rfl, rfl⟩ := hcut
    clear HP hneg
    go_wp2
    go_step3
    go_wp2
    have hm8 : m < 256 ^ 8 := by simp; omega
    go_loopg [5] 8 (fun g x w' => ∃ k : Nat, k = g ∧ k ≤ 8 ∧ m < 256 ^ k ∧ x = .int .i64 k ∧ w = w')
    case atStart => exact ⟨8, rfl, by omega, hm8, rfl, rfl⟩
    case round =>
      obtain ⟨k, rfl, hk, hmk, rfl, rfl⟩ := hrel
      have h01 : (0 < k ∧ (m : Int) / 2 ^ (8 * (k - 1)) ≤ 0) ∨ (0 < k ∧ 0 < (m : Int) / 2 ^ (8 * (k - 1))) ∨ ¬ 0 < k := by omega
      rcases h01 with ⟨h0, h1⟩ | ⟨h0, h1⟩ | h0
      · go_wp2
        go_roundg (k - 1)
        case measure => omega
        case rel => exact ⟨k - 1, rfl, by omega, len_next h0 h1, by go_num, rfl⟩
      all_goals
        have hL : Len m k := by first | exact len_brk hk hmk h0 h1 | exact len_zero hk hmk h0
        go_wp2
        rw [hd_eq neg k hk]
        go_loopg [6, 7] k (fun g x i w' => ∃ (j : Nat) (a : Option Addr) (c : Nat), j ≤ k ∧ g = k - j ∧ i = .int .i64 ((k : Int) - 1 - j) ∧ x = .slice a (j + 1) c ∧ Own w' w.heap.size 5 1 a (j + 1) c ((encTo neg m k j).map B8) ∧ Below w.heap.size w w')
        case atStart => exact ⟨0, _, _, by omega, by omega, by simp, rfl, Own.built w _ _ 1 1 _ (Nat.le_refl _) rfl (by decide), (Below.refl _ _).alloc (Nat.le_refl _) _⟩
        case round =>
          obtain ⟨j, a, c, hj, hg, rfl, rfl, hown, hb⟩ := hrel
          go_wp2_with (at_builtin; refine app_b rfl _ _ rfl w w.heap.size _ _ _ _ rfl hown _ rfl (by omega) hb.size hb ?_; intro a' c' w' hown' hgr' hb')
          all_goals first
            | (have hx : (k : Int) - 1 < (j : Int) := by assumption
               obtain rfl : j = k := by omega
               rw [Exit.noGoto_ret]
               go_ret
               have e : encTo neg m j j = encInt n := by have hL' := hL; rw [HM.out] at hL' ⊢; rw [HN.out]; exact encTo_all hL'
               have el : (encInt n).length = j + 1 := by rw [← e, encTo_length]
               rw [el]
               exact ⟨a, c, rfl, by rw [← e]; exact hown, hb⟩)
            | (go_roundg (k - (j + 1))
               case measure => omega
               case rel =>
                 have e := dig_eq neg m (k - 1 - j)
                 refine ⟨j + 1, a', c', by omega, rfl, by congr 1; omega, rfl, ?_, hb'⟩
                 rw [encTo_succ]
                 rw [e] at hown'
                 simpa using hown')
end Go.Proofs.Ytjdnmbapmobaaaa
end

/- the text Wire2 -/
section
namespace Go.Proofs.Ytjdnmbapmobaaaa
open Go.RowKit Go.Dx

set_option maxHeartbeats 400000 in
theorem ref_Int_neg (m : Nat) (hm : m < 9223372036854775808) (w : World) :
    Calls Try.prog 45 #[.int .i64 (-1 - (m : Int))] w (Gives 5 1 (encInt (-1 - (m : Int))).length ((encInt (-1 - (m : Int))).map B8) w) := by
  have hd0 : decide (-1 - (m : Int) < 0) = true := by simp; omega
  have hd1 : decide (0 ≤ -1 - (m : Int)) = false := by simp; omega
  have hd2 : decide ((m : Int) ≤ -1) = false := by simp; omega
  have HA : Hid (∀ k, Len m k → encTo true m k k = encInt (-1 - (m : Int))) := fun k h => by
    have := @encTo_all (-1 - (m : Int)) k (by rw [mag_of_neg]; exact h)
    rw [mag_of_neg, show decide ((-1 - (m : Int)) < 0) = true by simp; omega] at this
    exact this
  go_enter Try.func45, Try.ntmps45
  go_wp2
  go_loopg [3, 4] 8 (fun g x v w' => ∃ (t : Nat) (a : Option Addr) (c : Nat), t ≤ 8 ∧ g = 8 - t ∧ (t = 0 ∨ 256 ^ (t - 1) ≤ m) ∧ x = .int .i64 ((m / 256 ^ t : Nat) : Int) ∧ v = .slice a t c ∧ Own w' w.heap.size 5 1 a t c ((lows m t).map B8) ∧ Below w.heap.size w w')
  case atStart => exact ⟨0, none, 0, by omega, by omega, .inl rfl, by simp; omega, rfl, Own.nil _ _ _ _, Below.refl _ _⟩
  case round =>
    obtain ⟨t, a, c, ht, hg, hlo, rfl, rfl, hown, hb⟩ := hrel
    have HG := hide hg
    have hq : m / 256 ^ t < 9223372036854775808 := Nat.lt_of_le_of_lt (Nat.div_le_self _ _) hm
    have HQ := hide (@Len.lt m t hm)
    have HF := hide (@Len.fin m t)
    have HN := hide (@Len.next m t)
    have HD := hide (dig_int m t)
    have HV := hide (div_int m t)
    clear hg
    generalize m / 256 ^ t = q at *
    by_cases h0 : 0 < q
    · go_wp2_with (at_builtin; refine app_b rfl _ _ rfl w w.heap.size _ _ _ _ rfl hown _ rfl (by omega) hb.size hb ?_; intro a' c' w' hown' hgr' hb')
      have h8 := HQ.out (by omega) ht
      go_roundg (8 - (t + 1))
      case measure => have := HG.out; omega
      case rel =>
        refine ⟨t + 1, a', c', by omega, rfl, .inr (HN.out (by omega)), by rw [HV.out], rfl, ?_, hb'⟩
        rw [lows_succ]
        rw [HD.out] at hown'
        simpa using hown'
    · have hL := HF.out (by omega) ht hlo
      have hk8 := hL.1
      have HS := hide hown.sl
      go_wp2_with (at_builtin; refine app_b rfl _ _ rfl wr wr.heap.size none 0 0 [] rfl (Own.nil _ _ _ _) _ rfl (by omega) (Nat.le_refl _) (Below.refl _ _) ?_; intro a6 c6 w6 hown6 hgr6 hb6)
      obtain ⟨wo, rfl⟩ : ∃ wo : World, wo = wr := ⟨_, rfl⟩
      go_loopg [6, 7] t (fun g x i w' => ∃ (j : Nat) (a : Option Addr) (c : Nat), j ≤ t ∧ g = t - j ∧ i = .int .i64 ((t : Int) - 1 - j) ∧ x = .slice a (j + 1) c ∧ Own w' wo.heap.size 5 1 a (j + 1) c ((encTo true m t j).map B8) ∧ Below wo.heap.size wo w')
      case atStart =>
        refine ⟨0, a6, c6, by omega, by omega, by simp, rfl, ?_, hb6⟩
        rw [encTo_zero]
        have e := hd_neg t hk8
        simp only [List.map_cons, List.map_nil, B8, e]
        simpa using hown6
      case round =>
        obtain ⟨j, a7, c7, hj, hg7, rfl, rfl, hown7, hb7⟩ := hrel
        have HG7 := hide hg7
        clear hg7
        by_cases hjt : j < t
        · obtain ⟨b, off, rfl, hbs, hcell⟩ := Sl.ex (HS.out.below hb7) (by simp [lows_length]; omega)
          have hc : wr.cell? ⟨b, off + (t - 1 - j), none⟩ = some (B8 (dig m (t - 1 - j))) := hcell _ _ (by rw [List.getElem?_map, lows_get m t _ (by omega)]; rfl)
          clear hcell
          have hdb := UInt8.toNat_lt (dig m (t - 1 - j))
          go_wp2_with (at_builtin; refine app_b rfl _ _ rfl wo wo.heap.size _ _ _ _ rfl hown7 _ rfl (by omega) hb7.size hb7 ?_; intro a' c' w' hown' hgr' hb')
          go_roundg (t - (j + 1))
          case measure => have := HG7.out; omega
          case rel =>
            refine ⟨j + 1, a', c', by omega, rfl, by congr 1; omega, rfl, ?_, hb'⟩
            rw [encTo_succ]
            have e := flp_neg (dig m (t - 1 - j))
            simp only [List.map_append, List.map_cons, List.map_nil, B8, e]
            simpa using hown'
        · obtain rfl : j = t := by omega
          go_wp2
          go_ret
          have e := HA.out j hL
          have el : (encInt (-1 - (m : Int))).length = j + 1 := by rw [← e, encTo_length]
          rw [el, ← e]
          exact ⟨a7, c7, rfl, hown7.mono hb.size, hb.trans (hb7.mono hb.size)⟩

set_option maxHeartbeats 400000 in
theorem ref_Int_pos (m : Nat) (hm : m < 9223372036854775808) (w : World) :
    Calls Try.prog 45 #[.int .i64 (m : Int)] w (Gives 5 1 (encInt (m : Int)).length ((encInt (m : Int)).map B8) w) := by
  have hd0 : decide ((m : Int) < 0) = false := by simp
  have HA : Hid (∀ k, Len m k → encTo false m k k = encInt (m : Int)) := fun k h => by
    have := @encTo_all (m : Int) k (by rw [mag_of_nat]; exact h)
    rw [mag_of_nat, show decide ((m : Int) < 0) = false by simp] at this
    exact this
  go_enter Try.func45, Try.ntmps45
  go_wp2
  go_loopg [3, 4] 8 (fun g x v w' => ∃ (t : Nat) (a : Option Addr) (c : Nat), t ≤ 8 ∧ g = 8 - t ∧ (t = 0 ∨ 256 ^ (t - 1) ≤ m) ∧ x = .int .i64 ((m / 256 ^ t : Nat) : Int) ∧ v = .slice a t c ∧ Own w' w.heap.size 5 1 a t c ((lows m t).map B8) ∧ Below w.heap.size w w')
  case atStart => exact ⟨0, none, 0, by omega, by omega, .inl rfl, by simp, rfl, Own.nil _ _ _ _, Below.refl _ _⟩
  case round =>
    obtain ⟨t, a, c, ht, hg, hlo, rfl, rfl, hown, hb⟩ := hrel
    have HG := hide hg
    have hq : m / 256 ^ t < 9223372036854775808 := Nat.lt_of_le_of_lt (Nat.div_le_self _ _) hm
    have HQ := hide (@Len.lt m t hm)
    have HF := hide (@Len.fin m t)
    have HN := hide (@Len.next m t)
    have HD := hide (dig_int m t)
    have HV := hide (div_int m t)
    clear hg
    generalize m / 256 ^ t = q at *
    by_cases h0 : 0 < q
    · go_wp2_with (at_builtin; refine app_b rfl _ _ rfl w w.heap.size _ _ _ _ rfl hown _ rfl (by omega) hb.size hb ?_; intro a' c' w' hown' hgr' hb')
      have h8 := HQ.out (by omega) ht
      go_roundg (8 - (t + 1))
      case measure => have := HG.out; omega
      case rel =>
        refine ⟨t + 1, a', c', by omega, rfl, .inr (HN.out (by omega)), by rw [HV.out], rfl, ?_, hb'⟩
        rw [lows_succ]
        rw [HD.out] at hown'
        simpa using hown'
    · have hL := HF.out (by omega) ht hlo
      have hk8 := hL.1
      have HS := hide hown.sl
      go_wp2_with (at_builtin; refine app_b rfl _ _ rfl wr wr.heap.size none 0 0 [] rfl (Own.nil _ _ _ _) _ rfl (by omega) (Nat.le_refl _) (Below.refl _ _) ?_; intro a6 c6 w6 hown6 hgr6 hb6)
      obtain ⟨wo, rfl⟩ : ∃ wo : World, wo = wr := ⟨_, rfl⟩
      go_loopg [6, 7] t (fun g x i w' => ∃ (j : Nat) (a : Option Addr) (c : Nat), j ≤ t ∧ g = t - j ∧ i = .int .i64 ((t : Int) - 1 - j) ∧ x = .slice a (j + 1) c ∧ Own w' wo.heap.size 5 1 a (j + 1) c ((encTo false m t j).map B8) ∧ Below wo.heap.size wo w')
      case atStart =>
        refine ⟨0, a6, c6, by omega, by omega, by simp, rfl, ?_, hb6⟩
        rw [encTo_zero]
        have e := hd_pos t hk8
        simp only [List.map_cons, List.map_nil, B8, e]
        simpa using hown6
      case round =>
        obtain ⟨j, a7, c7, hj, hg7, rfl, rfl, hown7, hb7⟩ := hrel
        have HG7 := hide hg7
        clear hg7
        by_cases hjt : j < t
        · obtain ⟨b, off, rfl, hbs, hcell⟩ := Sl.ex (HS.out.below hb7) (by simp [lows_length]; omega)
          have hc : wr.cell? ⟨b, off + (t - 1 - j), none⟩ = some (B8 (dig m (t - 1 - j))) := hcell _ _ (by rw [List.getElem?_map, lows_get m t _ (by omega)]; rfl)
          clear hcell
          have hdb := UInt8.toNat_lt (dig m (t - 1 - j))
          go_wp2_with (at_builtin; refine app_b rfl _ _ rfl wo wo.heap.size _ _ _ _ rfl hown7 _ rfl (by omega) hb7.size hb7 ?_; intro a' c' w' hown' hgr' hb')
          go_roundg (t - (j + 1))
          case measure => have := HG7.out; omega
          case rel =>
            refine ⟨j + 1, a', c', by omega, rfl, by congr 1; omega, rfl, ?_, hb'⟩
            rw [encTo_succ]
            have e := flp_pos_int (dig m (t - 1 - j))
            simp only [List.map_append, List.map_cons, List.map_nil, B8, e]
            simpa using hown'
        · obtain rfl : j = t := by omega
          go_wp2
          go_ret
          have e := HA.out j hL
          have el : (encInt (m : Int)).length = j + 1 := by rw [← e, encTo_length]
          rw [el, ← e]
          exact ⟨a7, c7, rfl, hown7.mono hb.size, hb.trans (hb7.mono hb.size)⟩

theorem ref_Int (n : Int) (hn0 : -9223372036854775808 ≤ n) (hn1 : n ≤ 9223372036854775807) (w : World) :
    Calls Try.prog 45 #[.int .i64 n] w (Gives 5 1 (encInt n).length ((encInt n).map B8) w) := by
  by_cases h : n < 0
  · obtain ⟨m, rfl⟩ : ∃ m : Nat, n = -1 - (m : Int) := ⟨(-1 - n).toNat, by omega⟩
    exact ref_Int_neg m (by omega) w
  · obtain ⟨m, rfl⟩ : ∃ m : Nat, n = (m : Int) := ⟨n.toNat, by omega⟩
    exact ref_Int_pos m (by omega) w
end Go.Proofs.Ytjdnmbapmobaaaa
end

/- the text WireB -/
section
/- wire.Bytes and the reference's. -/
namespace Go.Proofs.Ytjdnmbapmobaaaa
open Go.RowKit Go.Dx

set_option maxHeartbeats 400000 in
theorem wire_Bytes (s : ByteArray) (hs : s.size ≤ 140737488355000) (w : World) :
    Calls Try.prog 27 #[.string s] w (Gives 5 1 (encBytes s.data.toList).length ((encBytes s.data.toList).map B8) w) := by
  have h9 := encInt_le (s.size : Int)
  have el : (encBytes s.data.toList).length = (encInt (s.size : Int)).length + s.size := by unfold encBytes; rw [List.length_append, Array.length_toList]; rfl
  have em : (encBytes s.data.toList).map B8 = (encInt (s.size : Int)).map B8 ++ s.data.toList.map B8 := by unfold encBytes; rw [List.map_append, Array.length_toList]; rfl
  rw [el, em]
  clear el em
  go_enter Try.func27, Try.ntmps27
  go_wp2_with fail
  refine (wire_Int _ (by omega) (by omega) _).mono ?_
  rintro e w1 ⟨a, c, rfl, ho, hb⟩
  go_wp2_with (refine app_str rfl _ _ rfl w w.heap.size _ _ _ _ rfl ho _ rfl (by omega) hb.size hb ?_; intro a' c' w' ho' hgr' hb')
  go_ret
  exact ⟨a', c', rfl, ho', hb'⟩
set_option maxHeartbeats 400000 in
theorem ref_Bytes (s : ByteArray) (hs : s.size ≤ 140737488355000) (w : World) :
    Calls Try.prog 35 #[.string s] w (Gives 5 1 (encBytes s.data.toList).length ((encBytes s.data.toList).map B8) w) := by
  have h9 := encInt_le (s.size : Int)
  have el : (encBytes s.data.toList).length = (encInt (s.size : Int)).length + s.size := by unfold encBytes; rw [List.length_append, Array.length_toList]; rfl
  have em : (encBytes s.data.toList).map B8 = (encInt (s.size : Int)).map B8 ++ s.data.toList.map B8 := by unfold encBytes; rw [List.map_append, Array.length_toList]; rfl
  rw [el, em]
  clear el em
  go_enter Try.func35, Try.ntmps35
  go_wp2_with fail
  refine (ref_Int _ (by omega) (by omega) _).mono ?_
  rintro e w1 ⟨a, c, rfl, ho, hb⟩
  go_wp2_with (first
    | (with_reducible refine to_bytes 7 _ s rfl (by unfold maxLen; omega) ?_; intro a2 c2 w2 hs2 hb2 hp2)
    | (at_builtin; refine app_bs rfl _ _ rfl w w.heap.size _ _ _ _ rfl (ho.below hb2) _ _ _ s.data.toList rfl hs2 (by omega) (Nat.le_trans hb.size hb2.size) (hb.trans (hb2.mono hb.size)) ?_; intro a' c' w' ho' hgr' hb'))
  go_ret
  exact ⟨a', c', rfl, ho', hb'⟩

end Go.Proofs.Ytjdnmbapmobaaaa
end

/- the text Wire3 -/
section
namespace Go.Proofs.Ytjdnmbapmobaaaa
open Go.RowKit Go.Dx

theorem neq_nat {a b : Nat} (h : a ≠ b) : ((a : Int) != (b : Int)) = true := by simp; omega
theorem eq_nat {a b : Nat} (h : a = b) : ((a : Int) != (b : Int)) = false := by simp; omega

theorem same_step {l1 l2 : List UInt8} {k : Nat} {x y : UInt8} (hx : l1[k]? = some x) (hy : l2[k]? = some y) (h : l1.take k = l2.take k) : (x = y ↔ l1.take (k + 1) = l2.take (k + 1)) := by
  rw [List.take_add_one, List.take_add_one, hx, hy, h]; simp
theorem ne_of_take {l1 l2 : List UInt8} {k : Nat} (h : l1.take k ≠ l2.take k) : l1 ≠ l2 := fun e => h (by rw [e])

set_option maxHeartbeats 400000 in
theorem ref_Same (l1 l2 : List UInt8) (a1 a2 : Option Addr) (n1 n2 c1 c2 : Nat) (w : World) (h1 : Sl w 1 a1 n1 c1 (l1.map B8)) (h2 : Sl w 1 a2 n2 c2 (l2.map B8)) :
    Calls Try.prog 29 #[.slice a1 n1 c1, .slice a2 n2 c2] w (Still (.bool (decide (l1 = l2))) w) := by
  obtain rfl := h1.n_eq
  obtain rfl := h2.n_eq
  have hm1 := Nat.le_trans h1.le h1.cap
  have hm2 := Nat.le_trans h2.le h2.cap
  unfold maxLen at hm1 hm2
  by_cases hlen : l1.length = l2.length
  · have hb := eq_nat hlen
    have hle1 : l1.length ≤ l2.length := by omega
    have hle2 : l2.length ≤ l1.length := by omega
    have HL := hide hlen
    clear hlen
    go_enter Try.func29, Try.ntmps29
    go_wp2
    go_loopg [5] l1.length (fun g i w' => ∃ (k n : Nat), k ≤ l1.length ∧ g = l1.length - k ∧ l1.take k = l2.take k ∧ i = .int .i64 k ∧ w' = w.drewN n)
    case atStart => exact ⟨0, 0, by omega, by omega, rfl, rfl, rfl⟩
    case round =>
      obtain ⟨k, nq, hk, hg, ht, rfl, rfl⟩ := hrel
      have HG := hide hg
      have HT := hide ht
      clear hg ht
      by_cases hkl : k < l1.length
      · obtain ⟨b1, o1, rfl, hb1, hc1⟩ := h1.ex (by simp; omega)
        obtain ⟨b2, o2, rfl, hb2, hc2⟩ := h2.ex (by simp; omega)
        obtain ⟨x, hx⟩ : ∃ x, l1[k]? = some x := ⟨l1[k], by simp [hkl]⟩
        obtain ⟨y, hy⟩ : ∃ y, l2[k]? = some y := ⟨l2[k]'(by omega), by simp⟩
        have hx1 : w.cell? ⟨b1, o1 + k, none⟩ = some (.int .u8 (x.toNat : Int)) := hc1 k _ (by rw [List.getElem?_map, hx]; rfl)
        have hy1 : w.cell? ⟨b2, o2 + k, none⟩ = some (.int .u8 (y.toNat : Int)) := hc2 k _ (by rw [List.getElem?_map, hy]; rfl)
        have HX := hide (same_step hx hy HT.out)
        clear hc1 hc2 hx hy
        by_cases hxy : x = y
        · have HE := hide (HX.out.1 hxy)
          subst hxy
          have hn : ((x.toNat : Int) != (x.toNat : Int)) = false := by simp
          go_wp2
          go_quiet (fail)
          go_wp2
          go_roundg (l1.length - (k + 1))
          case measure => have := HG.out; omega
          case rel => exact ⟨k + 1, _, by omega, rfl, HE.out, by go_num, by first | rfl | exact World.drewN_drewN _ _ _⟩
        · have hn : ((x.toNat : Int) != (y.toNat : Int)) = true := neq_nat (fun e => hxy (UInt8.toNat_inj.1 e))
          have HE := hide (ne_of_take (fun e => hxy (HX.out.2 e)))
          have hne : Value.bool (decide (l1 = l2)) = .bool false := by rw [decide_eq_false HE.out]
          have HN := hide hne
          clear hne hxy
          go_wp2
          go_quiet (fail)
          go_wp2
          go_ret
          exact ⟨by rw [HN.out]; rfl, _, World.drewN_drewN _ _ _⟩
      · obtain rfl : k = l1.length := by omega
        go_wp2
        go_ret
        have : l1 = l2 := by have := HT.out; rw [List.take_length, List.take_of_length_le (by omega)] at this; exact this
        exact ⟨by rw [decide_eq_true this]; rfl, _, rfl⟩
  · have hb := neq_nat hlen
    have HN := hide (decide_eq_false (fun e : l1 = l2 => hlen (by rw [e])))
    clear hlen
    go_enter Try.func29, Try.ntmps29
    go_wp2
    go_ret
    exact ⟨by rw [HN.out]; rfl, 0, rfl⟩



end Go.Proofs.Ytjdnmbapmobaaaa
end

/- the text Wire4 -/
section
namespace Go.Proofs.Ytjdnmbapmobaaaa
open Go.RowKit Go.Dx

/-- three results that are integers -/
abbrev R3 (r : Int × Int × Int) : Value := .tuple #[.int .i64 r.1, .int .i64 r.2.1, .int .i64 r.2.2]

set_option maxRecDepth 100000 in
set_option maxHeartbeats 400000 in
theorem wire_GetInt (l : List UInt8) (a : Option Addr) (n c : Nat) (w : World) (hs : Sl w 1 a n c (l.map B8)) :
    Calls Try.prog 56 #[.slice a n c] w fun e w' => e = .returned (R3 (decInt l)) ∧ w = w' := by
  obtain rfl := hs.n_eq
  have hm := Nat.le_trans hs.le hs.cap
  unfold maxLen at hm
  cases l with
  | nil =>
    go_enter Try.func56, Try.ntmps56
    go_wp2
    go_ret3
    exact ⟨rfl, rfl⟩
  | cons h t =>
    obtain ⟨b, off, rfl, hbs, hc⟩ := hs.ex (by simp)
    have hc0 : w.cell? ⟨b, off, none⟩ = some (.int .u8 (h.toNat : Int)) := hc 0 _ rfl
    have hle := hs.le
    simp only [List.length_cons] at hm hle ⊢
    have hne : (((t.length : Int) + 1) == 0) = false := by simp; omega
    have HC := hide hc
    clear hc hs
    obtain ⟨neg, HN⟩ : ∃ neg, Hid (neg = decide (h.toNat < 128)) := ⟨_, rfl⟩
    obtain ⟨K, HK⟩ : ∃ K, Hid (K = (flp neg h).toNat - 128) := ⟨_, rfl⟩
    go_enter Try.func56, Try.ntmps56
    go_upto_if 16 with (fail)
    go_cut [5] (fun f w' => f = .int .u8 ((fl neg).toNat : Int) ∧ w = w')
    case first =>
      by_cases h7 : h.toNat < 128
      · go_wp2
        go_meet
        exact ⟨by rw [HN.out, decide_eq_true h7]; rfl, rfl⟩
      · go_wp2
        go_meet
        exact ⟨by rw [HN.out, decide_eq_false h7]; rfl, rfl⟩
    case rest =>
      obtain ⟨rfl, rfl⟩ := hcut
      have hx := xor_fl h neg
      have hfb := UInt8.toNat_lt (flp neg h)
      go_upto_region 6 with (fail)
      go_cut [6] (fun k w' => k = .int .i64 (K : Int) ∧ w = w')
      case first =>
        go_wp2
        go_meet
        exact ⟨by rw [HK.out]; congr 1; have := flp_ge h neg HN.out; omega, rfl⟩
      case rest =>
        obtain ⟨rfl, rfl⟩ := hcut
        have HX := hide hx
        have HD : Hid (decInt (h :: t) = decK neg K t) := by show _ = _; rw [HN.out, HK.out]; rw [HN.out]; rfl
        clear hx hfb
        by_cases h8 : 8 < K
        · go_wp2
          go_ret3
          exact ⟨by rw [HD.out, decK_8 h8]; rfl, rfl⟩
        · by_cases hlen : t.length < K
          · go_wp2
            go_ret3
            exact ⟨by rw [HD.out, decK_more h8 hlen]; rfl, rfl⟩
          · have hsp : (0 < K ∧ flp neg (t.getD 0 0) = 0) ∨ (0 < K ∧ flp neg (t.getD 0 0) ≠ 0 ∧ ¬ c = 1) ∨ (¬ 0 < K ∧ c = 1) ∨ (¬ 0 < K ∧ ¬ c = 1) := by
              by_cases h0 : 0 < K
              · by_cases hz : flp neg (t.getD 0 0) = 0
                · exact .inl ⟨h0, hz⟩
                · exact .inr (.inl ⟨h0, hz, by omega⟩)
              · by_cases hc1 : c = 1
                · exact .inr (.inr (.inl ⟨h0, hc1⟩))
                · exact .inr (.inr (.inr ⟨h0, hc1⟩))
            have hd1 : 0 < K → ∃ d, t.getD 0 0 = d ∧ w.cell? ⟨b, off + 1, none⟩ = some (.int .u8 (d.toNat : Int)) := by
              intro h0
              cases t with
              | nil => simp at hlen; omega
              | cons d t => exact ⟨d, rfl, HC.out 1 _ rfl⟩
            rcases hsp with ⟨h0, hz⟩ | hsp
            · obtain ⟨d, hd, hcd⟩ := hd1 h0
              rw [hd] at hz
              have hx := xor_fl d neg
              have hzz : (flp neg d).toNat = 0 := by rw [hz]; rfl
              have HD2 := hide hd
              clear hd hd1
              go_wp2
              go_ret3
              exact ⟨by rw [HD.out, decK_zero h8 hlen h0 (by rw [HD2.out]; exact hz)]; rfl, rfl⟩
            · have hfin : Hid (K = 0 ∨ flp neg (t.getD 0 0) ≠ 0) := by
                rcases hsp with ⟨h0, hz, _⟩ | ⟨h0, _⟩ | ⟨h0, _⟩
                · exact .inr hz
                · exact .inl (by omega)
                · exact .inl (by omega)
              rcases hsp with ⟨h0, hz, hcap⟩ | ⟨h0, rfl⟩ | ⟨h0, hcap⟩
              all_goals first
                | (obtain ⟨d, hd, hcd⟩ := hd1 h0
                   rw [hd] at hz
                   have hx := xor_fl d neg
                   have hzz : (((flp neg d).toNat : Int) == 0) = false := by
                     simp; intro e; exact hz (UInt8.toNat_inj.1 e)
                   have HD2 := hide hd
                   clear hd hd1 hz
                   go_wp2)
                | (clear hd1
                   go_wp2)
              all_goals
                go_loopg [7, 48] K (fun g m i w' => ∃ j : Nat, j ≤ K ∧ g = K - j ∧ m = .int .u64 ((val ((t.take j).map (flp neg)) : Nat) : Int) ∧ i = .int .i64 j ∧ w = w')
                case atStart => exact ⟨0, by omega, rfl, by simp [val], rfl, rfl⟩
                case round =>
                  obtain ⟨j, hj, hg, rfl, rfl, rfl⟩ := hrel
                  have HG := hide hg
                  clear hg
                  by_cases hjk : j < K
                  · first
                    | (exfalso; omega)
                    | (obtain ⟨d, hd⟩ : ∃ d, t[j]? = some d := ⟨t[j]'(by omega), by simp⟩
                       have hcell : w.cell? ⟨b, off + 1 + j, none⟩ = some (.int .u8 (d.toNat : Int)) := by
                         rw [Nat.add_assoc, Nat.add_comm 1 j]; exact HC.out (j + 1) _ (by simp [hd])
                       have hv : val ((t.take j).map (flp neg)) < 72057594037927936 := val_lt7 _ (by simp; omega)
                       have hx := xor_fl d neg
                       have ho := or_u64 (val ((t.take j).map (flp neg))) (flp neg d) hv
                       have hfd := UInt8.toNat_lt (flp neg d)
                       have HV : Hid (val ((t.take (j + 1)).map (flp neg)) = 256 * val ((t.take j).map (flp neg)) + (flp neg d).toNat) := by
                         show _ = _; rw [List.take_add_one, hd]; simp [val_snoc]
                       clear hd
                       generalize val ((t.take j).map (flp neg)) = v at *
                       go_wp2
                       go_roundg (K - (j + 1))
                       case measure => have := HG.out; omega
                       case rel => exact ⟨j + 1, by omega, rfl, by rw [HV.out]; go_num, by go_num, rfl⟩)
                  · obtain rfl : j = K := by omega
                    have HB := hide (@decK_big neg j t h8 hlen hfin.out)
                    have HO := hide (@decK_ok neg j t h8 hlen hfin.out)
                    have hvl : val ((t.take j).map (flp neg)) < 18446744073709551616 := val_lt8 _ (by simp; omega)
                    generalize val ((t.take j).map (flp neg)) = v at *
                    by_cases hbig : 9223372036854775808 ≤ v
                    · go_wp2
                      go_ret3
                      exact ⟨by rw [HD.out, HB.out hbig]; rfl, rfl⟩
                    · cases neg
                      · go_wp2
                        go_ret3
                        exact ⟨by rw [HD.out, HO.out hbig]; rfl, rfl⟩
                      · have hw : wrap64 (bits .xor .u64 IntKind.u64.max (v : Int)) = -1 - (v : Int) := by
                          rw [u64_not v (by omega)]; unfold wrap64; omega
                        go_wp2
                        go_ret3
                        exact ⟨by rw [HD.out, HO.out hbig]; rfl, rfl⟩
end Go.Proofs.Ytjdnmbapmobaaaa
end

/- the text Wire5 -/
section
namespace Go.Proofs.Ytjdnmbapmobaaaa
open Go.RowKit Go.Dx

set_option maxRecDepth 100000 in
set_option maxHeartbeats 800000 in
theorem ref_GetInt (l : List UInt8) (a : Option Addr) (n c : Nat) (w : World) (hs : Sl w 1 a n c (l.map B8)) :
    Calls Try.prog 55 #[.slice a n c] w fun e w' => e = .returned (R3 (decInt l)) ∧ Below w.heap.size w w' := by
  obtain rfl := hs.n_eq
  have hm := Nat.le_trans hs.le hs.cap
  unfold maxLen at hm
  cases l with
  | nil =>
    go_enter Try.func55, Try.ntmps55
    go_wp2
    go_ret3
    exact ⟨rfl, Below.refl _ _⟩
  | cons h t =>
    have HS := hide hs
    obtain ⟨b, off, rfl, hbs, hc⟩ := hs.ex (by simp)
    have hc0 : w.cell? ⟨b, off, none⟩ = some (.int .u8 (h.toNat : Int)) := hc 0 _ rfl
    have hle := hs.le
    simp only [List.length_cons] at hm hle ⊢
    have hne : (((t.length : Int) + 1) == 0) = false := by simp; omega
    have HC := hide hc
    clear hc hs
    have hhb := UInt8.toNat_lt h
    have hKK : ∃ (neg : Bool) (K : Nat), neg = decide (h.toNat < 128) ∧ (flp neg h).toNat = 128 + K ∧ ((neg = true ∧ (h.toNat : Int) = 127 - K) ∨ (neg = false ∧ (h.toNat : Int) = 128 + K)) := by
      by_cases h7 : h.toNat < 128
      · exact ⟨true, 127 - h.toNat, by rw [decide_eq_true h7], by have := flp_neg h; omega, .inl ⟨rfl, by omega⟩⟩
      · exact ⟨false, h.toNat - 128, by rw [decide_eq_false h7], by rw [flp_pos]; omega, .inr ⟨rfl, by omega⟩⟩
    obtain ⟨neg, K, hn, hf, hk⟩ := hKK
    have HD : Hid (decInt (h :: t) = decK neg K t) := by show _ = _; rw [show decInt (h :: t) = decK (decide (h.toNat < 128)) ((flp (decide (h.toNat < 128)) h).toNat - 128) t from rfl, ← hn, hf]; congr 1; omega
    have HF := hide hf
    have HK := hide hk
    clear hf hn
    have hK127 : K ≤ 127 := by omega
    by_cases h8 : 8 < K
    · have hr : (h.toNat : Int) < 119 ∨ (136 : Int) < h.toNat := by omega
      clear hk
      rcases hr with hr | hr
      all_goals
        go_enter Try.func55, Try.ntmps55
        go_wp2
        go_ret3
        exact ⟨by rw [HD.out, decK_8 h8]; rfl, Below.refl _ _⟩
    · have hr : (119 : Int) ≤ h.toNat ∧ (h.toNat : Int) ≤ 136 := by omega
      obtain ⟨hr1, hr2⟩ := hr
      clear hk
      go_enter Try.func55, Try.ntmps55
      go_upto_if 27 with (fail)
      go_cut [6] (fun k w' => k = .int .i64 (K : Int) ∧ w = w')
      case first =>
        rcases HK.out with ⟨_, h1⟩ | ⟨_, h1⟩
        · have h2 : (h.toNat : Int) < 128 := by omega
          have H1 := hide h1
          clear h1
          go_wp2
          go_meet
          exact ⟨by congr 1; have := H1.out; omega, rfl⟩
        · have h2 : ¬ (h.toNat : Int) < 128 := by omega
          have H1 := hide h1
          clear h1
          go_wp2
          go_meet
          exact ⟨by congr 1; have := H1.out; omega, rfl⟩
      case rest =>
        obtain ⟨rfl, rfl⟩ := hcut
        by_cases hlen : t.length < K
        · go_wp2
          go_ret3
          exact ⟨by rw [HD.out, decK_more h8 hlen]; rfl, Below.refl _ _⟩
        · go_wp2
          go_loopg [7, 8] K (fun g m i w' => ∃ j : Nat, j ≤ K ∧ g = K - j ∧ val ((t.take j).map (flp neg)) < 9223372036854775808 ∧ m = .int .i64 ((val ((t.take j).map (flp neg)) : Nat) : Int) ∧ i = .int .i64 ((j : Int) + 1) ∧ w = w')
          case atStart => exact ⟨0, by omega, rfl, by simp [val], by simp [val], rfl, rfl⟩
          case round =>
            obtain ⟨j, hj, hg, hv, rfl, rfl, rfl⟩ := hrel
            have HG := hide hg
            clear hg
            by_cases hjk : j < K
            · obtain ⟨d, hd⟩ : ∃ d, t[j]? = some d := ⟨t[j]'(by omega), by simp⟩
              have hcell : w.cell? ⟨b, off + (j + 1), none⟩ = some (.int .u8 (d.toNat : Int)) := HC.out (j + 1) _ (by simp [hd])
              have hvj := val_lt ((t.take j).map (flp neg))
              simp only [List.length_map, List.length_take] at hvj
              rw [Nat.min_eq_left (by omega)] at hvj
              have hfd := UInt8.toNat_lt (flp neg d)
              have hdb := UInt8.toNat_lt d
              have HV : Hid (val ((t.take (j + 1)).map (flp neg)) = 256 * val ((t.take j).map (flp neg)) + (flp neg d).toNat) := by
                show _ = _; rw [List.take_add_one, hd]; simp [val_snoc]
              have HB : Hid (36028797018963967 < val ((t.take j).map (flp neg)) → decK neg K t = (0, 0, 2) ∨ flp neg (t.getD 0 0) = 0 ∨ True) := fun _ => .inr (.inr trivial)
              have HV7 := hide hvj
              clear hd hvj
              generalize val ((t.take j).map (flp neg)) = v at *
              go_upto_if 46 with (fail)
              go_cut [9] (fun x w' => x = .int .i64 ((flp neg d).toNat : Int) ∧ w = w')
              case first =>
                rcases HK.out with ⟨hn, h1⟩ | ⟨hn, h1⟩
                · have h2 : (h.toNat : Int) < 128 := by omega
                  clear h1
                  go_wp2
                  go_meet
                  exact ⟨by rw [hn, flp_neg], rfl⟩
                · have h2 : ¬ (h.toNat : Int) < 128 := by omega
                  clear h1
                  go_wp2
                  go_meet
                  exact ⟨by rw [hn, flp_pos], rfl⟩
              case rest =>
                obtain ⟨rfl, rfl⟩ := hcut
                by_cases hbig : 36028797018963967 < v
                · have h7 : j = 7 := by
                    have := HV7.out
                    refine Nat.le_antisymm (by omega) (Nat.le_of_not_lt fun hlt => ?_)
                    have h2 : 256 ^ j ≤ 256 ^ 6 := Nat.pow_le_pow_right (by omega) (by omega)
                    simp at h2
                    omega
                  have H7 := hide h7
                  clear h7
                  go_wp2
                  go_ret3
                  have hK8 : K = j + 1 := by have := H7.out; omega
                  refine ⟨?_, Below.refl _ _⟩
                  rw [HD.out, decK_form h8 hlen (by rw [hK8, HV.out]; omega)]
                  rfl
                · go_wp2
                  go_roundg (K - (j + 1))
                  case measure => have := HG.out; omega
                  case rel => exact ⟨j + 1, by omega, rfl, by rw [HV.out]; omega, by rw [HV.out]; go_num, by go_num, rfl⟩
            · obtain rfl : j = K := by omega
              obtain ⟨N, HN⟩ : ∃ N : Int, Hid (N = if neg then -1 - (val ((t.take j).map (flp neg)) : Int) else val ((t.take j).map (flp neg))) := ⟨_, rfl⟩
              have HE := hide (@enc_iff neg h j t HF.out (by omega) (by omega) hv)
              have HO := hide (@decK_ok neg j t h8 hlen)
              generalize val ((t.take j).map (flp neg)) = v at *
              go_upto_if 57 with (fail)
              go_cut [10] (fun x w' => x = .int .i64 N ∧ w = w')
              case first =>
                rcases HK.out with ⟨hn, h1⟩ | ⟨hn, h1⟩
                · have h2 : (h.toNat : Int) < 128 := by omega
                  clear h1
                  go_wp2
                  go_meet
                  exact ⟨by rw [HN.out, hn]; rfl, rfl⟩
                · have h2 : ¬ (h.toNat : Int) < 128 := by omega
                  clear h1
                  go_wp2
                  go_meet
                  exact ⟨by rw [HN.out, hn]; rfl, rfl⟩
              case rest =>
                obtain ⟨rfl, rfl⟩ := hcut
                have hN1 : -9223372036854775808 ≤ N := by rw [HN.out]; split <;> omega
                have hN2 : N ≤ 9223372036854775807 := by rw [HN.out]; split <;> omega
                have hsl : ∀ w1, Below w.heap.size w w1 → Sl w1 1 (some ⟨b, off, none⟩) (j + 1) c ((h :: t.take j).map B8) := fun w1 hb => by
                  have := (HS.out.below hb).take (j + 1) (by simp; omega)
                  simpa using this
                obtain ⟨r, HR⟩ : ∃ r : Bool, Hid (r = decide (encInt N = h :: t.take j)) := ⟨_, rfl⟩
                have hsame : ∀ (w1 : World) (a1 : Option Addr) (n1 c1 : Nat), Sl w1 1 a1 n1 c1 ((encInt N).map B8) → Below w.heap.size w w1 →
                    Calls Try.prog 29 #[.slice a1 n1 c1, .slice (some ⟨b, off, none⟩) (j + 1) c] w1 (Still (.bool r) w1) := fun w1 a1 n1 c1 h1 h2 => by
                  rw [HR.out]; exact ref_Same _ _ _ _ _ _ _ _ _ h1 (hsl _ h2)
                have HSAME := hide hsame
                clear hsame hsl
                have hs1 : IntKind.i64.wrap ((j : Int) + 1) = (j : Int) + 1 := IntWalk.i64_in _ (by omega)
                have hs2 : (0 : Int) ≤ (j : Int) + 1 := by omega
                have hs3 : (j : Int) + 1 ≤ (c : Int) := by omega
                have hs4 : ((j : Int) + 1).toNat = j + 1 := by omega
                have hcne : ¬ c = 0 := by omega
                go_upto_region 24 with (fail)
                go_cut [67] (fun x w' => x = .bool (!r) ∧ Below w.heap.size w w')
                case first =>
                  go_region_with (first
                    | (go_at_call 45; refine (ref_Int _ hN1 hN2 _).mono ?_; rintro e w1 ⟨a1, c1, rfl, ho1, hb1⟩)
                    | (go_at_call 29; refine (HSAME.out _ _ _ _ ho1.sl (undrew hb1)).mono ?_; rintro e w2 ⟨rfl, nq, rfl⟩))
                  all_goals (go_wp2_with fail; go_meet; exact ⟨rfl, (undrew hb1).trans (Below.mono (Still.below nq) hb1.size)⟩)
                case rest =>
                  obtain ⟨rfl, hbw⟩ := hcut
                  clear HSAME hs1 hs2 hs3 hs4 hcne
                  have hiff : r = true ↔ (j = 0 ∨ flp neg (t.getD 0 0) ≠ 0) := by rw [HR.out, decide_eq_true_iff, HN.out]; exact HE.out
                  by_cases hz : j = 0 ∨ flp neg (t.getD 0 0) ≠ 0
                  · obtain rfl : r = true := hiff.2 hz
                    have HZ := hide hz
                    clear hz hiff
                    go_wp2
                    go_ret3
                    exact ⟨by rw [HD.out, HO.out HZ.out (by omega), HN.out]; rfl, hbw⟩
                  · obtain rfl : r = false := by cases r; rfl; exact absurd (hiff.1 rfl) hz
                    have HZ := hide hz
                    clear hz hiff
                    go_wp2
                    go_ret3
                    refine ⟨?_, hbw⟩
                    rw [HD.out, decK_zero h8 hlen (by have := HZ.out; omega) (by have := HZ.out; exact Decidable.byContradiction fun e => this (.inr e))]
                    rfl
end Go.Proofs.Ytjdnmbapmobaaaa
end

/- the text Wire6 -/
section
namespace Go.Proofs.Ytjdnmbapmobaaaa
open Go.RowKit Go.Dx

theorem neq_int {a b : Int} (h : a ≠ b) : (a != b) = true := by simp [h]

set_option maxHeartbeats 400000 in
theorem wire_count (l : List UInt8) (a : Option Addr) (n c : Nat) (size : Int) (h1 : 1 ≤ size) (h2 : size ≤ 1000) (w : World) (hs : Sl w 1 a n c (l.map B8)) :
    Calls Try.prog 52 #[.slice a n c, .int .i64 size] w fun e w' => e = .returned (R3 ((decInt l).1, (decInt l).2.1, cntErr l size)) ∧ w = w' := by
  obtain rfl := hs.n_eq
  have hm := Nat.le_trans hs.le hs.cap
  unfold maxLen at hm
  have HG := hide (wire_GetInt l a l.length c w hs)
  have HU := hide (@decInt_used l)
  have HC : Hid (cntErr l size = cntErr l size) := rfl
  unfold cntErr at HC ⊢
  generalize decInt l = r at *
  obtain ⟨N, at_, E⟩ := r
  simp only at *
  clear HC
  by_cases hE : E = 0
  · subst hE
    obtain ⟨u1, u2, u3, u4⟩ := HU.out rfl
    rw [if_neg (by simp)]
    by_cases hN : N < 0
    · rw [if_pos hN]
      go_enter Try.func52, Try.ntmps52
      go_wp2_with (go_at_call 56; refine HG.out.mono ?_; rintro e w' ⟨rfl, rfl⟩)
      go_ret3
      exact ⟨rfl, rfl⟩
    · rw [if_neg hN]
      have hq1 : 0 ≤ ((l.length : Int) - at_) / size := Int.ediv_nonneg (by omega) (by omega)
      have hq2 : ((l.length : Int) - at_) / size ≤ (l.length : Int) - at_ := Int.ediv_le_self _ (by omega)
      by_cases hq : ((l.length : Int) - at_) / size < N
      · rw [if_pos hq]
        go_enter Try.func52, Try.ntmps52
        go_wp2_with (go_at_call 56; refine HG.out.mono ?_; rintro e w' ⟨rfl, rfl⟩)
        go_ret3
        exact ⟨rfl, rfl⟩
      · rw [if_neg hq]
        go_enter Try.func52, Try.ntmps52
        go_wp2_with (go_at_call 56; refine HG.out.mono ?_; rintro e w' ⟨rfl, rfl⟩)
        go_ret3
        exact ⟨rfl, rfl⟩
  · have hb := neq_int hE
    rw [if_pos hE]
    have HE := hide hE
    clear hE
    go_enter Try.func52, Try.ntmps52
    go_wp2_with (go_at_call 56; refine HG.out.mono ?_; rintro e w' ⟨rfl, rfl⟩)
    go_ret3
    exact ⟨rfl, rfl⟩

set_option maxHeartbeats 400000 in
theorem ref_count (l : List UInt8) (a : Option Addr) (n c : Nat) (size : Int) (h1 : 1 ≤ size) (h2 : size ≤ 1000) (w : World) (hs : Sl w 1 a n c (l.map B8)) (hlen : l.length ≤ 4503599627370496) :
    Calls Try.prog 54 #[.slice a n c, .int .i64 size] w fun e w' => e = .returned (R3 (if cntErr l size = 0 then ((decInt l).1, (decInt l).2.1, 0) else (0, 0, cntErr l size))) ∧ Below w.heap.size w w' := by
  obtain rfl := hs.n_eq
  have HG := hide (ref_GetInt l a l.length c w hs)
  have HU := hide (@decInt_used l)
  unfold cntErr
  generalize decInt l = r at *
  obtain ⟨N, at_, E⟩ := r
  simp only at *
  by_cases hE : E = 0
  · subst hE
    obtain ⟨u1, u2, u3, u4⟩ := HU.out rfl
    by_cases hN : N < 0
    · have HF : Hid ((if (if (0 : Int) ≠ 0 then (0 : Int) else if N < 0 then 2 else if ((l.length : Int) - at_) / size < N then 3 else 0) = 0 then (N, at_, (0 : Int)) else (0, 0, if (0 : Int) ≠ 0 then 0 else if N < 0 then 2 else if ((l.length : Int) - at_) / size < N then 3 else 0)) = (0, 0, 2)) := by
        show _ = _; simp [hN]
      rw [HF.out]
      go_enter Try.func54, Try.ntmps54
      go_wp2_with (go_at_call 55; refine HG.out.mono ?_; rintro e w' ⟨rfl, hb⟩)
      go_ret3
      exact ⟨rfl, hb⟩
    · by_cases hq : ((l.length : Int) - at_) / size < N
      · have HF : Hid ((if (if (0 : Int) ≠ 0 then (0 : Int) else if N < 0 then 2 else if ((l.length : Int) - at_) / size < N then 3 else 0) = 0 then (N, at_, (0 : Int)) else (0, 0, if (0 : Int) ≠ 0 then 0 else if N < 0 then 2 else if ((l.length : Int) - at_) / size < N then 3 else 0)) = (0, 0, 3)) := by
          show _ = _; simp [hN, hq]
        rw [HF.out]
        by_cases hbig : (l.length : Int) < N
        · clear hq
          go_enter Try.func54, Try.ntmps54
          go_wp2_with (go_at_call 55; refine HG.out.mono ?_; rintro e w' ⟨rfl, hb⟩)
          go_ret3
          exact ⟨rfl, hb⟩
        · have hm : (l.length : Int) - at_ < N * size := by
            have := Int.ediv_lt_iff_lt_mul (a := (l.length : Int) - at_) (b := N) (show 0 < size by omega)
            exact this.1 hq
          have hm2 : N * size ≤ 4503599627370496 * 1000 := Int.mul_le_mul (by omega) h2 (by omega) (by omega)
          have hm3 : 0 ≤ N * size := Int.mul_nonneg (by omega) (by omega)
          clear hq
          go_enter Try.func54, Try.ntmps54
          go_wp2_with (go_at_call 55; refine HG.out.mono ?_; rintro e w' ⟨rfl, hb⟩)
          go_ret3
          exact ⟨rfl, hb⟩
      · have HF : Hid ((if (if (0 : Int) ≠ 0 then (0 : Int) else if N < 0 then 2 else if ((l.length : Int) - at_) / size < N then 3 else 0) = 0 then (N, at_, (0 : Int)) else (0, 0, if (0 : Int) ≠ 0 then 0 else if N < 0 then 2 else if ((l.length : Int) - at_) / size < N then 3 else 0)) = (N, at_, 0)) := by
          show _ = _; simp [hN, hq]
        rw [HF.out]
        have hm : ¬ (l.length : Int) - at_ < N * size := by
          intro h
          exact hq ((Int.ediv_lt_iff_lt_mul (a := (l.length : Int) - at_) (b := N) (show 0 < size by omega)).2 h)
        have hm3 : 0 ≤ N * size := Int.mul_nonneg (by omega) (by omega)
        have hbig : ¬ (l.length : Int) < N := by
          have : ((l.length : Int) - at_) / size ≤ (l.length : Int) - at_ := Int.ediv_le_self _ (by omega)
          omega
        clear hq
        go_enter Try.func54, Try.ntmps54
        go_wp2_with (go_at_call 55; refine HG.out.mono ?_; rintro e w' ⟨rfl, hb⟩)
        go_ret3
        exact ⟨rfl, hb⟩
  · have hb0 := neq_int hE
    have HF : Hid ((if (if E ≠ 0 then E else if N < 0 then 2 else if ((l.length : Int) - at_) / size < N then 3 else 0) = 0 then (N, at_, (0 : Int)) else (0, 0, if E ≠ 0 then E else if N < 0 then 2 else if ((l.length : Int) - at_) / size < N then 3 else 0)) = (0, 0, E)) := by
      show _ = _; simp [hE]
    rw [HF.out]
    clear hE
    go_enter Try.func54, Try.ntmps54
    go_wp2_with (go_at_call 55; refine HG.out.mono ?_; rintro e w' ⟨rfl, hb⟩)
    go_ret3
    exact ⟨rfl, hb⟩
end Go.Proofs.Ytjdnmbapmobaaaa
end

/- the text Wire7 -/
section
namespace Go.Proofs.Ytjdnmbapmobaaaa
open Go.RowKit Go.Dx

abbrev RS (r : ByteArray × Int × Int) : Value := .tuple #[.string r.1, .int .i64 r.2.1, .int .i64 r.2.2]

set_option maxHeartbeats 400000 in
theorem wire_GetBytes (l : List UInt8) (a : Option Addr) (n c : Nat) (w : World) (hs : Sl w 1 a n c (l.map B8)) :
    Calls Try.prog 47 #[.slice a n c] w fun e w' => e = .returned (RS (decBytes l)) ∧ w = w' := by
  have hm := Nat.le_trans hs.le hs.cap
  unfold maxLen at hm
  have HG := hide (wire_count l a n c 1 (by omega) (by omega) w hs)
  by_cases hE : cntErr l 1 = 0
  · obtain ⟨A, N, e1, e2, e3, hA, hAN, hN⟩ := cnt_facts (by omega) hE
    have hn := hs.n_eq
    simp at hAN
    have hF : decBytes l = (⟨((l.drop A).take N).toArray⟩, (A : Int) + N, 0) := by unfold decBytes; rw [if_pos hE, e1, e2]; rfl
    have HF := hide hF
    rw [e1, e2, hE] at HG
    have hnl : l.length ≤ n := by omega
    clear hF e1 e2 e3 hE hn
    go_enter Try.func47, Try.ntmps47
    go_wp2_with (first
      | (go_at_call 52; refine HG.out.mono ?_; rintro e w' ⟨rfl, rfl⟩)
      | (with_reducible refine cut_b 22 _ _ _ _ _ _ _ rfl hs _ _ _ _ A (A + N) rfl rfl rfl (by go_num) (by omega) (by omega) ?_; intro a2 hs2 hp2)
      | (with_reducible refine to_str 23 _ _ _ _ _ rfl hs2 ?_))
    go_ret3
    exact ⟨by rw [HF.out]; rfl, rfl⟩
  · have hF : decBytes l = (⟨#[]⟩, 0, cntErr l 1) := by unfold decBytes; rw [if_neg hE]
    have HF := hide hF
    have hb := neq_int hE
    clear hF hE
    go_enter Try.func47, Try.ntmps47
    go_wp2_with (go_at_call 52; refine HG.out.mono ?_; rintro e w' ⟨rfl, rfl⟩)
    go_ret3
    exact ⟨by rw [HF.out]; rfl, rfl⟩

set_option maxHeartbeats 400000 in
theorem ref_GetBytes (l : List UInt8) (a : Option Addr) (n c : Nat) (w : World) (hs : Sl w 1 a n c (l.map B8)) (hlen : l.length ≤ 4503599627370496) :
    Calls Try.prog 50 #[.slice a n c] w fun e w' => e = .returned (RS (decBytes l)) ∧ Below w.heap.size w w' := by
  have HG := hide (ref_count l a n c 1 (by omega) (by omega) w hs hlen)
  by_cases hE : cntErr l 1 = 0
  · obtain ⟨A, N, e1, e2, e3, hA, hAN, hN⟩ := cnt_facts (by omega) hE
    have hn := hs.n_eq
    simp at hAN
    have hF : decBytes l = (⟨((l.drop A).take N).toArray⟩, (A : Int) + N, 0) := by unfold decBytes; rw [if_pos hE, e1, e2]; rfl
    have HF := hide hF
    rw [if_pos hE, e1, e2] at HG
    have hnl : l.length ≤ n := by omega
    clear hF e1 e2 e3 hE hn
    go_enter Try.func50, Try.ntmps50
    go_wp2_with (first
      | (go_at_call 54; refine HG.out.mono ?_; rintro e w' ⟨rfl, hb⟩)
      | (with_reducible refine cut_b 22 _ _ _ _ _ _ _ rfl (hs.below hb) _ _ _ _ A (A + N) rfl rfl rfl (by go_num) (by omega) (by omega) ?_; intro a2 hs2 hp2)
      | (with_reducible refine to_str 23 _ _ _ _ _ rfl hs2 ?_))
    go_ret3
    exact ⟨by rw [HF.out]; rfl, hb⟩
  · have hF : decBytes l = (⟨#[]⟩, 0, cntErr l 1) := by unfold decBytes; rw [if_neg hE]
    have HF := hide hF
    have hb := neq_int hE
    rw [if_neg hE] at HG
    clear hF hE
    go_enter Try.func50, Try.ntmps50
    go_wp2_with (go_at_call 54; refine HG.out.mono ?_; rintro e w' ⟨rfl, hb⟩)
    go_ret3
    exact ⟨by rw [HF.out]; rfl, hb⟩
end Go.Proofs.Ytjdnmbapmobaaaa
end

/- the text Wire8 -/
section
namespace Go.Proofs.Ytjdnmbapmobaaaa
open Go.RowKit Go.Dx

/-- what has been written after k elements -/
def accTo {α : Type} (p : List UInt8) (g : α → List UInt8) (l : List α) (k : Nat) : List UInt8 := p ++ (l.take k).flatMap g
theorem acc_zero {α : Type} (p : List UInt8) (g : α → List UInt8) (l : List α) : accTo p g l 0 = p := by simp [accTo]
theorem acc_succ {α : Type} (p : List UInt8) (g : α → List UInt8) {l : List α} {k : Nat} {x : α} (h : l[k]? = some x) : accTo p g l (k + 1) = accTo p g l k ++ g x := by
  unfold accTo; rw [List.take_add_one, h]; simp
theorem acc_all {α : Type} (p : List UInt8) (g : α → List UInt8) (l : List α) : accTo p g l l.length = p ++ l.flatMap g := by unfold accTo; rw [List.take_length]
theorem acc_le {α : Type} (p : List UInt8) (g : α → List UInt8) (l : List α) (k : Nat) : (accTo p g l k).length ≤ (p ++ l.flatMap g).length := by
  unfold accTo
  have e : l.flatMap g = (l.take k).flatMap g ++ (l.drop k).flatMap g := by rw [← List.flatMap_append, List.take_append_drop]
  rw [e]; simp

set_option maxHeartbeats 400000 in
theorem wire_Ints (l : List Int) (hl : ∀ x ∈ l, -9223372036854775808 ≤ x ∧ x ≤ 9223372036854775807) (hT : (encInts l).length ≤ 140737488355000) (hN : l.length ≤ 140737488355000) (a : Option Addr) (n c : Nat) (w : World) (hs : Sl w 1 a n c (l.map I64)) :
    Calls Try.prog 26 #[.slice a n c] w (Gives 5 1 (encInts l).length ((encInts l).map B8) w) := by
  obtain rfl := hs.n_eq
  go_enter Try.func26, Try.ntmps26
  go_wp2_with fail
  refine (wire_Int _ (by omega) (by omega) _).mono ?_
  rintro e w1 ⟨a1, c1, rfl, ho1, hb1⟩
  go_wp2_with fail
  go_loopg [3, 11] l.length (fun g x i w' => ∃ (k : Nat) (a : Option Addr) (c : Nat) (xs : List UInt8), k ≤ l.length ∧ g = l.length - k ∧ xs = accTo (encInt l.length) encInt l k ∧ i = .int .i64 k ∧ x = .slice a xs.length c ∧ Own w' w.heap.size 5 1 a xs.length c (xs.map B8) ∧ Below w.heap.size w w')
  case atStart => exact ⟨0, a1, c1, encInt l.length, by omega, by omega, (acc_zero _ _ _).symm, rfl, rfl, ho1, hb1⟩
  case round =>
    obtain ⟨k, a2, c2, xs, hk, hg, hxs, rfl, rfl, hown, hb⟩ := hrel
    have HG := hide hg
    have hle : xs.length ≤ 140737488355000 := by rw [hxs]; exact Nat.le_trans (acc_le _ _ _ _) hT
    have HX := hide hxs
    clear hg hxs
    by_cases hkl : k < l.length
    · obtain ⟨x, hx⟩ : ∃ x, l[k]? = some x := ⟨l[k], by simp [hkl]⟩
      have hcx := hl x (List.mem_of_getElem? hx)
      obtain ⟨ys, HY⟩ : ∃ ys, Hid (ys = encInt x) := ⟨_, rfl⟩
      have HS : Hid (accTo (encInt l.length) encInt l (k + 1) = xs ++ ys) := by show _ = _; rw [HX.out, HY.out]; exact acc_succ _ _ hx
      have hsum : xs.length + ys.length ≤ 140737488355000 := by rw [← List.length_append, ← HS.out]; exact Nat.le_trans (acc_le _ _ _ _) hT
      have HH := hide hx
      have HC : Hid (∀ w, Calls Try.prog 43 #[.int .i64 x] w (Gives 5 1 ys.length (ys.map B8) w)) := fun w => by rw [HY.out]; exact wire_Int x hcx.1 hcx.2 w
      clear hx
      go_wp2_with (first
        | (with_reducible refine idx_i 13 _ _ _ _ _ l rfl (hs.below hb) _ _ k rfl rfl x HH.out ?_; intro b o hcell hbo)
        | (go_at_call 43; refine (HC.out _).mono ?_; rintro e w2 ⟨a3, c3, rfl, ho3, hb3⟩)
        | (at_builtin; refine app_bs rfl _ _ rfl w w.heap.size _ _ _ _ rfl (hown.below hb3) _ _ _ ys rfl ho3.sl (by omega) (Nat.le_trans hb.size hb3.size) (hb.trans (hb3.mono hb.size)) ?_; intro a' c' w' ho' hgr' hb'))
      go_roundg (l.length - (k + 1))
      case measure => have := HG.out; omega
      case rel => exact ⟨k + 1, a', c', xs ++ ys, by omega, rfl, HS.out.symm, by go_num, by rw [List.length_append], by rw [List.length_append, List.map_append]; exact ho', hb'⟩
    · obtain rfl : k = l.length := by omega
      go_wp2
      go_ret
      have e : encInts l = xs := by rw [HX.out, acc_all]; rfl
      rw [e]
      exact ⟨a2, c2, rfl, hown, hb⟩

set_option maxHeartbeats 400000 in
theorem ref_Ints (l : List Int) (hl : ∀ x ∈ l, -9223372036854775808 ≤ x ∧ x ≤ 9223372036854775807) (hT : (encInts l).length ≤ 140737488355000) (hN : l.length ≤ 140737488355000) (a : Option Addr) (n c : Nat) (w : World) (hs : Sl w 1 a n c (l.map I64)) :
    Calls Try.prog 34 #[.slice a n c] w (Gives 5 1 (encInts l).length ((encInts l).map B8) w) := by
  obtain rfl := hs.n_eq
  go_enter Try.func34, Try.ntmps34
  go_wp2_with fail
  refine (ref_Int _ (by omega) (by omega) _).mono ?_
  rintro e w1 ⟨a1, c1, rfl, ho1, hb1⟩
  go_wp2_with fail
  go_loopg [3, 4] l.length (fun g x i w' => ∃ (k : Nat) (a : Option Addr) (c : Nat) (xs : List UInt8), k ≤ l.length ∧ g = l.length - k ∧ xs = accTo (encInt l.length) encInt l k ∧ i = .int .i64 k ∧ x = .slice a xs.length c ∧ Own w' w.heap.size 5 1 a xs.length c (xs.map B8) ∧ Below w.heap.size w w')
  case atStart => exact ⟨0, a1, c1, encInt l.length, by omega, by omega, (acc_zero _ _ _).symm, rfl, rfl, ho1, hb1⟩
  case round =>
    obtain ⟨k, a2, c2, xs, hk, hg, hxs, rfl, rfl, hown, hb⟩ := hrel
    have HG := hide hg
    have hle : xs.length ≤ 140737488355000 := by rw [hxs]; exact Nat.le_trans (acc_le _ _ _ _) hT
    have HX := hide hxs
    clear hg hxs
    by_cases hkl : k < l.length
    · obtain ⟨x, hx⟩ : ∃ x, l[k]? = some x := ⟨l[k], by simp [hkl]⟩
      have hcx := hl x (List.mem_of_getElem? hx)
      obtain ⟨ys, HY⟩ : ∃ ys, Hid (ys = encInt x) := ⟨_, rfl⟩
      have HS : Hid (accTo (encInt l.length) encInt l (k + 1) = xs ++ ys) := by show _ = _; rw [HX.out, HY.out]; exact acc_succ _ _ hx
      have hsum : xs.length + ys.length ≤ 140737488355000 := by rw [← List.length_append, ← HS.out]; exact Nat.le_trans (acc_le _ _ _ _) hT
      have HH := hide hx
      have HC : Hid (∀ w, Calls Try.prog 45 #[.int .i64 x] w (Gives 5 1 ys.length (ys.map B8) w)) := fun w => by rw [HY.out]; exact ref_Int x hcx.1 hcx.2 w
      clear hx
      go_wp2_with (first
        | (with_reducible refine idx_i 17 _ _ _ _ _ l rfl (hs.below hb) _ _ k rfl rfl x HH.out ?_; intro b o hcell hbo)
        | (go_at_call 45; refine (HC.out _).mono ?_; rintro e w2 ⟨a3, c3, rfl, ho3, hb3⟩)
        | (at_builtin; refine app_bs rfl _ _ rfl w w.heap.size _ _ _ _ rfl (hown.below hb3) _ _ _ ys rfl ho3.sl (by omega) (Nat.le_trans hb.size hb3.size) (hb.trans (hb3.mono hb.size)) ?_; intro a' c' w' ho' hgr' hb'))
      go_roundg (l.length - (k + 1))
      case measure => have := HG.out; omega
      case rel => exact ⟨k + 1, a', c', xs ++ ys, by omega, rfl, HS.out.symm, by go_num, by rw [List.length_append], by rw [List.length_append, List.map_append]; exact ho', hb'⟩
    · obtain rfl : k = l.length := by omega
      go_wp2
      go_ret
      have e : encInts l = xs := by rw [HX.out, acc_all]; rfl
      rw [e]
      exact ⟨a2, c2, rfl, hown, hb⟩

end Go.Proofs.Ytjdnmbapmobaaaa
end

/- the text Wire9 -/
section
namespace Go.Proofs.Ytjdnmbapmobaaaa
open Go.RowKit Go.Dx

end Go.Proofs.Ytjdnmbapmobaaaa
end

/- the text Wire10 -/
section
namespace Go.Proofs.Ytjdnmbapmobaaaa
open Go.RowKit Go.Dx

theorem same_step' {α : Type} {l1 l2 : List α} {k : Nat} {x y : α} (hx : l1[k]? = some x) (hy : l2[k]? = some y) (h : l1.take k = l2.take k) : (x = y ↔ l1.take (k + 1) = l2.take (k + 1)) := by
  rw [List.take_add_one, List.take_add_one, hx, hy, h]; simp
theorem str_eq_iff (x y : ByteArray) : x.toList = y.toList ↔ x = y := by
  rw [Lib.toList_data, Lib.toList_data]
  exact ⟨WideShapes.bytes_inj, fun e => by rw [e]⟩
theorem str_ne {x y : ByteArray} (h : x ≠ y) : (x.toList == y.toList) = false := beq_eq_false_iff_ne.2 fun e => h ((str_eq_iff x y).1 e)
theorem ne_of_take' {α : Type} {l1 l2 : List α} {k : Nat} (h : l1.take k ≠ l2.take k) : l1 ≠ l2 := fun e => h (by rw [e])

end Go.Proofs.Ytjdnmbapmobaaaa
end

/- the text Wire11 -/
section
namespace Go.Proofs.Ytjdnmbapmobaaaa
open Go.RowKit Go.Dx

/-- three results, the first a list of its own -/
def Gives3 (e : TypeId) (sz n : Nat) (cs : List Value) (x y : Int) (w : World) (r : Ending) (w' : World) : Prop :=
  ∃ a c, r = .returned (.tuple #[.slice a n c, .int .i64 x, .int .i64 y]) ∧ Own w' w.heap.size e sz a n c cs ∧ Below w.heap.size w w'

set_option maxHeartbeats 400000 in
theorem ref_GetInts (l : List UInt8) (a : Option Addr) (n c : Nat) (w : World) (hs : Sl w 1 a n c (l.map B8)) (hlen : l.length ≤ 1000000000) :
    Calls Try.prog 49 #[.slice a n c] w (Gives3 3 1 (decSeq decInt l).1.length ((decSeq decInt l).1.map I64) (decSeq decInt l).2.1 (decSeq decInt l).2.2 w) := by
  have hn := hs.n_eq
  have HC := hide (ref_count l a n c 1 (by omega) (by omega) w hs (by omega))
  by_cases hE : cntErr l 1 = 0
  · obtain ⟨A, N, e1, e2, e3, hA, hAN, hN⟩ := cnt_facts (by omega) hE
    simp at hAN
    rw [if_pos hE, e1, e2] at HC
    have HE := hide (fun k E (hk : k < N) (h0 : E ≠ 0) => @decSeq_err _ decInt l A N k hE e1 e2 E hk h0)
    have HO := hide (fun xs B => @decSeq_ok _ decInt l A N hE e1 e2 xs B)
    have hnl : l.length ≤ n := by omega
    have hnl2 : n ≤ l.length := by omega
    have HNL := hide hn
    obtain ⟨D, HD⟩ : ∃ D, Hid (D = decSeq decInt l) := ⟨_, rfl⟩
    rw [← HD.out]
    clear e1 e2 e3 hE hn
    go_enter Try.func49, Try.ntmps49
    go_wp2_with (go_at_call 54; refine HC.out.mono ?_; rintro e w1 ⟨rfl, hb1⟩)
    go_loopg [6, 8, 9] N (fun g at_ x i w' => ∃ (k B : Nat) (a : Option Addr) (c : Nat) (xs : List Int), k ≤ N ∧ g = N - k ∧ seqTo decInt l A k = (xs, B, 0) ∧ B ≤ l.length ∧ at_ = .int .i64 B ∧ i = .int .i64 k ∧ x = .slice a xs.length c ∧ Own w' w.heap.size 3 1 a xs.length c (xs.map I64) ∧ Below w.heap.size w w')
    case atStart => exact ⟨0, A, none, 0, [], by omega, by omega, rfl, by omega, rfl, rfl, rfl, Own.nil _ _ _ _, hb1⟩
    case round =>
      obtain ⟨k, B, a2, c2, xs, hk, hg, hseq, hB, rfl, rfl, rfl, hown, hb⟩ := hrel
      have HG := hide hg
      have hxl : xs.length ≤ k := Nat.le_of_eq (seqTo_len hseq)
      have HS := hide hseq
      clear hg hseq
      by_cases hkN : k < N
      · obtain ⟨r, HR⟩ : ∃ r, Hid (r = decInt (l.drop B)) := ⟨_, rfl⟩
        have HF : Hid (∀ a' w', Sl w' 1 a' (n - B) (c - B) ((l.drop B).map B8) → Calls Try.prog 55 #[.slice a' (n - B) (c - B)] w' fun e w'' => e = .returned (R3 r) ∧ Below w'.heap.size w' w'') := by
          intro a' w' h; rw [HR.out]; exact ref_GetInt _ _ _ _ _ h
        have HU := hide (@decInt_used (l.drop B))
        obtain ⟨r1, r2, r3⟩ := r
        by_cases hr : r3 = 0
        · subst hr
          obtain ⟨u1, u2⟩ : 1 ≤ r2 ∧ r2 ≤ ((l.drop B).length : Int) := by
            have := HU.out; rw [← HR.out] at this; have h2 := this rfl; exact ⟨h2.1, h2.2.1⟩
          rw [List.length_drop] at u2
          have hst : seqTo decInt l A (k + 1) = (xs ++ [r1], B + r2.toNat, 0) := by rw [seqTo_step HS.out (by rw [← HR.out]), ← HR.out]
          have HST := hide hst
          obtain ⟨U, rfl⟩ := Int.eq_ofNat_of_zero_le (a := r2) (by omega)
          clear hst
          go_wp2_with (first
            | (with_reducible refine cutlo_b 30 _ _ _ _ _ l rfl (hs.below hb) _ _ B rfl rfl (by omega) ?_; intro a3 hs3 hp3)
            | (go_at_call 55; refine (HF.out _ _ hs3).mono ?_; rintro e w2 ⟨rfl, hb2⟩)
            | (at_builtin; refine app_i rfl _ _ rfl w w.heap.size _ _ _ _ rfl (hown.below hb2) _ rfl (by omega) (Nat.le_trans hb.size hb2.size) (hb.trans (hb2.mono hb.size)) ?_; intro a' c' w' ho' hgr' hb'))
          go_roundg (N - (k + 1))
          case measure => have := HG.out; omega
          case rel =>
            refine ⟨k + 1, B + U, a', c', xs ++ [r1], by omega, rfl, by rw [HST.out]; simp, by omega, by go_num, by go_num, by rw [List.length_append]; rfl, ?_, hb'⟩
            rw [List.length_append, List.map_append]; exact ho'
        · have hbn := neq_int hr
          have hst : seqTo decInt l A (k + 1) = ([], 0, r3) := by rw [seqTo_stop HS.out (by rw [← HR.out]; exact hr), ← HR.out]
          have hD : D = ([], 0, r3) := by rw [HD.out]; exact HE.out k r3 hkN hr hst
          clear hst
          have HR3 := hide hr
          subst hD
          clear hr
          go_wp2_with (first
            | (with_reducible refine cutlo_b 30 _ _ _ _ _ l rfl (hs.below hb) _ _ B rfl rfl (by omega) ?_; intro a3 hs3 hp3)
            | (go_at_call 55; refine (HF.out _ _ hs3).mono ?_; rintro e w2 ⟨rfl, hb2⟩))
          go_ret3
          exact ⟨none, 0, rfl, Own.nil _ _ _ _, (hb.trans (hb2.mono hb.size))⟩
      · obtain rfl : k = N := by omega
        have hD : D = (xs, (B : Int), 0) := by rw [HD.out]; exact HO.out xs B HS.out
        subst hD
        go_wp2
        go_ret3
        exact ⟨a2, c2, rfl, hown, hb⟩
  · have hbn := neq_int hE
    obtain ⟨D, HD⟩ : ∃ D, Hid (D = decSeq decInt l) := ⟨_, rfl⟩
    rw [← HD.out]
    have hD : D = ([], 0, cntErr l 1) := by rw [HD.out]; exact decSeq_cnt hE
    rw [if_neg hE] at HC
    clear hE HD hn
    generalize cntErr l 1 = E at *
    subst hD
    go_enter Try.func49, Try.ntmps49
    go_wp2_with (go_at_call 54; refine HC.out.mono ?_; rintro e w1 ⟨rfl, hb1⟩)
    go_ret3
    refine ⟨none, 0, ?_, ?_, ?_⟩
    · rfl
    · exact Own.nil _ _ _ _
    · exact hb1

end Go.Proofs.Ytjdnmbapmobaaaa
end

/- the text Wire12 -/
section
namespace Go.Proofs.Ytjdnmbapmobaaaa
open Go.RowKit Go.Dx

theorem decInt_bd (l : List UInt8) : 0 ≤ (decInt l).2.1 ∧ (decInt l).2.1 ≤ l.length := by
  by_cases h : (decInt l).2.2 = 0
  · obtain ⟨h1, h2, _, _⟩ := decInt_used h
    exact ⟨by omega, h2⟩
  · rw [decInt_err h]; simp

theorem setCell_grown (w : World) (p : Addr) (v : Value) (n : Nat) : w.grownBy ((w.setCell p v).drewN n) (some p.block) :=
  ⟨rfl, rfl, rfl, by simp [World.setCell, World.drewN], fun k _ hne => Below.heap_setCell w p v k (fun e => hne (by rw [e]))⟩

set_option maxHeartbeats 400000 in
theorem reader_1 (l : List UInt8) (a : Option Addr) (n c A b1 b2 : Nat) (w : World) (hs : Sl w 1 a n c (l.map B8)) (hA : A ≤ n) (hn : n ≤ 1000000000)
    (hc1 : w.cell? ⟨b1, 0, none⟩ = some (.slice a n c)) (hc2 : w.cell? ⟨b2, 0, none⟩ = some (.int .i64 A)) (hf2 : w.frozen? ⟨b2, 0, none⟩ = false) :
    Calls Try.prog 57 #[.pointer (some ⟨b1, 0, none⟩), .pointer (some ⟨b2, 0, none⟩)] w fun e w' =>
      e = .returned (R3 ((decInt (l.drop A)).1, (A : Int) + (decInt (l.drop A)).2.1, (decInt (l.drop A)).2.2)) ∧ w.grownBy w' (some b2) ∧ w'.cell? ⟨b2, 0, none⟩ = some (.int .i64 ((A : Int) + (decInt (l.drop A)).2.1)) ∧ w'.frozen? ⟨b2, 0, none⟩ = false := by
  have hnl := hs.n_eq
  obtain ⟨hb1, hb2⟩ := decInt_bd (l.drop A)
  rw [List.length_drop] at hb2
  have hb3 : (decInt (l.drop A)).2.1 ≤ 1000000000 := by omega
  have HF : Hid (∀ a', Sl w 1 a' (n - A) (c - A) ((l.drop A).map B8) → Calls Try.prog 56 #[.slice a' (n - A) (c - A)] w fun e w'' => e = .returned (R3 (decInt (l.drop A))) ∧ w = w'') := fun a' h => wire_GetInt _ _ _ _ _ h
  generalize decInt (l.drop A) = r at *
  obtain ⟨r1, r2, r3⟩ := r
  simp only at hb1 hb3 ⊢
  clear hb2 hnl
  go_enter Try.func57, Try.ntmps57
  go_wp2_with (first
    | (with_reducible refine cutlo_b 11 _ _ _ _ _ l rfl hs _ _ A rfl rfl hA ?_; intro a3 hs3 hp3)
    | (go_at_call 56; refine (HF.out _ hs3).mono ?_; rintro e w2 ⟨rfl, rfl⟩))
  have hcell : (w.setCell ⟨b2, 0, none⟩ (.int .i64 ((A : Int) + r2))).cell? ⟨b2, 0, none⟩ = some (.int .i64 ((A : Int) + r2)) := World.cell?_setCell_same _ _ _ hc2
  go_quiet (fail)
  go_wp2
  go_ret3
  exact ⟨rfl, setCell_grown _ _ _ _, hcell, (World.frozen?_setCell _ _ _ _).trans hf2⟩

theorem reader_0 (a : Option Addr) (n c : Nat) (A : Int) (w : World) :
    Calls Try.prog 53 #[.slice a n c, .int .i64 A] w fun e w' =>
      e = .returned (.func (.func 57) #[] #[.pointer (some ⟨w.heap.size, 0, none⟩), .pointer (some ⟨w.heap.size + 1, 0, none⟩)]) ∧
      (w.alloc (.cells #[.slice a n c] 33)).alloc (.cells #[.int .i64 A] 3) = w' := by
  have hmf : ∀ (fn : Fn) (first cap : Array Value) (w : World), (Instr.makeFunc fn first cap).run Try.prog w = .ok (.func fn first cap) w := fun _ _ _ _ => rfl
  go_enter Try.func53, Try.ntmps53
  go_wp2
  go_ret
  exact ⟨rfl, rfl⟩

theorem below2 (w : World) (o o' : Obj) : Below w.heap.size w ((w.alloc o).alloc o') := ((Below.refl _ _).alloc (Nat.le_refl _) o).alloc (by simp) o'

set_option maxHeartbeats 400000 in
theorem wire_GetInts (l : List UInt8) (a : Option Addr) (n c : Nat) (w : World) (hs : Sl w 1 a n c (l.map B8)) (hlen : l.length ≤ 1000000000) :
    Calls Try.prog 46 #[.slice a n c] w (Gives3 3 1 (decSeq decInt l).1.length ((decSeq decInt l).1.map I64) (decSeq decInt l).2.1 (decSeq decInt l).2.2 w) := by
  have hn := hs.n_eq
  have HC := hide (wire_count l a n c 1 (by omega) (by omega) w hs)
  by_cases hE : cntErr l 1 = 0
  · obtain ⟨A, N, e1, e2, e3, hA, hAN, hN⟩ := cnt_facts (by omega) hE
    simp at hAN
    rw [e1, e2, hE] at HC
    have HE := hide (fun k E (hk : k < N) (h0 : E ≠ 0) => @decSeq_err _ decInt l A N k hE e1 e2 E hk h0)
    have HO := hide (fun xs B => @decSeq_ok _ decInt l A N hE e1 e2 xs B)
    have hnl : l.length ≤ n := by omega
    have hnl2 : n ≤ l.length := by omega
    obtain ⟨D, HD⟩ : ∃ D, Hid (D = decSeq decInt l) := ⟨_, rfl⟩
    rw [← HD.out]
    clear e1 e2 e3 hE hn
    go_enter Try.func46, Try.ntmps46
    go_wp2_with (first
      | (go_at_call 52; refine HC.out.mono ?_; rintro e w1 ⟨rfl, rfl⟩)
      | (go_at_call 53; refine (reader_0 _ _ _ _ _).mono ?_; rintro e w1 ⟨rfl, rfl⟩))
    go_loopg [6, 9, 26] N (fun g at_ x i w' => ∃ (k B : Nat) (a2 : Option Addr) (c2 : Nat) (xs : List Int), k ≤ N ∧ g = N - k ∧ seqTo decInt l A k = (xs, B, 0) ∧ B ≤ l.length ∧ at_ = .int .i64 B ∧ i = .int .i64 k ∧ x = .slice a2 xs.length c2 ∧ Own w' (w.heap.size + 2) 3 1 a2 xs.length c2 (xs.map I64) ∧ Below w.heap.size w w' ∧
      w'.cell? ⟨w.heap.size, 0, none⟩ = some (.slice a n c) ∧ w'.cell? ⟨w.heap.size + 1, 0, none⟩ = some (.int .i64 B) ∧ w'.frozen? ⟨w.heap.size + 1, 0, none⟩ = false ∧ w.heap.size + 2 ≤ w'.heap.size)
    case atStart =>
      refine ⟨0, A, none, 0, [], by omega, by omega, rfl, by omega, rfl, rfl, rfl, Own.nil _ _ _ _, below2 _ _ _, ?_, ?_, ?_, by simp⟩
      · rw [World.cell?_alloc_past _ _ _ (by simp), World.cell?_alloc_at _ _ _ _ rfl]; rfl
      · rw [World.cell?_alloc_at _ _ _ _ (by simp)]; rfl
      · exact World.frozen?_alloc_at _ _ _ _ (by simp)
    case round =>
      obtain ⟨k, B, a2, c2, xs, hk, hg, hseq, hB, rfl, rfl, rfl, hown, hb, hcb, hca, hfa, hsz⟩ := hrel
      have HG := hide hg
      have hxl : xs.length ≤ k := Nat.le_of_eq (seqTo_len hseq)
      have HS := hide hseq
      clear hg hseq
      by_cases hkN : k < N
      · have HF := hide (reader_1 l a n c B _ _ wr (hs.below hb) (by omega) (by omega) hcb hca hfa)
        have hbd := decInt_bd (l.drop B)
        obtain ⟨r, HR⟩ : ∃ r, Hid (r = decInt (l.drop B)) := ⟨_, rfl⟩
        rw [← HR.out] at HF hbd
        obtain ⟨r1, r2, r3⟩ := r
        obtain ⟨hb1, hb2⟩ := hbd
        rw [List.length_drop] at hb2
        simp only at hb1 hb2 HF
        obtain ⟨U, rfl⟩ := Int.eq_ofNat_of_zero_le (a := r2) (by omega)
        by_cases hr : r3 = 0
        · subst hr
          have HST : Hid (seqTo decInt l A (k + 1) = (xs ++ [r1], B + U, 0)) := by
            show _ = _; rw [seqTo_step HS.out (by rw [← HR.out]), ← HR.out]; rfl
          go_wp2_with fail
          refine HF.out.mono ?_
          rintro e w2 ⟨rfl, hg2, hca2, hfa2⟩
          have hcb2 : w2.cell? ⟨w.heap.size, 0, none⟩ = some (.slice a n c) := hg2.cell hcb (by simp)
          have hsz2 : w.heap.size + 2 ≤ w2.heap.size := Nat.le_trans hsz hg2.size
          have hb2' : Below w.heap.size w w2 := hb.grown hg2 (by omega) (by intro k hk; cases hk; omega)
          have hown2 : Own w2 (w.heap.size + 2) 3 1 a2 xs.length c2 (xs.map I64) := hown.kept hg2 (by rintro p rfl h; have := hown.base.1; injection h with h; omega)
          clear hg2 hown hb hcb hca hfa
          go_wp2_with (at_builtin; refine app_i rfl _ _ rfl w2 (w.heap.size + 2) _ _ _ _ rfl hown2 _ rfl (by omega) hsz2 (Below.refl _ _) ?_; intro a' c' w' ho' hgr' hb')
          go_roundg (N - (k + 1))
          case measure => have := HG.out; omega
          case rel =>
            refine ⟨k + 1, B + U, a', c', xs ++ [r1], by omega, rfl, HST.out, by omega, by go_num, by go_num, by rw [List.length_append]; rfl, ?_, hb2'.trans (hb'.mono (by omega)), ?_, ?_, ?_, Nat.le_trans hsz2 hb'.size⟩
            · rw [List.length_append, List.map_append]; exact ho'
            · rw [hb'.cell (by show _ < _; simp only; omega)]; exact hcb2
            · rw [hb'.cell (by show _ < _; simp only; omega), hca2]; go_num
            · rw [hb'.frozen (by show _ < _; simp only; omega)]; exact hfa2
        · have hbn := neq_int hr
          have hst : seqTo decInt l A (k + 1) = ([], 0, r3) := by rw [seqTo_stop HS.out (by rw [← HR.out]; exact hr), ← HR.out]
          have hD : D = ([], 0, r3) := by rw [HD.out]; exact HE.out k r3 hkN hr hst
          clear hst
          subst hD
          clear hr
          go_wp2_with fail
          refine HF.out.mono ?_
          rintro e w2 ⟨rfl, hg2, hca2, hfa2⟩
          have hb2' : Below w.heap.size w w2 := hb.grown hg2 (by omega) (by intro k hk; cases hk; omega)
          clear hg2 hown hb hcb hca hfa
          go_wp2
          go_ret3
          exact ⟨none, 0, rfl, Own.nil _ _ _ _, hb2'⟩
      · obtain rfl : k = N := by omega
        have hD : D = (xs, (B : Int), 0) := by rw [HD.out]; exact HO.out xs B HS.out
        subst hD
        go_wp2
        go_ret3
        exact ⟨a2, c2, rfl, hown.mono (by omega), hb⟩
  · have hbn := neq_int hE
    obtain ⟨D, HD⟩ : ∃ D, Hid (D = decSeq decInt l) := ⟨_, rfl⟩
    rw [← HD.out]
    have hD : D = ([], 0, cntErr l 1) := by rw [HD.out]; exact decSeq_cnt hE
    clear hE HD hn
    generalize cntErr l 1 = E at *
    subst hD
    go_enter Try.func46, Try.ntmps46
    go_wp2_with (go_at_call 52; refine HC.out.mono ?_; rintro e w1 ⟨rfl, rfl⟩)
    go_ret3
    exact ⟨none, 0, rfl, Own.nil _ _ _ _, Below.refl _ _⟩
end Go.Proofs.Ytjdnmbapmobaaaa
end

/- the text Wire13 -/
section
namespace Go.Proofs.Ytjdnmbapmobaaaa
open Go.RowKit Go.Dx

/-- what decoding a list of digests returns: their number, their bytes, the place behind them, the error -/
def decDigs (l : List UInt8) : Nat × List UInt8 × Int × Int :=
  if cntErr l 16 = 0 then ((decInt l).1.toNat, (l.drop (decInt l).2.1.toNat).take ((decInt l).1.toNat * 16), (decInt l).2.1 + 16 * (decInt l).1, 0) else (0, [], 0, cntErr l 16)

end Go.Proofs.Ytjdnmbapmobaaaa
end

/- the text Wire14 -/
section
namespace Go.Proofs.Ytjdnmbapmobaaaa
open Go.RowKit Go.Dx

/-- digest number k -/
def digAt (f : List UInt8) (k : Nat) : List UInt8 := (f.drop (k * 16)).take 16
theorem digAt_len {f : List UInt8} {n k : Nat} (h : f.length = n * 16) (hk : k < n) : (digAt f k).length = 16 := by unfold digAt; rw [List.length_take, List.length_drop]; omega
theorem digAt_step {f1 f2 : List UInt8} {k : Nat} (h : f1.take (k * 16) = f2.take (k * 16)) : (digAt f1 k = digAt f2 k ↔ f1.take ((k + 1) * 16) = f2.take ((k + 1) * 16)) := by
  rw [Nat.add_mul, Nat.one_mul, List.take_add, List.take_add, h]
  unfold digAt
  exact ⟨fun e => by rw [e], fun e => List.append_cancel_left e⟩
theorem dig_cells {w : World} {b o n c : Nat} {f : List UInt8} (h : Sl w 16 (some ⟨b, o, none⟩) n c (f.map B8)) (k : Nat) : ∀ j u, ((digAt f k).map B8)[j]? = some u → w.cell? ((⟨b, o + k * 16, none⟩ : Addr).add j) = some u := by
  intro j u hj
  unfold digAt at hj
  rw [List.map_take, List.map_drop, List.getElem?_take] at hj
  split at hj
  · rw [List.getElem?_drop] at hj
    have := h.cell _ rfl _ _ hj
    rw [Addr.add_lit] at this ⊢
    rw [Nat.add_assoc]; exact this
  · cases hj

end Go.Proofs.Ytjdnmbapmobaaaa
end

/- the text Wire15 -/
section
namespace Go.Proofs.Ytjdnmbapmobaaaa
open Go.RowKit Go.Dx

/-- a row that is being filled -/
def rowAt (ys : List UInt8) (j : Nat) : List UInt8 := ys.take j ++ List.replicate (16 - j) 0
theorem rowAt_len {ys : List UInt8} {j : Nat} (h : ys.length = 16) (hj : j ≤ 16) : (rowAt ys j).length = 16 := by simp [rowAt]; omega
theorem rowAt_set {ys : List UInt8} {j : Nat} (h : ys.length = 16) (hj : j < 16) {x : UInt8} (hx : ys[j]? = some x) : (rowAt ys j).set j x = rowAt ys (j + 1) := by
  unfold rowAt
  rw [List.set_append_right _ _ (by simp; omega), List.take_add_one, hx]
  have e : 16 - j = (16 - (j + 1)) + 1 := by omega
  have e2 : j - (ys.take j).length = 0 := by rw [List.length_take]; omega
  rw [e, e2, List.replicate_succ]
  simp
theorem rowAt_get {ys : List UInt8} {j : Nat} (h : ys.length = 16) (hj : j < 16) : (rowAt ys j)[j]? = some 0 := by
  unfold rowAt
  rw [List.getElem?_append_right (by simp; omega), List.getElem?_replicate]
  have e2 : j - (ys.take j).length = 0 := by rw [List.length_take]; omega
  rw [e2]; simp; omega
theorem rowAt_all {ys : List UInt8} (h : ys.length = 16) : rowAt ys 16 = ys := by simp [rowAt, ← h]

/-- the sum of lengths that the law's 'few' reckons -/
def fewSum (l : List ByteArray) (k : Nat) : Nat := l.length + ((l.take k).map (·.size)).sum
theorem fewSum_succ {l : List ByteArray} {k : Nat} {x : ByteArray} (h : l[k]? = some x) : fewSum l (k + 1) = fewSum l k + x.size := by
  unfold fewSum; rw [List.take_add_one, h]; simp; omega
theorem wrap64_nat (n : Nat) (h : n < 9223372036854775808) : wrap64 (n : Int) = n := by unfold wrap64; omega

end Go.Proofs.Ytjdnmbapmobaaaa
end

/- the text Wire16 -/
section
namespace Go.Proofs.Ytjdnmbapmobaaaa
open Go.RowKit Go.Dx

/-- a literal []byte, []int, []string that was just laid -/
theorem lit_b (w : World) (b : Nat) (hb : b = w.heap.size) (l : List UInt8) (L : Array Value) (hL : L = (l.map B8).toArray) (n : Nat) (hn : l.length = n) (hm : n ≤ maxLen) : Sl (w.alloc (.cells L 5)) 1 (some ⟨b, 0, none⟩) n n (l.map B8) := by
  subst hL hb; exact Sl.fresh w _ 1 n _ (by simp [hn]) hm
theorem lit_i (w : World) (b : Nat) (hb : b = w.heap.size) (l : List Int) (L : Array Value) (hL : L = (l.map I64).toArray) (n : Nat) (hn : l.length = n) (hm : n ≤ maxLen) : Sl (w.alloc (.cells L 3)) 1 (some ⟨b, 0, none⟩) n n (l.map I64) := by
  subst hL hb; exact Sl.fresh w _ 1 n _ (by simp [hn]) hm
theorem lit_s (w : World) (b : Nat) (hb : b = w.heap.size) (l : List ByteArray) (L : Array Value) (hL : L = (l.map Value.string).toArray) (n : Nat) (hn : l.length = n) (hm : n ≤ maxLen) : Sl (w.alloc (.cells L 9)) 1 (some ⟨b, 0, none⟩) n n (l.map Value.string) := by
  subst hL hb; exact Sl.fresh w _ 1 n _ (by simp [hn]) hm

theorem d1 : decInt [130, 1, 0, 9] = (256, 3, 0) := by decide +kernel
theorem d2 : decInt [130, 1] = (0, 0, 3) := by decide +kernel
theorem d3 : decInt [129, 0] = (0, 0, 2) := by decide +kernel
theorem d4 : (decBytes [129, 2, 97, 98, 7]) = (⟨#[97, 98]⟩, 4, 0) := by decide +kernel
theorem d5 : decSeq decInt [129, 2, 129, 1, 127] = ([1, -1], 5, 0) := by decide +kernel
theorem d6 : decSeq decBytes [129, 2, 128, 129, 1, 97, 5] = ([⟨#[]⟩, ⟨#[97]⟩], 6, 0) := by decide +kernel
theorem d7 : encInt (-257) = [125, 254, 255] := by decide +kernel
theorem d8 : encBytes [97, 98] = [129, 2, 97, 98] := by decide +kernel
theorem d9 : encInts [1, -1] = [129, 2, 129, 1, 127] := by decide +kernel
theorem d10 : encStrs [⟨#[]⟩, ⟨#[97]⟩] = [129, 2, 128, 129, 1, 97] := by decide +kernel
def dgl : List UInt8 := [1, 2, 0, 0, 0, 0, 0, 0, 0, 0, 0, 0, 0, 0, 0, 0]
theorem d11 : encInt (1 : Nat) ++ dgl = 129 :: 1 :: dgl := by decide +kernel
theorem d12 : decDigs (129 :: 1 :: dgl) = (1, dgl, 18, 0) := by decide +kernel
end Go.Proofs.Ytjdnmbapmobaaaa
end

/- the text Wire17 -/
section
namespace Go.Proofs.Ytjdnmbapmobaaaa
open Go.RowKit Go.Dx

theorem bstep {B : Nat} {w0 w w' : World} {o : Obj} (h : Below B w0 w ∧ B ≤ w.heap.size) (hb : Below (w.alloc o).heap.size (w.alloc o) w') : Below B w0 w' ∧ B ≤ w'.heap.size := by
  have h1 := hb.size
  have h2 := h.2
  simp at h1
  exact ⟨(h.1.alloc h.2 o).trans (hb.mono (by simp; omega)), by omega⟩
theorem GetInt_at {l : List UInt8} {r : Int × Int × Int} (h : decInt l = r) {a : Option Addr} {n c : Nat} {w : World} (hs : Sl w 1 a n c (l.map B8)) :
    Calls Try.prog 56 #[.slice a n c] w fun e w' => e = .returned (R3 r) ∧ Below w.heap.size w w' := by subst h; exact (wire_GetInt l a n c w hs).mono fun e w' ⟨h1, h2⟩ => ⟨h1, h2 ▸ Below.refl _ _⟩
theorem GetBytes_at {l : List UInt8} {r : ByteArray × Int × Int} (h : decBytes l = r) {a : Option Addr} {n c : Nat} {w : World} (hs : Sl w 1 a n c (l.map B8)) :
    Calls Try.prog 47 #[.slice a n c] w fun e w' => e = .returned (RS r) ∧ Below w.heap.size w w' := by subst h; exact (wire_GetBytes l a n c w hs).mono fun e w' ⟨h1, h2⟩ => ⟨h1, h2 ▸ Below.refl _ _⟩
theorem GetInts_at {l : List UInt8} {r : List Int × Int × Int} (h : decSeq decInt l = r) (hl : l.length ≤ 1000000000) {a : Option Addr} {n c : Nat} {w : World} (hs : Sl w 1 a n c (l.map B8)) :
    Calls Try.prog 46 #[.slice a n c] w (Gives3 3 1 r.1.length (r.1.map I64) r.2.1 r.2.2 w) := by subst h; exact wire_GetInts l a n c w hs hl
theorem Int_at {x : Int} {r : List UInt8} (h : encInt x = r) (h0 : -9223372036854775808 ≤ x) (h1 : x ≤ 9223372036854775807) {w : World} :
    Calls Try.prog 43 #[.int .i64 x] w (Gives 5 1 r.length (r.map B8) w) := by subst h; exact wire_Int x h0 h1 w
theorem Same_at {l1 l2 : List UInt8} {r : Bool} (h : decide (l1 = l2) = r) {a1 a2 : Option Addr} {n1 n2 c1 c2 : Nat} {w : World} (h1 : Sl w 1 a1 n1 c1 (l1.map B8)) (h2 : Sl w 1 a2 n2 c2 (l2.map B8)) :
    Calls Try.prog 29 #[.slice a1 n1 c1, .slice a2 n2 c2] w fun e w' => e = .returned (.bool r) ∧ Below w.heap.size w w' := by subst h; exact (ref_Same _ _ _ _ _ _ _ _ _ h1 h2).mono fun e w' ⟨h1, n, h2⟩ => ⟨h1, h2 ▸ Still.below n⟩
theorem bs0 {B : Nat} {w0 w w' : World} (h : Below B w0 w ∧ B ≤ w.heap.size) (hb : Below w.heap.size w w') : Below B w0 w' ∧ B ≤ w'.heap.size :=
  ⟨h.1.trans (hb.mono h.2), Nat.le_trans h.2 hb.size⟩

theorem Ints_at {l : List Int} {r : List UInt8} (h : encInts l = r) (hl : ∀ x ∈ l, -9223372036854775808 ≤ x ∧ x ≤ 9223372036854775807) (hT : r.length ≤ 140737488355000) (hN : l.length ≤ 140737488355000) {a : Option Addr} {n c : Nat} {w : World} (hs : Sl w 1 a n c (l.map I64)) :
    Calls Try.prog 26 #[.slice a n c] w (Gives 5 1 r.length (r.map B8) w) := by subst h; exact wire_Ints l hl hT hN a n c w hs
theorem Bytes_at {s : ByteArray} {r : List UInt8} (h : encBytes s.data.toList = r) (hs : s.size ≤ 140737488355000) {w : World} :
    Calls Try.prog 27 #[.string s] w (Gives 5 1 r.length (r.map B8) w) := by subst h; exact wire_Bytes s hs w
section
variable {w : World} {ops : Array Oper} {rest : List Oper} {act : Act} {Q : Exit → Act → World → Prop} {ty : TypeId} {pos : String} {after : Array Edge} {g : Option (Nat × Bool)}
theorem unguard {dst : Option Nat} {op : Op} (hw : Region.wanted { dst := dst, op := op, type := ty, pos := pos, after := after, guard := g } (yielded ops act.tmps) = true)
    (h : wpList Try.prog ops Q ({ dst := dst, op := op, type := ty, pos := pos, after := after, guard := none } :: rest) act w) :
    wpList Try.prog ops Q ({ dst := dst, op := op, type := ty, pos := pos, after := after, guard := g } :: rest) act w := by
  have h2 : Region.wanted { dst := dst, op := op, type := ty, pos := pos, after := after, guard := none } (yielded ops act.tmps) = true := rfl
  unfold wpList at h ⊢
  rw [if_pos h2] at h
  rw [if_pos hw]
  exact h
end
theorem L1 : #[Value.int .u8 130, .int .u8 1, .int .u8 0, .int .u8 9] = (List.map B8 [130, 1, 0, 9]).toArray := by rfl
theorem L2 : #[Value.int .u8 130, .int .u8 1] = (List.map B8 [130, 1]).toArray := by rfl
theorem L3 : #[Value.int .u8 129, .int .u8 0] = (List.map B8 [129, 0]).toArray := by rfl
theorem L4 : #[Value.int .u8 129, .int .u8 2, .int .u8 97, .int .u8 98, .int .u8 7] = (List.map B8 [129, 2, 97, 98, 7]).toArray := by rfl
theorem L5 : #[Value.int .u8 129, .int .u8 2, .int .u8 129, .int .u8 1, .int .u8 127] = (List.map B8 [129, 2, 129, 1, 127]).toArray := by rfl
theorem L6 : #[Value.int .u8 129, .int .u8 2, .int .u8 128, .int .u8 129, .int .u8 1, .int .u8 97, .int .u8 5] = (List.map B8 [129, 2, 128, 129, 1, 97, 5]).toArray := by rfl
theorem L7 : #[Value.string ⟨#[]⟩, .string ⟨#[97]⟩] = (List.map Value.string [⟨#[]⟩, ⟨#[97]⟩]).toArray := by rfl
theorem L8 : #[Value.int .u8 129, .int .u8 2, .int .u8 128, .int .u8 129, .int .u8 1, .int .u8 97] = (List.map B8 [129, 2, 128, 129, 1, 97]).toArray := by rfl
theorem L9 : #[Value.int .u8 125, .int .u8 254, .int .u8 255] = (List.map B8 [125, 254, 255]).toArray := by rfl
theorem L10 : #[Value.int .i64 1, .int .i64 (-1)] = (List.map I64 [1, -1]).toArray := by rfl
theorem L11 : #[Value.int .u8 129, .int .u8 2, .int .u8 97, .int .u8 98] = (List.map B8 [129, 2, 97, 98]).toArray := by rfl
end Go.Proofs.Ytjdnmbapmobaaaa
end

/- the text Types3 -/
section
namespace Go.Proofs.Ytjdnmbapmobaaaa
open Go.RowKit Go.Dx
section
variable {w : World} {ops : Array Oper} {rest : List Oper} {o : Oper} {act : Act} {Q : Exit → Act → World → Prop} {ty : TypeId} {pos : String} {after : Array Edge}
theorem cutfull_b (d : Nat) (x hi mx : Operand) (a : Option Addr) (n c : Nat) (cs : List Value) (hx : act.eval x = .slice a n c) (hs : Sl w 1 a n c cs) (ku km : IntKind) (uv mv : Int) (hu : act.eval hi = .int ku uv) (hm : act.eval mx = .int km mv)
    (huv : uv = (n : Int)) (hmv : mv = (n : Int))
    (hK : Sl w 1 a n n cs → wpList Try.prog ops Q rest (act.put (some d) (.slice a n n)) w) :
    wpList Try.prog ops Q ({ dst := some d, op := .slice 33 x none (some hi) (some mx), type := ty, pos := pos, after := after, guard := none } :: rest) act w :=
  cut_full d 33 x hi mx 5 Try.underlying33 1 size_u8 a n c hx hs.le ku km uv mv hu hm huv hmv (fun h => by have := hs.nil h; have := hs.le; omega)
    (hK ⟨hs.len, Nat.le_refl _, Nat.le_trans hs.le hs.cap, fun h => by have := hs.nil h; have := hs.le; omega, hs.cell⟩)
theorem appfull_b (hg : o.guard = none) (s x : Operand) (hop : o.op = Op.call { callee := Callee.builtin Builtin.append, args := #[s, x], argTypes := #[33, 33] })
    (a : Option Addr) (n : Nat) (xs : List UInt8) (hs : act.eval s = .slice a n n) (hxs : Sl w 1 a n n (xs.map B8))
    (a2 : Option Addr) (m c2 : Nat) (ys : List UInt8) (hx : act.eval x = .slice a2 m c2) (hy : Sl w 1 a2 m c2 (ys.map B8))
    (hn : n + m ≤ 140737488355328)
    (hK : ∀ a' c' w', Sl w' 1 a' (n + m) c' ((xs ++ ys).map B8) → Below w.heap.size w w' → wpList Try.prog ops Q rest (act.put o.dst (.slice a' (n + m) c')) w') :
    wpList Try.prog ops Q (o :: rest) act w :=
  append_full hg s x 33 hop 5 (.int .u8 0) 1 1 Try.underlying33 info_u8 rfl a n _ hs hxs a2 m c2 _ hx hy (one_map _ (fun _ => rfl) _) (by omega) (by unfold maxLen; omega)
    (fun a' c' w' h1 h2 => hK a' c' w' (by rw [List.map_append]; exact h1) h2)
end
end Go.Proofs.Ytjdnmbapmobaaaa
end

/- the text C1 -/
section
namespace Go.Proofs.Ytjdnmbapmobaaaa
open Go.RowKit Go.Dx

/-- the dots of a cell -/
def dot (c : UInt8) (k : Nat) : Bool := c.toNat / 2 ^ k % 2 == 1
def dotsTo (c : UInt8) (k : Nat) : List Int := List.map (fun j : Nat => (j : Int) + 1) ((List.range k).filter (dot c))
def dotsL (c : UInt8) : List Int := dotsTo c 6
theorem dotsTo_zero (c : UInt8) : dotsTo c 0 = [] := rfl
theorem dotsTo_yes {c : UInt8} {k : Nat} (h : dot c k = true) : dotsTo c (k + 1) = dotsTo c k ++ [(k : Int) + 1] := by
  unfold dotsTo; rw [List.range_succ, List.filter_append]; simp [h]
theorem dotsTo_no {c : UInt8} {k : Nat} (h : dot c k = false) : dotsTo c (k + 1) = dotsTo c k := by
  unfold dotsTo; rw [List.range_succ, List.filter_append]; simp [h]
theorem dotsTo_len (c : UInt8) (k : Nat) : (dotsTo c k).length ≤ k := by
  unfold dotsTo; rw [List.length_map]; exact Nat.le_trans (List.length_filter_le _ _) (by simp)

theorem dot_fin : ∀ n : Fin 256, ∀ k : Fin 6, (bits BinOp.and IntKind.u8 (((n.val : Nat) : Int) / 2 ^ k.val) 1 == 1) = (n.val / 2 ^ k.val % 2 == 1) := by decide +kernel
theorem dot_raw (u : UInt8) (k : Nat) (hk : k < 6) : (bits BinOp.and IntKind.u8 ((u.toNat : Int) / 2 ^ k) 1 == 1) = dot u k := dot_fin ⟨u.toNat, u.toNat_lt⟩ ⟨k, hk⟩

end Go.Proofs.Ytjdnmbapmobaaaa
end

/- the text C2 -/
section
namespace Go.Proofs.Ytjdnmbapmobaaaa
open Go.RowKit Go.Dx

/-- a number that is no dot; a byte that is no cell -/
def noDot (k : Int) : Bool := decide (k < 1) || decide (6 < k)
def noCell (c : UInt8) : Bool := decide (64 ≤ c.toNat)

def fnv (k : Nat) : Value := .func (.func k) #[] #[]

theorem any_take_no {α : Type} {p : α → Bool} {l : List α} {k : Nat} {x : α} (h : l[k]? = some x) (h0 : (l.take k).any p = false) (hx : p x = false) : (l.take (k + 1)).any p = false := by
  rw [List.take_add_one, h, List.any_append, h0]; simp [hx]
theorem any_of_get {α : Type} {p : α → Bool} {l : List α} {k : Nat} {x : α} (h : l[k]? = some x) (hx : p x = true) : l.any p = true :=
  List.any_eq_true.2 ⟨x, List.mem_of_getElem? h, hx⟩

/-- all cells are from 0 to 63 -/
def validB (l : List UInt8) : Bool := !l.any noCell
theorem gt63 (u : UInt8) : decide (63 < (u.toNat : Int)) = noCell u := by unfold noCell; by_cases h : 64 ≤ u.toNat <;> simp <;> omega
/-- a cell from the back -/
def backC (c : UInt8) : UInt8 := UInt8.ofNat (c.toNat / 8 % 8 + c.toNat % 8 * 8)
theorem back_fin : ∀ n : Fin 256, bits BinOp.or IntKind.u8 (bits BinOp.and IntKind.u8 (((n.val : Nat) : Int) / 8) 7) (bits BinOp.and IntKind.u8 ((n.val : Nat) : Int) 7 * 8 % 256) = ((n.val / 8 % 8 + n.val % 8 * 8 : Nat) : Int) := by decide +kernel
theorem back_raw (u : UInt8) : bits BinOp.or IntKind.u8 (bits BinOp.and IntKind.u8 ((u.toNat : Int) / 8) 7) (bits BinOp.and IntKind.u8 (u.toNat : Int) 7 * 8 % 256) = ((backC u).toNat : Int) := by
  have h := back_fin ⟨u.toNat, u.toNat_lt⟩
  have e : (backC u).toNat = u.toNat / 8 % 8 + u.toNat % 8 * 8 := by unfold backC; rw [UInt8.toNat_ofNat']; omega
  rw [e]; exact h
end Go.Proofs.Ytjdnmbapmobaaaa
end

/- the text CP1 -/
section
/- Plain laws on dots and cells: no program in sight. -/
namespace Go.Proofs.Ytjdnmbapmobaaaa
open Go.RowKit Go.Dx

def bitN (k : Int) : Nat := 2 ^ (k - 1).toNat
def sumB (l : List Int) : Nat := (l.map bitN).sum
theorem sumB_snoc (l : List Int) (x : Int) : sumB (l ++ [x]) = sumB l + bitN x := by unfold sumB; rw [List.map_append, List.sum_append]; simp
theorem noDot_iff (k : Int) : noDot k = false ↔ 1 ≤ k ∧ k ≤ 6 := by unfold noDot; simp
theorem bit_fin : ∀ x : Fin 6, ∀ s : Fin 64, s.val / 2 ^ x.val % 2 = 0 → s.val + 2 ^ x.val < 64 ∧ ∀ j : Fin 6, ((s.val + 2 ^ x.val) / 2 ^ j.val % 2 = 1 ↔ (s.val / 2 ^ j.val % 2 = 1 ∨ j = x)) := by decide +kernel
theorem sumB_ok (l : List Int) (hd : ∀ x ∈ l, 1 ≤ x ∧ x ≤ 6) (hn : l.Nodup) : sumB l < 64 ∧ ∀ k : Int, 1 ≤ k → k ≤ 6 → (sumB l / bitN k % 2 = 1 ↔ k ∈ l) := by
  induction l with
  | nil => refine ⟨by decide, fun k _ _ => ?_⟩; simp [sumB]
  | cons x l ih =>
    have hx := hd x (by simp)
    obtain ⟨h1, h2⟩ := ih (fun y hy => hd y (by simp [hy])) (List.nodup_cons.1 hn).2
    have hnot : x ∉ l := (List.nodup_cons.1 hn).1
    have h0 : sumB l / 2 ^ (x - 1).toNat % 2 = 0 := by
      have := h2 x hx.1 hx.2
      have h3 : ¬ (sumB l / bitN x % 2 = 1) := fun e => hnot (this.1 e)
      have h3' : ¬ (sumB l / 2 ^ (x - 1).toNat % 2 = 1) := h3
      omega
    obtain ⟨h4, h5⟩ := bit_fin ⟨(x - 1).toNat, by omega⟩ ⟨sumB l, h1⟩ h0
    have e : sumB (x :: l) = sumB l + 2 ^ (x - 1).toNat := by unfold sumB; rw [List.map_cons, List.sum_cons, Nat.add_comm]; rfl
    rw [e]
    refine ⟨h4, fun k hk1 hk2 => ?_⟩
    have h6 := h5 ⟨(k - 1).toNat, by omega⟩
    have h7 := h2 k hk1 hk2
    unfold bitN at h7 ⊢
    rw [List.mem_cons]
    constructor
    · intro h
      rcases h6.1 h with h | h
      · exact .inr (h7.1 h)
      · left
        have := congrArg Fin.val h
        simp at this
        omega
    · rintro (rfl | h)
      · exact h6.2 (.inr rfl)
      · exact h6.2 (.inl (h7.2 h))

/-- Of: the cell, and the error -/
def ofL (l : List Int) : Nat × Int := if l.any noDot then (0, 1) else if l.Nodup then (sumB l, 0) else (0, 7)
theorem ofL_arg {l : List Int} (h : l.any noDot = true) : ofL l = (0, 1) := by unfold ofL; rw [if_pos h]
theorem ofL_ok {l : List Int} (h : l.any noDot = false) (hn : l.Nodup) : ofL l = (sumB l, 0) := by unfold ofL; rw [if_neg (by simp [h]), if_pos hn]
theorem ofL_twice {l : List Int} (h : l.any noDot = false) (hn : ¬ l.Nodup) : ofL l = (0, 7) := by unfold ofL; rw [if_neg (by simp [h]), if_neg hn]
theorem any_no {l : List Int} (h : l.any noDot = false) : ∀ x ∈ l, 1 ≤ x ∧ x ≤ 6 := by
  intro x hx
  have := List.any_eq_false.1 h x hx
  exact (noDot_iff x).1 (by simpa using this)
theorem take_snoc {α : Type} {l : List α} {k : Nat} {x : α} (h : l[k]? = some x) : l.take (k + 1) = l.take k ++ [x] := by rw [List.take_add_one, h]; rfl
theorem nodup_snoc {l : List Int} {x : Int} : (l ++ [x]).Nodup ↔ l.Nodup ∧ x ∉ l := by
  rw [List.nodup_append]; simp
  intro _
  exact ⟨fun h hx => h x hx rfl, fun h a ha e => h (e ▸ ha)⟩
end Go.Proofs.Ytjdnmbapmobaaaa
end

/- the text B9 -/
section
/- Chapter 06: cells, indicator; the reference's Cells; word and Small. -/
namespace Go.Proofs.Ytjdnmbapmobaaaa
open Go.RowKit Go.Dx

def badC (c : UInt8) : Bool := !cellOk c
def noS (c : UInt8) : Bool := !isS c
theorem okCells_eq (l : List UInt8) : okCells l = !l.any badC := by
  unfold okCells
  rw [Bool.eq_iff_iff]; simp [List.all_eq_true, badC]
theorem small_eq (s : ByteArray) : small s = !(chars s).any noS := by
  unfold small
  rw [Bool.eq_iff_iff]; simp [List.all_eq_true, noS]
theorem badC_lo {c : UInt8} (h : c.toNat < 1) : badC c = true := by unfold badC cellOk; simp; omega
theorem badC_hi {c : UInt8} (h : 63 < c.toNat) : badC c = true := by unfold badC cellOk; simp; omega
theorem badC_no {c : UInt8} (h : 1 ≤ c.toNat) (h2 : c.toNat ≤ 63) : badC c = false := by unfold badC cellOk; simp; omega
theorem noS_lo {c : UInt8} (h : c.toNat < 97) : noS c = true := by unfold noS isS; simp; omega
theorem noS_hi {c : UInt8} (h : 122 < c.toNat) : noS c = true := by unfold noS isS; simp; omega
theorem noS_no {c : UInt8} (h : 97 ≤ c.toNat) (h2 : c.toNat ≤ 122) : noS c = false := by unfold noS isS; simp; omega

def cellsR (l : List UInt8) (lo hi : Nat) : Bool := okCells l && (decide (lo ≤ l.length) && decide (l.length ≤ hi))
theorem indic_cells (l : List UInt8) : cellsR l 1 4 = indic l := by
  unfold cellsR indic
  cases okCells l <;> simp
end Go.Proofs.Ytjdnmbapmobaaaa
end

/- the text B10 -/
section
/- Chapter 06: words, rules: plain laws on a rule's error; word and Small. -/
namespace Go.Dx
theorem ru_lo {r : Ru} (h : r.text.size < 1) : ruOk r = false := by unfold ruOk; rw [decide_eq_false (show ¬ 1 ≤ r.text.size by omega)]; rfl
theorem ru_hi {r : Ru} (h : 8 < r.text.size) : ruOk r = false := by unfold ruOk; rw [decide_eq_false (show ¬ r.text.size ≤ 8 by omega)]; simp
theorem ru_w0 {r : Ru} (h : r.whr < 0) : ruOk r = false := by unfold ruOk; rw [decide_eq_false (show ¬ 0 ≤ r.whr by omega)]; simp
theorem ru_w3 {r : Ru} (h : 3 < r.whr) : ruOk r = false := by unfold ruOk; rw [decide_eq_false (show ¬ r.whr ≤ 3 by omega)]; simp
theorem ru_ind {r : Ru} (h : indic r.cells = false) : ruOk r = false := by unfold ruOk; rw [h]; simp
theorem ru_rest {r : Ru} (h1 : ¬ r.text.size < 1) (h2 : ¬ 8 < r.text.size) (h3 : ¬ r.whr < 0) (h4 : ¬ 3 < r.whr) (h5 : indic r.cells = true) : ruOk r = (small r.text || oneMark r.text && decide (r.whr = 0)) := by
  unfold ruOk
  rw [h5, decide_eq_true (show 1 ≤ r.text.size by omega), decide_eq_true (show r.text.size ≤ 8 by omega), decide_eq_true (show 0 ≤ r.whr by omega), decide_eq_true (show r.whr ≤ 3 by omega)]
  rfl
theorem mark_n {s : ByteArray} (h : s.size ≠ 1) : oneMark s = false := by
  unfold oneMark
  have := size_chars s
  cases hc : chars s with
  | nil => rfl
  | cons c l =>
    cases l with
    | nil => rw [hc] at this; simp at this; exact absurd this h
    | cons d l => rfl
theorem chars_get {s : ByteArray} {k : Nat} (h : k < s.size) : (chars s)[k]? = some s[k] := by
  unfold chars
  rw [List.getElem?_eq_getElem (by rw [Array.length_toList]; exact h)]
  rfl
theorem mark_1 {s : ByteArray} (h : s.size = 1) : oneMark s = (isW (s[0]'(by omega)) && !isL (s[0]'(by omega)) && !isD (s[0]'(by omega))) := by
  have h2 := size_chars s
  have h3 := chars_get (s := s) (k := 0) (by omega)
  unfold oneMark
  cases hc : chars s with
  | nil => rw [hc] at h3; cases h3
  | cons c l =>
    rw [hc] at h2 h3
    cases l with
    | nil => cases h3; rfl
    | cons d l => simp at h2; omega
end Go.Dx
namespace Go.Proofs.Ytjdnmbapmobaaaa
open Go.RowKit Go.Dx
theorem blo (w : World) (o : Obj) : Below w.heap.size w (w.alloc o) := (Below.refl _ w).alloc (Nat.le_refl _) _

end Go.Proofs.Ytjdnmbapmobaaaa
end

/- the text B11 -/
section
/- Chapter 06: a rule is as it has to be: right, Right. -/
namespace Go.Proofs.Ytjdnmbapmobaaaa
open Go.RowKit Go.Dx

end Go.Proofs.Ytjdnmbapmobaaaa
end

/- the text B12 -/
section
/- Chapter 06: characters in a slice: sym, and whether all are valid. -/
namespace Go.Dx
open Go.RowKit
def badS (x : Sy) : Bool := !symOk x
theorem goodS_eq (l : List Sy) : goodS l = !l.any badS := by
  unfold goodS
  rw [Bool.eq_iff_iff]; simp [List.all_eq_true, badS]
/-- a character's two cells -/
theorem sy_cells {w : World} {a : Option Addr} {n c : Nat} {l : List Sy} (hs : Sl w 2 a n c (l.flatMap sc)) {k : Nat} {x : Sy} (hx : l[k]? = some x) :
    ∃ b o, a = some ⟨b, o, none⟩ ∧ b < w.heap.size ∧ w.cell? ⟨b, o + k * 2, none⟩ = some (.int .i64 x.lang) ∧ w.cell? ⟨b, o + k * 2 + 1, none⟩ = some (.int .u8 (x.c.toNat : Int)) := by
  have hk := (List.getElem?_eq_some_iff.1 hx).1
  obtain ⟨b, o, hab, hb, hc⟩ := hs.ex (by rw [flat_len sc_len]; omega)
  refine ⟨b, o, hab, hb, ?_, ?_⟩
  · have := flat_get sc_len hx (j := 0) (by decide)
    exact hc (k * 2) _ this
  · have := flat_get sc_len hx (j := 1) (by decide)
    exact hc (k * 2 + 1) _ this
end Go.Dx
namespace Go.Proofs.Ytjdnmbapmobaaaa
open Go.RowKit Go.Dx
section
variable {w : World} {ops : Array Oper} {rest : List Oper} {act : Act} {Q : Exit → Act → World → Prop} {ty : TypeId} {pos : String} {after : Array Edge}
end
theorem symOk_no (g : Int) (c : UInt8) (h0 : g ≠ 0) (h1 : g ≠ 1) : symOk ⟨g, c⟩ = false := by unfold symOk; simp [h0, h1]
theorem symOk_yes (g : Int) (c : UInt8) (h0 : g = 0 ∨ g = 1) : symOk ⟨g, c⟩ = isW c := by unfold symOk; rcases h0 with h | h <;> simp [h]

end Go.Proofs.Ytjdnmbapmobaaaa
end

/- the text B13 -/
section
/- Chapter 06: the rules of a language: whether all are as they have to be; a letter's own rule. -/
namespace Go.Dx
open Go.RowKit
def badR (r : Ru) : Bool := !ruOk r
theorem rules_eq (l : List Ru) : l.all ruOk = !l.any badR := by
  rw [Bool.eq_iff_iff]; simp [List.all_eq_true, badR]
/-- a rule's three cells -/
theorem ru_cells {w : World} {a : Option Addr} {n c : Nat} {ps : List RH} (hs : Sl w 3 a n c (ps.flatMap rc)) {k : Nat} {p : RH} (hx : ps[k]? = some p) :
    ∃ b o, a = some ⟨b, o, none⟩ ∧ b < w.heap.size ∧ w.cell? ⟨b, o + k * 3, none⟩ = some (.string p.1.text) ∧ w.cell? ⟨b, o + k * 3 + 1, none⟩ = some (.int .i64 p.1.whr) ∧ w.cell? ⟨b, o + k * 3 + 2, none⟩ = some (.slice p.2.1 p.2.2.1 p.2.2.2) := by
  have hk := (List.getElem?_eq_some_iff.1 hx).1
  obtain ⟨b, o, hab, hb, hc⟩ := hs.ex (by rw [flat_len rc_len]; omega)
  refine ⟨b, o, hab, hb, ?_, ?_, ?_⟩
  · exact hc (k * 3) _ (flat_get rc_len hx (j := 0) (by decide))
  · exact hc (k * 3 + 1) _ (flat_get rc_len hx (j := 1) (by decide))
  · exact hc (k * 3 + 2) _ (flat_get rc_len hx (j := 2) (by decide))
end Go.Dx
namespace Go.Proofs.Ytjdnmbapmobaaaa
open Go.RowKit Go.Dx
section
variable {w : World} {ops : Array Oper} {rest : List Oper} {act : Act} {Q : Exit → Act → World → Prop} {ty : TypeId} {pos : String} {after : Array Edge}
end
def rv (p : RH) : Value := .agg #[.string p.1.text, .int .i64 p.1.whr, .slice p.2.1 p.2.2.1 p.2.2.2]
/-- the rule is the letter's own -/
def isOwn (c : UInt8) (r : Ru) : Bool := decide (r.whr = 0) && decide (chars r.text = [c])
theorem own_eq (l : List Ru) (c : UInt8) : ownB l c = l.any (isOwn c) := by
  unfold ownB
  rw [Bool.eq_iff_iff]
  simp only [decide_eq_true_eq, List.mem_map, nameOf, Prod.mk.injEq, List.any_eq_true, isOwn, Bool.and_eq_true]
  constructor
  · rintro ⟨r, hr, h1, h2⟩; exact ⟨r, hr, h2, h1⟩
  · rintro ⟨r, hr, h1, h2⟩; exact ⟨r, hr, h2, h1⟩
theorem isOwn_w {c : UInt8} {r : Ru} (h : r.whr ≠ 0) : isOwn c r = false := by unfold isOwn; simp [h]
theorem isOwn_n {c : UInt8} {r : Ru} (h : r.text.size ≠ 1) : isOwn c r = false := by
  have h2 := size_chars r.text
  unfold isOwn
  have : chars r.text ≠ [c] := fun e => h (by rw [h2, e]; rfl)
  simp [this]
theorem chars_one {s : ByteArray} (h : s.size = 1) : chars s = [s[0]'(by omega)] := by
  have h2 := size_chars s
  have h3 := chars_get (s := s) (k := 0) (by omega)
  cases hc : chars s with
  | nil => rw [hc] at h3; cases h3
  | cons c l =>
    rw [hc] at h2 h3
    cases l with
    | nil => cases h3; rfl
    | cons d l => simp at h2; omega
theorem isOwn_1 {c : UInt8} {r : Ru} (h0 : r.whr = 0) (h : r.text.size = 1) : isOwn c r = decide ((r.text[0]'(by omega)) = c) := by
  unfold isOwn
  rw [chars_one h, h0]; simp

end Go.Proofs.Ytjdnmbapmobaaaa
end

/- the text B14 -/
section
/- Chapter 06: the word at a place: bounds; inWord. -/
namespace Go.Proofs.Ytjdnmbapmobaaaa
open Go.RowKit Go.Dx

theorem quiet_left {P : Program} {f : FuncId} {args : Array Value} {w : World} {n : Nat} {v : Value} (h : Calls P f args (w.drewN n) fun e w' => e = .returned v ∧ w.drewN n = w') :
    Calls P f args (w.drewN n) fun e w'' => e = .returned v ∧ ∃ m, w'' = w.drewN m := h.mono fun _ _ ⟨he, hm⟩ => ⟨he, n, hm.symm⟩
theorem inAt_neg {l : List Sy} {g i : Int} (h : i < 0) : inAt l g i = false := by unfold inAt; rw [decide_eq_false (by omega)]; rfl
theorem inAt_out {l : List Sy} {g : Int} {k : Nat} (h : l.length ≤ k) : inAt l g (k : Int) = false := by rw [inAt_nat, List.getElem?_eq_none h]
theorem inAt_get {l : List Sy} {g : Int} {k : Nat} {y : Sy} (h : l[k]? = some y) : inAt l g (k : Int) = (decide (y.lang = g) && isL y.c) := by rw [inAt_nat, h]

end Go.Proofs.Ytjdnmbapmobaaaa
end

/- the text B15 -/
section
/- Chapter 06: the word at a place: bounds. -/
namespace Go.Dx
open Go.RowKit
theorem cell_below {w w' : World} {p : Addr} {u : Value} (h : w.cell? p = some u) (hb : Below w.heap.size w w') : w'.cell? p = some u := by
  rw [hb.cell (World.block_lt_of_cell? w _ h)]; exact h
theorem lo_stay {l : List Sy} {g : Int} {p A : Nat} (h : ∀ j : Int, (A : Int) ≤ j → j < p → inAt l g j = true) (hA : inAt l g ((A : Int) - 1) = true) : 1 ≤ A ∧ ∀ j : Int, ((A - 1 : Nat) : Int) ≤ j → j < p → inAt l g j = true := by
  have h1 : 1 ≤ A := by
    by_cases e : A = 0
    · subst e; rw [show ((0 : Nat) : Int) - 1 = -1 from rfl, show inAt l g (-1) = false from rfl] at hA; cases hA
    · omega
  refine ⟨h1, fun j hj hp => ?_⟩
  by_cases e : j = (A : Int) - 1
  · rw [e]; exact hA
  · exact h j (by omega) hp
theorem hi_stay {l : List Sy} {g : Int} {p B : Nat} (h : ∀ j : Int, (p : Int) ≤ j → j < B → inAt l g j = true) (hB : inAt l g (B : Int) = true) : B < l.length ∧ ∀ j : Int, (p : Int) ≤ j → j < ((B + 1 : Nat) : Int) → inAt l g j = true := by
  refine ⟨?_, fun j hj hp => ?_⟩
  · rw [inAt_nat] at hB
    cases hb : l[B]? with
    | none => rw [hb] at hB; cases hB
    | some y => exact (List.getElem?_eq_some_iff.1 hb).1
  · by_cases e : j = (B : Int)
    · rw [e]; exact hB
    · exact h j hj (by omega)
end Go.Dx
namespace Go.Proofs.Ytjdnmbapmobaaaa
open Go.RowKit Go.Dx

end Go.Proofs.Ytjdnmbapmobaaaa
end

/- the text B16 -/
section
/- Chapter 06: the reference's inWord. -/
namespace Go.Proofs.Ytjdnmbapmobaaaa
open Go.RowKit Go.Dx
theorem word_out {l : List Sy} {i : Nat} (h : l.length ≤ i) : inWord l i = false := by
  cases i with
  | zero => rfl
  | succ k =>
    simp only [inWord, List.getElem?_eq_none h]
    cases l[k]? <;> rfl
end Go.Proofs.Ytjdnmbapmobaaaa
end

/- the text B17 -/
section
/- Chapter 06: whether a rule fits at a place: fits, of the program. -/
namespace Go.Dx
open Go.RowKit
theorem sameAt_step {g : Int} : ∀ (s : List UInt8) (b : Bool) (L : List Sy) (k : Nat) (u : UInt8) (y : Sy), s[k]? = some u → L[k]? = some y →
    sameAt g b (s.take (k + 1)) L = (sameAt g b (s.take k) L && (decide (low y.c = u) && decide (y.lang = g) && (b && decide (k = 0) || !isC y.c))) := by
  intro s
  induction s with
  | nil => intro b L k u y h; simp at h
  | cons v s ih =>
    intro b L k u y hs hL
    cases L with
    | nil => simp at hL
    | cons x L =>
      cases k with
      | zero =>
        simp only [List.getElem?_cons_zero, Option.some.injEq] at hs hL
        subst hs; subst hL
        simp [sameAt]
      | succ k =>
        simp only [List.getElem?_cons_succ] at hs hL
        have := ih false L k u y hs hL
        simp only [List.take_succ_cons, sameAt, this, Bool.false_and, Bool.false_or, Nat.add_eq_zero_iff, Nat.one_ne_zero, and_false, decide_false, Bool.and_false]
        simp only [Bool.and_assoc]
theorem sameAt_take {g : Int} : ∀ (s : List UInt8) (b : Bool) (L : List Sy) (k : Nat), sameAt g b (s.take k) L = false → sameAt g b s L = false := by
  intro s
  induction s with
  | nil => intro b L k h; simpa using h
  | cons v s ih =>
    intro b L k h
    cases k with
    | zero => simp [sameAt] at h
    | succ k =>
      cases L with
      | nil => rfl
      | cons x L =>
        simp only [List.take_succ_cons, sameAt] at h ⊢
        cases hq : sameAt g false s L
        · simp
        · cases hq2 : sameAt g false (s.take k) L
          · rw [ih _ _ _ hq2] at hq; cases hq
          · rw [hq2] at h; exact h
theorem fits_no {r : Ru} {l : List Sy} {i : Nat} (hi : i < l.length) (h : l.length < i + r.text.size) : fitsB r l i = false := by
  cases hq : fitsB r l i
  · rfl
  · have := fits_len hi hq; omega
theorem fits_at {r : Ru} {l : List Sy} {i : Nat} {x : Sy} (hx : l[i]? = some x) : fitsB r l i = (sameAt x.lang true (chars r.text) (l.drop i) && placeOk r l i) := by
  unfold fitsB; rw [hx]
theorem place_any {r : Ru} {l : List Sy} {i : Nat} (h : small r.text = false) : placeOk r l i = true := by unfold placeOk; rw [h]; rfl
theorem place_small {r : Ru} {l : List Sy} {i : Nat} (h : small r.text = true) : placeOk r l i = (if r.whr = 1 then !inWord l i && !inWord l (i + r.text.size) else if r.whr = 2 then !inWord l i && inWord l (i + r.text.size) else if r.whr = 3 then inWord l i else true) := by
  unfold placeOk; rw [h]; rfl
end Go.Dx
namespace Go.Proofs.Ytjdnmbapmobaaaa
open Go.RowKit Go.Dx
theorem hold {p : Prop} (h : Hid p) : p := h.out
section
variable {w : World} {ops : Array Oper} {rest : List Oper} {act : Act} {Q : Exit → Act → World → Prop} {ty : TypeId} {pos : String} {after : Array Edge}
end
theorem step_yes {g : Int} {s : List UInt8} {L : List Sy} {k : Nat} {u : UInt8} {y : Sy} (hs : s[k]? = some u) (hL : L[k]? = some y) (h0 : sameAt g true (s.take k) L = true) (h1 : low y.c = u) (h2 : y.lang = g) (h3 : k = 0 ∨ isC y.c = false) : sameAt g true (s.take (k + 1)) L = true := by
  rw [sameAt_step s true L k u y hs hL, h0, decide_eq_true h1, decide_eq_true h2]
  rcases h3 with h3 | h3 <;> simp [h3]
theorem step_no {g : Int} {s : List UInt8} {L : List Sy} {k : Nat} {u : UInt8} {y : Sy} (hs : s[k]? = some u) (hL : L[k]? = some y) (h : low y.c ≠ u ∨ y.lang ≠ g ∨ (0 < k ∧ isC y.c = true)) : sameAt g true s L = false := by
  refine sameAt_take s true L (k + 1) ?_
  rw [sameAt_step s true L k u y hs hL]
  rcases h with h | h | ⟨h, h2⟩
  · simp [h]
  · simp [h]
  · have : k ≠ 0 := by omega
    simp [this, h2]

end Go.Proofs.Ytjdnmbapmobaaaa
end

/- the text B18 -/
section
/- Chapter 06: whether a rule fits at a place: Fits, of the reference. -/
namespace Go.Proofs.Ytjdnmbapmobaaaa
open Go.RowKit Go.Dx

end Go.Proofs.Ytjdnmbapmobaaaa
end

/- the text B19 -/
section
/- Chapter 06: the error of tables, in parts; tables in a box. -/
namespace Go.Dx
open Go.RowKit
def langK (t : Ta) (k : Nat) : List Ru := if k = 0 then t.l0 else t.l1
theorem two_cases {p : Nat → Prop} (h0 : p 0) (h1 : p 1) : ∀ k, k < 2 → p k := by
  intro k hk
  rcases k with _ | _ | k
  · exact h0
  · exact h1
  · omega
theorem ve_lim {t : Ta} {k : Nat} (h : 96 < (langK t k).length) : validE t = 4 := by
  unfold validE
  rw [if_pos]
  unfold langK at h
  split at h
  · exact .inl h
  · exact .inr h
theorem ve_len {t : Ta} (h : ∀ k, k < 2 → (langK t k).length ≤ 96) : ¬ (96 < t.l0.length ∨ 96 < t.l1.length) := by
  have h0 := h 0 (by omega)
  have h1 := h 1 (by omega)
  simp [langK] at h0 h1
  omega
theorem ve_bad {t : Ta} (h : ∀ k, k < 2 → (langK t k).length ≤ 96) (hg : goodT t = false) : validE t = 1 := by
  unfold validE
  rw [if_neg (ve_len h), hg]; rfl
theorem ve_dup {t : Ta} (h : ∀ k, k < 2 → (langK t k).length ≤ 96) (hg : goodT t = true) {k : Nat} (hd : dupB (langK t k) = true) : validE t = 7 := by
  unfold validE
  rw [if_neg (ve_len h), hg, if_neg (by simp), if_pos]
  unfold langK at hd
  split at hd <;> simp [hd]
theorem ve_miss {t : Ta} (h : ∀ k, k < 2 → (langK t k).length ≤ 96) (hg : goodT t = true) (hd : ∀ k, k < 2 → dupB (langK t k) = false) {k : Nat} (hm : missB (langK t k) = true) : validE t = 6 := by
  have h0 := hd 0 (by omega)
  have h1 := hd 1 (by omega)
  simp [langK] at h0 h1
  unfold validE
  rw [if_neg (ve_len h), hg, if_neg (by simp), h0, h1, if_neg (by simp), if_pos]
  unfold langK at hm
  split at hm <;> simp [hm]
theorem ve_ok {t : Ta} (h : ∀ k, k < 2 → (langK t k).length ≤ 96) (hg : goodT t = true) (hd : ∀ k, k < 2 → dupB (langK t k) = false) (hm : ∀ k, k < 2 → missB (langK t k) = false) : validE t = 0 := by
  have h0 := hd 0 (by omega)
  have h1 := hd 1 (by omega)
  have m0 := hm 0 (by omega)
  have m1 := hm 1 (by omega)
  simp [langK] at h0 h1 m0 m1
  unfold validE
  rw [if_neg (ve_len h), hg, if_neg (by simp), h0, h1, m0, m1]; rfl
theorem good_rule {t : Ta} {k : Nat} (h : (langK t k).all ruOk = false) : goodT t = false := by
  unfold goodT
  unfold langK at h
  split at h <;> simp [h]
theorem good_dig {t : Ta} (h : (decide (t.dig.length = 10) && okCells t.dig) = false) : goodT t = false := by unfold goodT; rw [h]; rfl
theorem good_cap {t : Ta} (h : indic t.cap = false) : goodT t = false := by unfold goodT; rw [h]; simp
theorem good_num {t : Ta} (h : indic t.num = false) : goodT t = false := by unfold goodT; rw [h]; simp
theorem good_fin {t : Ta} (h : indic t.fin = false) : goodT t = false := by unfold goodT; rw [h]; simp
theorem good_sw {t : Ta} (h : indic t.sw = false) : goodT t = false := by unfold goodT; rw [h]; simp
theorem isIn_step {l : List Ru} {j : Nat} {y : Ru} (h : l[j]? = some y) (n : ByteArray × Int) : isIn ((l.take (j + 1)).map nmOf) n = (isIn ((l.take j).map nmOf) n || (n.1.toList == y.text.toList && n.2 == y.whr)) := by
  rw [take_succ_get h, List.map_append]
  unfold isIn
  rw [List.any_append]; simp
theorem isIn_of {l : List Ru} {i j : Nat} {y : Ru} (h : l[j]? = some y) (hj : j < i) {n : ByteArray × Int} (hn : (n.1.toList == y.text.toList && n.2 == y.whr) = true) : isIn ((l.take i).map nmOf) n = true := by
  unfold isIn
  rw [List.any_eq_true]
  refine ⟨nmOf y, List.mem_map.2 ⟨y, ?_, rfl⟩, hn⟩
  exact List.mem_of_getElem? (i := j) (by rw [List.getElem?_take, if_pos hj]; exact h)
theorem rus_get {ps : List RH} {i : Nat} {x : RH} (h : ps[i]? = some x) : (rus ps)[i]? = some x.1 := by unfold rus; rw [List.getElem?_map, h]; rfl
theorem good_all {t : Ta} (hl : ∀ k, k < 2 → (langK t k).all ruOk = true) (h1 : (decide (t.dig.length = 10) && okCells t.dig) = true) (h2 : indic t.cap = true) (h3 : indic t.num = true) (h4 : indic t.fin = true) (h5 : indic t.sw = true) : goodT t = true := by
  have l0 := hl 0 (by omega)
  have l1 := hl 1 (by omega)
  simp [langK] at l0 l1
  unfold goodT
  simp only [Bool.and_eq_true, decide_eq_true_eq] at h1
  simp [h1.1, h1.2, h2, h3, h4, h5]
  exact ⟨l0, l1⟩
/-- the rules of a language, in tables as they lie -/
theorem sel_lang {w : World} {H : TH} {t : Ta} (hT : TaIs w H t) : ∀ k, k < 2 → ∃ a n c ps, [hdv H.r0, hdv H.r1][k]? = some (.slice a n c) ∧ Rul w a n c ps ∧ rus ps = langK t k := by
  refine two_cases ⟨_, _, _, _, rfl, hT.l0, ?_⟩ ⟨_, _, _, _, rfl, hT.l1, ?_⟩
  · rw [hT.e0]; rfl
  · rw [hT.e1]; rfl
/-- tables in a box -/
structure TBox (w : World) (g : Nat) (H : TH) (t : Ta) : Prop where
  ok : TaIs w H t
  rules : ∀ k, k < 2 → ∃ a n c ps, w.cell? ⟨g, k, none⟩ = some (.slice a n c) ∧ Rul w a n c ps ∧ rus ps = langK t k
  d : w.cell? ⟨g, 2, none⟩ = some (hdv H.d)
  c : w.cell? ⟨g, 3, none⟩ = some (hdv H.c)
  n : w.cell? ⟨g, 4, none⟩ = some (hdv H.n)
  f : w.cell? ⟨g, 5, none⟩ = some (hdv H.f)
  s : w.cell? ⟨g, 6, none⟩ = some (hdv H.s)
def tcells (H : TH) : List Value := [hdv H.r0, hdv H.r1, hdv H.d, hdv H.c, hdv H.n, hdv H.f, hdv H.s]
theorem TBox.new {w : World} {H : TH} {t : Ta} (hT : TaIs w H t) (ty : TypeId) : TBox (w.alloc (.cells (tcells H).toArray ty)) w.heap.size H t := by
  have hx := Box.new w ty (tcells H).toArray
  have hb : Below w.heap.size w (w.alloc (.cells (tcells H).toArray ty)) := (Below.refl _ w).alloc (Nat.le_refl _) _
  refine ⟨hT.below hb, ?_, hx.at_ rfl, hx.at_ rfl, hx.at_ rfl, hx.at_ rfl, hx.at_ rfl⟩
  intro k hk
  obtain ⟨a, n, c, ps, h1, h2, h3⟩ := sel_lang hT k hk
  refine ⟨a, n, c, ps, hx.at_ ?_, h2.below hb, h3⟩
  rcases k with _ | _ | k
  · exact h1
  · exact h1
  · omega
theorem TBox.below {w w' : World} {g : Nat} {H : TH} {t : Ta} (h : TBox w g H t) (hb : Below w.heap.size w w') : TBox w' g H t := by
  have key : ∀ {p : Addr} {u : Value}, w.cell? p = some u → w'.cell? p = some u := fun hc => by rw [hb.cell (World.block_lt_of_cell? w _ hc)]; exact hc
  refine ⟨h.ok.below hb, ?_, key h.d, key h.c, key h.n, key h.f, key h.s⟩
  intro k hk
  obtain ⟨a, n, c, ps, h1, h2, h3⟩ := h.rules k hk
  exact ⟨a, n, c, ps, key h1, h2.below hb, h3⟩
end Go.Dx
namespace Go.Proofs.Ytjdnmbapmobaaaa
open Go.RowKit Go.Dx
theorem digR (l : List UInt8) : cellsR l 10 10 = (decide (l.length = 10) && okCells l) := by
  unfold cellsR
  by_cases h : l.length = 10
  · simp [h]
  · have h2 : (decide (10 ≤ l.length) && decide (l.length ≤ 10)) = false := by simp; omega
    rw [h2]; simp [h]
end Go.Proofs.Ytjdnmbapmobaaaa
end

/- the text B20 -/
section
/- Chapter 06: the reference's Valid. -/
namespace Go.Proofs.Ytjdnmbapmobaaaa
open Go.RowKit Go.Dx

end Go.Proofs.Ytjdnmbapmobaaaa
end

/- the text B21 -/
section
/- Chapter 06: laws of the walk for Valid: an array of tables, a look-up in a set, a letter as a text. -/
namespace Go.Dx
open Go.RowKit
theorem run_look {P : Program} {w : World} {K : TypeId} (hK0 : NameKey P K) {t e : TypeId} (ht : P.underlying t = some (.map K e)) (hz : ∀ w, (zeroValue e).run P w = .ok (.bool false) w) {b : Nat} {ns : List (ByteArray × Int)} (hown : NSet w b ns) (n : ByteArray × Int) :
    (Instr.lookup t (.map (some b)) (nameV n) false).run P w = .ok (.bool (isIn ns n)) w := by
  obtain ⟨es, clock, hb, he⟩ := hown.ex
  obtain ⟨r, hr, hr2⟩ := find_key hK0 w n es.toList ns he
  have hck := name_key hK0 w es.isEmpty n
  cases r with
  | none =>
    cases hi : isIn ns n
    · simp [Instr.lookup, run_underlying ht, MapKept.run_getObj_map hb, hck, hr, hz]
    · rw [hi] at hr2; cases hr2
  | some q =>
    cases hi : isIn ns n
    · rw [hi] at hr2; cases hr2
    · rw [hi] at hr2
      have : q.2 = .bool true := by simpa using hr2
      obtain ⟨q1, q2⟩ := q
      subst this
      simp [Instr.lookup, run_underlying ht, MapKept.run_getObj_map hb, hck, hr]
theorem NSet.drewN {w : World} {b : Nat} {ns : List (ByteArray × Int)} (h : NSet w b ns) (n : Nat) : NSet (w.drewN n) b ns := ⟨h.ex⟩
theorem NSet.drew {w : World} {b : Nat} {ns : List (ByteArray × Int)} (h : NSet w b ns) : NSet w.drew b ns := ⟨h.ex⟩
theorem quiet_look {P : Program} {w : World} {ops : Array Oper} {rest : List Oper} {o : Oper} {a : Act} {Q : Act → Prop} {K : TypeId} (hK0 : NameKey P K) (m x : Operand) (t e : TypeId) (hop : o.op = Op.lookup t m x false) (ht : P.underlying t = some (.map K e))
    (hz : ∀ w, (zeroValue e).run P w = .ok (.bool false) w) (b : Nat) (ns : List (ByteArray × Int)) (hm : a.eval m = .map (some b)) (hown : NSet w b ns) (n : ByteArray × Int) (hx : a.eval x = nameV n) (hw : Region.wanted o (yielded ops a.tmps) = true)
    (hK : wpQuiet P ops (fun w' => ∃ n, w' = w.drewN n) Q rest (a.put o.dst (.bool (isIn ns n)))) : wpQuiet P ops (fun w' => ∃ n, w' = w.drewN n) Q (o :: rest) a := by
  refine quiet_in (.bool (isIn ns n)) hw ?_ hK
  rintro w' ⟨k, rfl⟩
  have hrun := run_look hK0 ht hz (hown.drewN k) n
  simp [execOp, hop, hm, hx, hrun, Result.andThen]
theorem encode_chr : ∀ u : Nat, u < 128 → chars (Utf8.encode (u : Int)) = [UInt8.ofNat u] := by decide +kernel
section
variable {P : Program} {w : World} {ops : Array Oper} {rest : List Oper} {act : Act} {Q : Exit → Act → World → Prop} {ty : TypeId} {pos : String} {after : Array Edge}
/-- 'v[i]' of an array that is a value, its elements structs of one cell -/
theorem index_wrap (d : Nat) (t e n : TypeId) (x y : Operand) (ht : P.underlying t = some (.array n e)) (hsz : (P.info? e).map (·.size) = some 1) (hag : IsAgg P e) (cs : List Value) (hx : act.eval x = .agg cs.toArray) (k : IntKind) (i : Nat) (hy : act.eval y = .int k (i : Int)) (hi : i < n)
    (u : Value) (hu : cs[i]? = some u) (hK : wpList P ops Q rest (act.put (some d) (.agg #[u])) w) :
    wpList P ops Q ({ dst := some d, op := .index t x y, type := ty, pos := pos, after := after, guard := none } :: rest) act w := by
  refine wpList_plain rfl fun K hK' => ?_
  obtain ⟨i0, hi0, hs0⟩ := Option.map_eq_some_iff.1 hsz
  have h3 : (0 : Int) ≤ i ∧ (i : Int) < n := by omega
  have hil := (List.getElem?_eq_some_iff.1 hu).1
  have hex : List.take 1 (List.drop i cs) = [u] := by
    rw [List.drop_eq_getElem_cons hil, List.take_succ_cons, List.take_zero, (List.getElem?_eq_some_iff.1 hu).2]
  have hrun : (Instr.index t (.agg cs.toArray) (.int k (i : Int))).run P w = .ok (.agg #[u]) w := by
    simp [Instr.index, asIntOf, run_underlying ht, sizeOf, typeInfo, hi0, hs0, h3, part, run_isAgg hag, hex, hi]
  unfold Oper.wp
  simp [execOp, hx, hy, hrun, Result.andThen]
  exact hK' _ _ hK
end
theorem four_cases {p : Nat → Prop} (h0 : p 0) (h1 : p 1) (h2 : p 2) (h3 : p 3) : ∀ k, k < 4 → p k := by
  intro k hk
  rcases k with _ | _ | _ | _ | k
  · exact h0
  · exact h1
  · exact h2
  · exact h3
  · omega
def inds (t : Ta) : List (List UInt8) := [t.cap, t.num, t.fin, t.sw]
def gI (t : Ta) (k : Nat) : Bool := (decide (t.dig.length = 10) && okCells t.dig) && ((inds t).take k).all indic
theorem gI_step {t : Ta} {k : Nat} {l : List UInt8} (h : (inds t)[k]? = some l) : gI t (k + 1) = (gI t k && indic l) := by
  unfold gI
  rw [take_succ_get h, List.all_append]
  simp [Bool.and_assoc]
def gR (t : Ta) (k : Nat) : Bool := gI t 4 && (List.range k).all fun j => (langK t j).all ruOk
theorem gR_step {t : Ta} {k : Nat} : gR t (k + 1) = (gR t k && (langK t k).all ruOk) := by
  unfold gR
  rw [List.range_succ, List.all_append]
  simp [Bool.and_assoc]
theorem good_R (t : Ta) : goodT t = gR t 2 := by
  unfold goodT gR gI inds
  simp [List.range_succ, langK, Bool.and_assoc]
/-- a set of names in a map, whose block is another one -/
def HasSet (w : World) (v : Value) (bk lim : Nat) (l : List Ru) : Prop := ∃ b, v = .map (some b) ∧ b ≠ bk ∧ b < lim ∧ NSet w b (l.map nmOf)
theorem HasSet.below {w w' : World} {v : Value} {bk lim : Nat} {l : List Ru} (h : HasSet w v bk lim l) (hb : Below w.heap.size w w') : HasSet w' v bk lim l := by
  obtain ⟨b, h1, h2, h3, h4⟩ := h
  exact ⟨b, h1, h2, h3, h4.below hb⟩
theorem HasSet.grown {w w' : World} {v : Value} {bk lim g : Nat} {l : List Ru} (h : HasSet w v bk lim l) (hg : w.grownBy w' (some g)) (hne : g = bk ∨ lim ≤ g) : HasSet w' v bk lim l := by
  obtain ⟨b, h1, h2, h3, h4⟩ := h
  refine ⟨b, h1, h2, h3, h4.kept hg fun e => ?_⟩
  cases e
  omega
theorem HasSet.now {w : World} {v : Value} {bk lim : Nat} {l : List Ru} (h : HasSet w v bk lim l) : HasSet w v bk w.heap.size l := by
  obtain ⟨b, h1, h2, h3, h4⟩ := h
  exact ⟨b, h1, h2, h4.lt, h4⟩
end Go.Dx
namespace Go.Proofs.Ytjdnmbapmobaaaa
open Go.RowKit Go.Dx
theorem zero_bool (w : World) : (zeroValue 4).run Try.prog w = .ok (.bool false) w := by kernel_rfl
theorem size_row : (Try.prog.info? 33).map (·.size) = some 1 := by kernel_rfl
section
variable {w : World} {ops : Array Oper} {rest : List Oper} {o : Oper} {act : Act} {Q : Exit → Act → World → Prop} {ty : TypeId} {pos : String} {after : Array Edge}
/-- 'l[i]' in [][]byte, the address -/
theorem idx_bb (d : Nat) (x y : Operand) (a : Option Addr) (n c : Nat) (cs : List Value) (hx : act.eval x = .slice a n c) (ht : Sl w 1 a n c cs) (k : IntKind) (iv : Int) (i : Nat) (hy : act.eval y = .int k iv) (hiv : iv = (i : Int))
    (u : Value) (hu : cs[i]? = some u)
    (hK : ∀ b o, w.cell? ⟨b, o, none⟩ = some u → b < w.heap.size → wpList Try.prog ops Q rest (act.put (some d) (.pointer (some ⟨b, o, none⟩))) w) :
    wpList Try.prog ops Q ({ dst := some d, op := .indexAddr 28 x y, type := ty, pos := pos, after := after, guard := none } :: rest) act w :=
  index_sl d 28 x y 33 Try.underlying28 size_row a n c _ hx ht k iv i hy hiv u hu hK
end
end Go.Proofs.Ytjdnmbapmobaaaa
end

/- the text B22 -/
section
/- Chapter 06: the program's Valid. -/
namespace Go.Proofs.Ytjdnmbapmobaaaa
open Go.RowKit Go.Dx

end Go.Proofs.Ytjdnmbapmobaaaa
end

/- the text AppZ -/
section
/- 'append(out, make([]T, k)...)': the builtin is handed the number. No program in sight. -/
set_option linter.unusedVariables false
namespace Go.Dx
open Go.RowKit

theorem zeroCells_one {z : Value} (hz : z.cells = #[z]) (m : Nat) : (Builtin.zeroCells z.cells m).toList = List.replicate m z := by
  unfold Builtin.zeroCells
  rw [hz]
  apply List.ext_getElem
  · simp
  · intro i h1 h2
    simp [Nat.mod_one]
section laws
variable {P : Program} {w : World} {ops : Array Oper} {rest : List Oper} {o : Oper} {act : Act} {Q : Exit → Act → World → Prop}

theorem run_append_zeros (base : Nat) (t tn ty e : TypeId) (i : TypeInfo) (z : Value) (kq kn : IntKind) (ht : P.underlying t = some (.slice e)) (htn : P.underlying tn = some (.int kn)) (hi : P.info? e = some i) (hz : i.zero = some z)
    (hz1 : z.cells = #[z]) (hone : z.oneCell' = true) (hsz : i.size = 1) (a : Option Addr) (n c : Nat) (xs : List Value) (hown : Own w base e i.size a n c xs)
    (m : Nat) (h0 : 0 < m)
    (h63 : n + m ≤ maxLen) (hbytes : (n + m) * i.bytes ≤ 140737488355328) (hbase : base ≤ w.heap.size) :
    ∃ a' c' w', (Builtin.append_ #[t, tn] ty #[.slice a n c, .int kq (m : Int)]).run P w = .ok (.slice a' (n + m) c') w' ∧ Own w' base e i.size a' (n + m) c' (xs ++ List.replicate m z) ∧ w.grownBy w' (a.map (·.block)) := by
  have hsmall : n + m ≤ 9223372036854775807 := by simp only [maxLen] at h63; omega
  have hlen : (xs ++ List.replicate m z).length = (n + m) * i.size := by rw [List.length_append, hown.1, List.length_replicate, hsz]; omega
  have hold : (Builtin.firstCells i.size n (.slice a n c)).run P w.drew = .ok xs.toArray w.drew := by
    have hsl := hown.sl
    cases a with
    | none =>
      have := hsl.nil rfl
      have := hsl.le
      obtain rfl : n = 0 := by omega
      have hnews : xs = [] := List.eq_nil_of_length_eq_zero (by simpa using hsl.len)
      subst hnews
      exact run_firstCells_none w.drew i.size 0 0 c
    | some p => exact run_firstCells_some w.drew i.size n p n c xs hsl.len (by simpa using hsl.cell p rfl)
  have hk : m ≠ 0 := by omega
  have hw : IntKind.i64.wrap (m : Int) = m := by rw [IntKind.wrap_i64]; omega
  have hneg : ¬ ((m : Int) < 0) := by omega
  have hm8 : m * i.bytes ≤ (n + m) * i.bytes := Nat.mul_le_mul_right _ (by omega)
  have h48i : ¬ (281474976710656 < (m : Int) * (i.bytes : Int)) := by
    rw [← Int.natCast_mul]
    omega
  by_cases hroom : n + m ≤ c
  · rcases hown.2 with ⟨h1, h2⟩ | ⟨g, cap, cur, h1, hbg, hg, hnc, hcm, hcs, htake⟩
    · injection h1 with h1 h3 h4
      subst h1 h3 h4
      omega
    · injection h1 with h1 h3 h4
      subst h1 h4
      have hnews : (List.replicate m z).length = m * i.size := by rw [List.length_replicate, hsz, Nat.mul_one]
      have hfit : n * i.size + (List.replicate m z).length ≤ cur.size := by rw [hnews, hcs, ← Nat.add_mul]; exact Nat.mul_le_mul_right _ hroom
      have hst := run_storeCells_at P g (n * i.size) e (List.replicate m z) 0 cur w hg (by simpa using hfit) (by intro u hu; rw [List.eq_of_mem_replicate hu]; exact hone)
      simp only [Nat.add_zero] at hst
      have hns : ¬ (m * i.size = 0) := by rw [hsz]; omega
      refine ⟨some ⟨g, 0, none⟩, c, w.setRow g (cur.toList.take (n * i.size) ++ List.replicate m z ++ cur.toList.drop (n * i.size + (List.replicate m z).length)).toArray, ?_, ⟨hlen, .inr ⟨g, c, _, rfl, hbg, setRow_heap w g cur _ e _ hg, hroom, hcm, ?_, ?_⟩⟩, ⟨rfl, rfl, rfl, by simp, fun k _ hk => setRow_other w g k _ (fun e => hk (by simp [e]))⟩⟩
      · simp [Builtin.append_, run_underlying ht, run_underlying htn, sizeOf, typeInfo, zeroValue, hi, hz, asInt, asIntOf, hw, hneg, hns, h48i, hroom, Addr.add_lit]
        rw [zeroCells_one hz1]
        simp at hst
        simp [hst]
      · simp only [List.size_toArray, List.length_append, List.length_take, List.length_drop, Array.length_toList]
        omega
      · rw [htake, ← hlen]
        exact List.take_left
  · have hr := Lib.run_append_grow_zeros (P := P) w t tn ty e i z kq kn ht htn hi hz a n c xs hold m h0 (by omega) (by omega) (by omega) (by omega) (growslice_fits (by omega) hbytes)
    have hge := grownCap_ge w (n + m) c e
    have hcm : grownCap w (n + m) c e ≤ maxLen := grownCap_le_maxLen w (n + m) c e h63
    refine ⟨_, _, _, hr, ⟨hlen, .inr ⟨w.heap.size, _, _, rfl, hbase, heap_alloc_new w.drew _, hge, hcm, ?_, ?_⟩⟩, ⟨rfl, rfl, rfl, by simp, fun k hk _ => Below.heap_alloc w.drew _ k hk⟩⟩
    · have h1 := hown.1
      rw [hsz, Nat.mul_one] at h1
      simp only [Array.size_append, List.size_toArray, size_zeroCells, hz1, hsz, h1, Nat.mul_one]
      simp
      omega
    · rw [Array.toList_append, Array.toList_append, zeroCells_one hz1, List.toList_toArray, ← hlen]
      exact List.take_left

/-- 'append(out, make([]T, k)...)', out owned -/
theorem append_zeros (hg : o.guard = none) (s x : Operand) (t tn : TypeId) (hop : o.op = Op.call { callee := Callee.builtin Builtin.append, args := #[s, x], argTypes := #[t, tn] })
    (e : TypeId) (z : Value) (bytes : Nat) (kq kn : IntKind) (ht : P.underlying t = some (.slice e)) (htn : P.underlying tn = some (.int kn)) (hi : (P.info? e).map (fun i => (i.zero, i.size, i.bytes)) = some (some z, 1, bytes)) (hz : z.cells = #[z]) (hone : z.oneCell' = true)
    (w0 : World) (B : Nat) (a : Option Addr) (n c : Nat) (xs : List Value) (hs : act.eval s = .slice a n c) (hown : Own w B e 1 a n c xs)
    (m : Nat) (iv : Int) (hx : act.eval x = .int kq iv) (hiv : iv = (m : Int)) (h0 : 0 < m)
    (hn : (n + m) * bytes ≤ 140737488355328) (hn2 : n + m ≤ maxLen) (hB : B ≤ w.heap.size) (hbel : Below B w0 w)
    (hK : ∀ a' c' w', Own w' B e 1 a' (n + m) c' (xs ++ List.replicate m z) → w.grownBy w' (a.map (·.block)) → Below B w0 w' → wpList P ops Q rest (act.put o.dst (.slice a' (n + m) c')) w') :
    wpList P ops Q (o :: rest) act w := by
  obtain ⟨i, hi0, hz0, hz1, hz2⟩ := info_parts hi
  subst hz2 hiv
  clear hi
  obtain ⟨a', c', w', hrun, ho, hgr⟩ := run_append_zeros (w := w) (P := P) B t tn o.type e i z kq kn ht htn hi0 hz0 hz hone hz1 a n c xs (by rw [hz1]; exact hown) m h0 hn2 hn hB
  rw [hz1] at ho
  refine wpList_plain hg fun K hK' => ?_
  unfold Oper.wp
  simp [execOp, hop, resolve, invoke, builtin, hs, hx, hrun, Result.andThen]
  refine hK' _ _ (hK a' c' w' ho hgr (hbel.grown hgr hB ?_))
  intro k hk
  cases a with
  | none => cases hk
  | some p => injection hk with hk; subst hk; exact hown.base.1
end laws
end Go.Dx
end

/- the text B23 -/
section
/- Chapter 06: slices.Clone, slices.Grow, slices.Concat of bytes. -/
namespace Go.Dx
open Go.RowKit
theorem Own.cut0 {w : World} {B : Nat} {e : TypeId} {a : Option Addr} {n c : Nat} {xs : List Value} (h : Own w B e 1 a n c xs) : Own w B e 1 a 0 c [] := by
  refine ⟨rfl, ?_⟩
  rcases h.2 with ⟨h1, _⟩ | ⟨g, cap, cur, h1, h2, h3, h4, h5, h6, h7⟩
  · left
    injection h1 with e1 e2 e3
    subst e1; subst e3
    exact ⟨rfl, rfl⟩
  · injection h1 with e1 e2 e3
    subst e1; subst e3
    exact .inr ⟨g, c, cur, rfl, h2, h3, Nat.zero_le _, h5, h6, by simp⟩
def sumK (x y : List UInt8) (k : Nat) : Nat := (([x, y].take k).map List.length).sum
def catK (x y : List UInt8) (k : Nat) : List UInt8 := ([x, y].take k).flatten
theorem sumK_step {x y l : List UInt8} {k : Nat} (h : [x, y][k]? = some l) : sumK x y (k + 1) = sumK x y k + l.length := by
  unfold sumK; rw [take_succ_get h, List.map_append, List.sum_append]; simp
theorem catK_step {x y l : List UInt8} {k : Nat} (h : [x, y][k]? = some l) : catK x y (k + 1) = catK x y k ++ l := by
  unfold catK; rw [take_succ_get h, List.flatten_append]; simp
theorem catK_two (x y : List UInt8) : catK x y 2 = x ++ y := by simp [catK]
end Go.Dx
namespace Go.Proofs.Ytjdnmbapmobaaaa
open Go.RowKit Go.Dx
section
variable {w : World} {ops : Array Oper} {rest : List Oper} {o : Oper} {act : Act} {Q : Exit → Act → World → Prop}
theorem app_z (hg : o.guard = none) (s x : Operand) (hop : o.op = Op.call { callee := Callee.builtin Builtin.append, args := #[s, x], argTypes := #[33, 3] })
    (w0 : World) (B : Nat) (a : Option Addr) (n c : Nat) (xs : List Value) (hs : act.eval s = .slice a n c) (hown : Own w B 5 1 a n c xs)
    (m : Nat) (iv : Int) (hx : act.eval x = .int .i64 iv) (hiv : iv = (m : Int)) (h0 : 0 < m) (hn : n + m ≤ 140737488355328) (hB : B ≤ w.heap.size) (hbel : Below B w0 w)
    (hK : ∀ a' c' w', Own w' B 5 1 a' (n + m) c' (xs ++ List.replicate m (.int .u8 0)) → w.grownBy w' (a.map (·.block)) → Below B w0 w' → wpList Try.prog ops Q rest (act.put o.dst (.slice a' (n + m) c')) w') :
    wpList Try.prog ops Q (o :: rest) act w :=
  append_zeros hg s x 33 3 hop 5 (.int .u8 0) 1 .i64 .i64 Try.underlying33 Try.underlying3 info_u8 rfl rfl w0 B a n c _ hs hown m iv hx hiv h0 (by omega) (by unfold maxLen; omega) hB hbel hK
end
set_option maxHeartbeats 400000 in
theorem clone6 (l : List UInt8) (a : Option Addr) (n c : Nat) (w : World) (hs : Sl w 1 a n c (l.map B8)) (hl : n ≤ 140737488355328) :
    Calls Try.prog 32 #[.slice a n c] w fun e w' => ∃ a' c', e = .returned (.slice a' n c') ∧ Own w' w.heap.size 5 1 a' n c' (l.map B8) ∧ Below w.heap.size w w' := by
  obtain rfl := hs.n_eq
  have q47 : ∀ (w : World) (a : Option Addr) (n c n' c' : Nat), (binOp .eql 33 (.slice a n c) (.slice none n' c')).run Try.prog w = .ok (.bool a.isNone) w := fun w a n c n' c' => Lib.run_eql_slice_nil w _ _ a n c n' c' Try.underlying33
  cases a with
  | none =>
    have h1 := hs.nil rfl
    have h2 := hs.le
    have h3 : l = [] := List.eq_nil_of_length_eq_zero (by omega)
    subst h3 h1
    clear h2 hl
    go_enter Try.func32, Try.ntmps32
    go_wp2_with fail
    go_ret
    exact ⟨none, 0, rfl, Own.nil _ _ _ _, Below.refl _ _⟩
  | some p =>
    have ho := Own.built w w.heap.size 5 1 0 #[] (Nat.le_refl _) rfl (by decide)
    have hb := blo w (.cells #[] 5)
    have hs2 := hs.alloc (.cells #[] 5)
    go_enter Try.func32, Try.ntmps32
    go_wp2_with (at_builtin; refine app_bs rfl _ _ rfl w w.heap.size _ 0 0 _ rfl ho _ l.length c l rfl hs2 (by omega) (by simp) hb ?_; intro a' c' w' ho' hgr' hb')
    go_ret
    exact ⟨a', c', by rw [← Nat.zero_add l.length]; rfl, by rw [Nat.zero_add] at ho'; exact ho', hb'⟩
set_option maxHeartbeats 400000 in
theorem grow6 (N : Nat) (hN : N ≤ 2000000) (w : World) :
    Calls Try.prog 51 #[.slice none 0 0, .int .i64 (N : Int)] w fun e w' => ∃ a' c', e = .returned (.slice a' 0 c') ∧ Own w' w.heap.size 5 1 a' 0 c' [] ∧ Below w.heap.size w w' := by
  by_cases h0 : 0 < N
  · have d0 : decide ((N : Int) < 0) = false := decide_eq_false (by omega)
    have d1 : decide (0 < N) = true := decide_eq_true h0
    have d2 : decide ((0 : Int) < (N : Int)) = true := decide_eq_true (by omega)
    have hn0 := Own.nil w w.heap.size 5 1
    go_enter Try.func51, Try.ntmps51
    go_wp2_with (first
      | (at_builtin; refine app_z rfl _ _ rfl w w.heap.size _ 0 0 _ rfl hn0 N _ rfl rfl h0 (by omega) (Nat.le_refl _) (Below.refl _ _) ?_; intro a' c' w' ho' hgr' hb'; rw [Nat.zero_add] at ho' ⊢; have hs' := ho'.sl)
      | (with_reducible refine cut_hi 25 33 _ _ 5 Try.underlying33 1 size_u8 a' N c' _ rfl hs' _ _ 0 rfl rfl (Nat.zero_le _) ?_; intro hz))
    go_ret
    exact ⟨a', c', rfl, ho'.cut0, hb'⟩
  · obtain rfl : N = 0 := by omega
    go_enter Try.func51, Try.ntmps51
    go_wp2_with fail
    go_ret
    exact ⟨none, 0, rfl, Own.nil _ _ _ _, Below.refl _ _⟩
set_option maxHeartbeats 1000000 in
theorem concat6 (x y : List UInt8) (a1 a2 : Option Addr) (c1 c2 : Nat) (pa : Option Addr) (pc : Nat) (w : World) (hp : Sl w 1 pa 2 pc [.slice a1 x.length c1, .slice a2 y.length c2]) (hx : Sl w 1 a1 x.length c1 (x.map B8)) (hy : Sl w 1 a2 y.length c2 (y.map B8)) (hxl : x.length ≤ 1000) (hyl : y.length ≤ 1000) :
    Calls Try.prog 42 #[.slice pa 2 pc] w fun e w' => ∃ a' c', e = .returned (.slice a' (x ++ y).length c') ∧ Own w' w.heap.size 5 1 a' (x ++ y).length c' ((x ++ y).map B8) ∧ Below w.heap.size w w' := by
  have HROW : Hid (∀ k, k < 2 → ∃ l a c, [Value.slice a1 x.length c1, .slice a2 y.length c2][k]? = some (.slice a l.length c) ∧ [x, y][k]? = some l ∧ Sl w 1 a l.length c (l.map B8) ∧ l.length ≤ 1000) :=
    hide (two_cases ⟨_, _, _, rfl, rfl, hx, hxl⟩ ⟨_, _, _, rfl, rfl, hy, hyl⟩)
  clear hx hy hxl hyl
  go_enter Try.func42, Try.ntmps42
  go_wp2_with fail
  go_loopg [3, 11] 2 (fun gh s v w' => ∃ k S : Nat, k ≤ 2 ∧ gh = 2 - k ∧ S ≤ k * 1000 ∧ Hid (sumK x y k = S) ∧ s = .int .i64 (S : Int) ∧ v = .int .i64 (k : Int) ∧ w = w')
  case atStart => exact ⟨0, 0, by omega, by omega, by omega, hide rfl, rfl, rfl, rfl⟩
  case round =>
    obtain ⟨k, S, hk, hg, hS, HS, rfl, rfl, rfl⟩ := hrel
    have HG := hide hg
    clear hg
    by_cases hkl : k < 2
    · obtain ⟨l, a, c, hck, hrk, hsl, hll⟩ := HROW.out k hkl
      have HCK := hide hck
      have HS2 : Hid (sumK x y (k + 1) = S + l.length) := hide (by rw [sumK_step hrk, HS.out])
      have d0 : decide ((S : Int) + (l.length : Int) < 0) = false := decide_eq_false (by omega)
      clear hck hrk
      go_wp2_with (with_reducible refine idx_bb 13 _ _ _ _ _ _ rfl hp _ _ k rfl rfl _ HCK.out ?_; intro b o hcell hbo)
      go_roundg (2 - (k + 1))
      case measure => have := HG.out; omega
      case rel => exact ⟨k + 1, S + l.length, by omega, rfl, by omega, HS2, by go_num, by go_num, rfl⟩
    · obtain rfl : k = 2 := by omega
      have hgr := grow6 S (by omega) w
      go_wp2_with (go_at_call 51; refine hgr.mono ?_; rintro e w1 ⟨a0, c0, rfl, ho, hb⟩)
      clear hgr hkl hk HG HS
      go_loopg [6, 27] 2 (fun gh s v w' => ∃ (k : Nat) (F : List UInt8) (a : Option Addr) (c : Nat), k ≤ 2 ∧ gh = 2 - k ∧ F.length ≤ k * 1000 ∧ Hid (catK x y k = F) ∧ s = .slice a F.length c ∧ v = .int .i64 (k : Int) ∧ Own w' w.heap.size 5 1 a F.length c (F.map B8) ∧ Below w.heap.size w w')
      case atStart => exact ⟨0, [], a0, c0, by omega, by omega, by simp, hide rfl, rfl, rfl, ho, hb⟩
      case round =>
        clear ho hb
        obtain ⟨k, F, a, c, hk, hg, hF, HF, rfl, rfl, ho, hb⟩ := hrel
        have HG := hide hg
        clear hg
        by_cases hkl : k < 2
        · obtain ⟨l, a3, c3, hck, hrk, hsl, hll⟩ := HROW.out k hkl
          have HCK := hide hck
          have HF2 : Hid (catK x y (k + 1) = F ++ l) := hide (by rw [catK_step hrk, HF.out])
          have hpr := hp.below hb
          have hsr := hsl.below hb
          clear hck hrk
          go_wp2_with (first
            | (with_reducible refine idx_bb 29 _ _ _ _ _ _ rfl hpr _ _ k rfl rfl _ HCK.out ?_; intro b o hcell hbo)
            | (at_builtin; refine app_bs rfl _ _ rfl w w.heap.size _ _ _ _ rfl ho _ _ _ l rfl hsr (by omega) hb.size hb ?_; intro a' c' w' ho' hgr' hb'))
          go_roundg (2 - (k + 1))
          case measure => have := HG.out; omega
          case rel => exact ⟨k + 1, F ++ l, a', c', by omega, rfl, by rw [List.length_append]; omega, HF2, by rw [List.length_append], by go_num, by rw [List.length_append, List.map_append]; exact ho', hb'⟩
        · obtain rfl : k = 2 := by omega
          have hF2 := HF.out
          rw [catK_two] at hF2
          subst hF2
          go_wp2
          go_ret
          exact ⟨a, c, rfl, ho, hb⟩
end Go.Proofs.Ytjdnmbapmobaaaa
end

/- the text K3 -/
section
/- Chapter 37: Seal, Open. -/
set_option linter.unusedVariables false
namespace Go.Proofs.Ytjdnmbapmobaaaa
open Go.RowKit Go.Dx Go.Al
set_option maxRecDepth 100000 in
set_option maxHeartbeats 2000000 in
theorem lk_Seal (key : UInt64) (l : List UInt8) (a : Option Addr) (n c : Nat) (w : World) (hs : Sl w 1 a n c (l.map B8)) (hl : l.length ≤ 1000) {R : List UInt8} (hR : sealL key l = R) :
    Calls Try.prog 24 #[V64 key, .slice a n c] w (Gives 5 1 R.length (R.map B8) w) := by
  obtain rfl := hs.n_eq
  obtain ⟨Z, hZ⟩ : ∃ Z, Hid (zero8 = Z) := ⟨_, rfl⟩
  have h16 := zero_8
  rw [hZ.out] at h16
  have hZl : Hid (Z.length = 8) := hide (by rw [← hZ.out]; rfl)
  obtain ⟨S, HS⟩ : ∃ S, Hid (sealB key l = S) := ⟨_, rfl⟩
  have hSl : Hid (S.length = 8) := hide (by rw [← HS.out]; exact sealB_len _ _)
  have hzS : Hid ((Try.prog.info? 79).map (·.size) = some (S.map B8).length) := hide (by rw [List.length_map, hSl.out]; exact size_8')
  have HR : Hid (l ++ S = R) := hide (by rw [← hR, ← HS.out]; rfl)
  have hs0 := hide hs
  clear hR
  go_enter Try.func24, Try.ntmps24
  go_wp2_with fail
  refine (lk_seal key l a _ c w hs0.out HS.out).mono ?_
  rintro e w1 ⟨rfl, b1⟩
  go_wp2_with (with_reducible refine hold_store ?_)
  refine hide ?_
  refine store_all 79 _ _ 79 w1.heap.size (Z.map B8) (S.map B8) (.agg (S.map B8).toArray) hzS.out (Box.new w1 _ _) (by rfl) (by rfl) rfl (by rw [List.length_map, hSl.out, List.length_map, hZl.out]) (one_map _ (fun _ => rfl) _) ?_
  intro w2 x5 hgr hsz'
  have h2 : Below w1.heap.size w1 w2 := (sblo w1 _).grown hgr (by simp) (fun k hk => by cases hk; exact Nat.le_refl _)
  have b2 := b1.trans (h2.mono b1.size)
  generalize w1.heap.size = G5 at *
  clear hgr hsz' h2
  go_wp2_with (with_reducible refine cut_var 10 79 5 8 _ none none Try.underlying79 size_u8 G5 0 rfl 0 8 (.inl ⟨rfl, rfl⟩) (.inl ⟨rfl, rfl⟩) (by omega) (by omega) (by omega) ?_)
  have hsy : Sl w2 1 (some ⟨G5, 0, none⟩) S.length 8 (S.map B8) := by rw [hSl.out]; exact x5.sl_al (by rw [List.length_map, hSl.out]) (by decide)
  have hsx := hs0.out.below b2
  have hp := Sl.fresh w2 33 1 2 [.slice a l.length c, .slice (some ⟨G5, 0, none⟩) S.length 8] rfl (by decide)
  have b3 := blo3 b2 (Nat.le_refl _) (.cells #[.slice a l.length c, .slice (some ⟨G5, 0, none⟩) S.length 8] 33)
  rw [hSl.out] at hp b3
  have hc := concat6 l S a (some ⟨G5, 0, none⟩) c 8 (some ⟨w2.heap.size, 0, none⟩) 2 _ (by rw [hSl.out]; exact hp) (hsx.alloc _) (hsy.alloc _) hl (by rw [hSl.out]; decide)
  refine hc.mono ?_
  rintro e w3 ⟨a', c', rfl, o3, h3⟩
  rw [HR.out] at o3
  rw [HR.out]
  go_wp2_with fail
  go_ret
  exact ⟨a', c', rfl, o3.mono (by have := b3.size; exact this), b3.trans (h3.mono b3.size)⟩
end Go.Proofs.Ytjdnmbapmobaaaa
end

/- the text Free -/
section
/- A region that draws its order and whose operations make memory: shown operation by operation, whatever the order. Each operation of the head leaves a value in its slot and a fact on it that stays true when memory grows; the tail waits for the whole head. No program in sight. -/
set_option linter.unusedVariables false
namespace Go.Dx
open Go.RowKit

theorem wp_both {P : Program} {o : Oper} {a : Act} {w : World} {K K' : Act → World → Prop} {Q Q' : Exit → Act → World → Prop} (h : ∀ a w, K a w → K' a w) (hp : ∀ e a w, e ≠ .normal → Q e a w → Q' e a w)
    (hh : o.wp P a w K Q) : o.wp P a w K' Q' := by
  unfold Oper.wp at *
  generalize (execOp a.eval o).run P w = r at *
  cases r with
  | ok n w' =>
    cases n <;> simp only [Oper.upon] at hh ⊢ <;>
      first
        | exact h _ _ hh
        | exact Calls.mono hh (fun e w'' he => by
            cases e <;> first
              | exact h _ _ he
              | exact hp _ _ _ (by simp) he
              | (obtain ⟨a1, w1, h1⟩ := he; exact ⟨a1, w1, hp _ _ _ (by simp) h1⟩))
        | exact Rows.mono hh (fun _ _ he => h _ _ he)
  | halt x w' => cases x <;> simp only [Oper.upon] at hh ⊢ <;> first | exact hp _ _ _ (by simp) hh | exact hh

theorem opt_bool {x : Option Value} {b : Bool} (h : x.getD undef = .bool b) : x = some (.bool b) := by
  cases x with
  | none => simp [undef] at h
  | some v => rw [← h]; rfl
/-- one operation of the head: its number, its slot, the slots that its fact speaks of, the fact -/
structure HOp where
  i : Nat
  d : Nat
  s : List Nat
  p : List Value → World → Prop

def HOp.fact (t : HOp) (a : Act) (w : World) : Prop := t.p (t.s.map fun k => a.tmps.getD k undef) w
/-- what an operation leaves -/
def OneDone (d : Nat) (a : Act) (w : World) (R : Value → World → Prop) (e : Exit) (a' : Act) (w' : World) : Prop := e = .normal ∧ ∃ v, a' = a.put (some d) v ∧ Below w.heap.size w w' ∧ R v w'

section
variable {P : Program}

def putAll (a : Act) : List (Nat × Value) → Act
  | [] => a
  | (d, v) :: l => putAll (a.put (some d) v) l
theorem putAll_defers (a : Act) : ∀ l, (putAll a l).defers = a.defers := by
  intro l
  induction l generalizing a with
  | nil => rfl
  | cons x l ih => obtain ⟨d, v⟩ := x; rw [putAll, ih]; rfl
theorem putAll_size (a : Act) : ∀ l, (putAll a l).tmps.size = a.tmps.size := by
  intro l
  induction l generalizing a with
  | nil => rfl
  | cons x l ih => obtain ⟨d, v⟩ := x; rw [putAll, ih]; simp [Act.put]
theorem put_get (a : Act) (d k : Nat) (v : Value) : (a.put (some d) v).tmps.getD k undef = if d = k ∧ d < a.tmps.size then v else a.tmps.getD k undef := by
  unfold Act.put
  simp only [Array.getD_eq_getD_getElem?, Array.getElem?_setIfInBounds]
  by_cases h : d = k
  · subst h
    by_cases h2 : d < a.tmps.size
    · simp [h2]
    · simp [h2]
  · simp [h]
theorem putAll_get (g : Nat → Value) : ∀ (L : List Nat) (a : Act) (k : Nat), (∀ d ∈ L, d < a.tmps.size) → (putAll a (L.map fun d => (d, g d))).tmps.getD k undef = if k ∈ L then g k else a.tmps.getD k undef := by
  intro L
  induction L with
  | nil => intro a k _; simp [putAll]
  | cons d L ih =>
    intro a k hs
    have hd := hs d List.mem_cons_self
    rw [List.map_cons, putAll, ih _ _ (fun e he => by simp [Act.put]; exact hs e (List.mem_cons_of_mem _ he)), put_get]
    by_cases h1 : k ∈ L
    · rw [if_pos h1, if_pos (List.mem_cons_of_mem _ h1)]
    · rw [if_neg h1]
      by_cases h2 : d = k
      · subst h2; rw [if_pos ⟨rfl, hd⟩, if_pos List.mem_cons_self]
      · rw [if_neg (fun h => h2 h.1), if_neg (fun h => by rcases List.mem_cons.1 h with h | h; exact h2 h.symm; exact h1 h)]
theorem act_ext {a b : Act} (h1 : a.defers = b.defers) (h2 : a.tmps.size = b.tmps.size) (h3 : ∀ k, a.tmps.getD k undef = b.tmps.getD k undef) : a = b := by
  obtain ⟨x, d⟩ := a
  obtain ⟨y, e⟩ := b
  simp only at h1 h2 h3
  subst h1
  congr 1
  apply Array.ext h2
  intro k hk1 hk2
  have := h3 k
  simpa [Array.getD, hk1, hk2] using this

theorem inj_nodup {α : Type} (f : α → Nat) : ∀ (T : List α), (T.map f).Nodup → ∀ t ∈ T, ∀ u ∈ T, f t = f u → t = u := by
  intro T
  induction T with
  | nil => intro _ t ht; cases ht
  | cons x T ih =>
    intro h t ht u hu e
    rw [List.map_cons, List.nodup_cons] at h
    rcases List.mem_cons.1 ht with h1 | h1 <;> rcases List.mem_cons.1 hu with h2 | h2
    · rw [h1, h2]
    · exact absurd (show f x ∈ T.map f from List.mem_map.2 ⟨u, h2, by rw [← e, h1]⟩) h.1
    · exact absurd (show f x ∈ T.map f from List.mem_map.2 ⟨t, h1, by rw [e, h2]⟩) h.1
    · exact ih h.2 t h1 u h2 e
/-- a property of each element of a list, written out -/
def All {α : Type} (R : α → Prop) : List α → Prop
  | [] => True
  | x :: l => R x ∧ All R l
theorem All.mem {α : Type} {R : α → Prop} : ∀ {l : List α}, All R l → ∀ x ∈ l, R x
  | y :: l, h, x, hx => by
    rcases List.mem_cons.1 hx with rfl | hx
    · exact h.1
    · exact All.mem h.2 x hx
/-- the conditions on the text alone -/
def headOk (l : List Oper) (n : Nat) (T : List (Nat × Nat × List Nat)) (size : Nat) : Bool :=
  let ops := l.toArray
  decide ((T.map (·.1)).Nodup) && decide (n < l.length) && Region.sinkB .any ops n && Region.chainB .any ops n && Region.seqB .any ops (l.length - n) n ((List.replicate n true ++ List.replicate (l.length - n) false).toArray) &&
  (List.range n).all (fun j => T.any fun t => t.1 == j) &&
  T.all (fun t => decide (t.1 < n) && decide (t.2.1 < size) && (match l[t.1]? with | some o => o.dst == some t.2.1 && (o.after.all fun e => !Region.binds .any e || decide (e.on < t.1)) | none => false)) &&
  T.all (fun t => T.all fun u => t.1 == u.1 || (t.2.1 != u.2.1 && (!u.2.2.contains t.2.1 || Region.waitsFor .any ops u.1 t.1)))

structure FreeInv (l : List Oper) (n : Nat) (T : List HOp) (a0 : Act) (w0 : World) (listed : Array Bool) (a : Act) (w : World) : Prop where
  inv : HeadInv .any l.toArray n listed
  defers : a.defers = a0.defers
  size : a.tmps.size = a0.tmps.size
  frame : ∀ k, (∀ t ∈ T, t.d ≠ k) → a.tmps.getD k undef = a0.tmps.getD k undef
  bel : Below w0.heap.size w0 w
  facts : ∀ t ∈ T, listed.getD t.i false = true → t.fact a w

def todo (listed : Array Bool) (n : Nat) : Nat := ((List.range n).filter fun j => !listed.getD j true).length
theorem todo_set {listed : Array Bool} {n i : Nat} (hi : i < n) (hl : listed.getD i true = false) : todo (listed.setIfInBounds i true) n + 1 = todo listed n := by
  unfold todo
  have hlt : i < listed.size := by
    rcases Nat.lt_or_ge i listed.size with h | h
    · exact h
    · simp [Array.getElem?_eq_none h] at hl
  have key : ∀ m, ((List.range m).filter fun j => !(listed.setIfInBounds i true).getD j true).length + (if i < m then 1 else 0) = ((List.range m).filter fun j => !listed.getD j true).length := by
    intro m
    induction m with
    | zero => simp
    | succ m ih =>
      rw [List.range_succ, List.filter_append, List.filter_append, List.length_append, List.length_append]
      by_cases him : i = m
      · subst him
        have e1 : (listed.setIfInBounds i true).getD i true = true := by simp [hlt]
        rw [if_neg (Nat.lt_irrefl _)] at ih
        rw [if_pos (Nat.lt_succ_self _), ← ih]
        simp only [List.filter_cons, List.filter_nil, e1, hl, Bool.not_true, Bool.not_false, Bool.false_eq_true, if_false, if_true, List.length_nil, List.length_singleton]
      · have e2 : (List.filter (fun j => !(listed.setIfInBounds i true).getD j true) [m]) = List.filter (fun j => !listed.getD j true) [m] := by simp only [List.filter_cons, List.filter_nil, getD_set_ne true him]
        rw [e2]
        by_cases h : i < m
        · rw [if_pos h] at ih; rw [if_pos (by omega)]; omega
        · rw [if_neg h] at ih; rw [if_neg (by omega)]; omega
  have := key n
  rw [if_pos hi] at this
  exact this

theorem wp_region_free {id : Nat} {Q : Exit → Act → World → Prop} {a0 : Act} {w0 : World} {l : List Oper} (n : Nat) (T : List HOp) (hm : P.follows .mixedOrders = true)
    (hB : headOk l n (T.map fun t => (t.i, t.d, t.s)) a0.tmps.size = true)
    (hmono : All (fun t : HOp => ∀ vs w w', Below w.heap.size w w' → t.p vs w → t.p vs w') T)
    (hop : All (fun t : HOp => ∀ o, l[t.i]? = some o → ∀ (a : Act) (w : World), Below w0.heap.size w0 w →
      (∀ k, (T.map (·.d)).contains k = false → a.tmps.getD k undef = a0.tmps.getD k undef) →
      (∀ (k : Nat) (u : HOp), T[k]? = some u → Region.waitsFor .any l.toArray t.i u.i = true → u.p (u.s.map fun k => a.tmps.getD k undef) w) →
      wpList P l.toArray (OneDone t.d a w fun v w' => t.p (t.s.map fun k => if t.d = k then v else a.tmps.getD k undef) w') [o] a w) T)
    (hend : ∀ (g : Nat → Value) (w : World), Below w0.heap.size w0 w → (∀ (k : Nat) (u : HOp), T[k]? = some u → u.p (u.s.map fun k => if k ∈ T.map (·.d) then g k else a0.tmps.getD k undef) w) →
      wpList P l.toArray Q (l.drop n) (putAll a0 ((T.map (·.d)).map fun d => (d, g d))) w) : (Code.region id l.toArray true).wp P Q a0 w0 := by
  simp only [headOk, Bool.and_eq_true, decide_eq_true_eq] at hB
  obtain ⟨⟨⟨⟨⟨⟨⟨hnd, hn⟩, hs⟩, hc⟩, hseq⟩, hcov⟩, hT⟩, hpair⟩ := hB
  have hnodup : ∀ t ∈ T, ∀ u ∈ T, t.i = u.i → t = u := inj_nodup (·.i) T (by rw [List.map_map] at hnd; exact hnd)
  have hn' : n < l.toArray.size := by simpa using hn
  have cover : ∀ j, j < n → ∃ t ∈ T, t.i = j := by
    intro j hj
    have h := List.all_eq_true.1 hcov j (List.mem_range.2 hj)
    obtain ⟨x, hx, he⟩ := List.any_eq_true.1 h
    obtain ⟨t, ht, rfl⟩ := List.mem_map.1 hx
    exact ⟨t, ht, by simpa using he⟩
  have own : ∀ t ∈ T, t.i < n ∧ t.d < a0.tmps.size ∧ ∃ o, l[t.i]? = some o ∧ o.dst = some t.d ∧ ∀ e ∈ o.after, Region.binds .any e = true → e.on < t.i := by
    intro t ht
    have h := List.all_eq_true.1 hT _ (List.mem_map.2 ⟨t, ht, rfl⟩)
    simp only [Bool.and_eq_true, decide_eq_true_eq] at h
    obtain ⟨⟨h1, h2⟩, h3⟩ := h
    refine ⟨h1, h2, ?_⟩
    cases ho : l[t.i]? with
    | none => rw [ho] at h3; cases h3
    | some o =>
      rw [ho] at h3
      simp only [Bool.and_eq_true, beq_iff_eq] at h3
      refine ⟨o, rfl, h3.1, fun e he hb => ?_⟩
      have := Array.all_eq_true_iff_forall_mem.1 h3.2 e he
      simpa [hb] using this
  have pair : ∀ t ∈ T, ∀ u ∈ T, t.i ≠ u.i → t.d ≠ u.d ∧ (t.d ∈ u.s → Region.waitsFor .any l.toArray u.i t.i = true) := by
    intro t ht u hu hne
    have h := List.all_eq_true.1 (List.all_eq_true.1 hpair _ (List.mem_map.2 ⟨t, ht, rfl⟩)) _ (List.mem_map.2 ⟨u, hu, rfl⟩)
    simp only [Bool.or_eq_true, beq_iff_eq, hne, false_or, Bool.and_eq_true, bne_iff_ne, ne_eq, Bool.not_eq_true'] at h
    refine ⟨h.1, fun hin => ?_⟩
    rcases h.2 with h2 | h2
    · have : u.s.contains t.d = true := by simpa using hin
      rw [this] at h2; cases h2
    · exact h2
  have key : ∀ (f : Nat) (listed : Array Bool) (a : Act) (w : World), FreeInv l n T a0 w0 listed a w → todo listed n = f → wpAny P .any l.toArray Q (f + (l.length - n)) listed a w := by
    intro f
    induction f with
    | zero =>
      intro listed a w I h0
      have hall : ∀ j, j < n → listed.getD j true = true := by
        intro j hj
        cases hb : listed.getD j true with
        | true => rfl
        | false =>
          have : j ∈ (List.range n).filter fun j => !listed.getD j true := List.mem_filter.2 ⟨List.mem_range.2 hj, by rw [hb]; rfl⟩
          unfold todo at h0
          rw [List.eq_nil_of_length_eq_zero h0] at this
          cases this
      have hlist : listed = (List.replicate n true ++ List.replicate (l.length - n) false).toArray := by
        have hsz := I.inv.size
        apply Array.ext
        · simp at hsz ⊢; omega
        · intro j h1 h2
          by_cases hj : j < n
          · have := hall j hj
            simp [Array.getD, h1] at this
            simp [this, List.getElem_append_left, hj]
          · have := I.inv.tail j (by omega) (by rw [← hsz]; exact h1)
            simp [Array.getD, h1] at this
            simp only [this, List.getElem_toArray]
            rw [List.getElem_append_right (by simp; omega)]
            simp
      have ha : a = putAll a0 ((T.map (·.d)).map fun d => (d, a.tmps.getD d undef)) := by
        have hd : ∀ d ∈ T.map (·.d), d < a0.tmps.size := by
          intro d hd
          obtain ⟨t, ht, rfl⟩ := List.mem_map.1 hd
          exact (own t ht).2.1
        refine act_ext (by rw [putAll_defers]; exact I.defers) (by rw [putAll_size]; exact I.size) (fun k => ?_)
        rw [putAll_get (fun d => a.tmps.getD d undef) _ _ _ hd]
        by_cases h : k ∈ T.map (·.d)
        · rw [if_pos h]
        · rw [if_neg h]
          exact I.frame k (fun t ht e => h (List.mem_map.2 ⟨t, ht, e⟩))
      have hfin := hend (fun d => a.tmps.getD d undef) w I.bel (fun k u hu => by
        have hu' := List.mem_of_getElem? hu
        have h1 := I.facts u hu' (by
          have := hall u.i (own u hu').1
          rcases Nat.lt_or_ge u.i listed.size with h' | h'
          · simp [h'] at this ⊢; exact this
          · have := I.inv.size; have := (own u hu').1; omega)
        unfold HOp.fact at h1
        have e : (u.s.map fun k => if k ∈ T.map (·.d) then a.tmps.getD k undef else a0.tmps.getD k undef) = u.s.map fun k => a.tmps.getD k undef := by
          apply List.map_congr_left
          intro k _
          by_cases h : k ∈ T.map (·.d)
          · rw [if_pos h]
          · rw [if_neg h]
            exact (I.frame k (fun t ht e => h (List.mem_map.2 ⟨t, ht, e⟩))).symm
        rw [e]
        exact h1)
      rw [← ha] at hfin
      rw [Nat.zero_add]
      have hseq' : Region.seqB .any l.toArray (l.drop n).length n listed = true := by rw [hlist, List.length_drop]; exact hseq
      have := wpAny_of_seq (md := .any) (Q' := Q) (l.drop n) n listed a w (fun j => by simp [List.getElem?_drop]) hseq' hfin
      rwa [List.length_drop] at this
    | succ f ih =>
      intro listed a w I hf
      have hex : ∃ j, j < n ∧ listed.getD j true = false := by
        cases hL : (List.range n).filter fun j => !listed.getD j true with
        | nil => unfold todo at hf; rw [hL] at hf; cases hf
        | cons j L =>
          have : j ∈ (List.range n).filter fun j => !listed.getD j true := by rw [hL]; exact List.mem_cons_self
          obtain ⟨h1, h2⟩ := List.mem_filter.1 this
          exact ⟨j, List.mem_range.1 h1, by simpa using h2⟩
      have hready : Region.ready .any l.toArray listed ≠ [] := by
        have hmin : ∀ m j, j ≤ m → j < n → listed.getD j true = false → ∃ i, i ∈ Region.ready .any l.toArray listed := by
          intro m
          induction m with
          | zero =>
            intro j hj hjn hjl
            have hj0 : j = 0 := by omega
            subst hj0
            obtain ⟨t, ht, hti⟩ := cover 0 hjn
            obtain ⟨_, _, o, ho, _, hb⟩ := own t ht
            rw [hti] at ho hb
            exact ⟨0, mem_ready.2 ⟨hjl, o, by simpa using ho, fun e he hbe => absurd (hb e he hbe) (by omega)⟩⟩
          | succ m ihm =>
            intro j hj hjn hjl
            obtain ⟨t, ht, hti⟩ := cover j hjn
            obtain ⟨_, _, o, ho, _, hb⟩ := own t ht
            rw [hti] at ho hb
            by_cases hall : ∀ e ∈ o.after, Region.binds .any e = true → listed.getD e.on false = true
            · exact ⟨j, mem_ready.2 ⟨hjl, o, by simpa using ho, hall⟩⟩
            · simp only [Classical.not_forall] at hall
              obtain ⟨e, he, hbe, hne⟩ := hall
              have hlt := hb e he hbe
              have hes : e.on < listed.size := by rw [I.inv.size]; simp; omega
              exact ihm e.on (by omega) (by omega) (getD_in hes (by simpa using hne))
        obtain ⟨j, hj, hjl⟩ := hex
        obtain ⟨i, hi⟩ := hmin j j (Nat.le_refl _) hj hjl
        intro h
        rw [h] at hi
        cases hi
      rw [show f + 1 + (l.length - n) = (f + (l.length - n)) + 1 by omega]
      refine ⟨fun h => absurd h hready, fun i hi => ?_⟩
      have hin : i < n := by
        rcases Nat.lt_or_ge i n with h | h
        · exact h
        · obtain ⟨j, hj, hjl⟩ := hex
          exact absurd hi (tail_waits hs hc hn' I.inv _ j rfl hj hjl i h)
      obtain ⟨t, ht, hti⟩ := cover i hin
      obtain ⟨_, htd, o, ho, hdst, _⟩ := own t ht
      obtain ⟨hil, oi, hoi, hafter⟩ := mem_ready.1 hi
      have hoo : oi = o := by rw [hti] at ho; exact Option.some.inj (hoi.symm.trans (by simpa using ho))
      subst hoo
      have H := hop.mem t ht oi ho a w I.bel (fun k hk => I.frame k (fun u hu e => by
          have : (T.map (·.d)).contains k = true := by simpa using ⟨u, hu, e⟩
          rw [this] at hk; cases hk)) (fun k u hu hw => by
        have hu' := List.mem_of_getElem? hu
        obtain ⟨oj, hoj, e, he, hb, hon⟩ := Region.waitsFor_spec hw
        have : oj = oi := by rw [hti] at hoj; exact Option.some.inj (hoj.symm.trans hoi)
        subst this
        have h1 := hafter e he hb
        rw [hon] at h1
        exact I.facts u hu' h1)
      have step : ∀ (a' : Act) (w' : World), OneDone t.d a w (fun v w' => t.p (t.s.map fun k => if t.d = k then v else a.tmps.getD k undef) w') .normal a' w' → wpAny P .any l.toArray Q (f + (l.length - n)) (listed.setIfInBounds i true) a' w' := by
        intro a' w' h
        obtain ⟨_, v, rfl, hbel, hp⟩ := h
        refine ih _ _ _ ⟨I.inv.set hi hin, I.defers, ?_, ?_, ?_, ?_⟩ ?_
        · rw [← I.size]; simp [Act.put]
        · intro k hk
          rw [put_get, if_neg (fun h => hk t ht h.1)]
          exact I.frame k hk
        · exact I.bel.trans (hbel.mono I.bel.size)
        · intro u hu hul
          by_cases hui : t.i = u.i
          · have hd : u.d = t.d ∨ True := .inr trivial
            unfold HOp.fact
            by_cases hut : u = t
            · subst hut
              have e : (u.s.map fun k => (a.put (some u.d) v).tmps.getD k undef) = u.s.map fun k => if u.d = k then v else a.tmps.getD k undef := by
                apply List.map_congr_left
                intro k _
                rw [put_get, I.size]
                by_cases hk : u.d = k
                · rw [if_pos ⟨hk, htd⟩, if_pos hk]
                · rw [if_neg (fun h => hk h.1), if_neg hk]
              rw [e]
              exact hp
            · exact absurd (hnodup t ht u hu hui).symm hut
          · unfold HOp.fact
            have hul2 : listed.getD u.i false = true := by rw [← getD_set_ne false (i := i) (j := u.i) (by rw [← hti]; exact hui)]; exact hul
            have h1 := hmono.mem u hu _ _ _ hbel (I.facts u hu hul2)
            have hnot : t.d ∉ u.s := by
              intro hin2
              have hw := (pair t ht u hu hui).2 hin2
              obtain ⟨ou, hou, e, he, hb, hon⟩ := Region.waitsFor_spec hw
              have := I.inv.closed u.i ou hou hul2 e he hb
              rw [hon, hti, getD_both hil] at this
              cases this
            have e : (u.s.map fun k => (a.put (some t.d) v).tmps.getD k undef) = u.s.map fun k => a.tmps.getD k undef := by
              apply List.map_congr_left
              intro k hk
              rw [put_get, if_neg (fun (h : t.d = k ∧ t.d < a.tmps.size) => hnot (by rw [h.1]; exact hk))]
            rw [e]
            exact h1
        · have := todo_set hin hil; omega
      unfold wpList at H
      unfold wpOp
      rw [hoi]
      simp only
      by_cases hwant : Region.wanted oi (yielded l.toArray a.tmps) = true
      · rw [if_pos hwant] at H
        rw [if_pos hwant]
        left
        rcases H with H | ⟨_, a1, w1, h1, _⟩
        · exact wp_both (fun a' w' h => step a' w' h) (fun e a' w' he h => absurd h.1 he) H
        · cases h1
      · rw [if_neg hwant] at H
        rw [if_neg hwant]
        exact step _ _ H
  refine wp_region_any hm ?_
  have inv0 : HeadInv .any l.toArray n (Array.replicate l.toArray.size false) :=
    ⟨by simp, fun j oj _ hl => (by rw [getD_replicate_false] at hl; cases hl), fun t _ ht => getD_in (by simpa using ht) (getD_replicate_false _ _)⟩
  have I0 : FreeInv l n T a0 w0 (Array.replicate l.toArray.size false) a0 { w0 with drawn := w0.drawn + 1 } :=
    ⟨inv0, rfl, rfl, fun _ _ => rfl, Still.below 1, fun t _ hl => (by rw [getD_replicate_false] at hl; cases hl)⟩
  have ht0 : todo (Array.replicate l.toArray.size false) n = n := by
    unfold todo
    rw [List.filter_eq_self.2 (fun j hj => by
      have hj' := List.mem_range.1 hj
      have : (Array.replicate l.toArray.size false).getD j true = false := getD_in (by simp; omega) (getD_replicate_false _ _)
      rw [this]; rfl), List.length_range]
  have := key n _ _ _ I0 ht0
  rwa [show n + (l.length - n) = l.toArray.size by simp; omega] at this
end
end Go.Dx
end
