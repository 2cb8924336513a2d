/- The contracts of the functions that the law reaches, joined into one text. -/
import Derived.Test.YtdeknimelkdaeaaBaseP23B
import Derived.Lib.AppendZerosOnto
import Derived.Lib.SliceRun
import Derived.Great.BuildSlice
set_option linter.unusedVariables false
set_option linter.unusedSimpArgs false

/- the text B4 -/
section
/- Chapter 06, in plain Lean: the steps hang on the word alone (Local). No program in sight. -/
namespace Go.Dx

/-- no letter of the language g -/
def noL (g : Int) (y : Sy) : Prop := ¬ (y.lang = g ∧ isL y.c = true)
def stopB (g : Int) (B : List Sy) : Prop := ∀ y, B[0]? = some y → noL g y
def stopP (g : Int) (P : List Sy) : Prop := ∀ y, P[P.length - 1]? = some y → noL g y
def wordA (g : Int) (A : List Sy) : Prop := ∀ y, y ∈ A → y.lang = g ∧ isL y.c = true

theorem same_cut {g : Int} {B : List Sy} (hB : stopB g B) : ∀ (s : List UInt8) (b : Bool) (A : List Sy), s.all isS = true → sameAt g b s (A ++ B) = sameAt g b s A := by
  intro s
  induction s with
  | nil => intro b A _; cases A <;> cases B <;> rfl
  | cons u s ih =>
    intro b A hs
    rw [List.all_cons, Bool.and_eq_true] at hs
    cases A with
    | nil =>
      cases B with
      | nil => rfl
      | cons y B =>
        have hy := hB y rfl
        simp only [List.nil_append, sameAt]
        by_cases h : low y.c = u ∧ y.lang = g
        · exact absurd ⟨h.2, isS_low (by rw [h.1]; exact hs.1)⟩ hy
        · by_cases h1 : low y.c = u
          · have h2 : y.lang ≠ g := fun e => h ⟨h1, e⟩
            simp [h2]
          · simp [h1]
    | cons x A =>
      simp only [List.cons_append, sameAt, ih false A hs.2]
theorem inWord_of {L : List Sy} {k : Nat} {x y : Sy} (h1 : L[k]? = some x) (h2 : L[k + 1]? = some y) : inWord L (k + 1) = (isL x.c && isL y.c && decide (x.lang = y.lang)) := by
  simp only [inWord, h1, h2]
theorem win {g : Int} {P A B : List Sy} (hP : stopP g P) (hA : wordA g A) (hB : stopB g B) {j : Nat} (hj : j ≤ A.length) (h0 : 0 < A.length) : inWord (P ++ (A ++ B)) (P.length + j) = decide (0 < j ∧ j < A.length) := by
  cases j with
  | zero =>
    simp only [Nat.add_zero, Nat.lt_irrefl, false_and, decide_false]
    cases hp : P.length with
    | zero => rfl
    | succ k =>
      have hk : k < P.length := by omega
      have e1 : (P ++ (A ++ B))[k]? = some P[k] := by rw [List.getElem?_append_left hk]; simp [hk]
      have e2 : (P ++ (A ++ B))[k + 1]? = some A[0] := by
        rw [List.getElem?_append_right (by omega), List.getElem?_append_left (by omega)]
        have : k + 1 - P.length = 0 := by omega
        rw [this]; simp [h0]
      rw [inWord_of e1 e2]
      have hn := hP P[k] (by rw [hp]; simp [hk])
      have ha := hA A[0] (List.getElem_mem _)
      cases hq : isL P[k].c
      · rfl
      · have : P[k].lang ≠ g := fun e => hn ⟨e, hq⟩
        simp [ha.1, this]
  | succ j =>
    have hj1 : j < A.length := by omega
    have e1 : (P ++ (A ++ B))[P.length + j]? = some A[j] := by
      rw [List.getElem?_append_right (by omega), Nat.add_sub_cancel_left, List.getElem?_append_left hj1]; simp [hj1]
    have ha := hA A[j] (List.getElem_mem _)
    rw [← Nat.add_assoc]
    by_cases hl : j + 1 < A.length
    · have e2 : (P ++ (A ++ B))[P.length + j + 1]? = some A[j + 1] := by
        rw [Nat.add_assoc, List.getElem?_append_right (by omega), Nat.add_sub_cancel_left, List.getElem?_append_left hl]; simp [hl]
      have hb := hA A[j + 1] (List.getElem_mem _)
      rw [inWord_of e1 e2]
      simp [ha.1, ha.2, hb.1, hb.2, hl]
    · have e : j + 1 = A.length := by omega
      have hd : decide (0 < j + 1 ∧ j + 1 < A.length) = false := by simp; omega
      rw [hd]
      have e2 : (P ++ (A ++ B))[P.length + j + 1]? = B[0]? := by
        rw [Nat.add_assoc, List.getElem?_append_right (by omega), Nat.add_sub_cancel_left, List.getElem?_append_right (by omega)]
        rw [e, Nat.sub_self]
      cases hb : B[0]? with
      | none => rw [hb] at e2; simp only [inWord, e1, e2]
      | some y =>
        rw [hb] at e2
        rw [inWord_of e1 e2, ha.1, ha.2]
        have hn := hB y hb
        cases hq : isL y.c
        · rfl
        · have : g ≠ y.lang := fun e => hn ⟨e.symm, hq⟩
          simp [this]
def winPlace (r : Ru) (j n : Nat) : Bool :=
  if r.whr = 1 then !decide (0 < j ∧ j < n) && !decide (0 < j + r.text.size ∧ j + r.text.size < n) else if r.whr = 2 then !decide (0 < j ∧ j < n) && decide (0 < j + r.text.size ∧ j + r.text.size < n) else if r.whr = 3 then decide (0 < j ∧ j < n) else true
/-- whether a rule fits, told by the word alone -/
def winFit (r : Ru) (A : List Sy) (j : Nat) (x : Sy) : Bool :=
  if small r.text then isL x.c && sameAt x.lang true (chars r.text) (A.drop j) && winPlace r j A.length else decide (chars r.text = [low x.c])
theorem fits_window {r : Ru} (hr : ruOk r = true) {P A B : List Sy} {x : Sy} {j : Nat} (hx : A[j]? = some x) (hw : isL x.c = true → stopP x.lang P ∧ wordA x.lang A ∧ stopB x.lang B) :
    fitsB r (P ++ (A ++ B)) (P.length + j) = winFit r A j x := by
  have hj := (List.getElem?_eq_some_iff.1 hx).1
  have hL : (P ++ (A ++ B))[P.length + j]? = some x := by
    rw [List.getElem?_append_right (by omega), Nat.add_sub_cancel_left, List.getElem?_append_left hj]; exact hx
  have hd : (P ++ (A ++ B)).drop (P.length + j) = A.drop j ++ B := by
    rw [List.drop_append, List.drop_of_length_le (by omega), List.nil_append, Nat.add_sub_cancel_left, List.drop_append_of_le_length (by omega)]
  have hdx : A.drop j = x :: A.drop (j + 1) := by
    rw [List.drop_eq_getElem_cons hj]
    congr 1
    exact (List.getElem?_eq_some_iff.1 hx).2
  obtain ⟨h1, _, _, _, _, hs⟩ := ru_parts hr
  have hlen : (chars r.text).length = r.text.size := Array.length_toList
  unfold fitsB winFit placeOk
  rw [hL, hd]
  by_cases hsm : small r.text = true
  · rw [if_pos hsm, hsm]
    simp only [Bool.not_true, Bool.false_or]
    by_cases hl : isL x.c = true
    · obtain ⟨hP, hA, hB⟩ := hw hl
      rw [same_cut hB _ _ _ hsm, hl, Bool.true_and]
      cases hq : sameAt x.lang true (chars r.text) (A.drop j)
      · rfl
      · have h3 := same_len _ _ _ hq
        rw [List.length_drop, hlen] at h3
        have w1 := win hP hA hB (j := j) (by omega) (by omega)
        have w2 := win hP hA hB (j := j + r.text.size) (by omega) (by omega)
        rw [← Nat.add_assoc] at w2
        rw [w1, w2]
        rfl
    · have hf : sameAt x.lang true (chars r.text) (A.drop j ++ B) = false := by
        rw [hdx]
        cases hc : chars r.text with
        | nil => rw [hc] at hlen; simp at hlen; omega
        | cons u s =>
          unfold small at hsm
          rw [hc, List.all_cons, Bool.and_eq_true] at hsm
          simp only [List.cons_append, sameAt]
          have : low x.c ≠ u := fun e => hl (isS_low (by rw [e]; exact hsm.1))
          simp [this]
      rw [hf]
      cases hq : isL x.c
      · rfl
      · exact absurd hq hl
  · rw [if_neg hsm]
    rcases hs with hs | ⟨hs, h0⟩
    · exact absurd hs hsm
    · unfold oneMark at hs
      cases hc : chars r.text with
      | nil => rw [hc] at hs; cases hs
      | cons u s =>
        cases s with
        | nil =>
          have hf : small r.text = false := by simpa using hsm
          rw [hdx, hf]
          simp only [List.cons_append, sameAt, Bool.not_false, Bool.true_or, Bool.and_true, decide_true]
          rw [decide_eq_decide]
          simp [eq_comm]
        | cons v s => rw [hc] at hs; cases hs
theorem rules_window {t : Ta} {s : St} {x : Sy} {L L' : List Sy} {i i' : Nat} : ∀ (rs : List Ru) (k : Nat), (∀ r ∈ rs, fitsB r L i = fitsB r L' i') → ruleSteps t s x L i k rs = ruleSteps t s x L' i' k rs := by
  intro rs
  induction rs with
  | nil => intro k _; rfl
  | cons r rs ih =>
    intro k h
    simp only [ruleSteps]
    rw [h r (by simp), ih (k + 1) (fun q hq => h q (List.mem_cons_of_mem _ hq))]
theorem local_next {t : Ta} (ht : validE t = 0) {s : St} {P A B P' B' : List Sy} {x : Sy} {j : Nat} (hx : A[j]? = some x) (hw : isL x.c = true → stopP x.lang P ∧ wordA x.lang A ∧ stopB x.lang B)
    (hw' : isL x.c = true → stopP x.lang P' ∧ wordA x.lang A ∧ stopB x.lang B') : nextL t s (P ++ (A ++ B)) (P.length + j) x = nextL t s (P' ++ (A ++ B')) (P'.length + j) x := by
  unfold nextL
  split
  · rfl
  · split
    · rfl
    · refine rules_window _ _ fun r hr => ?_
      have hok := lang_ok (valid_parts ht).2.2.1 _ r hr
      rw [fits_window hok hx hw, fits_window hok hx hw']
theorem blank_stop (g : Int) : isL 32 = false := by decide
theorem stop_blank (g h : Int) (M : List Sy) : stopB g (⟨h, 32⟩ :: M) := by
  intro y hy
  cases hy
  intro hn
  exact absurd hn.2 (by rw [show isL (32 : UInt8) = false by decide]; simp)
theorem stop_blankP (g h : Int) (K : List Sy) : stopP g (K ++ [⟨h, 32⟩]) := by
  intro y hy
  rw [List.length_append, List.length_singleton, Nat.add_sub_cancel, List.getElem?_append_right (Nat.le_refl _), Nat.sub_self] at hy
  cases hy
  intro hn
  exact absurd hn.2 (by rw [show isL (32 : UInt8) = false by decide]; simp)
end Go.Dx
end

/- the text B5 -/
section
/- Slices whose elements are structs: what they read as, an element's address, an element loaded whole. No program in sight. -/
set_option linter.unusedVariables false
namespace Go.Dx
open Go.RowKit

section
variable {α : Type} {f : α → List Value} {sz : Nat}
theorem flat_len (hf : ∀ x, (f x).length = sz) : ∀ l : List α, (l.flatMap f).length = l.length * sz
  | [] => by simp
  | x :: l => by rw [List.flatMap_cons, List.length_append, hf, flat_len hf l, List.length_cons, Nat.add_mul]; omega
theorem flat_drop (hf : ∀ x, (f x).length = sz) : ∀ (l : List α) (i : Nat), (l.flatMap f).drop (i * sz) = (l.drop i).flatMap f
  | [], i => by simp
  | x :: l, 0 => by simp
  | x :: l, i + 1 => by
    rw [List.flatMap_cons, List.drop_succ_cons, ← flat_drop hf l i, Nat.add_mul, Nat.one_mul, Nat.add_comm, List.drop_append, hf, Nat.add_sub_cancel_left]
    rw [List.drop_of_length_le (by rw [hf]; omega)]
    rfl
theorem flat_take (hf : ∀ x, (f x).length = sz) : ∀ (l : List α) (i : Nat), (l.flatMap f).take (i * sz) = (l.take i).flatMap f
  | [], i => by simp
  | x :: l, 0 => by simp
  | x :: l, i + 1 => by
    rw [List.flatMap_cons, List.take_succ_cons, List.flatMap_cons, ← flat_take hf l i, Nat.add_mul, Nat.one_mul, Nat.add_comm, List.take_append, hf, Nat.add_sub_cancel_left]
    rw [List.take_of_length_le (by rw [hf]; omega)]
theorem flat_get (hf : ∀ x, (f x).length = sz) {l : List α} {i : Nat} {x : α} (hx : l[i]? = some x) {j : Nat} (hj : j < sz) : (l.flatMap f)[i * sz + j]? = (f x)[j]? := by
  have hi := (List.getElem?_eq_some_iff.1 hx).1
  rw [← List.getElem?_drop, flat_drop hf, List.drop_eq_getElem_cons hi, List.flatMap_cons, List.getElem?_append_left (by rw [hf]; exact hj), (List.getElem?_eq_some_iff.1 hx).2]
theorem Sl.nf (hf : ∀ x, (f x).length = sz) (h0 : 0 < sz) {w : World} {a : Option Addr} {n c : Nat} {l : List α} (h : Sl w sz a n c (l.flatMap f)) : n = l.length := by
  have := h.len
  rw [flat_len hf] at this
  exact (Nat.eq_of_mul_eq_mul_right h0 this).symm
theorem Own.nf (hf : ∀ x, (f x).length = sz) (h0 : 0 < sz) {w : World} {B : Nat} {e : TypeId} {a : Option Addr} {n c : Nat} {l : List α} (h : Own w B e sz a n c (l.flatMap f)) : n = l.length := h.sl.nf hf h0
theorem one_flat (hf : ∀ x, ∀ u ∈ f x, u.oneCell' = true) (l : List α) : ∀ u ∈ l.flatMap f, u.oneCell' = true := by
  intro u hu
  obtain ⟨x, _, hx⟩ := List.mem_flatMap.1 hu
  exact hf x u hx
end

section ops
variable {P : Program} {w : World} {ops : Array Oper} {rest : List Oper} {act : Act} {Q : Exit → Act → World → Prop}
  {ty : TypeId} {pos : String} {after : Array Edge}

/-- 'xs[i]', the address, elements of sz cells: what lies there. -/
theorem index_row (d : Nat) (t : TypeId) (x y : Operand) (e : TypeId) (ht : P.underlying t = some (.slice e)) (sz : Nat) (hsz : (P.info? e).map (·.size) = some sz)
    (a : Option Addr) (n c : Nat) (cs : List Value) (hx : act.eval x = .slice a n c) (hs : Sl w sz a n c cs) (k : IntKind) (iv : Int) (i : Nat) (hy : act.eval y = .int k iv) (hiv : iv = (i : Int)) (hi : i < n) (h0 : 0 < sz)
    (hK : ∀ b o, (∀ j u, j < sz → cs[i * sz + j]? = some u → w.cell? ⟨b, o + j, none⟩ = some u) → b < w.heap.size → (∀ p, a = some p → p.block = b) → wpList P ops Q rest (act.put (some d) (.pointer (some ⟨b, o, none⟩))) w) :
    wpList P ops Q ({ dst := some d, op := .indexAddr t x y, type := ty, pos := pos, after := after, guard := none } :: rest) act w := by
  refine wpList_plain rfl fun K hK' => ?_
  have hlen := hs.len
  have hm : (i + 1) * sz ≤ n * sz := Nat.mul_le_mul_right _ hi
  obtain ⟨b, o, rfl, hb, hc⟩ := hs.ex (by rw [hlen]; exact Nat.mul_pos (by omega) h0)
  obtain ⟨i0, hi0, hs0⟩ := Option.map_eq_some_iff.1 hsz
  subst hiv
  have hrun : (Instr.indexAt t (.slice (some ⟨b, o, none⟩) n c) (.int k (i : Int))).run P w = .ok (.pointer (some ⟨b, o + i * sz, none⟩)) w := by
    simp [Instr.indexAt, asIntOf, run_underlying ht, sizeOf, typeInfo, hi0, hs0, hi, Addr.add_lit]
  unfold Oper.wp
  simp [execOp, hx, hy, hrun, Result.andThen]
  exact hK' _ _ (hK b (o + i * sz) (fun j u hj hu => by rw [Nat.add_assoc]; exact hc _ u hu) hb (fun p hp => by cases hp; rfl))

/-- a whole struct is loaded -/
theorem load_struct (d : Nat) (t : TypeId) (x : Operand) (sz : Nat) (hsz : (P.info? t).map (·.size) = some sz) (fs : Array Field) (hag : P.underlying t = some (.struct fs))
    (p : Addr) (hx : act.eval x = .pointer (some p)) (cs : List Value) (hl : cs.length = sz) (hc : ∀ j u, cs[j]? = some u → w.cell? (p.add j) = some u)
    (hK : wpList P ops Q rest (act.put (some d) (.agg cs.toArray)) w) :
    wpList P ops Q ({ dst := some d, op := .load t x, type := ty, pos := pos, after := after, guard := none } :: rest) act w := by
  refine wpList_plain rfl fun K hK' => ?_
  obtain ⟨i, hi, hs0⟩ := Option.map_eq_some_iff.1 hsz
  subst hs0
  have hrun : (Instr.loadAt t (.pointer (some p))).run P w = .ok (.agg cs.toArray) w := by
    have hl2 := run_loadCells_list (P := P) w p cs hc
    rw [hl] at hl2
    simp [Instr.loadAt, Instr.sureAddr, loadVar, isAgg, run_underlying hag, sizeOf, typeInfo, hi, hl2]
  unfold Oper.wp
  simp [execOp, hx, hrun, Result.andThen]
  exact hK' _ _ hK
end ops

/-- A rule's three cells, beside the head of its cells. -/
abbrev RH := Ru × (Option Addr × Nat × Nat)
def hdv (h : Option Addr × Nat × Nat) : Value := .slice h.1 h.2.1 h.2.2
def rc (p : RH) : List Value := [.string p.1.text, .int .i64 p.1.whr, hdv p.2]
theorem rc_len (p : RH) : (rc p).length = 3 := rfl
theorem rc_one (p : RH) : ∀ u ∈ rc p, u.oneCell' = true := by simp [rc, hdv, Value.oneCell']
def sc (x : Sy) : List Value := [.int .i64 x.lang, .int .u8 (x.c.toNat : Int)]
theorem sc_len (x : Sy) : (sc x).length = 2 := rfl
theorem sc_one (x : Sy) : ∀ u ∈ sc x, u.oneCell' = true := by simp [sc, Value.oneCell']
abbrev SH := Stp × (Option Addr × Nat × Nat)
def stc (p : SH) : List Value := [.int .i64 p.1.dst.lang, .bool p.1.dst.num, .bool p.1.dst.wrd, .int .i64 p.1.len, hdv p.2, .int .i64 p.1.rule]
theorem stc_len (p : SH) : (stc p).length = 6 := rfl
theorem stc_one (p : SH) : ∀ u ∈ stc p, u.oneCell' = true := by simp [stc, hdv, Value.oneCell']

/-- The rules of a language, as they lie: the slice, and each rule's cells. -/
structure Rul (w : World) (a : Option Addr) (n c : Nat) (ps : List RH) : Prop where
  top : Sl w 3 a n c (ps.flatMap rc)
  row : ∀ p ∈ ps, Sl w 1 p.2.1 p.2.2.1 p.2.2.2 (p.1.cells.map B8) ∧ p.1.text.size ≤ 1000
def rus (ps : List RH) : List Ru := ps.map (·.1)
theorem Rul.n_eq {w : World} {a : Option Addr} {n c : Nat} {ps : List RH} (h : Rul w a n c ps) : n = ps.length := h.top.nf rc_len (by decide)
theorem Rul.below {w w' : World} {a : Option Addr} {n c : Nat} {ps : List RH} (h : Rul w a n c ps) (hb : Below w.heap.size w w') : Rul w' a n c ps :=
  ⟨h.top.below hb, fun p hp => ⟨(h.row p hp).1.below hb, (h.row p hp).2⟩⟩
theorem Rul.empty (w : World) : Rul w none 0 0 [] := ⟨Sl.empty w 3, fun p hp => by cases hp⟩

/-- Tables as they lie: seven slices. -/
structure TH where
  r0 : Option Addr × Nat × Nat
  r1 : Option Addr × Nat × Nat
  p0 : List RH
  p1 : List RH
  d : Option Addr × Nat × Nat
  c : Option Addr × Nat × Nat
  n : Option Addr × Nat × Nat
  f : Option Addr × Nat × Nat
  s : Option Addr × Nat × Nat
def TH.v (H : TH) : Value := .agg #[hdv H.r0, hdv H.r1, hdv H.d, hdv H.c, hdv H.n, hdv H.f, hdv H.s]
structure TaIs (w : World) (H : TH) (t : Ta) : Prop where
  l0 : Rul w H.r0.1 H.r0.2.1 H.r0.2.2 H.p0
  l1 : Rul w H.r1.1 H.r1.2.1 H.r1.2.2 H.p1
  e0 : rus H.p0 = t.l0
  e1 : rus H.p1 = t.l1
  d : Sl w 1 H.d.1 H.d.2.1 H.d.2.2 (t.dig.map B8)
  c : Sl w 1 H.c.1 H.c.2.1 H.c.2.2 (t.cap.map B8)
  n : Sl w 1 H.n.1 H.n.2.1 H.n.2.2 (t.num.map B8)
  f : Sl w 1 H.f.1 H.f.2.1 H.f.2.2 (t.fin.map B8)
  s : Sl w 1 H.s.1 H.s.2.1 H.s.2.2 (t.sw.map B8)
theorem TaIs.below {w w' : World} {H : TH} {t : Ta} (h : TaIs w H t) (hb : Below w.heap.size w w') : TaIs w' H t :=
  ⟨h.l0.below hb, h.l1.below hb, h.e0, h.e1, h.d.below hb, h.c.below hb, h.n.below hb, h.f.below hb, h.s.below hb⟩
/-- steps as they lie -/
structure Stl (w : World) (a : Option Addr) (n c : Nat) (ps : List SH) (l : List Stp) : Prop where
  top : Sl w 6 a n c (ps.flatMap stc)
  row : ∀ p ∈ ps, Sl w 1 p.2.1 p.2.2.1 p.2.2.2 (p.1.cells.map B8)
  eq : ps.map (·.1) = l
theorem Stl.n_eq {w : World} {a : Option Addr} {n c : Nat} {ps : List SH} {l : List Stp} (h : Stl w a n c ps l) : n = l.length := by
  rw [← h.eq, List.length_map]; exact h.top.nf stc_len (by decide)
theorem Stl.below {w w' : World} {a : Option Addr} {n c : Nat} {ps : List SH} {l : List Stp} (h : Stl w a n c ps l) (hb : Below w.heap.size w w') : Stl w' a n c ps l :=
  ⟨h.top.below hb, fun p hp => (h.row p hp).below hb, h.eq⟩
end Go.Dx
end

/- the text B6 -/
section
/- Chapter 06, in plain Lean: the tables that the generator makes are valid. No program in sight. -/
namespace Go.Dx

/-- what is known of a list of rules before those that come twice are struck -/
structure Raw (l : List Ru) : Prop where
  ok : ∀ r ∈ l, ruOk r = true
  own : ∀ c, (isS c = true ∨ isM c = true) → ([c], (0 : Int)) ∈ l.map nameOf
  len : l.length ≤ 90
def onceL (l : List Ru) : List Ru := l.foldl (fun out r => if isIn (out.map nmOf) (nmOf r) then out else out ++ [r]) []
theorem once_snoc (l : List Ru) (r : Ru) : onceL (l ++ [r]) = if isIn ((onceL l).map nmOf) (nmOf r) then onceL l else onceL l ++ [r] := by
  unfold onceL; rw [List.foldl_append]; rfl
structure OnceOf (l out : List Ru) : Prop where
  sub : ∀ r ∈ out, r ∈ l
  names : ∀ n, n ∈ l.map nameOf → n ∈ out.map nameOf
  nodup : (out.map nameOf).Nodup
  len : out.length ≤ l.length
theorem once_step {l out : List Ru} (h : OnceOf l out) (r : Ru) : OnceOf (l ++ [r]) (if isIn (out.map nmOf) (nmOf r) then out else out ++ [r]) := by
  rw [isIn_eq]
  by_cases hn : (chars (nmOf r).1, (nmOf r).2) ∈ out.map nameOf
  · rw [decide_eq_true hn, if_pos rfl]
    refine ⟨fun q hq => List.mem_append_left _ (h.sub q hq), ?_, h.nodup, by rw [List.length_append]; exact Nat.le_trans h.len (by omega)⟩
    intro n h2
    rw [List.map_append, List.mem_append] at h2
    rcases h2 with h2 | h2
    · exact h.names n h2
    · simp only [List.map_cons, List.map_nil, List.mem_singleton] at h2
      subst h2; exact hn
  · rw [decide_eq_false hn, if_neg (by simp)]
    refine ⟨?_, ?_, ?_, by rw [List.length_append, List.length_append]; have := h.len; simp; omega⟩
    · intro q hq
      rcases List.mem_append.1 hq with hq | hq
      · exact List.mem_append_left _ (h.sub q hq)
      · exact List.mem_append_right _ hq
    · intro n h2
      rw [List.map_append, List.mem_append] at h2 ⊢
      rcases h2 with h2 | h2
      · exact .inl (h.names n h2)
      · exact .inr h2
    · rw [List.map_append, List.nodup_append]
      refine ⟨h.nodup, by simp, ?_⟩
      intro a h1 b h2 e
      simp only [List.map_cons, List.map_nil, List.mem_singleton] at h2
      subst h2; subst e
      exact hn h1
theorem onceOf_nil : OnceOf [] [] := ⟨fun _ h => h, fun _ h => h, by simp, Nat.le_refl _⟩
theorem own_once {l out : List Ru} (hr : Raw l) (h : OnceOf l out) (c : UInt8) (hc : isS c = true ∨ isM c = true) : ownB out c = true := by
  unfold ownB
  exact decide_eq_true (h.names _ (hr.own c hc))
theorem isS_nat (k : Nat) (hk : k < 26) : isS (UInt8.ofNat (97 + k)) = true := by
  have e : (UInt8.ofNat (97 + k)).toNat = 97 + k := by rw [UInt8.toNat_ofNat']; omega
  unfold isS
  rw [e]; simp; omega
theorem once_miss {l out : List Ru} (hr : Raw l) (h : OnceOf l out) : missB out = false := by
  refine miss_no fun j hj => own_once hr h _ (.inl (isS_nat j hj))
/-- the tables of the generator -/
theorem good_tables {t : Ta} {L0 L1 : List Ru} (h0 : Raw L0) (h1 : Raw L1) (o0 : OnceOf L0 t.l0) (o1 : OnceOf L1 t.l1) (hd : t.dig.length = 10) (hdc : okCells t.dig = true) (hc : indic t.cap = true) (hn : indic t.num = true) (hf : indic t.fin = true) (hs : indic t.sw = true) : GoodTa t := by
  constructor
  · unfold validE
    have l0 := o0.len
    have l1 := o1.len
    have q0 := h0.len
    have q1 := h1.len
    rw [if_neg (by omega)]
    have hg : goodT t = true := by
      unfold goodT
      simp only [Bool.and_eq_true, decide_eq_true_eq, List.all_eq_true]
      exact ⟨⟨⟨⟨⟨⟨⟨hd, hdc⟩, hc⟩, hn⟩, hf⟩, hs⟩, fun r hr => h0.ok r (o0.sub r hr)⟩, fun r hr => h1.ok r (o1.sub r hr)⟩
    rw [hg, if_neg (by simp)]
    have d0 : dupB t.l0 = false := by unfold dupB; simp [o0.nodup]
    have d1 : dupB t.l1 = false := by unfold dupB; simp [o1.nodup]
    rw [d0, d1, once_miss h0 o0, once_miss h1 o1]
    rfl
  · intro g c hc
    unfold langOf
    split
    · exact own_once h0 o0 c (.inr hc)
    · exact own_once h1 o1 c (.inr hc)

/-- the letters first -/
structure Raw1 (l : List Ru) (k : Nat) : Prop where
  ok : ∀ r ∈ l, ruOk r = true
  own : ∀ j, j < k → ([UInt8.ofNat (97 + j)], (0 : Int)) ∈ l.map nameOf
  len : l.length = k
theorem Raw1.zero : Raw1 [] 0 := ⟨fun _ h => by simp at h, fun j h => by omega, rfl⟩
theorem one_ok {v : UInt8} (h : cellOk v = true) : indic [v] = true := by simp [indic, okCells, h]
theorem two_ok {v u : UInt8} (h : cellOk v = true) (h2 : cellOk u = true) : indic [v, u] = true := by simp [indic, okCells, h, h2]
theorem size_chars (s : ByteArray) : s.size = (chars s).length := (Array.length_toList).symm
theorem letter_ok {s : ByteArray} {j : Nat} (hj : j < 26) (hs : chars s = [UInt8.ofNat (97 + j)]) {cs : List UInt8} (hc : indic cs = true) : ruOk ⟨s, 0, cs⟩ = true := by
  have hi := isS_nat j hj
  generalize UInt8.ofNat (97 + j) = u at hs hi
  unfold ruOk small
  rw [size_chars]
  simp [hs, hc, hi]
theorem Raw1.step {l : List Ru} {k : Nat} (h : Raw1 l k) (hk : k < 26) {s : ByteArray} (hs : chars s = [UInt8.ofNat (97 + k)]) {v : UInt8} (hv : cellOk v = true) : Raw1 (l ++ [⟨s, 0, [v]⟩]) (k + 1) := by
  refine ⟨?_, ?_, by rw [List.length_append, h.len]; rfl⟩
  · intro r hr
    rcases List.mem_append.1 hr with hr | hr
    · exact h.ok r hr
    · rw [List.mem_singleton] at hr; subst hr; exact letter_ok hk hs (one_ok hv)
  · intro j hj
    rw [List.map_append, List.mem_append]
    by_cases e : j = k
    · subst e; right; simp [nameOf, hs]
    · left; exact h.own j (by omega)
def marks6 : List UInt8 := [32, 46, 44, 63, 39, 45]
/-- then the marks -/
structure Raw2 (l : List Ru) (k : Nat) : Prop where
  ok : ∀ r ∈ l, ruOk r = true
  own : ∀ j, j < 26 → ([UInt8.ofNat (97 + j)], (0 : Int)) ∈ l.map nameOf
  mark : ∀ c, c ∈ marks6.take k → ([c], (0 : Int)) ∈ l.map nameOf
  len : l.length = 26 + k
theorem Raw2.zero {l : List Ru} (h : Raw1 l 26) : Raw2 l 0 := ⟨h.ok, h.own, fun c hc => by simp at hc, h.len⟩
theorem mark_ok : ∀ c ∈ marks6, (isW c && !isL c && !isD c) = true ∧ isS c = false := by decide
theorem Raw2.step {l : List Ru} {k : Nat} (h : Raw2 l k) {c : UInt8} (hk : marks6[k]? = some c) {s : ByteArray} (hs : chars s = [c]) {v : UInt8} (hv : cellOk v = true) : Raw2 (l ++ [⟨s, 0, [v]⟩]) (k + 1) := by
  refine ⟨?_, ?_, ?_, by rw [List.length_append, h.len]; rfl⟩
  · intro r hr
    rcases List.mem_append.1 hr with hr | hr
    · exact h.ok r hr
    · rw [List.mem_singleton] at hr
      subst hr
      obtain ⟨h1, h2⟩ := mark_ok c (List.mem_of_getElem? hk)
      unfold ruOk small oneMark
      rw [size_chars]
      simp [hs, h1, h2, one_ok hv]
  · intro j hj
    rw [List.map_append, List.mem_append]
    exact .inl (h.own j hj)
  · intro d hd
    rw [List.map_append, List.mem_append]
    rw [List.take_add_one, hk, List.mem_append] at hd
    rcases hd with hd | hd
    · exact .inl (h.mark d hd)
    · simp only [Option.toList_some, List.mem_singleton] at hd
      subst hd
      right; simp [nameOf, hs]
/-- then the contractions -/
structure Raw3 (l : List Ru) (k : Nat) : Prop where
  ok : ∀ r ∈ l, ruOk r = true
  own : ∀ c, (isS c = true ∨ isM c = true) → ([c], (0 : Int)) ∈ l.map nameOf
  len : l.length = 32 + k
theorem Raw3.zero {l : List Ru} (h : Raw2 l 6) : Raw3 l 0 := by
  refine ⟨h.ok, ?_, h.len⟩
  intro c hc
  rcases hc with hc | hc
  · have hc2 := hc
    unfold isS at hc2
    simp only [Bool.and_eq_true, decide_eq_true_eq] at hc2
    have := h.own (c.toNat - 97) (by omega)
    have e : 97 + (c.toNat - 97) = c.toNat := by omega
    rw [e, UInt8.ofNat_toNat] at this
    exact this
  · refine h.mark c ?_
    unfold isM at hc
    simpa [marks6] using hc
theorem Raw3.step {l : List Ru} {k : Nat} (h : Raw3 l k) {r : Ru} (hr : ruOk r = true) : Raw3 (l ++ [r]) (k + 1) := by
  refine ⟨?_, ?_, by rw [List.length_append, h.len]; rfl⟩
  · intro q hq
    rcases List.mem_append.1 hq with hq | hq
    · exact h.ok q hq
    · rw [List.mem_singleton] at hq; subst hq; exact hr
  · intro c hc
    rw [List.map_append, List.mem_append]
    exact .inl (h.own c hc)
theorem Raw3.raw {l : List Ru} {k : Nat} (h : Raw3 l k) (hk : k ≤ 50) : Raw l := ⟨h.ok, h.own, by rw [h.len]; omega⟩
end Go.Dx
end

/- the text B7 -/
section
/- Chapter 06: characters: Letter, letter, digit, written, of the program and of the reference. -/
namespace Go.Proofs.Ytdeknimelkdaeaa
open Go.RowKit Go.Dx

theorem let_S {c : UInt8} (h1 : 97 ≤ c.toNat) (h2 : c.toNat ≤ 122) : low c = c ∧ isL c = true ∧ isC c = false := by
  have hC : isC c = false := by unfold isC; simp; omega
  exact ⟨by unfold low; rw [hC]; rfl, by unfold isL isS; simp [h1, h2], hC⟩
theorem let_C {c : UInt8} (h1 : 65 ≤ c.toNat) (h2 : c.toNat ≤ 90) : ((low c).toNat : Int) = (c.toNat : Int) + 32 ∧ isL c = true ∧ isC c = true := by
  have hC : isC c = true := by unfold isC; simp [h1, h2]
  refine ⟨?_, by unfold isL; rw [hC, Bool.or_true], hC⟩
  unfold low
  rw [if_pos hC, UInt8.toNat_add]
  have : (32 : UInt8).toNat = 32 := rfl
  rw [this]
  omega
theorem let_N {c : UInt8} (h : c.toNat < 65 ∨ (90 < c.toNat ∧ c.toNat < 97) ∨ 122 < c.toNat) : low c = c ∧ isL c = false ∧ isC c = false := by
  have hC : isC c = false := by unfold isC; simp; omega
  have hS : isS c = false := by unfold isS; simp; omega
  exact ⟨by unfold low; rw [hC]; rfl, by unfold isL; rw [hC, hS]; rfl, hC⟩

def LetterR (c : UInt8) : Ending := .returned (.tuple #[.int .u8 ((low c).toNat : Int), .bool (isL c), .bool (isC c)])

end Go.Proofs.Ytdeknimelkdaeaa
end

/- the text B8 -/
section
/- Chapter 06: characters: letter, digit, written; the reference's Letter, Is, Digit, Written. -/
namespace Go.Proofs.Ytdeknimelkdaeaa
open Go.RowKit Go.Dx

end Go.Proofs.Ytdeknimelkdaeaa
end

/- the text B9 -/
section
/- Chapter 06: cells, indicator; the reference's Cells; word and Small. -/
namespace Go.Proofs.Ytdeknimelkdaeaa
open Go.RowKit Go.Dx

def badC (c : UInt8) : Bool := !cellOk c
def noS (c : UInt8) : Bool := !isS c
theorem okCells_eq (l : List UInt8) : okCells l = !l.any badC := by
  unfold okCells
  rw [Bool.eq_iff_iff]; simp [List.all_eq_true, badC]
theorem small_eq (s : ByteArray) : small s = !(chars s).any noS := by
  unfold small
  rw [Bool.eq_iff_iff]; simp [List.all_eq_true, noS]
theorem badC_lo {c : UInt8} (h : c.toNat < 1) : badC c = true := by unfold badC cellOk; simp; omega
theorem badC_hi {c : UInt8} (h : 63 < c.toNat) : badC c = true := by unfold badC cellOk; simp; omega
theorem badC_no {c : UInt8} (h : 1 ≤ c.toNat) (h2 : c.toNat ≤ 63) : badC c = false := by unfold badC cellOk; simp; omega
theorem noS_lo {c : UInt8} (h : c.toNat < 97) : noS c = true := by unfold noS isS; simp; omega
theorem noS_hi {c : UInt8} (h : 122 < c.toNat) : noS c = true := by unfold noS isS; simp; omega
theorem noS_no {c : UInt8} (h : 97 ≤ c.toNat) (h2 : c.toNat ≤ 122) : noS c = false := by unfold noS isS; simp; omega

def cellsR (l : List UInt8) (lo hi : Nat) : Bool := okCells l && (decide (lo ≤ l.length) && decide (l.length ≤ hi))
theorem indic_cells (l : List UInt8) : cellsR l 1 4 = indic l := by
  unfold cellsR indic
  cases okCells l <;> simp
end Go.Proofs.Ytdeknimelkdaeaa
end

/- the text B10 -/
section
/- Chapter 06: words, rules: plain laws on a rule's error; word and Small. -/
namespace Go.Dx
theorem ru_lo {r : Ru} (h : r.text.size < 1) : ruOk r = false := by unfold ruOk; rw [decide_eq_false (show ¬ 1 ≤ r.text.size by omega)]; rfl
theorem ru_hi {r : Ru} (h : 8 < r.text.size) : ruOk r = false := by unfold ruOk; rw [decide_eq_false (show ¬ r.text.size ≤ 8 by omega)]; simp
theorem ru_w0 {r : Ru} (h : r.whr < 0) : ruOk r = false := by unfold ruOk; rw [decide_eq_false (show ¬ 0 ≤ r.whr by omega)]; simp
theorem ru_w3 {r : Ru} (h : 3 < r.whr) : ruOk r = false := by unfold ruOk; rw [decide_eq_false (show ¬ r.whr ≤ 3 by omega)]; simp
theorem ru_ind {r : Ru} (h : indic r.cells = false) : ruOk r = false := by unfold ruOk; rw [h]; simp
theorem ru_rest {r : Ru} (h1 : ¬ r.text.size < 1) (h2 : ¬ 8 < r.text.size) (h3 : ¬ r.whr < 0) (h4 : ¬ 3 < r.whr) (h5 : indic r.cells = true) : ruOk r = (small r.text || oneMark r.text && decide (r.whr = 0)) := by
  unfold ruOk
  rw [h5, decide_eq_true (show 1 ≤ r.text.size by omega), decide_eq_true (show r.text.size ≤ 8 by omega), decide_eq_true (show 0 ≤ r.whr by omega), decide_eq_true (show r.whr ≤ 3 by omega)]
  rfl
theorem mark_n {s : ByteArray} (h : s.size ≠ 1) : oneMark s = false := by
  unfold oneMark
  have := size_chars s
  cases hc : chars s with
  | nil => rfl
  | cons c l =>
    cases l with
    | nil => rw [hc] at this; simp at this; exact absurd this h
    | cons d l => rfl
theorem chars_get {s : ByteArray} {k : Nat} (h : k < s.size) : (chars s)[k]? = some s[k] := by
  unfold chars
  rw [List.getElem?_eq_getElem (by rw [Array.length_toList]; exact h)]
  rfl
theorem mark_1 {s : ByteArray} (h : s.size = 1) : oneMark s = (isW (s[0]'(by omega)) && !isL (s[0]'(by omega)) && !isD (s[0]'(by omega))) := by
  have h2 := size_chars s
  have h3 := chars_get (s := s) (k := 0) (by omega)
  unfold oneMark
  cases hc : chars s with
  | nil => rw [hc] at h3; cases h3
  | cons c l =>
    rw [hc] at h2 h3
    cases l with
    | nil => cases h3; rfl
    | cons d l => simp at h2; omega
end Go.Dx
namespace Go.Proofs.Ytdeknimelkdaeaa
open Go.RowKit Go.Dx
theorem blo (w : World) (o : Obj) : Below w.heap.size w (w.alloc o) := (Below.refl _ w).alloc (Nat.le_refl _) _

end Go.Proofs.Ytdeknimelkdaeaa
end

/- the text B11 -/
section
/- Chapter 06: a rule is as it has to be: right, Right. -/
namespace Go.Proofs.Ytdeknimelkdaeaa
open Go.RowKit Go.Dx

end Go.Proofs.Ytdeknimelkdaeaa
end

/- the text B12 -/
section
/- Chapter 06: characters in a slice: sym, and whether all are valid. -/
namespace Go.Dx
open Go.RowKit
def badS (x : Sy) : Bool := !symOk x
theorem goodS_eq (l : List Sy) : goodS l = !l.any badS := by
  unfold goodS
  rw [Bool.eq_iff_iff]; simp [List.all_eq_true, badS]
/-- a character's two cells -/
theorem sy_cells {w : World} {a : Option Addr} {n c : Nat} {l : List Sy} (hs : Sl w 2 a n c (l.flatMap sc)) {k : Nat} {x : Sy} (hx : l[k]? = some x) :
    ∃ b o, a = some ⟨b, o, none⟩ ∧ b < w.heap.size ∧ w.cell? ⟨b, o + k * 2, none⟩ = some (.int .i64 x.lang) ∧ w.cell? ⟨b, o + k * 2 + 1, none⟩ = some (.int .u8 (x.c.toNat : Int)) := by
  have hk := (List.getElem?_eq_some_iff.1 hx).1
  obtain ⟨b, o, hab, hb, hc⟩ := hs.ex (by rw [flat_len sc_len]; omega)
  refine ⟨b, o, hab, hb, ?_, ?_⟩
  · have := flat_get sc_len hx (j := 0) (by decide)
    exact hc (k * 2) _ this
  · have := flat_get sc_len hx (j := 1) (by decide)
    exact hc (k * 2 + 1) _ this
end Go.Dx
namespace Go.Proofs.Ytdeknimelkdaeaa
open Go.RowKit Go.Dx
section
variable {w : World} {ops : Array Oper} {rest : List Oper} {act : Act} {Q : Exit → Act → World → Prop} {ty : TypeId} {pos : String} {after : Array Edge}
end
theorem symOk_no (g : Int) (c : UInt8) (h0 : g ≠ 0) (h1 : g ≠ 1) : symOk ⟨g, c⟩ = false := by unfold symOk; simp [h0, h1]
theorem symOk_yes (g : Int) (c : UInt8) (h0 : g = 0 ∨ g = 1) : symOk ⟨g, c⟩ = isW c := by unfold symOk; rcases h0 with h | h <;> simp [h]

end Go.Proofs.Ytdeknimelkdaeaa
end

/- the text B13 -/
section
/- Chapter 06: the rules of a language: whether all are as they have to be; a letter's own rule. -/
namespace Go.Dx
open Go.RowKit
def badR (r : Ru) : Bool := !ruOk r
theorem rules_eq (l : List Ru) : l.all ruOk = !l.any badR := by
  rw [Bool.eq_iff_iff]; simp [List.all_eq_true, badR]
/-- a rule's three cells -/
theorem ru_cells {w : World} {a : Option Addr} {n c : Nat} {ps : List RH} (hs : Sl w 3 a n c (ps.flatMap rc)) {k : Nat} {p : RH} (hx : ps[k]? = some p) :
    ∃ b o, a = some ⟨b, o, none⟩ ∧ b < w.heap.size ∧ w.cell? ⟨b, o + k * 3, none⟩ = some (.string p.1.text) ∧ w.cell? ⟨b, o + k * 3 + 1, none⟩ = some (.int .i64 p.1.whr) ∧ w.cell? ⟨b, o + k * 3 + 2, none⟩ = some (.slice p.2.1 p.2.2.1 p.2.2.2) := by
  have hk := (List.getElem?_eq_some_iff.1 hx).1
  obtain ⟨b, o, hab, hb, hc⟩ := hs.ex (by rw [flat_len rc_len]; omega)
  refine ⟨b, o, hab, hb, ?_, ?_, ?_⟩
  · exact hc (k * 3) _ (flat_get rc_len hx (j := 0) (by decide))
  · exact hc (k * 3 + 1) _ (flat_get rc_len hx (j := 1) (by decide))
  · exact hc (k * 3 + 2) _ (flat_get rc_len hx (j := 2) (by decide))
end Go.Dx
namespace Go.Proofs.Ytdeknimelkdaeaa
open Go.RowKit Go.Dx
section
variable {w : World} {ops : Array Oper} {rest : List Oper} {act : Act} {Q : Exit → Act → World → Prop} {ty : TypeId} {pos : String} {after : Array Edge}
end
def rv (p : RH) : Value := .agg #[.string p.1.text, .int .i64 p.1.whr, .slice p.2.1 p.2.2.1 p.2.2.2]
/-- the rule is the letter's own -/
def isOwn (c : UInt8) (r : Ru) : Bool := decide (r.whr = 0) && decide (chars r.text = [c])
theorem own_eq (l : List Ru) (c : UInt8) : ownB l c = l.any (isOwn c) := by
  unfold ownB
  rw [Bool.eq_iff_iff]
  simp only [decide_eq_true_eq, List.mem_map, nameOf, Prod.mk.injEq, List.any_eq_true, isOwn, Bool.and_eq_true]
  constructor
  · rintro ⟨r, hr, h1, h2⟩; exact ⟨r, hr, h2, h1⟩
  · rintro ⟨r, hr, h1, h2⟩; exact ⟨r, hr, h2, h1⟩
theorem isOwn_w {c : UInt8} {r : Ru} (h : r.whr ≠ 0) : isOwn c r = false := by unfold isOwn; simp [h]
theorem isOwn_n {c : UInt8} {r : Ru} (h : r.text.size ≠ 1) : isOwn c r = false := by
  have h2 := size_chars r.text
  unfold isOwn
  have : chars r.text ≠ [c] := fun e => h (by rw [h2, e]; rfl)
  simp [this]
theorem chars_one {s : ByteArray} (h : s.size = 1) : chars s = [s[0]'(by omega)] := by
  have h2 := size_chars s
  have h3 := chars_get (s := s) (k := 0) (by omega)
  cases hc : chars s with
  | nil => rw [hc] at h3; cases h3
  | cons c l =>
    rw [hc] at h2 h3
    cases l with
    | nil => cases h3; rfl
    | cons d l => simp at h2; omega
theorem isOwn_1 {c : UInt8} {r : Ru} (h0 : r.whr = 0) (h : r.text.size = 1) : isOwn c r = decide ((r.text[0]'(by omega)) = c) := by
  unfold isOwn
  rw [chars_one h, h0]; simp

end Go.Proofs.Ytdeknimelkdaeaa
end

/- the text B14 -/
section
/- Chapter 06: the word at a place: bounds; inWord. -/
namespace Go.Proofs.Ytdeknimelkdaeaa
open Go.RowKit Go.Dx

theorem quiet_left {P : Program} {f : FuncId} {args : Array Value} {w : World} {n : Nat} {v : Value} (h : Calls P f args (w.drewN n) fun e w' => e = .returned v ∧ w.drewN n = w') :
    Calls P f args (w.drewN n) fun e w'' => e = .returned v ∧ ∃ m, w'' = w.drewN m := h.mono fun _ _ ⟨he, hm⟩ => ⟨he, n, hm.symm⟩
theorem inAt_neg {l : List Sy} {g i : Int} (h : i < 0) : inAt l g i = false := by unfold inAt; rw [decide_eq_false (by omega)]; rfl
theorem inAt_out {l : List Sy} {g : Int} {k : Nat} (h : l.length ≤ k) : inAt l g (k : Int) = false := by rw [inAt_nat, List.getElem?_eq_none h]
theorem inAt_get {l : List Sy} {g : Int} {k : Nat} {y : Sy} (h : l[k]? = some y) : inAt l g (k : Int) = (decide (y.lang = g) && isL y.c) := by rw [inAt_nat, h]

end Go.Proofs.Ytdeknimelkdaeaa
end

/- the text B15 -/
section
/- Chapter 06: the word at a place: bounds. -/
namespace Go.Dx
open Go.RowKit
theorem cell_below {w w' : World} {p : Addr} {u : Value} (h : w.cell? p = some u) (hb : Below w.heap.size w w') : w'.cell? p = some u := by
  rw [hb.cell (World.block_lt_of_cell? w _ h)]; exact h
theorem lo_stay {l : List Sy} {g : Int} {p A : Nat} (h : ∀ j : Int, (A : Int) ≤ j → j < p → inAt l g j = true) (hA : inAt l g ((A : Int) - 1) = true) : 1 ≤ A ∧ ∀ j : Int, ((A - 1 : Nat) : Int) ≤ j → j < p → inAt l g j = true := by
  have h1 : 1 ≤ A := by
    by_cases e : A = 0
    · subst e; rw [show ((0 : Nat) : Int) - 1 = -1 from rfl, show inAt l g (-1) = false from rfl] at hA; cases hA
    · omega
  refine ⟨h1, fun j hj hp => ?_⟩
  by_cases e : j = (A : Int) - 1
  · rw [e]; exact hA
  · exact h j (by omega) hp
theorem hi_stay {l : List Sy} {g : Int} {p B : Nat} (h : ∀ j : Int, (p : Int) ≤ j → j < B → inAt l g j = true) (hB : inAt l g (B : Int) = true) : B < l.length ∧ ∀ j : Int, (p : Int) ≤ j → j < ((B + 1 : Nat) : Int) → inAt l g j = true := by
  refine ⟨?_, fun j hj hp => ?_⟩
  · rw [inAt_nat] at hB
    cases hb : l[B]? with
    | none => rw [hb] at hB; cases hB
    | some y => exact (List.getElem?_eq_some_iff.1 hb).1
  · by_cases e : j = (B : Int)
    · rw [e]; exact hB
    · exact h j hj (by omega)
end Go.Dx
namespace Go.Proofs.Ytdeknimelkdaeaa
open Go.RowKit Go.Dx

end Go.Proofs.Ytdeknimelkdaeaa
end

/- the text B16 -/
section
/- Chapter 06: the reference's inWord. -/
namespace Go.Proofs.Ytdeknimelkdaeaa
open Go.RowKit Go.Dx
theorem word_out {l : List Sy} {i : Nat} (h : l.length ≤ i) : inWord l i = false := by
  cases i with
  | zero => rfl
  | succ k =>
    simp only [inWord, List.getElem?_eq_none h]
    cases l[k]? <;> rfl
end Go.Proofs.Ytdeknimelkdaeaa
end

/- the text B17 -/
section
/- Chapter 06: whether a rule fits at a place: fits, of the program. -/
namespace Go.Dx
open Go.RowKit
theorem sameAt_step {g : Int} : ∀ (s : List UInt8) (b : Bool) (L : List Sy) (k : Nat) (u : UInt8) (y : Sy), s[k]? = some u → L[k]? = some y →
    sameAt g b (s.take (k + 1)) L = (sameAt g b (s.take k) L && (decide (low y.c = u) && decide (y.lang = g) && (b && decide (k = 0) || !isC y.c))) := by
  intro s
  induction s with
  | nil => intro b L k u y h; simp at h
  | cons v s ih =>
    intro b L k u y hs hL
    cases L with
    | nil => simp at hL
    | cons x L =>
      cases k with
      | zero =>
        simp only [List.getElem?_cons_zero, Option.some.injEq] at hs hL
        subst hs; subst hL
        simp [sameAt]
      | succ k =>
        simp only [List.getElem?_cons_succ] at hs hL
        have := ih false L k u y hs hL
        simp only [List.take_succ_cons, sameAt, this, Bool.false_and, Bool.false_or, Nat.add_eq_zero_iff, Nat.one_ne_zero, and_false, decide_false, Bool.and_false]
        simp only [Bool.and_assoc]
theorem sameAt_take {g : Int} : ∀ (s : List UInt8) (b : Bool) (L : List Sy) (k : Nat), sameAt g b (s.take k) L = false → sameAt g b s L = false := by
  intro s
  induction s with
  | nil => intro b L k h; simpa using h
  | cons v s ih =>
    intro b L k h
    cases k with
    | zero => simp [sameAt] at h
    | succ k =>
      cases L with
      | nil => rfl
      | cons x L =>
        simp only [List.take_succ_cons, sameAt] at h ⊢
        cases hq : sameAt g false s L
        · simp
        · cases hq2 : sameAt g false (s.take k) L
          · rw [ih _ _ _ hq2] at hq; cases hq
          · rw [hq2] at h; exact h
theorem fits_no {r : Ru} {l : List Sy} {i : Nat} (hi : i < l.length) (h : l.length < i + r.text.size) : fitsB r l i = false := by
  cases hq : fitsB r l i
  · rfl
  · have := fits_len hi hq; omega
theorem fits_at {r : Ru} {l : List Sy} {i : Nat} {x : Sy} (hx : l[i]? = some x) : fitsB r l i = (sameAt x.lang true (chars r.text) (l.drop i) && placeOk r l i) := by
  unfold fitsB; rw [hx]
theorem place_any {r : Ru} {l : List Sy} {i : Nat} (h : small r.text = false) : placeOk r l i = true := by unfold placeOk; rw [h]; rfl
theorem place_small {r : Ru} {l : List Sy} {i : Nat} (h : small r.text = true) : placeOk r l i = (if r.whr = 1 then !inWord l i && !inWord l (i + r.text.size) else if r.whr = 2 then !inWord l i && inWord l (i + r.text.size) else if r.whr = 3 then inWord l i else true) := by
  unfold placeOk; rw [h]; rfl
end Go.Dx
namespace Go.Proofs.Ytdeknimelkdaeaa
open Go.RowKit Go.Dx
theorem hold {p : Prop} (h : Hid p) : p := h.out
section
variable {w : World} {ops : Array Oper} {rest : List Oper} {act : Act} {Q : Exit → Act → World → Prop} {ty : TypeId} {pos : String} {after : Array Edge}
end
theorem step_yes {g : Int} {s : List UInt8} {L : List Sy} {k : Nat} {u : UInt8} {y : Sy} (hs : s[k]? = some u) (hL : L[k]? = some y) (h0 : sameAt g true (s.take k) L = true) (h1 : low y.c = u) (h2 : y.lang = g) (h3 : k = 0 ∨ isC y.c = false) : sameAt g true (s.take (k + 1)) L = true := by
  rw [sameAt_step s true L k u y hs hL, h0, decide_eq_true h1, decide_eq_true h2]
  rcases h3 with h3 | h3 <;> simp [h3]
theorem step_no {g : Int} {s : List UInt8} {L : List Sy} {k : Nat} {u : UInt8} {y : Sy} (hs : s[k]? = some u) (hL : L[k]? = some y) (h : low y.c ≠ u ∨ y.lang ≠ g ∨ (0 < k ∧ isC y.c = true)) : sameAt g true s L = false := by
  refine sameAt_take s true L (k + 1) ?_
  rw [sameAt_step s true L k u y hs hL]
  rcases h with h | h | ⟨h, h2⟩
  · simp [h]
  · simp [h]
  · have : k ≠ 0 := by omega
    simp [this, h2]

end Go.Proofs.Ytdeknimelkdaeaa
end

/- the text B18 -/
section
/- Chapter 06: whether a rule fits at a place: Fits, of the reference. -/
namespace Go.Proofs.Ytdeknimelkdaeaa
open Go.RowKit Go.Dx

end Go.Proofs.Ytdeknimelkdaeaa
end

/- the text B19 -/
section
/- Chapter 06: the error of tables, in parts; tables in a box. -/
namespace Go.Dx
open Go.RowKit
def langK (t : Ta) (k : Nat) : List Ru := if k = 0 then t.l0 else t.l1
theorem two_cases {p : Nat → Prop} (h0 : p 0) (h1 : p 1) : ∀ k, k < 2 → p k := by
  intro k hk
  rcases k with _ | _ | k
  · exact h0
  · exact h1
  · omega
theorem ve_lim {t : Ta} {k : Nat} (h : 96 < (langK t k).length) : validE t = 4 := by
  unfold validE
  rw [if_pos]
  unfold langK at h
  split at h
  · exact .inl h
  · exact .inr h
theorem ve_len {t : Ta} (h : ∀ k, k < 2 → (langK t k).length ≤ 96) : ¬ (96 < t.l0.length ∨ 96 < t.l1.length) := by
  have h0 := h 0 (by omega)
  have h1 := h 1 (by omega)
  simp [langK] at h0 h1
  omega
theorem ve_bad {t : Ta} (h : ∀ k, k < 2 → (langK t k).length ≤ 96) (hg : goodT t = false) : validE t = 1 := by
  unfold validE
  rw [if_neg (ve_len h), hg]; rfl
theorem ve_dup {t : Ta} (h : ∀ k, k < 2 → (langK t k).length ≤ 96) (hg : goodT t = true) {k : Nat} (hd : dupB (langK t k) = true) : validE t = 7 := by
  unfold validE
  rw [if_neg (ve_len h), hg, if_neg (by simp), if_pos]
  unfold langK at hd
  split at hd <;> simp [hd]
theorem ve_miss {t : Ta} (h : ∀ k, k < 2 → (langK t k).length ≤ 96) (hg : goodT t = true) (hd : ∀ k, k < 2 → dupB (langK t k) = false) {k : Nat} (hm : missB (langK t k) = true) : validE t = 6 := by
  have h0 := hd 0 (by omega)
  have h1 := hd 1 (by omega)
  simp [langK] at h0 h1
  unfold validE
  rw [if_neg (ve_len h), hg, if_neg (by simp), h0, h1, if_neg (by simp), if_pos]
  unfold langK at hm
  split at hm <;> simp [hm]
theorem ve_ok {t : Ta} (h : ∀ k, k < 2 → (langK t k).length ≤ 96) (hg : goodT t = true) (hd : ∀ k, k < 2 → dupB (langK t k) = false) (hm : ∀ k, k < 2 → missB (langK t k) = false) : validE t = 0 := by
  have h0 := hd 0 (by omega)
  have h1 := hd 1 (by omega)
  have m0 := hm 0 (by omega)
  have m1 := hm 1 (by omega)
  simp [langK] at h0 h1 m0 m1
  unfold validE
  rw [if_neg (ve_len h), hg, if_neg (by simp), h0, h1, m0, m1]; rfl
theorem good_rule {t : Ta} {k : Nat} (h : (langK t k).all ruOk = false) : goodT t = false := by
  unfold goodT
  unfold langK at h
  split at h <;> simp [h]
theorem good_dig {t : Ta} (h : (decide (t.dig.length = 10) && okCells t.dig) = false) : goodT t = false := by unfold goodT; rw [h]; rfl
theorem good_cap {t : Ta} (h : indic t.cap = false) : goodT t = false := by unfold goodT; rw [h]; simp
theorem good_num {t : Ta} (h : indic t.num = false) : goodT t = false := by unfold goodT; rw [h]; simp
theorem good_fin {t : Ta} (h : indic t.fin = false) : goodT t = false := by unfold goodT; rw [h]; simp
theorem good_sw {t : Ta} (h : indic t.sw = false) : goodT t = false := by unfold goodT; rw [h]; simp
theorem isIn_step {l : List Ru} {j : Nat} {y : Ru} (h : l[j]? = some y) (n : ByteArray × Int) : isIn ((l.take (j + 1)).map nmOf) n = (isIn ((l.take j).map nmOf) n || (n.1.toList == y.text.toList && n.2 == y.whr)) := by
  rw [take_succ_get h, List.map_append]
  unfold isIn
  rw [List.any_append]; simp
theorem isIn_of {l : List Ru} {i j : Nat} {y : Ru} (h : l[j]? = some y) (hj : j < i) {n : ByteArray × Int} (hn : (n.1.toList == y.text.toList && n.2 == y.whr) = true) : isIn ((l.take i).map nmOf) n = true := by
  unfold isIn
  rw [List.any_eq_true]
  refine ⟨nmOf y, List.mem_map.2 ⟨y, ?_, rfl⟩, hn⟩
  exact List.mem_of_getElem? (i := j) (by rw [List.getElem?_take, if_pos hj]; exact h)
theorem rus_get {ps : List RH} {i : Nat} {x : RH} (h : ps[i]? = some x) : (rus ps)[i]? = some x.1 := by unfold rus; rw [List.getElem?_map, h]; rfl
theorem good_all {t : Ta} (hl : ∀ k, k < 2 → (langK t k).all ruOk = true) (h1 : (decide (t.dig.length = 10) && okCells t.dig) = true) (h2 : indic t.cap = true) (h3 : indic t.num = true) (h4 : indic t.fin = true) (h5 : indic t.sw = true) : goodT t = true := by
  have l0 := hl 0 (by omega)
  have l1 := hl 1 (by omega)
  simp [langK] at l0 l1
  unfold goodT
  simp only [Bool.and_eq_true, decide_eq_true_eq] at h1
  simp [h1.1, h1.2, h2, h3, h4, h5]
  exact ⟨l0, l1⟩
/-- the rules of a language, in tables as they lie -/
theorem sel_lang {w : World} {H : TH} {t : Ta} (hT : TaIs w H t) : ∀ k, k < 2 → ∃ a n c ps, [hdv H.r0, hdv H.r1][k]? = some (.slice a n c) ∧ Rul w a n c ps ∧ rus ps = langK t k := by
  refine two_cases ⟨_, _, _, _, rfl, hT.l0, ?_⟩ ⟨_, _, _, _, rfl, hT.l1, ?_⟩
  · rw [hT.e0]; rfl
  · rw [hT.e1]; rfl
/-- tables in a box -/
structure TBox (w : World) (g : Nat) (H : TH) (t : Ta) : Prop where
  ok : TaIs w H t
  rules : ∀ k, k < 2 → ∃ a n c ps, w.cell? ⟨g, k, none⟩ = some (.slice a n c) ∧ Rul w a n c ps ∧ rus ps = langK t k
  d : w.cell? ⟨g, 2, none⟩ = some (hdv H.d)
  c : w.cell? ⟨g, 3, none⟩ = some (hdv H.c)
  n : w.cell? ⟨g, 4, none⟩ = some (hdv H.n)
  f : w.cell? ⟨g, 5, none⟩ = some (hdv H.f)
  s : w.cell? ⟨g, 6, none⟩ = some (hdv H.s)
def tcells (H : TH) : List Value := [hdv H.r0, hdv H.r1, hdv H.d, hdv H.c, hdv H.n, hdv H.f, hdv H.s]
theorem TBox.new {w : World} {H : TH} {t : Ta} (hT : TaIs w H t) (ty : TypeId) : TBox (w.alloc (.cells (tcells H).toArray ty)) w.heap.size H t := by
  have hx := Box.new w ty (tcells H).toArray
  have hb : Below w.heap.size w (w.alloc (.cells (tcells H).toArray ty)) := (Below.refl _ w).alloc (Nat.le_refl _) _
  refine ⟨hT.below hb, ?_, hx.at_ rfl, hx.at_ rfl, hx.at_ rfl, hx.at_ rfl, hx.at_ rfl⟩
  intro k hk
  obtain ⟨a, n, c, ps, h1, h2, h3⟩ := sel_lang hT k hk
  refine ⟨a, n, c, ps, hx.at_ ?_, h2.below hb, h3⟩
  rcases k with _ | _ | k
  · exact h1
  · exact h1
  · omega
theorem TBox.below {w w' : World} {g : Nat} {H : TH} {t : Ta} (h : TBox w g H t) (hb : Below w.heap.size w w') : TBox w' g H t := by
  have key : ∀ {p : Addr} {u : Value}, w.cell? p = some u → w'.cell? p = some u := fun hc => by rw [hb.cell (World.block_lt_of_cell? w _ hc)]; exact hc
  refine ⟨h.ok.below hb, ?_, key h.d, key h.c, key h.n, key h.f, key h.s⟩
  intro k hk
  obtain ⟨a, n, c, ps, h1, h2, h3⟩ := h.rules k hk
  exact ⟨a, n, c, ps, key h1, h2.below hb, h3⟩
end Go.Dx
namespace Go.Proofs.Ytdeknimelkdaeaa
open Go.RowKit Go.Dx
theorem digR (l : List UInt8) : cellsR l 10 10 = (decide (l.length = 10) && okCells l) := by
  unfold cellsR
  by_cases h : l.length = 10
  · simp [h]
  · have h2 : (decide (10 ≤ l.length) && decide (l.length ≤ 10)) = false := by simp; omega
    rw [h2]; simp [h]
end Go.Proofs.Ytdeknimelkdaeaa
end

/- the text B20 -/
section
/- Chapter 06: the reference's Valid. -/
namespace Go.Proofs.Ytdeknimelkdaeaa
open Go.RowKit Go.Dx

end Go.Proofs.Ytdeknimelkdaeaa
end

/- the text B21 -/
section
/- Chapter 06: laws of the walk for Valid: an array of tables, a look-up in a set, a letter as a text. -/
namespace Go.Dx
open Go.RowKit
theorem run_look {P : Program} {w : World} {K : TypeId} (hK0 : NameKey P K) {t e : TypeId} (ht : P.underlying t = some (.map K e)) (hz : ∀ w, (zeroValue e).run P w = .ok (.bool false) w) {b : Nat} {ns : List (ByteArray × Int)} (hown : NSet w b ns) (n : ByteArray × Int) :
    (Instr.lookup t (.map (some b)) (nameV n) false).run P w = .ok (.bool (isIn ns n)) w := by
  obtain ⟨es, clock, hb, he⟩ := hown.ex
  obtain ⟨r, hr, hr2⟩ := find_key hK0 w n es.toList ns he
  have hck := name_key hK0 w es.isEmpty n
  cases r with
  | none =>
    cases hi : isIn ns n
    · simp [Instr.lookup, run_underlying ht, MapKept.run_getObj_map hb, hck, hr, hz]
    · rw [hi] at hr2; cases hr2
  | some q =>
    cases hi : isIn ns n
    · rw [hi] at hr2; cases hr2
    · rw [hi] at hr2
      have : q.2 = .bool true := by simpa using hr2
      obtain ⟨q1, q2⟩ := q
      subst this
      simp [Instr.lookup, run_underlying ht, MapKept.run_getObj_map hb, hck, hr]
theorem NSet.drewN {w : World} {b : Nat} {ns : List (ByteArray × Int)} (h : NSet w b ns) (n : Nat) : NSet (w.drewN n) b ns := ⟨h.ex⟩
theorem NSet.drew {w : World} {b : Nat} {ns : List (ByteArray × Int)} (h : NSet w b ns) : NSet w.drew b ns := ⟨h.ex⟩
theorem quiet_look {P : Program} {w : World} {ops : Array Oper} {rest : List Oper} {o : Oper} {a : Act} {Q : Act → Prop} {K : TypeId} (hK0 : NameKey P K) (m x : Operand) (t e : TypeId) (hop : o.op = Op.lookup t m x false) (ht : P.underlying t = some (.map K e))
    (hz : ∀ w, (zeroValue e).run P w = .ok (.bool false) w) (b : Nat) (ns : List (ByteArray × Int)) (hm : a.eval m = .map (some b)) (hown : NSet w b ns) (n : ByteArray × Int) (hx : a.eval x = nameV n) (hw : Region.wanted o (yielded ops a.tmps) = true)
    (hK : wpQuiet P ops (fun w' => ∃ n, w' = w.drewN n) Q rest (a.put o.dst (.bool (isIn ns n)))) : wpQuiet P ops (fun w' => ∃ n, w' = w.drewN n) Q (o :: rest) a := by
  refine quiet_in (.bool (isIn ns n)) hw ?_ hK
  rintro w' ⟨k, rfl⟩
  have hrun := run_look hK0 ht hz (hown.drewN k) n
  simp [execOp, hop, hm, hx, hrun, Result.andThen]
theorem encode_chr : ∀ u : Nat, u < 128 → chars (Utf8.encode (u : Int)) = [UInt8.ofNat u] := by decide +kernel
section
variable {P : Program} {w : World} {ops : Array Oper} {rest : List Oper} {act : Act} {Q : Exit → Act → World → Prop} {ty : TypeId} {pos : String} {after : Array Edge}
/-- 'v[i]' of an array that is a value, its elements structs of one cell -/
theorem index_wrap (d : Nat) (t e n : TypeId) (x y : Operand) (ht : P.underlying t = some (.array n e)) (hsz : (P.info? e).map (·.size) = some 1) (hag : IsAgg P e) (cs : List Value) (hx : act.eval x = .agg cs.toArray) (k : IntKind) (i : Nat) (hy : act.eval y = .int k (i : Int)) (hi : i < n)
    (u : Value) (hu : cs[i]? = some u) (hK : wpList P ops Q rest (act.put (some d) (.agg #[u])) w) :
    wpList P ops Q ({ dst := some d, op := .index t x y, type := ty, pos := pos, after := after, guard := none } :: rest) act w := by
  refine wpList_plain rfl fun K hK' => ?_
  obtain ⟨i0, hi0, hs0⟩ := Option.map_eq_some_iff.1 hsz
  have h3 : (0 : Int) ≤ i ∧ (i : Int) < n := by omega
  have hil := (List.getElem?_eq_some_iff.1 hu).1
  have hex : List.take 1 (List.drop i cs) = [u] := by
    rw [List.drop_eq_getElem_cons hil, List.take_succ_cons, List.take_zero, (List.getElem?_eq_some_iff.1 hu).2]
  have hrun : (Instr.index t (.agg cs.toArray) (.int k (i : Int))).run P w = .ok (.agg #[u]) w := by
    simp [Instr.index, asIntOf, run_underlying ht, sizeOf, typeInfo, hi0, hs0, h3, part, run_isAgg hag, hex, hi]
  unfold Oper.wp
  simp [execOp, hx, hy, hrun, Result.andThen]
  exact hK' _ _ hK
end
theorem four_cases {p : Nat → Prop} (h0 : p 0) (h1 : p 1) (h2 : p 2) (h3 : p 3) : ∀ k, k < 4 → p k := by
  intro k hk
  rcases k with _ | _ | _ | _ | k
  · exact h0
  · exact h1
  · exact h2
  · exact h3
  · omega
def inds (t : Ta) : List (List UInt8) := [t.cap, t.num, t.fin, t.sw]
def gI (t : Ta) (k : Nat) : Bool := (decide (t.dig.length = 10) && okCells t.dig) && ((inds t).take k).all indic
theorem gI_step {t : Ta} {k : Nat} {l : List UInt8} (h : (inds t)[k]? = some l) : gI t (k + 1) = (gI t k && indic l) := by
  unfold gI
  rw [take_succ_get h, List.all_append]
  simp [Bool.and_assoc]
def gR (t : Ta) (k : Nat) : Bool := gI t 4 && (List.range k).all fun j => (langK t j).all ruOk
theorem gR_step {t : Ta} {k : Nat} : gR t (k + 1) = (gR t k && (langK t k).all ruOk) := by
  unfold gR
  rw [List.range_succ, List.all_append]
  simp [Bool.and_assoc]
theorem good_R (t : Ta) : goodT t = gR t 2 := by
  unfold goodT gR gI inds
  simp [List.range_succ, langK, Bool.and_assoc]
/-- a set of names in a map, whose block is another one -/
def HasSet (w : World) (v : Value) (bk lim : Nat) (l : List Ru) : Prop := ∃ b, v = .map (some b) ∧ b ≠ bk ∧ b < lim ∧ NSet w b (l.map nmOf)
theorem HasSet.below {w w' : World} {v : Value} {bk lim : Nat} {l : List Ru} (h : HasSet w v bk lim l) (hb : Below w.heap.size w w') : HasSet w' v bk lim l := by
  obtain ⟨b, h1, h2, h3, h4⟩ := h
  exact ⟨b, h1, h2, h3, h4.below hb⟩
theorem HasSet.grown {w w' : World} {v : Value} {bk lim g : Nat} {l : List Ru} (h : HasSet w v bk lim l) (hg : w.grownBy w' (some g)) (hne : g = bk ∨ lim ≤ g) : HasSet w' v bk lim l := by
  obtain ⟨b, h1, h2, h3, h4⟩ := h
  refine ⟨b, h1, h2, h3, h4.kept hg fun e => ?_⟩
  cases e
  omega
theorem HasSet.now {w : World} {v : Value} {bk lim : Nat} {l : List Ru} (h : HasSet w v bk lim l) : HasSet w v bk w.heap.size l := by
  obtain ⟨b, h1, h2, h3, h4⟩ := h
  exact ⟨b, h1, h2, h4.lt, h4⟩
end Go.Dx
namespace Go.Proofs.Ytdeknimelkdaeaa
open Go.RowKit Go.Dx
theorem zero_bool (w : World) : (zeroValue 4).run Try.prog w = .ok (.bool false) w := by kernel_rfl
section
variable {w : World} {ops : Array Oper} {rest : List Oper} {o : Oper} {act : Act} {Q : Exit → Act → World → Prop} {ty : TypeId} {pos : String} {after : Array Edge}
/-- 'l[i]' in [][]byte, the address -/
theorem idx_bb (d : Nat) (x y : Operand) (a : Option Addr) (n c : Nat) (cs : List Value) (hx : act.eval x = .slice a n c) (ht : Sl w 1 a n c cs) (k : IntKind) (iv : Int) (i : Nat) (hy : act.eval y = .int k iv) (hiv : iv = (i : Int))
    (u : Value) (hu : cs[i]? = some u)
    (hK : ∀ b o, w.cell? ⟨b, o, none⟩ = some u → b < w.heap.size → wpList Try.prog ops Q rest (act.put (some d) (.pointer (some ⟨b, o, none⟩))) w) :
    wpList Try.prog ops Q ({ dst := some d, op := .indexAddr 27 x y, type := ty, pos := pos, after := after, guard := none } :: rest) act w :=
  index_sl d 27 x y 31 Try.underlying27 size_row a n c _ hx ht k iv i hy hiv u hu hK
end
end Go.Proofs.Ytdeknimelkdaeaa
end

/- the text B22 -/
section
/- Chapter 06: the program's Valid. -/
namespace Go.Proofs.Ytdeknimelkdaeaa
open Go.RowKit Go.Dx

end Go.Proofs.Ytdeknimelkdaeaa
end

/- the text AppZ -/
section
/- 'append(out, make([]T, k)...)': the builtin is handed the number. No program in sight. -/
set_option linter.unusedVariables false
namespace Go.Dx
open Go.RowKit

theorem zeroCells_one {z : Value} (hz : z.cells = #[z]) (m : Nat) : (Builtin.zeroCells z.cells m).toList = List.replicate m z := by
  unfold Builtin.zeroCells
  rw [hz]
  apply List.ext_getElem
  · simp
  · intro i h1 h2
    simp [Nat.mod_one]
section laws
variable {P : Program} {w : World} {ops : Array Oper} {rest : List Oper} {o : Oper} {act : Act} {Q : Exit → Act → World → Prop}

theorem run_append_zeros (base : Nat) (t tn ty e : TypeId) (i : TypeInfo) (z : Value) (kq kn : IntKind) (ht : P.underlying t = some (.slice e)) (htn : P.underlying tn = some (.int kn)) (hi : P.info? e = some i) (hz : i.zero = some z)
    (hz1 : z.cells = #[z]) (hone : z.oneCell' = true) (hsz : i.size = 1) (a : Option Addr) (n c : Nat) (xs : List Value) (hown : Own w base e i.size a n c xs)
    (m : Nat) (h0 : 0 < m)
    (h63 : n + m ≤ maxLen) (hbytes : (n + m) * i.bytes ≤ 140737488355328) (hbase : base ≤ w.heap.size) :
    ∃ a' c' w', (Builtin.append_ #[t, tn] ty #[.slice a n c, .int kq (m : Int)]).run P w = .ok (.slice a' (n + m) c') w' ∧ Own w' base e i.size a' (n + m) c' (xs ++ List.replicate m z) ∧ w.grownBy w' (a.map (·.block)) := by
  have hsmall : n + m ≤ 9223372036854775807 := by simp only [maxLen] at h63; omega
  have hlen : (xs ++ List.replicate m z).length = (n + m) * i.size := by rw [List.length_append, hown.1, List.length_replicate, hsz]; omega
  have hold : (Builtin.firstCells i.size n (.slice a n c)).run P w.drew = .ok xs.toArray w.drew := by
    have hsl := hown.sl
    cases a with
    | none =>
      have := hsl.nil rfl
      have := hsl.le
      obtain rfl : n = 0 := by omega
      have hnews : xs = [] := List.eq_nil_of_length_eq_zero (by simpa using hsl.len)
      subst hnews
      exact run_firstCells_none w.drew i.size 0 0 c
    | some p => exact run_firstCells_some w.drew i.size n p n c xs hsl.len (by simpa using hsl.cell p rfl)
  have hk : m ≠ 0 := by omega
  have hw : IntKind.i64.wrap (m : Int) = m := by rw [IntKind.wrap_i64]; omega
  have hneg : ¬ ((m : Int) < 0) := by omega
  have hm8 : m * i.bytes ≤ (n + m) * i.bytes := Nat.mul_le_mul_right _ (by omega)
  have h48i : ¬ (281474976710656 < (m : Int) * (i.bytes : Int)) := by
    rw [← Int.natCast_mul]
    omega
  by_cases hroom : n + m ≤ c
  · rcases hown.2 with ⟨h1, h2⟩ | ⟨g, cap, cur, h1, hbg, hg, hnc, hcm, hcs, htake⟩
    · injection h1 with h1 h3 h4
      subst h1 h3 h4
      omega
    · injection h1 with h1 h3 h4
      subst h1 h4
      have hnews : (List.replicate m z).length = m * i.size := by rw [List.length_replicate, hsz, Nat.mul_one]
      have hfit : n * i.size + (List.replicate m z).length ≤ cur.size := by rw [hnews, hcs, ← Nat.add_mul]; exact Nat.mul_le_mul_right _ hroom
      have hst := run_storeCells_at P g (n * i.size) e (List.replicate m z) 0 cur w hg (by simpa using hfit) (by intro u hu; rw [List.eq_of_mem_replicate hu]; exact hone)
      simp only [Nat.add_zero] at hst
      have hns : ¬ (m * i.size = 0) := by rw [hsz]; omega
      refine ⟨some ⟨g, 0, none⟩, c, w.setRow g (cur.toList.take (n * i.size) ++ List.replicate m z ++ cur.toList.drop (n * i.size + (List.replicate m z).length)).toArray, ?_, ⟨hlen, .inr ⟨g, c, _, rfl, hbg, setRow_heap w g cur _ e _ hg, hroom, hcm, ?_, ?_⟩⟩, ⟨rfl, rfl, rfl, by simp, fun k _ hk => setRow_other w g k _ (fun e => hk (by simp [e]))⟩⟩
      · simp [Builtin.append_, run_underlying ht, run_underlying htn, sizeOf, typeInfo, zeroValue, hi, hz, asInt, asIntOf, hw, hneg, hns, h48i, hroom, Addr.add_lit]
        rw [zeroCells_one hz1]
        simp at hst
        simp [hst]
      · simp only [List.size_toArray, List.length_append, List.length_take, List.length_drop, Array.length_toList]
        omega
      · rw [htake, ← hlen]
        exact List.take_left
  · have hr := Lib.run_append_grow_zeros (P := P) w t tn ty e i z kq kn ht htn hi hz a n c xs hold m h0 (by omega) (by omega) (by omega) (by omega) (growslice_fits (by omega) hbytes)
    have hge := grownCap_ge w (n + m) c e
    have hcm : grownCap w (n + m) c e ≤ maxLen := grownCap_le_maxLen w (n + m) c e h63
    refine ⟨_, _, _, hr, ⟨hlen, .inr ⟨w.heap.size, _, _, rfl, hbase, heap_alloc_new w.drew _, hge, hcm, ?_, ?_⟩⟩, ⟨rfl, rfl, rfl, by simp, fun k hk _ => Below.heap_alloc w.drew _ k hk⟩⟩
    · have h1 := hown.1
      rw [hsz, Nat.mul_one] at h1
      simp only [Array.size_append, List.size_toArray, size_zeroCells, hz1, hsz, h1, Nat.mul_one]
      simp
      omega
    · rw [Array.toList_append, Array.toList_append, zeroCells_one hz1, List.toList_toArray, ← hlen]
      exact List.take_left

/-- 'append(out, make([]T, k)...)', out owned -/
theorem append_zeros (hg : o.guard = none) (s x : Operand) (t tn : TypeId) (hop : o.op = Op.call { callee := Callee.builtin Builtin.append, args := #[s, x], argTypes := #[t, tn] })
    (e : TypeId) (z : Value) (bytes : Nat) (kq kn : IntKind) (ht : P.underlying t = some (.slice e)) (htn : P.underlying tn = some (.int kn)) (hi : (P.info? e).map (fun i => (i.zero, i.size, i.bytes)) = some (some z, 1, bytes)) (hz : z.cells = #[z]) (hone : z.oneCell' = true)
    (w0 : World) (B : Nat) (a : Option Addr) (n c : Nat) (xs : List Value) (hs : act.eval s = .slice a n c) (hown : Own w B e 1 a n c xs)
    (m : Nat) (iv : Int) (hx : act.eval x = .int kq iv) (hiv : iv = (m : Int)) (h0 : 0 < m)
    (hn : (n + m) * bytes ≤ 140737488355328) (hn2 : n + m ≤ maxLen) (hB : B ≤ w.heap.size) (hbel : Below B w0 w)
    (hK : ∀ a' c' w', Own w' B e 1 a' (n + m) c' (xs ++ List.replicate m z) → w.grownBy w' (a.map (·.block)) → Below B w0 w' → wpList P ops Q rest (act.put o.dst (.slice a' (n + m) c')) w') :
    wpList P ops Q (o :: rest) act w := by
  obtain ⟨i, hi0, hz0, hz1, hz2⟩ := info_parts hi
  subst hz2 hiv
  clear hi
  obtain ⟨a', c', w', hrun, ho, hgr⟩ := run_append_zeros (w := w) (P := P) B t tn o.type e i z kq kn ht htn hi0 hz0 hz hone hz1 a n c xs (by rw [hz1]; exact hown) m h0 hn2 hn hB
  rw [hz1] at ho
  refine wpList_plain hg fun K hK' => ?_
  unfold Oper.wp
  simp [execOp, hop, resolve, invoke, builtin, hs, hx, hrun, Result.andThen]
  refine hK' _ _ (hK a' c' w' ho hgr (hbel.grown hgr hB ?_))
  intro k hk
  cases a with
  | none => cases hk
  | some p => injection hk with hk; subst hk; exact hown.base.1
end laws
end Go.Dx
end

/- the text B23 -/
section
/- Chapter 06: slices.Clone, slices.Grow, slices.Concat of bytes. -/
namespace Go.Dx
open Go.RowKit
theorem Own.cut0 {w : World} {B : Nat} {e : TypeId} {a : Option Addr} {n c : Nat} {xs : List Value} (h : Own w B e 1 a n c xs) : Own w B e 1 a 0 c [] := by
  refine ⟨rfl, ?_⟩
  rcases h.2 with ⟨h1, _⟩ | ⟨g, cap, cur, h1, h2, h3, h4, h5, h6, h7⟩
  · left
    injection h1 with e1 e2 e3
    subst e1; subst e3
    exact ⟨rfl, rfl⟩
  · injection h1 with e1 e2 e3
    subst e1; subst e3
    exact .inr ⟨g, c, cur, rfl, h2, h3, Nat.zero_le _, h5, h6, by simp⟩
def sumK (x y : List UInt8) (k : Nat) : Nat := (([x, y].take k).map List.length).sum
def catK (x y : List UInt8) (k : Nat) : List UInt8 := ([x, y].take k).flatten
theorem sumK_step {x y l : List UInt8} {k : Nat} (h : [x, y][k]? = some l) : sumK x y (k + 1) = sumK x y k + l.length := by
  unfold sumK; rw [take_succ_get h, List.map_append, List.sum_append]; simp
theorem catK_step {x y l : List UInt8} {k : Nat} (h : [x, y][k]? = some l) : catK x y (k + 1) = catK x y k ++ l := by
  unfold catK; rw [take_succ_get h, List.flatten_append]; simp
theorem catK_two (x y : List UInt8) : catK x y 2 = x ++ y := by simp [catK]
end Go.Dx
namespace Go.Proofs.Ytdeknimelkdaeaa
open Go.RowKit Go.Dx
section
variable {w : World} {ops : Array Oper} {rest : List Oper} {o : Oper} {act : Act} {Q : Exit → Act → World → Prop}
theorem app_z (hg : o.guard = none) (s x : Operand) (hop : o.op = Op.call { callee := Callee.builtin Builtin.append, args := #[s, x], argTypes := #[31, 3] })
    (w0 : World) (B : Nat) (a : Option Addr) (n c : Nat) (xs : List Value) (hs : act.eval s = .slice a n c) (hown : Own w B 5 1 a n c xs)
    (m : Nat) (iv : Int) (hx : act.eval x = .int .i64 iv) (hiv : iv = (m : Int)) (h0 : 0 < m) (hn : n + m ≤ 140737488355328) (hB : B ≤ w.heap.size) (hbel : Below B w0 w)
    (hK : ∀ a' c' w', Own w' B 5 1 a' (n + m) c' (xs ++ List.replicate m (.int .u8 0)) → w.grownBy w' (a.map (·.block)) → Below B w0 w' → wpList Try.prog ops Q rest (act.put o.dst (.slice a' (n + m) c')) w') :
    wpList Try.prog ops Q (o :: rest) act w :=
  append_zeros hg s x 31 3 hop 5 (.int .u8 0) 1 .i64 .i64 Try.underlying31 Try.underlying3 info_u8 rfl rfl w0 B a n c _ hs hown m iv hx hiv h0 (by omega) (by unfold maxLen; omega) hB hbel hK
end
set_option maxHeartbeats 400000 in
theorem clone6 (l : List UInt8) (a : Option Addr) (n c : Nat) (w : World) (hs : Sl w 1 a n c (l.map B8)) (hl : n ≤ 140737488355328) :
    Calls Try.prog 40 #[.slice a n c] w fun e w' => ∃ a' c', e = .returned (.slice a' n c') ∧ Own w' w.heap.size 5 1 a' n c' (l.map B8) ∧ Below w.heap.size w w' := by
  obtain rfl := hs.n_eq
  have q47 : ∀ (w : World) (a : Option Addr) (n c n' c' : Nat), (binOp .eql 31 (.slice a n c) (.slice none n' c')).run Try.prog w = .ok (.bool a.isNone) w := fun w a n c n' c' => Lib.run_eql_slice_nil w _ _ a n c n' c' Try.underlying31
  cases a with
  | none =>
    have h1 := hs.nil rfl
    have h2 := hs.le
    have h3 : l = [] := List.eq_nil_of_length_eq_zero (by omega)
    subst h3 h1
    clear h2 hl
    go_enter Try.func40, Try.ntmps40
    go_wp2_with fail
    go_ret
    exact ⟨none, 0, rfl, Own.nil _ _ _ _, Below.refl _ _⟩
  | some p =>
    have ho := Own.built w w.heap.size 5 1 0 #[] (Nat.le_refl _) rfl (by decide)
    have hb := blo w (.cells #[] 5)
    have hs2 := hs.alloc (.cells #[] 5)
    go_enter Try.func40, Try.ntmps40
    go_wp2_with (at_builtin; refine app_bs rfl _ _ rfl w w.heap.size _ 0 0 _ rfl ho _ l.length c l rfl hs2 (by omega) (by simp) hb ?_; intro a' c' w' ho' hgr' hb')
    go_ret
    exact ⟨a', c', by rw [← Nat.zero_add l.length]; rfl, by rw [Nat.zero_add] at ho'; exact ho', hb'⟩
end Go.Proofs.Ytdeknimelkdaeaa
end

/- the text BuildR -/
section
/- A slice literal of structs, as a law of the walk. No program in sight. -/
set_option linter.unusedVariables false
namespace Go.Dx
open Go.RowKit
section
variable {P : Program} {w : World} {ops : Array Oper} {rest : List Oper} {act : Act} {Q : Exit → Act → World → Prop} {ty : TypeId} {pos : String} {after : Array Edge}
theorem build_rows (d : Nat) (t : TypeId) (n : Nat) (ps : Array (Nat × Operand)) (e : TypeId) (ht : P.underlying t = some (.slice e)) (sz : Nat) (hi : (P.info? e).map (fun i => (i.zero.isSome, i.size)) = some (true, sz)) (h0 : 0 < sz)
    (vs : List Value) (hv : ∀ v ∈ vs, v.cells.size = sz) (hn : vs.length = n) (hn0 : 0 < n) (hm : n * sz ≤ 16777216)
    (hp : (ps.map fun (i, x) => (i, act.eval x)).toList = (vs.zipIdx 0).map fun x => (x.2, x.1))
    (hK : ∀ w', Own w' w.heap.size e sz (some ⟨w.heap.size, 0, none⟩) n n (vs.flatMap fun v => v.cells.toList) → Below w.heap.size w w' → w'.heap.size = w.heap.size + 1 → wpList P ops Q rest (act.put (some d) (.slice (some ⟨w.heap.size, 0, none⟩) n n)) w') :
    wpList P ops Q ({ dst := some d, op := .buildSlice t n ps, type := ty, pos := pos, after := after, guard := none } :: rest) act w := by
  obtain ⟨i, hi0, hi1⟩ := Option.map_eq_some_iff.1 hi
  injection hi1 with hz hs
  obtain ⟨z, hz⟩ := Option.isSome_iff_exists.1 hz
  subst hs
  have hpos : 0 < n * i.size := Nat.mul_pos hn0 h0
  have hlen : ∀ l : List Value, (∀ v ∈ l, v.cells.size = i.size) → (l.flatMap fun v => v.cells.toList).length = l.length * i.size := by
    intro l
    induction l with
    | nil => intro _; simp
    | cons v l ih =>
      intro h
      rw [List.flatMap_cons, List.length_append, ih (fun u hu => h u (List.mem_cons_of_mem _ hu)), Array.length_toList, h v List.mem_cons_self, List.length_cons, Nat.succ_mul]
      omega
  refine wpList_buildSlice rfl t e n ps rfl (vs.flatMap fun v => v.cells.toList).toArray i z ht hi0 hz (by omega) (by omega) ?_ (hK (w.alloc (.cells (vs.flatMap fun v => v.cells.toList).toArray e)) ?_ ((Below.refl _ _).alloc (Nat.le_refl _) _) (by simp))
  · rw [hp]
    exact Great.fill_whole h0 vs _ hv (by rw [hn]; simp)
  · have := Own.built w w.heap.size e i.size n (vs.flatMap fun v => v.cells.toList).toArray (Nat.le_refl _) (by rw [List.size_toArray, hlen vs hv, hn]) (by have : n ≤ n * i.size := Nat.le_mul_of_pos_right n h0; unfold maxLen; omega)
    simpa using this
end
end Go.Dx
end

/- the text Free2 -/
section
/- A region that draws its order, in whose head one operation (an append, a store) changes what lies there: TP. What it waits for (TE) comes before it; what may come at any time (TL) leaves the world as it is. No program in sight. -/
set_option linter.unusedVariables false
namespace Go.Dx
open Go.RowKit

theorem grown_of_below {w w' : World} (h : Below w.heap.size w w') (row : Option Nat) : w.grownBy w' row := ⟨h.os, h.tape, h.output, h.size, fun k hk _ => h.block k hk⟩
theorem grown_trans {a b c : World} {row : Option Nat} (h : a.grownBy b row) (k : b.grownBy c row) : a.grownBy c row :=
  ⟨k.os.trans h.os, k.tape.trans h.tape, k.output.trans h.output, Nat.le_trans h.size k.size, fun i hi hr => (k.block i (Nat.lt_of_lt_of_le hi h.size) hr).trans (h.block i hi hr)⟩
/-- what an operation leaves that does not touch the world -/
def OneStill (d : Nat) (a : Act) (w : World) (R : Value → World → Prop) (e : Exit) (a' : Act) (w' : World) : Prop := e = .normal ∧ ∃ v, a' = a.put (some d) v ∧ w' = w ∧ R v w'
def OneTurn (d : Nat) (a : Act) (R : Value → World → Prop) (e : Exit) (a' : Act) (w' : World) : Prop := e = .normal ∧ ∃ v, a' = a.put (some d) v ∧ R v w'

structure MidInv (l : List Oper) (n p : Nat) (T : List HOp) (a0 : Act) (w0 : World) (G : World → Prop) (listed : Array Bool) (a : Act) (w : World) : Prop where
  inv : HeadInv .any l.toArray n listed
  defers : a.defers = a0.defers
  size : a.tmps.size = a0.tmps.size
  frame : ∀ k, (∀ t ∈ T, t.d ≠ k) → a.tmps.getD k undef = a0.tmps.getD k undef
  pre : listed.getD p false = false → Below w0.heap.size w0 w
  post : listed.getD p false = true → G w
  facts : ∀ t ∈ T, listed.getD t.i false = true → t.fact a w

section
variable {P : Program}
theorem wp_region_mid {id : Nat} {Q : Exit → Act → World → Prop} {a0 : Act} {w0 : World} {l : List Oper} (n : Nat) (L G : World → Prop) (TP : HOp) (TE TL : List HOp) (hm : P.follows .mixedOrders = true)
    (hB : (headOk l n ((TP :: (TE ++ TL)).map fun t => (t.i, t.d, t.s)) a0.tmps.size && (TE.all fun t => Region.waitsFor .any l.toArray TP.i t.i && t.i != TP.i)) = true)
    (hL1 : ∀ w, Below w0.heap.size w0 w → L w) (hL2 : ∀ w, G w → L w)
    (hmono : All (fun t : HOp => ∀ vs w w', Below w.heap.size w w' → t.p vs w → t.p vs w') (TE ++ TL))
    (hopP : ∀ o, l[TP.i]? = some o → ∀ (a : Act) (w : World), Below w0.heap.size w0 w →
      (∀ k, ((TP :: (TE ++ TL)).map (·.d)).contains k = false → a.tmps.getD k undef = a0.tmps.getD k undef) →
      (∀ (k : Nat) (u : HOp), (TP :: (TE ++ TL))[k]? = some u → Region.waitsFor .any l.toArray TP.i u.i = true → u.p (u.s.map fun k => a.tmps.getD k undef) w) →
      wpList P l.toArray (OneTurn TP.d a fun v w' => TP.p (TP.s.map fun k => if TP.d = k then v else a.tmps.getD k undef) w' ∧ G w' ∧ All (fun u : HOp => ∀ vs, u.p vs w → u.p vs w') (TE ++ TL)) [o] a w)
    (hopE : All (fun t : HOp => ∀ o, l[t.i]? = some o → ∀ (a : Act) (w : World), Below w0.heap.size w0 w →
      (∀ k, ((TP :: (TE ++ TL)).map (·.d)).contains k = false → a.tmps.getD k undef = a0.tmps.getD k undef) →
      (∀ (k : Nat) (u : HOp), (TP :: (TE ++ TL))[k]? = some u → Region.waitsFor .any l.toArray t.i u.i = true → u.p (u.s.map fun k => a.tmps.getD k undef) w) →
      wpList P l.toArray (OneDone t.d a w fun v w' => t.p (t.s.map fun k => if t.d = k then v else a.tmps.getD k undef) w') [o] a w) TE)
    (hopL : All (fun t : HOp => ∀ o, l[t.i]? = some o → ∀ (a : Act) (w : World), L w →
      (∀ k, ((TP :: (TE ++ TL)).map (·.d)).contains k = false → a.tmps.getD k undef = a0.tmps.getD k undef) →
      (∀ (k : Nat) (u : HOp), (TP :: (TE ++ TL))[k]? = some u → Region.waitsFor .any l.toArray t.i u.i = true → u.p (u.s.map fun k => a.tmps.getD k undef) w) →
      wpList P l.toArray (OneStill t.d a w fun v w' => t.p (t.s.map fun k => if t.d = k then v else a.tmps.getD k undef) w') [o] a w) TL)
    (hend : ∀ (g : Nat → Value) (w : World), G w → (∀ (k : Nat) (u : HOp), (TP :: (TE ++ TL))[k]? = some u → u.p (u.s.map fun k => if k ∈ (TP :: (TE ++ TL)).map (·.d) then g k else a0.tmps.getD k undef) w) →
      wpList P l.toArray Q (l.drop n) (putAll a0 (((TP :: (TE ++ TL)).map (·.d)).map fun d => (d, g d))) w) : (Code.region id l.toArray true).wp P Q a0 w0 := by
  obtain ⟨T, hTdef⟩ : ∃ T, TP :: (TE ++ TL) = T := ⟨_, rfl⟩
  have memP : TP ∈ T := by rw [← hTdef]; exact List.mem_cons_self
  have split : ∀ t ∈ T, t = TP ∨ t ∈ TE ∨ t ∈ TL := by
    intro t ht
    rw [← hTdef] at ht
    rcases List.mem_cons.1 ht with h | h
    · exact .inl h
    · exact .inr (List.mem_append.1 h)
  have rest : ∀ t ∈ T, t ≠ TP → t ∈ TE ++ TL := by
    intro t ht hne
    rw [← hTdef] at ht
    rcases List.mem_cons.1 ht with h | h
    · exact absurd h hne
    · exact h
  rw [hTdef] at hB hopP hopE hopL hend
  rw [Bool.and_eq_true] at hB
  obtain ⟨hB, hE⟩ := hB
  have hE1 : ∀ t ∈ TE, Region.waitsFor .any l.toArray TP.i t.i = true ∧ t.i ≠ TP.i := by
    intro t ht
    have := List.all_eq_true.1 hE t ht
    simpa using this
  simp only [headOk, Bool.and_eq_true, decide_eq_true_eq] at hB
  obtain ⟨⟨⟨⟨⟨⟨⟨hnd, hn⟩, hs⟩, hc⟩, hseq⟩, hcov⟩, hT⟩, hpair⟩ := hB
  have hnodup : ∀ t ∈ T, ∀ u ∈ T, t.i = u.i → t = u := inj_nodup (·.i) T (by rw [List.map_map] at hnd; exact hnd)
  have hn' : n < l.toArray.size := by simpa using hn
  have cover : ∀ j, j < n → ∃ t ∈ T, t.i = j := by
    intro j hj
    have h := List.all_eq_true.1 hcov j (List.mem_range.2 hj)
    obtain ⟨x, hx, he⟩ := List.any_eq_true.1 h
    obtain ⟨t, ht, rfl⟩ := List.mem_map.1 hx
    exact ⟨t, ht, by simpa using he⟩
  have own : ∀ t ∈ T, t.i < n ∧ t.d < a0.tmps.size ∧ ∃ o, l[t.i]? = some o ∧ o.dst = some t.d ∧ ∀ e ∈ o.after, Region.binds .any e = true → e.on < t.i := by
    intro t ht
    have h := List.all_eq_true.1 hT _ (List.mem_map.2 ⟨t, ht, rfl⟩)
    simp only [Bool.and_eq_true, decide_eq_true_eq] at h
    obtain ⟨⟨h1, h2⟩, h3⟩ := h
    refine ⟨h1, h2, ?_⟩
    cases ho : l[t.i]? with
    | none => rw [ho] at h3; cases h3
    | some o =>
      rw [ho] at h3
      simp only [Bool.and_eq_true, beq_iff_eq] at h3
      refine ⟨o, rfl, h3.1, fun e he hb => ?_⟩
      have := Array.all_eq_true_iff_forall_mem.1 h3.2 e he
      simpa [hb] using this
  have pair : ∀ t ∈ T, ∀ u ∈ T, t.i ≠ u.i → t.d ≠ u.d ∧ (t.d ∈ u.s → Region.waitsFor .any l.toArray u.i t.i = true) := by
    intro t ht u hu hne
    have h := List.all_eq_true.1 (List.all_eq_true.1 hpair _ (List.mem_map.2 ⟨t, ht, rfl⟩)) _ (List.mem_map.2 ⟨u, hu, rfl⟩)
    simp only [Bool.or_eq_true, beq_iff_eq, hne, false_or, Bool.and_eq_true, bne_iff_ne, ne_eq, Bool.not_eq_true'] at h
    refine ⟨h.1, fun hin => ?_⟩
    rcases h.2 with h2 | h2
    · have : u.s.contains t.d = true := by simpa using hin
      rw [this] at h2; cases h2
    · exact h2
  have key : ∀ (f : Nat) (listed : Array Bool) (a : Act) (w : World), MidInv l n TP.i T a0 w0 G listed a w → todo listed n = f → wpAny P .any l.toArray Q (f + (l.length - n)) listed a w := by
    intro f
    induction f with
    | zero =>
      intro listed a w I h0
      have hall : ∀ j, j < n → listed.getD j true = true := by
        intro j hj
        cases hb : listed.getD j true with
        | true => rfl
        | false =>
          have : j ∈ (List.range n).filter fun j => !listed.getD j true := List.mem_filter.2 ⟨List.mem_range.2 hj, by rw [hb]; rfl⟩
          unfold todo at h0
          rw [List.eq_nil_of_length_eq_zero h0] at this
          cases this
      have hlist : listed = (List.replicate n true ++ List.replicate (l.length - n) false).toArray := by
        have hsz := I.inv.size
        apply Array.ext
        · simp at hsz ⊢; omega
        · intro j h1 h2
          by_cases hj : j < n
          · have := hall j hj
            simp [Array.getD, h1] at this
            simp [this, List.getElem_append_left, hj]
          · have := I.inv.tail j (by omega) (by rw [← hsz]; exact h1)
            simp [Array.getD, h1] at this
            simp only [this, List.getElem_toArray]
            rw [List.getElem_append_right (by simp; omega)]
            simp
      have ha : a = putAll a0 ((T.map (·.d)).map fun d => (d, a.tmps.getD d undef)) := by
        have hd : ∀ d ∈ T.map (·.d), d < a0.tmps.size := by
          intro d hd
          obtain ⟨t, ht, rfl⟩ := List.mem_map.1 hd
          exact (own t ht).2.1
        refine act_ext (by rw [putAll_defers]; exact I.defers) (by rw [putAll_size]; exact I.size) (fun k => ?_)
        rw [putAll_get (fun d => a.tmps.getD d undef) _ _ _ hd]
        by_cases h : k ∈ T.map (·.d)
        · rw [if_pos h]
        · rw [if_neg h]
          exact I.frame k (fun t ht e => h (List.mem_map.2 ⟨t, ht, e⟩))
      have hlp : listed.getD TP.i false = true := by
        have := hall TP.i (own TP memP).1
        rcases Nat.lt_or_ge TP.i listed.size with h' | h'
        · simp [h'] at this ⊢; exact this
        · have := I.inv.size; have := (own TP memP).1; omega
      have hfin := hend (fun d => a.tmps.getD d undef) w (I.post hlp) (fun k u hu => by
        have hu' := List.mem_of_getElem? hu
        have h1 := I.facts u hu' (by
          have := hall u.i (own u hu').1
          rcases Nat.lt_or_ge u.i listed.size with h' | h'
          · simp [h'] at this ⊢; exact this
          · have := I.inv.size; have := (own u hu').1; omega)
        unfold HOp.fact at h1
        have e : (u.s.map fun k => if k ∈ T.map (·.d) then a.tmps.getD k undef else a0.tmps.getD k undef) = u.s.map fun k => a.tmps.getD k undef := by
          apply List.map_congr_left
          intro k _
          by_cases h : k ∈ T.map (·.d)
          · rw [if_pos h]
          · rw [if_neg h]
            exact (I.frame k (fun t ht e => h (List.mem_map.2 ⟨t, ht, e⟩))).symm
        rw [e]
        exact h1)
      rw [← ha] at hfin
      rw [Nat.zero_add]
      have hseq' : Region.seqB .any l.toArray (l.drop n).length n listed = true := by rw [hlist, List.length_drop]; exact hseq
      have := wpAny_of_seq (md := .any) (Q' := Q) (l.drop n) n listed a w (fun j => by simp [List.getElem?_drop]) hseq' hfin
      rwa [List.length_drop] at this
    | succ f ih =>
      intro listed a w I hf
      have hex : ∃ j, j < n ∧ listed.getD j true = false := by
        cases hL : (List.range n).filter fun j => !listed.getD j true with
        | nil => unfold todo at hf; rw [hL] at hf; cases hf
        | cons j L =>
          have : j ∈ (List.range n).filter fun j => !listed.getD j true := by rw [hL]; exact List.mem_cons_self
          obtain ⟨h1, h2⟩ := List.mem_filter.1 this
          exact ⟨j, List.mem_range.1 h1, by simpa using h2⟩
      have hready : Region.ready .any l.toArray listed ≠ [] := by
        have hmin : ∀ m j, j ≤ m → j < n → listed.getD j true = false → ∃ i, i ∈ Region.ready .any l.toArray listed := by
          intro m
          induction m with
          | zero =>
            intro j hj hjn hjl
            have hj0 : j = 0 := by omega
            subst hj0
            obtain ⟨t, ht, hti⟩ := cover 0 hjn
            obtain ⟨_, _, o, ho, _, hb⟩ := own t ht
            rw [hti] at ho hb
            exact ⟨0, mem_ready.2 ⟨hjl, o, by simpa using ho, fun e he hbe => absurd (hb e he hbe) (by omega)⟩⟩
          | succ m ihm =>
            intro j hj hjn hjl
            obtain ⟨t, ht, hti⟩ := cover j hjn
            obtain ⟨_, _, o, ho, _, hb⟩ := own t ht
            rw [hti] at ho hb
            by_cases hall : ∀ e ∈ o.after, Region.binds .any e = true → listed.getD e.on false = true
            · exact ⟨j, mem_ready.2 ⟨hjl, o, by simpa using ho, hall⟩⟩
            · simp only [Classical.not_forall] at hall
              obtain ⟨e, he, hbe, hne⟩ := hall
              have hlt := hb e he hbe
              have hes : e.on < listed.size := by rw [I.inv.size]; simp; omega
              exact ihm e.on (by omega) (by omega) (getD_in hes (by simpa using hne))
        obtain ⟨j, hj, hjl⟩ := hex
        obtain ⟨i, hi⟩ := hmin j j (Nat.le_refl _) hj hjl
        intro h
        rw [h] at hi
        cases hi
      rw [show f + 1 + (l.length - n) = (f + (l.length - n)) + 1 by omega]
      refine ⟨fun h => absurd h hready, fun i hi => ?_⟩
      have hin : i < n := by
        rcases Nat.lt_or_ge i n with h | h
        · exact h
        · obtain ⟨j, hj, hjl⟩ := hex
          exact absurd hi (tail_waits hs hc hn' I.inv _ j rfl hj hjl i h)
      obtain ⟨t, ht, hti⟩ := cover i hin
      obtain ⟨_, htd, o, ho, hdst, _⟩ := own t ht
      obtain ⟨hil, oi, hoi, hafter⟩ := mem_ready.1 hi
      have hoo : oi = o := by rw [hti] at ho; exact Option.some.inj (hoi.symm.trans (by simpa using ho))
      subst hoo
      have hframe : ∀ k, (T.map (·.d)).contains k = false → a.tmps.getD k undef = a0.tmps.getD k undef := fun k hk => I.frame k (fun u hu e => by
          have : (T.map (·.d)).contains k = true := by simpa using ⟨u, hu, e⟩
          rw [this] at hk; cases hk)
      have hfacts : ∀ (k : Nat) (u : HOp), T[k]? = some u → Region.waitsFor .any l.toArray t.i u.i = true → u.p (u.s.map fun k => a.tmps.getD k undef) w := fun k u hu hw => by
        have hu' := List.mem_of_getElem? hu
        obtain ⟨oj, hoj, e, he, hb, hon⟩ := Region.waitsFor_spec hw
        have : oj = oi := by rw [hti] at hoj; exact Option.some.inj (hoj.symm.trans hoi)
        subst this
        have h1 := hafter e he hb
        rw [hon] at h1
        exact I.facts u hu' h1
      have step0 : ∀ (v : Value) (w' : World), (t.i ≠ TP.i → (listed.getD TP.i false = false → Below w0.heap.size w0 w') ∧ (listed.getD TP.i false = true → G w')) → (t.i = TP.i → G w') →
          (∀ u ∈ T, u ≠ t → listed.getD u.i false = true → ∀ vs, u.p vs w → u.p vs w') → t.p (t.s.map fun k => if t.d = k then v else a.tmps.getD k undef) w' → wpAny P .any l.toArray Q (f + (l.length - n)) (listed.setIfInBounds i true) (a.put (some t.d) v) w' := by
        intro v w' hph hG hsurv hp
        refine ih _ _ _ ⟨I.inv.set hi hin, I.defers, ?_, ?_, ?_, ?_, ?_⟩ ?_
        · rw [← I.size]; simp [Act.put]
        · intro k hk
          rw [put_get, if_neg (fun h => hk t ht h.1)]
          exact I.frame k hk
        · intro hl
          by_cases hip : t.i = TP.i
          · exfalso
            rw [← hip, hti] at hl
            have hlt : i < listed.size := by rw [I.inv.size]; omega
            simp [hlt] at hl
          · rw [getD_set_ne false (by rw [← hti]; exact hip)] at hl
            exact (hph hip).1 hl
        · intro hl
          by_cases hip : t.i = TP.i
          · exact hG hip
          · rw [getD_set_ne false (by rw [← hti]; exact hip)] at hl
            exact (hph hip).2 hl
        · intro u hu hul
          by_cases hui : t.i = u.i
          · unfold HOp.fact
            by_cases hut : u = t
            · subst hut
              have e : (u.s.map fun k => (a.put (some u.d) v).tmps.getD k undef) = u.s.map fun k => if u.d = k then v else a.tmps.getD k undef := by
                apply List.map_congr_left
                intro k _
                rw [put_get, I.size]
                by_cases hk : u.d = k
                · rw [if_pos ⟨hk, htd⟩, if_pos hk]
                · rw [if_neg (fun h => hk h.1), if_neg hk]
              rw [e]
              exact hp
            · exact absurd (hnodup t ht u hu hui).symm hut
          · unfold HOp.fact
            have hul2 : listed.getD u.i false = true := by rw [← getD_set_ne false (i := i) (j := u.i) (by rw [← hti]; exact hui)]; exact hul
            have h1 := hsurv u hu (fun e => hui (by rw [e])) hul2 _ (I.facts u hu hul2)
            have hnot : t.d ∉ u.s := by
              intro hin2
              have hw := (pair t ht u hu hui).2 hin2
              obtain ⟨ou, hou, e, he, hb, hon⟩ := Region.waitsFor_spec hw
              have := I.inv.closed u.i ou hou hul2 e he hb
              rw [hon, hti, getD_both hil] at this
              cases this
            have e : (u.s.map fun k => (a.put (some t.d) v).tmps.getD k undef) = u.s.map fun k => a.tmps.getD k undef := by
              apply List.map_congr_left
              intro k hk
              rw [put_get, if_neg (fun (h : t.d = k ∧ t.d < a.tmps.size) => hnot (by rw [h.1]; exact hk))]
            rw [e]
            exact h1
        · have := todo_set hin hil; omega
      have fin : ∀ (R : Exit → Act → World → Prop), (∀ e a' w', R e a' w' → e = .normal) → (∀ a' w', R .normal a' w' → wpAny P .any l.toArray Q (f + (l.length - n)) (listed.setIfInBounds i true) a' w') → wpList P l.toArray R [oi] a w → wpOp P l.toArray Q i (fun a' w' => wpAny P .any l.toArray Q (f + (l.length - n)) (listed.setIfInBounds i true) a' w') a w := by
        intro R hR step H
        unfold wpList at H
        unfold wpOp
        rw [hoi]
        simp only
        by_cases hwant : Region.wanted oi (yielded l.toArray a.tmps) = true
        · rw [if_pos hwant] at H
          rw [if_pos hwant]
          left
          rcases H with H | ⟨_, a1, w1, h1⟩
          · exact wp_both (fun a' w' h => step a' w' h) (fun e a' w' he h => absurd (hR _ _ _ h) he) H
          · exact absurd (hR _ _ _ h1) (by simp)
        · rw [if_neg hwant] at H
          rw [if_neg hwant]
          exact step _ _ H
      have prep : t.i = TP.i ∨ t ∈ TE → listed.getD TP.i false = false := by
        intro h
        rcases h with h | h
        · rw [h] at hti
          rw [hti]
          exact getD_both hil
        · cases hlp : listed.getD TP.i false with
          | false => rfl
          | true =>
            obtain ⟨hw, _⟩ := hE1 t h
            obtain ⟨ou, hou, e, he, hb, hon⟩ := Region.waitsFor_spec hw
            have := I.inv.closed TP.i ou hou hlp e he hb
            rw [hon, hti, getD_both hil] at this
            cases this
      by_cases htP : t = TP
      · subst htP
        have hpre := prep (.inl rfl)
        refine fin _ ?_ ?_ (hopP oi ho a w (I.pre hpre) hframe hfacts)
        · exact fun e a' w' h => h.1
        · rintro a' w' ⟨_, v, rfl, hp, hG, hS⟩
          refine step0 v w' (fun h => absurd rfl h) (fun _ => hG) (fun u hu hne _ => hS.mem u (rest u hu hne)) hp
      · have hipP : t.i ≠ TP.i := fun h => htP (hnodup t ht TP memP h)
        rcases split t ht with h | h | h
        · exact absurd h htP
        · have hpre := prep (.inr h)
          refine fin _ ?_ ?_ (hopE.mem t h oi ho a w (I.pre hpre) hframe hfacts)
          · exact fun e a' w' h => h.1
          · rintro a' w' ⟨_, v, rfl, hbel, hp⟩
            refine step0 v w' (fun _ => ⟨fun _ => (I.pre hpre).trans (hbel.mono (I.pre hpre).size), fun h => by rw [hpre] at h; cases h⟩) (fun h => absurd h hipP) (fun u hu hne hul => ?_) hp
            have huP : u ≠ TP := fun e => by rw [e, hpre] at hul; cases hul
            exact fun vs hv => hmono.mem u (rest u hu huP) vs w w' hbel hv
        · have hLw : L w := by
            cases hlp : listed.getD TP.i false with
            | false => exact hL1 w (I.pre hlp)
            | true => exact hL2 w (I.post hlp)
          refine fin _ ?_ ?_ (hopL.mem t h oi ho a w hLw hframe hfacts)
          · exact fun e a' w' h => h.1
          · rintro a' w' ⟨_, v, rfl, rfl, hp⟩
            exact step0 v _ (fun _ => ⟨I.pre, I.post⟩) (fun h => absurd h hipP) (fun u hu hne hul vs hv => hv) hp
  refine wp_region_any hm ?_
  have inv0 : HeadInv .any l.toArray n (Array.replicate l.toArray.size false) :=
    ⟨by simp, fun j oj _ hl => (by rw [getD_replicate_false] at hl; cases hl), fun t _ ht => getD_in (by simpa using ht) (getD_replicate_false _ _)⟩
  have I0 : MidInv l n TP.i T a0 w0 G (Array.replicate l.toArray.size false) a0 { w0 with drawn := w0.drawn + 1 } :=
    ⟨inv0, rfl, rfl, fun _ _ => rfl, fun _ => Still.below 1, fun hl => (by rw [getD_replicate_false] at hl; cases hl), fun t _ hl => (by rw [getD_replicate_false] at hl; cases hl)⟩
  have ht0 : todo (Array.replicate l.toArray.size false) n = n := by
    unfold todo
    rw [List.filter_eq_self.2 (fun j hj => by
      have hj' := List.mem_range.1 hj
      have : (Array.replicate l.toArray.size false).getD j true = false := getD_in (by simp; omega) (getD_replicate_false _ _)
      rw [this]; rfl), List.length_range]
  have := key n _ _ _ I0 ht0
  rwa [show n + (l.length - n) = l.toArray.size by simp; omega] at this
end
end Go.Dx
end

/- the text Free3 -/
section
/- A region that draws its order, whose operations that change the world follow one another (CH); the others (TL) leave the world as it is and may come at any time. No program in sight. -/
set_option linter.unusedVariables false
namespace Go.Dx
open Go.RowKit

structure ChInv (l : List Oper) (n : Nat) (CH TL T : List HOp) (a0 : Act) (G : Nat → List Value → World → Prop) (listed : Array Bool) (a : Act) (w : World) : Prop where
  inv : HeadInv .any l.toArray n listed
  defers : a.defers = a0.defers
  size : a.tmps.size = a0.tmps.size
  frame : ∀ k, (∀ t ∈ T, t.d ≠ k) → a.tmps.getD k undef = a0.tmps.getD k undef
  stage : ∃ j, j ≤ CH.length ∧ (∀ m c, CH[m]? = some c → (listed.getD c.i false = true ↔ m < j)) ∧ G j (CH.map fun c => a.tmps.getD c.d undef) w
  facts : ∀ t ∈ TL, listed.getD t.i false = true → t.fact a w

/-- each waits for the one before it -/
def linkOk (ops : Array Oper) : List Nat → Bool
  | i :: j :: l => Region.waitsFor .any ops j i && linkOk ops (j :: l)
  | _ => true
theorem linkOk_get {ops : Array Oper} : ∀ {L : List Nat}, linkOk ops L = true → ∀ m i j, L[m]? = some i → L[m + 1]? = some j → Region.waitsFor .any ops j i = true := by
  intro L
  induction L with
  | nil => intro _ m i j h; cases h
  | cons x L ih =>
    intro h m i j h1 h2
    cases L with
    | nil => cases m <;> simp at h2
    | cons y L =>
      simp only [linkOk, Bool.and_eq_true] at h
      cases m with
      | zero => cases h1; cases h2; exact h.1
      | succ m => exact ih h.2 m i j h1 h2

section
variable {P : Program}
theorem wp_region_chain {id : Nat} {Q : Exit → Act → World → Prop} {a0 : Act} {w0 : World} {l : List Oper} (n : Nat) (G : Nat → List Value → World → Prop) (CH TL : List HOp) (hm : P.follows .mixedOrders = true)
    (hB : (headOk l n ((CH ++ TL).map fun t => (t.i, t.d, t.s)) a0.tmps.size && linkOk l.toArray (CH.map (·.i)) && (TL.all fun t => CH.all fun c => t.i != c.i && t.d != c.d)) = true)
    (hG0 : G 0 (CH.map fun c => a0.tmps.getD c.d undef) { w0 with drawn := w0.drawn + 1 })
    (hmono : All (fun t : HOp => ∀ vs w w', t.p vs w → t.p vs w') TL)
    (hopC : ∀ m c, CH[m]? = some c → ∀ o, l[c.i]? = some o → ∀ (a : Act) (w : World), G m (CH.map fun c => a.tmps.getD c.d undef) w →
      (∀ k, ((CH ++ TL).map (·.d)).contains k = false → a.tmps.getD k undef = a0.tmps.getD k undef) →
      (∀ (k : Nat) (u : HOp), TL[k]? = some u → Region.waitsFor .any l.toArray c.i u.i = true → u.p (u.s.map fun k => a.tmps.getD k undef) w) →
      wpList P l.toArray (OneTurn c.d a fun v w' => G (m + 1) (CH.map fun e => if e.d = c.d then v else a.tmps.getD e.d undef) w') [o] a w)
    (hopL : All (fun t : HOp => ∀ o, l[t.i]? = some o → ∀ (a : Act) (w : World),
      (∀ k, ((CH ++ TL).map (·.d)).contains k = false → a.tmps.getD k undef = a0.tmps.getD k undef) →
      (∀ (k : Nat) (u : HOp), TL[k]? = some u → Region.waitsFor .any l.toArray t.i u.i = true → u.p (u.s.map fun k => a.tmps.getD k undef) w) →
      wpList P l.toArray (OneStill t.d a w fun v w' => t.p (t.s.map fun k => if t.d = k then v else a.tmps.getD k undef) w') [o] a w) TL)
    (hend : ∀ (g : Nat → Value) (w : World), G CH.length (CH.map fun c => g c.d) w → (∀ (k : Nat) (u : HOp), TL[k]? = some u → u.p (u.s.map fun k => if k ∈ (CH ++ TL).map (·.d) then g k else a0.tmps.getD k undef) w) →
      wpList P l.toArray Q (l.drop n) (putAll a0 (((CH ++ TL).map (·.d)).map fun d => (d, g d))) w) : (Code.region id l.toArray true).wp P Q a0 w0 := by
  obtain ⟨T, hTdef⟩ : ∃ T, CH ++ TL = T := ⟨_, rfl⟩
  have memC : ∀ t ∈ CH, t ∈ T := fun t ht => by rw [← hTdef]; exact List.mem_append_left _ ht
  have memL : ∀ t ∈ TL, t ∈ T := fun t ht => by rw [← hTdef]; exact List.mem_append_right _ ht
  have split : ∀ t ∈ T, t ∈ CH ∨ t ∈ TL := fun t ht => by rw [← hTdef] at ht; exact List.mem_append.1 ht
  rw [hTdef] at hB hopC hopL hend
  rw [Bool.and_eq_true, Bool.and_eq_true] at hB
  obtain ⟨⟨hB, hlink⟩, hdis⟩ := hB
  have hdis2 : ∀ t ∈ TL, ∀ c ∈ CH, t.i ≠ c.i ∧ t.d ≠ c.d := by
    intro t ht c hc
    have := List.all_eq_true.1 (List.all_eq_true.1 hdis t ht) c hc
    simpa using this
  have hlk : ∀ m c e, CH[m]? = some c → CH[m + 1]? = some e → Region.waitsFor .any l.toArray e.i c.i = true := fun m c e h1 h2 =>
    linkOk_get hlink m c.i e.i (by rw [List.getElem?_map, h1]; rfl) (by rw [List.getElem?_map, h2]; rfl)
  simp only [headOk, Bool.and_eq_true, decide_eq_true_eq] at hB
  obtain ⟨⟨⟨⟨⟨⟨⟨hnd, hn⟩, hs⟩, hc⟩, hseq⟩, hcov⟩, hT⟩, hpair⟩ := hB
  have hnodup : ∀ t ∈ T, ∀ u ∈ T, t.i = u.i → t = u := inj_nodup (·.i) T (by rw [List.map_map] at hnd; exact hnd)
  have hn' : n < l.toArray.size := by simpa using hn
  have cover : ∀ j, j < n → ∃ t ∈ T, t.i = j := by
    intro j hj
    have h := List.all_eq_true.1 hcov j (List.mem_range.2 hj)
    obtain ⟨x, hx, he⟩ := List.any_eq_true.1 h
    obtain ⟨t, ht, rfl⟩ := List.mem_map.1 hx
    exact ⟨t, ht, by simpa using he⟩
  have own : ∀ t ∈ T, t.i < n ∧ t.d < a0.tmps.size ∧ ∃ o, l[t.i]? = some o ∧ o.dst = some t.d ∧ ∀ e ∈ o.after, Region.binds .any e = true → e.on < t.i := by
    intro t ht
    have h := List.all_eq_true.1 hT _ (List.mem_map.2 ⟨t, ht, rfl⟩)
    simp only [Bool.and_eq_true, decide_eq_true_eq] at h
    obtain ⟨⟨h1, h2⟩, h3⟩ := h
    refine ⟨h1, h2, ?_⟩
    cases ho : l[t.i]? with
    | none => rw [ho] at h3; cases h3
    | some o =>
      rw [ho] at h3
      simp only [Bool.and_eq_true, beq_iff_eq] at h3
      refine ⟨o, rfl, h3.1, fun e he hb => ?_⟩
      have := Array.all_eq_true_iff_forall_mem.1 h3.2 e he
      simpa [hb] using this
  have pair : ∀ t ∈ T, ∀ u ∈ T, t.i ≠ u.i → t.d ≠ u.d ∧ (t.d ∈ u.s → Region.waitsFor .any l.toArray u.i t.i = true) := by
    intro t ht u hu hne
    have h := List.all_eq_true.1 (List.all_eq_true.1 hpair _ (List.mem_map.2 ⟨t, ht, rfl⟩)) _ (List.mem_map.2 ⟨u, hu, rfl⟩)
    simp only [Bool.or_eq_true, beq_iff_eq, hne, false_or, Bool.and_eq_true, bne_iff_ne, ne_eq, Bool.not_eq_true'] at h
    refine ⟨h.1, fun hin => ?_⟩
    rcases h.2 with h2 | h2
    · have : u.s.contains t.d = true := by simpa using hin
      rw [this] at h2; cases h2
    · exact h2
  have key : ∀ (f : Nat) (listed : Array Bool) (a : Act) (w : World), ChInv l n CH TL T a0 G listed a w → todo listed n = f → wpAny P .any l.toArray Q (f + (l.length - n)) listed a w := by
    intro f
    induction f with
    | zero =>
      intro listed a w I h0
      have hall : ∀ j, j < n → listed.getD j true = true := by
        intro j hj
        cases hb : listed.getD j true with
        | true => rfl
        | false =>
          have : j ∈ (List.range n).filter fun j => !listed.getD j true := List.mem_filter.2 ⟨List.mem_range.2 hj, by rw [hb]; rfl⟩
          unfold todo at h0
          rw [List.eq_nil_of_length_eq_zero h0] at this
          cases this
      have hlist : listed = (List.replicate n true ++ List.replicate (l.length - n) false).toArray := by
        have hsz := I.inv.size
        apply Array.ext
        · simp at hsz ⊢; omega
        · intro j h1 h2
          by_cases hj : j < n
          · have := hall j hj
            simp [Array.getD, h1] at this
            simp [this, List.getElem_append_left, hj]
          · have := I.inv.tail j (by omega) (by rw [← hsz]; exact h1)
            simp [Array.getD, h1] at this
            simp only [this, List.getElem_toArray]
            rw [List.getElem_append_right (by simp; omega)]
            simp
      have ha : a = putAll a0 ((T.map (·.d)).map fun d => (d, a.tmps.getD d undef)) := by
        have hd : ∀ d ∈ T.map (·.d), d < a0.tmps.size := by
          intro d hd
          obtain ⟨t, ht, rfl⟩ := List.mem_map.1 hd
          exact (own t ht).2.1
        refine act_ext (by rw [putAll_defers]; exact I.defers) (by rw [putAll_size]; exact I.size) (fun k => ?_)
        rw [putAll_get (fun d => a.tmps.getD d undef) _ _ _ hd]
        by_cases h : k ∈ T.map (·.d)
        · rw [if_pos h]
        · rw [if_neg h]
          exact I.frame k (fun t ht e => h (List.mem_map.2 ⟨t, ht, e⟩))
      have hls : ∀ t ∈ T, listed.getD t.i false = true := by
        intro t ht
        have := hall t.i (own t ht).1
        rcases Nat.lt_or_ge t.i listed.size with h' | h'
        · simp [h'] at this ⊢; exact this
        · have := I.inv.size; have := (own t ht).1; omega
      obtain ⟨j, hj, hjs, hG⟩ := I.stage
      have hjl : j = CH.length := by
        rcases Nat.lt_or_ge j CH.length with h | h
        · have h1 : CH[j]? = some CH[j] := by simp [h]
          have := (hjs j _ h1).1 (hls _ (memC _ (List.getElem_mem h)))
          omega
        · omega
      rw [hjl] at hG
      have hfin := hend (fun d => a.tmps.getD d undef) w hG (fun k u hu => by
        have hu' := List.mem_of_getElem? hu
        have h1 := I.facts u hu' (hls u (memL u hu'))
        unfold HOp.fact at h1
        have e : (u.s.map fun k => if k ∈ T.map (·.d) then a.tmps.getD k undef else a0.tmps.getD k undef) = u.s.map fun k => a.tmps.getD k undef := by
          apply List.map_congr_left
          intro k _
          by_cases h : k ∈ T.map (·.d)
          · rw [if_pos h]
          · rw [if_neg h]
            exact (I.frame k (fun t ht e => h (List.mem_map.2 ⟨t, ht, e⟩))).symm
        rw [e]
        exact h1)
      rw [← ha] at hfin
      rw [Nat.zero_add]
      have hseq' : Region.seqB .any l.toArray (l.drop n).length n listed = true := by rw [hlist, List.length_drop]; exact hseq
      have := wpAny_of_seq (md := .any) (Q' := Q) (l.drop n) n listed a w (fun j => by simp [List.getElem?_drop]) hseq' hfin
      rwa [List.length_drop] at this
    | succ f ih =>
      intro listed a w I hf
      have hex : ∃ j, j < n ∧ listed.getD j true = false := by
        cases hL : (List.range n).filter fun j => !listed.getD j true with
        | nil => unfold todo at hf; rw [hL] at hf; cases hf
        | cons j L =>
          have : j ∈ (List.range n).filter fun j => !listed.getD j true := by rw [hL]; exact List.mem_cons_self
          obtain ⟨h1, h2⟩ := List.mem_filter.1 this
          exact ⟨j, List.mem_range.1 h1, by simpa using h2⟩
      have hready : Region.ready .any l.toArray listed ≠ [] := by
        have hmin : ∀ m j, j ≤ m → j < n → listed.getD j true = false → ∃ i, i ∈ Region.ready .any l.toArray listed := by
          intro m
          induction m with
          | zero =>
            intro j hj hjn hjl
            have hj0 : j = 0 := by omega
            subst hj0
            obtain ⟨t, ht, hti⟩ := cover 0 hjn
            obtain ⟨_, _, o, ho, _, hb⟩ := own t ht
            rw [hti] at ho hb
            exact ⟨0, mem_ready.2 ⟨hjl, o, by simpa using ho, fun e he hbe => absurd (hb e he hbe) (by omega)⟩⟩
          | succ m ihm =>
            intro j hj hjn hjl
            obtain ⟨t, ht, hti⟩ := cover j hjn
            obtain ⟨_, _, o, ho, _, hb⟩ := own t ht
            rw [hti] at ho hb
            by_cases hall : ∀ e ∈ o.after, Region.binds .any e = true → listed.getD e.on false = true
            · exact ⟨j, mem_ready.2 ⟨hjl, o, by simpa using ho, hall⟩⟩
            · simp only [Classical.not_forall] at hall
              obtain ⟨e, he, hbe, hne⟩ := hall
              have hlt := hb e he hbe
              have hes : e.on < listed.size := by rw [I.inv.size]; simp; omega
              exact ihm e.on (by omega) (by omega) (getD_in hes (by simpa using hne))
        obtain ⟨j, hj, hjl⟩ := hex
        obtain ⟨i, hi⟩ := hmin j j (Nat.le_refl _) hj hjl
        intro h
        rw [h] at hi
        cases hi
      rw [show f + 1 + (l.length - n) = (f + (l.length - n)) + 1 by omega]
      refine ⟨fun h => absurd h hready, fun i hi => ?_⟩
      have hin : i < n := by
        rcases Nat.lt_or_ge i n with h | h
        · exact h
        · obtain ⟨j, hj, hjl⟩ := hex
          exact absurd hi (tail_waits hs hc hn' I.inv _ j rfl hj hjl i h)
      obtain ⟨t, ht, hti⟩ := cover i hin
      obtain ⟨_, htd, o, ho, hdst, _⟩ := own t ht
      obtain ⟨hil, oi, hoi, hafter⟩ := mem_ready.1 hi
      have hoo : oi = o := by rw [hti] at ho; exact Option.some.inj (hoi.symm.trans (by simpa using ho))
      subst hoo
      have hframe : ∀ k, (T.map (·.d)).contains k = false → a.tmps.getD k undef = a0.tmps.getD k undef := fun k hk => I.frame k (fun u hu e => by
          have : (T.map (·.d)).contains k = true := by simpa using ⟨u, hu, e⟩
          rw [this] at hk; cases hk)
      have hfacts : ∀ (k : Nat) (u : HOp), TL[k]? = some u → Region.waitsFor .any l.toArray t.i u.i = true → u.p (u.s.map fun k => a.tmps.getD k undef) w := fun k u hu hw => by
        have hu' := List.mem_of_getElem? hu
        obtain ⟨oj, hoj, e, he, hb, hon⟩ := Region.waitsFor_spec hw
        have : oj = oi := by rw [hti] at hoj; exact Option.some.inj (hoj.symm.trans hoi)
        subst this
        have h1 := hafter e he hb
        rw [hon] at h1
        exact I.facts u hu' h1
      have step0 : ∀ (v : Value) (w' : World), (∃ j, j ≤ CH.length ∧ (∀ m c, CH[m]? = some c → ((listed.setIfInBounds i true).getD c.i false = true ↔ m < j)) ∧ G j (CH.map fun c => (a.put (some t.d) v).tmps.getD c.d undef) w') →
          (t ∈ TL → t.p (t.s.map fun k => if t.d = k then v else a.tmps.getD k undef) w') → wpAny P .any l.toArray Q (f + (l.length - n)) (listed.setIfInBounds i true) (a.put (some t.d) v) w' := by
        intro v w' hst hp
        refine ih _ _ _ ⟨I.inv.set hi hin, I.defers, ?_, ?_, hst, ?_⟩ ?_
        · rw [← I.size]; simp [Act.put]
        · intro k hk
          rw [put_get, if_neg (fun h => hk t ht h.1)]
          exact I.frame k hk
        · intro u hu hul
          by_cases hui : t.i = u.i
          · unfold HOp.fact
            have hut : u = t := hnodup u (memL u hu) t ht hui.symm
            subst hut
            have e : (u.s.map fun k => (a.put (some u.d) v).tmps.getD k undef) = u.s.map fun k => if u.d = k then v else a.tmps.getD k undef := by
              apply List.map_congr_left
              intro k _
              rw [put_get, I.size]
              by_cases hk : u.d = k
              · rw [if_pos ⟨hk, htd⟩, if_pos hk]
              · rw [if_neg (fun h => hk h.1), if_neg hk]
            rw [e]
            exact hp hu
          · unfold HOp.fact
            have hul2 : listed.getD u.i false = true := by rw [← getD_set_ne false (i := i) (j := u.i) (by rw [← hti]; exact hui)]; exact hul
            have h1 := hmono.mem u hu _ w w' (I.facts u hu hul2)
            have hnot : t.d ∉ u.s := by
              intro hin2
              have hw := (pair t ht u (memL u hu) hui).2 hin2
              obtain ⟨ou, hou, e, he, hb, hon⟩ := Region.waitsFor_spec hw
              have := I.inv.closed u.i ou hou hul2 e he hb
              rw [hon, hti, getD_both hil] at this
              cases this
            have e : (u.s.map fun k => (a.put (some t.d) v).tmps.getD k undef) = u.s.map fun k => a.tmps.getD k undef := by
              apply List.map_congr_left
              intro k hk
              rw [put_get, if_neg (fun (h : t.d = k ∧ t.d < a.tmps.size) => hnot (by rw [h.1]; exact hk))]
            rw [e]
            exact h1
        · have := todo_set hin hil; omega
      have fin : ∀ (R : Exit → Act → World → Prop), (∀ e a' w', R e a' w' → e = .normal) → (∀ a' w', R .normal a' w' → wpAny P .any l.toArray Q (f + (l.length - n)) (listed.setIfInBounds i true) a' w') → wpList P l.toArray R [oi] a w → wpOp P l.toArray Q i (fun a' w' => wpAny P .any l.toArray Q (f + (l.length - n)) (listed.setIfInBounds i true) a' w') a w := by
        intro R hR step H
        unfold wpList at H
        unfold wpOp
        rw [hoi]
        simp only
        by_cases hwant : Region.wanted oi (yielded l.toArray a.tmps) = true
        · rw [if_pos hwant] at H
          rw [if_pos hwant]
          left
          rcases H with H | ⟨_, a1, w1, h1⟩
          · exact wp_both (fun a' w' h => step a' w' h) (fun e a' w' he h => absurd (hR _ _ _ h) he) H
          · exact absurd (hR _ _ _ h1) (by simp)
        · rw [if_neg hwant] at H
          rw [if_neg hwant]
          exact step _ _ H
      obtain ⟨j, hj, hjs, hG⟩ := I.stage
      rcases split t ht with h | h
      · obtain ⟨j0, hj0l, hj0⟩ := List.mem_iff_getElem.1 h
        have hg0 : CH[j0]? = some t := by rw [List.getElem?_eq_getElem hj0l, hj0]
        have hnl : listed.getD t.i false = false := by rw [hti]; exact getD_both hil
        have h1 : ¬ j0 < j := fun h => by rw [(hjs j0 t hg0).2 h] at hnl; cases hnl
        have h2 : j0 ≤ j := by
          cases j0 with
          | zero => omega
          | succ q =>
            have hq : CH[q]? = some CH[q] := by simp
            obtain ⟨oj, hoj, e, he, hb, hon⟩ := Region.waitsFor_spec (hlk q _ t hq hg0)
            have : oj = oi := by rw [hti] at hoj; exact Option.some.inj (hoj.symm.trans hoi)
            subst this
            have h3 := hafter e he hb
            rw [hon] at h3
            have := (hjs q _ hq).1 h3
            omega
        obtain rfl : j0 = j := by omega
        refine fin _ (fun e a' w' h => h.1) ?_ (hopC j0 t hg0 oi ho a w hG hframe hfacts)
        rintro a' w' ⟨_, v, rfl, hG'⟩
        refine step0 v w' ⟨j0 + 1, by omega, ?_, ?_⟩ (fun hL => absurd rfl (hdis2 t hL t h).1)
        · intro m c hc
          by_cases hci : c.i = i
          · have hct : c = t := hnodup c (memC c (List.mem_of_getElem? hc)) t ht (by rw [hci, hti])
            subst hct
            have hm0 : m = j0 := by
              rcases Nat.lt_trichotomy m j0 with h | h | h
              · have := (hjs m c hc).2 h
                rw [hnl] at this; cases this
              · exact h
              · exfalso
                have hnd2 : (CH.map (·.i)).Nodup := by
                  have h5 := hnd
                  rw [← hTdef, List.map_map, List.map_append] at h5
                  exact (List.nodup_append.1 h5).1
                have h6 : (CH.map (·.i))[m]? = some c.i := by rw [List.getElem?_map, hc]; rfl
                have h7 : (CH.map (·.i))[j0]? = some c.i := by rw [List.getElem?_map, hg0]; rfl
                obtain ⟨hm1, hm2⟩ := List.getElem?_eq_some_iff.1 h6
                have := (List.getElem?_inj hm1 hnd2).1 (h6.trans h7.symm)
                omega
            subst hm0
            have hlt : i < listed.size := by rw [I.inv.size]; simp; have := hn; omega
            rw [hci]
            simp [hlt]
          · rw [getD_set_ne false (fun e => hci e.symm), hjs m c hc]
            constructor
            · intro h; omega
            · intro h
              rcases Nat.lt_or_ge m j0 with h' | h'
              · exact h'
              · obtain rfl : m = j0 := by omega
                rw [hg0] at hc
                cases hc
                exact absurd hti hci
        · have e : (CH.map fun c => (a.put (some t.d) v).tmps.getD c.d undef) = CH.map fun e => if e.d = t.d then v else a.tmps.getD e.d undef := by
            apply List.map_congr_left
            intro c _
            rw [put_get, I.size]
            by_cases hk : t.d = c.d
            · rw [if_pos ⟨hk, htd⟩, if_pos hk.symm]
            · rw [if_neg (fun h => hk h.1), if_neg (fun h => hk h.symm)]
          rw [e]
          exact hG'
      · refine fin _ (fun e a' w' h => h.1) ?_ (hopL.mem t h oi ho a w hframe hfacts)
        rintro a' w' ⟨_, v, rfl, rfl, hp⟩
        refine step0 v _ ⟨j, hj, ?_, ?_⟩ (fun _ => hp)
        · intro m c hc
          rw [getD_set_ne false (by rw [← hti]; exact (hdis2 t h c (List.mem_of_getElem? hc)).1)]
          exact hjs m c hc
        · have e : (CH.map fun c => (a.put (some t.d) v).tmps.getD c.d undef) = CH.map fun c => a.tmps.getD c.d undef := by
            apply List.map_congr_left
            intro c hc
            rw [put_get, if_neg (fun hh => (hdis2 t h c hc).2 hh.1)]
          rw [e]
          exact hG
  refine wp_region_any hm ?_
  have inv0 : HeadInv .any l.toArray n (Array.replicate l.toArray.size false) :=
    ⟨by simp, fun j oj _ hl => (by rw [getD_replicate_false] at hl; cases hl), fun t _ ht => getD_in (by simpa using ht) (getD_replicate_false _ _)⟩
  have I0 : ChInv l n CH TL T a0 G (Array.replicate l.toArray.size false) a0 { w0 with drawn := w0.drawn + 1 } :=
    ⟨inv0, rfl, rfl, fun _ _ => rfl, ⟨0, Nat.zero_le _, fun m c _ => (by rw [getD_replicate_false]; simp), hG0⟩, fun t _ hl => (by rw [getD_replicate_false] at hl; cases hl)⟩
  have ht0 : todo (Array.replicate l.toArray.size false) n = n := by
    unfold todo
    rw [List.filter_eq_self.2 (fun j hj => by
      have hj' := List.mem_range.1 hj
      have : (Array.replicate l.toArray.size false).getD j true = false := getD_in (by simp; omega) (getD_replicate_false _ _)
      rw [this]; rfl), List.length_range]
  have := key n _ _ _ I0 ht0
  rwa [show n + (l.length - n) = l.toArray.size by simp; omega] at this
end
end Go.Dx
end

/- the text Free4 -/
section
/- A region that draws its order: some operations follow one another (CH) and may change what they own; the others (TL) may make memory, come at any time, and their facts outlast what the chain does (R). No program in sight. -/
set_option linter.unusedVariables false
namespace Go.Dx
open Go.RowKit

def headOk4 (l : List Oper) (n : Nat) (T : List (Nat × Nat × List Nat)) : Bool :=
  let ops := l.toArray
  decide ((T.map (·.1)).Nodup) && decide (n < l.length) && Region.sinkB .any ops n && Region.chainB .any ops n && Region.seqB .any ops (l.length - n) n ((List.replicate n true ++ List.replicate (l.length - n) false).toArray) &&
  (List.range n).all (fun j => T.any fun t => t.1 == j) &&
  T.all (fun t => decide (t.1 < n) && (match l[t.1]? with | some o => (o.after.all fun e => !Region.binds .any e || decide (e.on < t.1)) | none => false)) &&
  T.all (fun t => T.all fun u => t.1 == u.1 || (t.2.1 != u.2.1 && (!u.2.2.contains t.2.1 || Region.waitsFor .any ops u.1 t.1)))
theorem putAll_get4 (g : Nat → Value) : ∀ (L : List Nat) (a : Act) (k : Nat), (putAll a (L.map fun d => (d, g d))).tmps.getD k undef = if k ∈ L ∧ k < a.tmps.size then g k else a.tmps.getD k undef := by
  intro L
  induction L with
  | nil => intro a k; simp [putAll]
  | cons d L ih =>
    intro a k
    have hz : (a.put (some d) (g d)).tmps.size = a.tmps.size := by simp [Act.put]
    rw [List.map_cons, putAll, ih, put_get, hz]
    by_cases h0 : k < a.tmps.size
    · by_cases h1 : k ∈ L
      · rw [if_pos ⟨h1, h0⟩, if_pos ⟨List.mem_cons_of_mem _ h1, h0⟩]
      · rw [if_neg (fun h => h1 h.1)]
        by_cases h2 : d = k
        · subst h2; rw [if_pos ⟨rfl, h0⟩, if_pos ⟨List.mem_cons_self, h0⟩]
        · rw [if_neg (fun h => h2 h.1), if_neg (fun h => by rcases List.mem_cons.1 h.1 with h | h; exact h2 h.symm; exact h1 h)]
    · rw [if_neg (fun h => h0 h.2), if_neg (fun h => h0 (by omega)), if_neg (fun h => h0 h.2)]
section
variable {P : Program}
/-- one operation of the chain is done -/
def OneTurn4 (c : HOp) (a : Act) (R : Value → World → Prop) (e : Exit) (a' : Act) (w' : World) : Prop := e = .normal ∧ ∃ v, a' = (if c.s = [] then a.put (some c.d) v else a) ∧ R v w'
theorem put_out (a : Act) (d : Nat) (v : Value) (h : a.tmps.size ≤ d) : a.put (some d) v = a := by
  refine act_ext rfl (by simp [Act.put]) (fun k => ?_)
  rw [put_get, if_neg (fun hh => by omega)]
/-- A chain operation without a slot (a store) is given a slot beyond the frame and 's' not []. -/
theorem wp_region_chain4 {id : Nat} {Q : Exit → Act → World → Prop} {a0 : Act} {w0 : World} {l : List Oper} (n : Nat) (R4 : World → World → Prop) (G : Nat → List Value → World → Prop) (CH TL : List HOp) (hm : P.follows .mixedOrders = true)
    (hB : ((TL.all fun t => decide (t.d < a0.tmps.size)) && (CH.all fun c => if c.s = [] then decide (c.d < a0.tmps.size) else decide (a0.tmps.size ≤ c.d)) && headOk4 l n ((CH ++ TL).map fun t => (t.i, t.d, if TL.any (fun u => u.i == t.i) then t.s else [])) && linkOk l.toArray (CH.map (·.i)) && (TL.all fun t => CH.all fun c => t.i != c.i && t.d != c.d)) = true)
    (hG0 : G 0 (CH.map fun c => a0.tmps.getD c.d undef) { w0 with drawn := w0.drawn + 1 })
    (hR : ∀ w w', Below w.heap.size w w' → R4 w w')
    (hGm : ∀ j vs w w', Below w.heap.size w w' → G j vs w → G j vs w')
    (hmono : All (fun t : HOp => ∀ vs w w', R4 w w' → t.p vs w → t.p vs w') TL)
    (hopC : ∀ m c, CH[m]? = some c → ∀ o, l[c.i]? = some o → ∀ (a : Act) (w : World), G m (CH.map fun c => a.tmps.getD c.d undef) w →
      (∀ k, ((CH ++ TL).map (·.d)).contains k = false → a.tmps.getD k undef = a0.tmps.getD k undef) →
      (∀ (k : Nat) (u : HOp), TL[k]? = some u → Region.waitsFor .any l.toArray c.i u.i = true → u.p (u.s.map fun k => a.tmps.getD k undef) w) →
      wpList P l.toArray (OneTurn4 c a fun v w' => R4 w w' ∧ G (m + 1) (CH.map fun e => if e.d = c.d then (if c.s = [] then v else undef) else a.tmps.getD e.d undef) w') [o] a w)
    (hopL : All (fun t : HOp => ∀ o, l[t.i]? = some o → ∀ (a : Act) (w : World),
      (∀ k, ((CH ++ TL).map (·.d)).contains k = false → a.tmps.getD k undef = a0.tmps.getD k undef) →
      (∀ (k : Nat) (u : HOp), TL[k]? = some u → Region.waitsFor .any l.toArray t.i u.i = true → u.p (u.s.map fun k => a.tmps.getD k undef) w) →
      (∃ j, (∀ m c, CH[m]? = some c → Region.waitsFor .any l.toArray t.i c.i = true → m < j) ∧ j ≤ CH.length ∧ G j (CH.map fun c => a.tmps.getD c.d undef) w) →
      wpList P l.toArray (OneDone t.d a w fun v w' => t.p (t.s.map fun k => if t.d = k then v else a.tmps.getD k undef) w') [o] a w) TL)
    (hend : ∀ (g : Nat → Value) (w : World), G CH.length (CH.map fun c => g c.d) w → (∀ (k : Nat) (u : HOp), TL[k]? = some u → u.p (u.s.map fun k => if k ∈ (CH ++ TL).map (·.d) then g k else a0.tmps.getD k undef) w) →
      wpList P l.toArray Q (l.drop n) (putAll a0 (((CH ++ TL).map (·.d)).map fun d => (d, g d))) w) : (Code.region id l.toArray true).wp P Q a0 w0 := by
  obtain ⟨T, hTdef⟩ : ∃ T, CH ++ TL = T := ⟨_, rfl⟩
  have memC : ∀ t ∈ CH, t ∈ T := fun t ht => by rw [← hTdef]; exact List.mem_append_left _ ht
  have memL : ∀ t ∈ TL, t ∈ T := fun t ht => by rw [← hTdef]; exact List.mem_append_right _ ht
  have split : ∀ t ∈ T, t ∈ CH ∨ t ∈ TL := fun t ht => by rw [← hTdef] at ht; exact List.mem_append.1 ht
  rw [hTdef] at hB hopC hopL hend
  rw [Bool.and_eq_true, Bool.and_eq_true] at hB
  obtain ⟨⟨hB, hlink⟩, hdis⟩ := hB
  rw [Bool.and_eq_true, Bool.and_eq_true] at hB
  obtain ⟨⟨hTLd, hCHd⟩, hB⟩ := hB
  have htl : ∀ t ∈ TL, t.d < a0.tmps.size := fun t ht => by simpa using List.all_eq_true.1 hTLd t ht
  have hch : ∀ c ∈ CH, c.s = [] → c.d < a0.tmps.size := fun c hc hs => by have := List.all_eq_true.1 hCHd c hc; simpa [hs] using this
  have hch2 : ∀ c ∈ CH, c.s ≠ [] → a0.tmps.size ≤ c.d := fun c hc hs => by have := List.all_eq_true.1 hCHd c hc; simpa [hs] using this
  have hdis2 : ∀ t ∈ TL, ∀ c ∈ CH, t.i ≠ c.i ∧ t.d ≠ c.d := by
    intro t ht c hc
    have := List.all_eq_true.1 (List.all_eq_true.1 hdis t ht) c hc
    simpa using this
  have hlk : ∀ m c e, CH[m]? = some c → CH[m + 1]? = some e → Region.waitsFor .any l.toArray e.i c.i = true := fun m c e h1 h2 =>
    linkOk_get hlink m c.i e.i (by rw [List.getElem?_map, h1]; rfl) (by rw [List.getElem?_map, h2]; rfl)
  simp only [headOk4, Bool.and_eq_true, decide_eq_true_eq] at hB
  obtain ⟨⟨⟨⟨⟨⟨⟨hnd, hn⟩, hs⟩, hc⟩, hseq⟩, hcov⟩, hT⟩, hpair⟩ := hB
  have hnodup : ∀ t ∈ T, ∀ u ∈ T, t.i = u.i → t = u := inj_nodup (·.i) T (by rw [List.map_map] at hnd; exact hnd)
  have hn' : n < l.toArray.size := by simpa using hn
  have cover : ∀ j, j < n → ∃ t ∈ T, t.i = j := by
    intro j hj
    have h := List.all_eq_true.1 hcov j (List.mem_range.2 hj)
    obtain ⟨x, hx, he⟩ := List.any_eq_true.1 h
    obtain ⟨t, ht, rfl⟩ := List.mem_map.1 hx
    exact ⟨t, ht, by simpa using he⟩
  have own : ∀ t ∈ T, t.i < n ∧ ∃ o, l[t.i]? = some o ∧ ∀ e ∈ o.after, Region.binds .any e = true → e.on < t.i := by
    intro t ht
    have h := List.all_eq_true.1 hT _ (List.mem_map.2 ⟨t, ht, rfl⟩)
    simp only [Bool.and_eq_true, decide_eq_true_eq] at h
    obtain ⟨h1, h3⟩ := h
    refine ⟨h1, ?_⟩
    cases ho : l[t.i]? with
    | none => rw [ho] at h3; cases h3
    | some o =>
      rw [ho] at h3
      refine ⟨o, rfl, fun e he hb => ?_⟩
      have := Array.all_eq_true_iff_forall_mem.1 h3 e he
      simpa [hb] using this
  have pair : ∀ t ∈ T, ∀ u ∈ T, t.i ≠ u.i → t.d ≠ u.d ∧ (u ∈ TL → t.d ∈ u.s → Region.waitsFor .any l.toArray u.i t.i = true) := by
    intro t ht u hu hne
    have h := List.all_eq_true.1 (List.all_eq_true.1 hpair _ (List.mem_map.2 ⟨t, ht, rfl⟩)) _ (List.mem_map.2 ⟨u, hu, rfl⟩)
    simp only [Bool.or_eq_true, beq_iff_eq, hne, false_or, Bool.and_eq_true, bne_iff_ne, ne_eq, Bool.not_eq_true'] at h
    refine ⟨h.1, fun huL hin => ?_⟩
    have hany : (TL.any fun v => v.i == u.i) = true := List.any_eq_true.2 ⟨u, huL, by simp⟩
    rw [hany, if_pos rfl] at h
    rcases h.2 with h2 | h2
    · have : u.s.contains t.d = true := by simpa using hin
      rw [this] at h2; cases h2
    · exact h2
  have key : ∀ (f : Nat) (listed : Array Bool) (a : Act) (w : World), ChInv l n CH TL T a0 G listed a w → todo listed n = f → wpAny P .any l.toArray Q (f + (l.length - n)) listed a w := by
    intro f
    induction f with
    | zero =>
      intro listed a w I h0
      have hall : ∀ j, j < n → listed.getD j true = true := by
        intro j hj
        cases hb : listed.getD j true with
        | true => rfl
        | false =>
          have : j ∈ (List.range n).filter fun j => !listed.getD j true := List.mem_filter.2 ⟨List.mem_range.2 hj, by rw [hb]; rfl⟩
          unfold todo at h0
          rw [List.eq_nil_of_length_eq_zero h0] at this
          cases this
      have hlist : listed = (List.replicate n true ++ List.replicate (l.length - n) false).toArray := by
        have hsz := I.inv.size
        apply Array.ext
        · simp at hsz ⊢; omega
        · intro j h1 h2
          by_cases hj : j < n
          · have := hall j hj
            simp [Array.getD, h1] at this
            simp [this, List.getElem_append_left, hj]
          · have := I.inv.tail j (by omega) (by rw [← hsz]; exact h1)
            simp [Array.getD, h1] at this
            simp only [this, List.getElem_toArray]
            rw [List.getElem_append_right (by simp; omega)]
            simp
      have ha : a = putAll a0 ((T.map (·.d)).map fun d => (d, a.tmps.getD d undef)) := by
        refine act_ext (by rw [putAll_defers]; exact I.defers) (by rw [putAll_size]; exact I.size) (fun k => ?_)
        rw [putAll_get4 (fun d => a.tmps.getD d undef)]
        by_cases h0 : k < a0.tmps.size
        · by_cases h : k ∈ T.map (·.d)
          · rw [if_pos ⟨h, h0⟩]
          · rw [if_neg (fun hh => h hh.1)]
            exact I.frame k (fun t ht e => h (List.mem_map.2 ⟨t, ht, e⟩))
        · rw [if_neg (fun hh => h0 hh.2)]
          have h1 := I.size
          have hk : ¬ k < a.tmps.size := by omega
          simp [Array.getD, hk, h0]
      have hls : ∀ t ∈ T, listed.getD t.i false = true := by
        intro t ht
        have := hall t.i (own t ht).1
        rcases Nat.lt_or_ge t.i listed.size with h' | h'
        · simp [h'] at this ⊢; exact this
        · have := I.inv.size; have := (own t ht).1; omega
      obtain ⟨j, hj, hjs, hG⟩ := I.stage
      have hjl : j = CH.length := by
        rcases Nat.lt_or_ge j CH.length with h | h
        · have h1 : CH[j]? = some CH[j] := by simp [h]
          have := (hjs j _ h1).1 (hls _ (memC _ (List.getElem_mem h)))
          omega
        · omega
      rw [hjl] at hG
      have hfin := hend (fun d => a.tmps.getD d undef) w hG (fun k u hu => by
        have hu' := List.mem_of_getElem? hu
        have h1 := I.facts u hu' (hls u (memL u hu'))
        unfold HOp.fact at h1
        have e : (u.s.map fun k => if k ∈ T.map (·.d) then a.tmps.getD k undef else a0.tmps.getD k undef) = u.s.map fun k => a.tmps.getD k undef := by
          apply List.map_congr_left
          intro k _
          by_cases h : k ∈ T.map (·.d)
          · rw [if_pos h]
          · rw [if_neg h]
            exact (I.frame k (fun t ht e => h (List.mem_map.2 ⟨t, ht, e⟩))).symm
        rw [e]
        exact h1)
      rw [← ha] at hfin
      rw [Nat.zero_add]
      have hseq' : Region.seqB .any l.toArray (l.drop n).length n listed = true := by rw [hlist, List.length_drop]; exact hseq
      have := wpAny_of_seq (md := .any) (Q' := Q) (l.drop n) n listed a w (fun j => by simp [List.getElem?_drop]) hseq' hfin
      rwa [List.length_drop] at this
    | succ f ih =>
      intro listed a w I hf
      have hex : ∃ j, j < n ∧ listed.getD j true = false := by
        cases hL : (List.range n).filter fun j => !listed.getD j true with
        | nil => unfold todo at hf; rw [hL] at hf; cases hf
        | cons j L =>
          have : j ∈ (List.range n).filter fun j => !listed.getD j true := by rw [hL]; exact List.mem_cons_self
          obtain ⟨h1, h2⟩ := List.mem_filter.1 this
          exact ⟨j, List.mem_range.1 h1, by simpa using h2⟩
      have hready : Region.ready .any l.toArray listed ≠ [] := by
        have hmin : ∀ m j, j ≤ m → j < n → listed.getD j true = false → ∃ i, i ∈ Region.ready .any l.toArray listed := by
          intro m
          induction m with
          | zero =>
            intro j hj hjn hjl
            have hj0 : j = 0 := by omega
            subst hj0
            obtain ⟨t, ht, hti⟩ := cover 0 hjn
            obtain ⟨_, o, ho, hb⟩ := own t ht
            rw [hti] at ho hb
            exact ⟨0, mem_ready.2 ⟨hjl, o, by simpa using ho, fun e he hbe => absurd (hb e he hbe) (by omega)⟩⟩
          | succ m ihm =>
            intro j hj hjn hjl
            obtain ⟨t, ht, hti⟩ := cover j hjn
            obtain ⟨_, o, ho, hb⟩ := own t ht
            rw [hti] at ho hb
            by_cases hall : ∀ e ∈ o.after, Region.binds .any e = true → listed.getD e.on false = true
            · exact ⟨j, mem_ready.2 ⟨hjl, o, by simpa using ho, hall⟩⟩
            · simp only [Classical.not_forall] at hall
              obtain ⟨e, he, hbe, hne⟩ := hall
              have hlt := hb e he hbe
              have hes : e.on < listed.size := by rw [I.inv.size]; simp; omega
              exact ihm e.on (by omega) (by omega) (getD_in hes (by simpa using hne))
        obtain ⟨j, hj, hjl⟩ := hex
        obtain ⟨i, hi⟩ := hmin j j (Nat.le_refl _) hj hjl
        intro h
        rw [h] at hi
        cases hi
      rw [show f + 1 + (l.length - n) = (f + (l.length - n)) + 1 by omega]
      refine ⟨fun h => absurd h hready, fun i hi => ?_⟩
      have hin : i < n := by
        rcases Nat.lt_or_ge i n with h | h
        · exact h
        · obtain ⟨j, hj, hjl⟩ := hex
          exact absurd hi (tail_waits hs hc hn' I.inv _ j rfl hj hjl i h)
      obtain ⟨t, ht, hti⟩ := cover i hin
      obtain ⟨_, o, ho, _⟩ := own t ht
      obtain ⟨hil, oi, hoi, hafter⟩ := mem_ready.1 hi
      have hoo : oi = o := by rw [hti] at ho; exact Option.some.inj (hoi.symm.trans (by simpa using ho))
      subst hoo
      have hframe : ∀ k, (T.map (·.d)).contains k = false → a.tmps.getD k undef = a0.tmps.getD k undef := fun k hk => I.frame k (fun u hu e => by
          have : (T.map (·.d)).contains k = true := by simpa using ⟨u, hu, e⟩
          rw [this] at hk; cases hk)
      have hfacts : ∀ (k : Nat) (u : HOp), TL[k]? = some u → Region.waitsFor .any l.toArray t.i u.i = true → u.p (u.s.map fun k => a.tmps.getD k undef) w := fun k u hu hw => by
        have hu' := List.mem_of_getElem? hu
        obtain ⟨oj, hoj, e, he, hb, hon⟩ := Region.waitsFor_spec hw
        have : oj = oi := by rw [hti] at hoj; exact Option.some.inj (hoj.symm.trans hoi)
        subst this
        have h1 := hafter e he hb
        rw [hon] at h1
        exact I.facts u hu' h1
      have step0 : ∀ (v : Value) (w' : World), R4 w w' → (∃ j, j ≤ CH.length ∧ (∀ m c, CH[m]? = some c → ((listed.setIfInBounds i true).getD c.i false = true ↔ m < j)) ∧ G j (CH.map fun c => (a.put (some t.d) v).tmps.getD c.d undef) w') →
          (t ∈ TL → t.p (t.s.map fun k => if t.d = k then v else a.tmps.getD k undef) w') → wpAny P .any l.toArray Q (f + (l.length - n)) (listed.setIfInBounds i true) (a.put (some t.d) v) w' := by
        intro v w' hrr hst hp
        refine ih _ _ _ ⟨I.inv.set hi hin, I.defers, ?_, ?_, hst, ?_⟩ ?_
        · rw [← I.size]; simp [Act.put]
        · intro k hk
          rw [put_get, if_neg (fun h => hk t ht h.1)]
          exact I.frame k hk
        · intro u hu hul
          by_cases hui : t.i = u.i
          · unfold HOp.fact
            have hut : u = t := hnodup u (memL u hu) t ht hui.symm
            subst hut
            have e : (u.s.map fun k => (a.put (some u.d) v).tmps.getD k undef) = u.s.map fun k => if u.d = k then v else a.tmps.getD k undef := by
              apply List.map_congr_left
              intro k _
              rw [put_get, I.size]
              by_cases hk : u.d = k
              · rw [if_pos ⟨hk, htl _ hu⟩, if_pos hk]
              · rw [if_neg (fun h => hk h.1), if_neg hk]
            rw [e]
            exact hp hu
          · unfold HOp.fact
            have hul2 : listed.getD u.i false = true := by rw [← getD_set_ne false (i := i) (j := u.i) (by rw [← hti]; exact hui)]; exact hul
            have h1 := hmono.mem u hu _ w w' hrr (I.facts u hu hul2)
            have hnot : t.d ∉ u.s := by
              intro hin2
              have hw := (pair t ht u (memL u hu) hui).2 hu hin2
              obtain ⟨ou, hou, e, he, hb, hon⟩ := Region.waitsFor_spec hw
              have := I.inv.closed u.i ou hou hul2 e he hb
              rw [hon, hti, getD_both hil] at this
              cases this
            have e : (u.s.map fun k => (a.put (some t.d) v).tmps.getD k undef) = u.s.map fun k => a.tmps.getD k undef := by
              apply List.map_congr_left
              intro k hk
              rw [put_get, if_neg (fun (h : t.d = k ∧ t.d < a.tmps.size) => hnot (by rw [h.1]; exact hk))]
            rw [e]
            exact h1
        · have := todo_set hin hil; omega
      have fin : ∀ (R : Exit → Act → World → Prop), (∀ e a' w', R e a' w' → e = .normal) → (∀ a' w', R .normal a' w' → wpAny P .any l.toArray Q (f + (l.length - n)) (listed.setIfInBounds i true) a' w') → wpList P l.toArray R [oi] a w → wpOp P l.toArray Q i (fun a' w' => wpAny P .any l.toArray Q (f + (l.length - n)) (listed.setIfInBounds i true) a' w') a w := by
        intro R hR step H
        unfold wpList at H
        unfold wpOp
        rw [hoi]
        simp only
        by_cases hwant : Region.wanted oi (yielded l.toArray a.tmps) = true
        · rw [if_pos hwant] at H
          rw [if_pos hwant]
          left
          rcases H with H | ⟨_, a1, w1, h1⟩
          · exact wp_both (fun a' w' h => step a' w' h) (fun e a' w' he h => absurd (hR _ _ _ h) he) H
          · exact absurd (hR _ _ _ h1) (by simp)
        · rw [if_neg hwant] at H
          rw [if_neg hwant]
          exact step _ _ H
      obtain ⟨j, hj, hjs, hG⟩ := I.stage
      rcases split t ht with h | h
      · obtain ⟨j0, hj0l, hj0⟩ := List.mem_iff_getElem.1 h
        have hg0 : CH[j0]? = some t := by rw [List.getElem?_eq_getElem hj0l, hj0]
        have hnl : listed.getD t.i false = false := by rw [hti]; exact getD_both hil
        have h1 : ¬ j0 < j := fun h => by rw [(hjs j0 t hg0).2 h] at hnl; cases hnl
        have h2 : j0 ≤ j := by
          cases j0 with
          | zero => omega
          | succ q =>
            have hq : CH[q]? = some CH[q] := by simp
            obtain ⟨oj, hoj, e, he, hb, hon⟩ := Region.waitsFor_spec (hlk q _ t hq hg0)
            have : oj = oi := by rw [hti] at hoj; exact Option.some.inj (hoj.symm.trans hoi)
            subst this
            have h3 := hafter e he hb
            rw [hon] at h3
            have := (hjs q _ hq).1 h3
            omega
        obtain rfl : j0 = j := by omega
        refine fin _ (fun e a' w' h => h.1) ?_ (hopC j0 t hg0 oi ho a w hG hframe hfacts)
        rintro a' w' ⟨_, v, ha', hrr, hG'⟩
        obtain rfl : a' = a.put (some t.d) v := by
          rw [ha']
          by_cases hs0 : t.s = []
          · rw [if_pos hs0]
          · rw [if_neg hs0, put_out a t.d v (by rw [I.size]; exact hch2 t h hs0)]
        refine step0 v w' hrr ⟨j0 + 1, by omega, ?_, ?_⟩ (fun hL => absurd rfl (hdis2 t hL t h).1)
        · intro m c hc
          by_cases hci : c.i = i
          · have hct : c = t := hnodup c (memC c (List.mem_of_getElem? hc)) t ht (by rw [hci, hti])
            subst hct
            have hm0 : m = j0 := by
              rcases Nat.lt_trichotomy m j0 with h | h | h
              · have := (hjs m c hc).2 h
                rw [hnl] at this; cases this
              · exact h
              · exfalso
                have hnd2 : (CH.map (·.i)).Nodup := by
                  have h5 := hnd
                  rw [← hTdef, List.map_map, List.map_append] at h5
                  exact (List.nodup_append.1 h5).1
                have h6 : (CH.map (·.i))[m]? = some c.i := by rw [List.getElem?_map, hc]; rfl
                have h7 : (CH.map (·.i))[j0]? = some c.i := by rw [List.getElem?_map, hg0]; rfl
                obtain ⟨hm1, hm2⟩ := List.getElem?_eq_some_iff.1 h6
                have := (List.getElem?_inj hm1 hnd2).1 (h6.trans h7.symm)
                omega
            subst hm0
            have hlt : i < listed.size := by rw [I.inv.size]; simp; have := hn; omega
            rw [hci]
            simp [hlt]
          · rw [getD_set_ne false (fun e => hci e.symm), hjs m c hc]
            constructor
            · intro h; omega
            · intro h
              rcases Nat.lt_or_ge m j0 with h' | h'
              · exact h'
              · obtain rfl : m = j0 := by omega
                rw [hg0] at hc
                cases hc
                exact absurd hti hci
        · have e : (CH.map fun c => (a.put (some t.d) v).tmps.getD c.d undef) = CH.map fun e => if e.d = t.d then (if t.s = [] then v else undef) else a.tmps.getD e.d undef := by
            apply List.map_congr_left
            intro c _
            rw [put_get, I.size]
            by_cases hk : t.d = c.d
            · by_cases hs0 : t.s = []
              · rw [if_pos ⟨hk, hch t h hs0⟩, if_pos hk.symm, if_pos hs0]
              · have h2 := hch2 t h hs0
                rw [if_neg (fun hh => by omega), if_pos hk.symm, if_neg hs0]
                have h1 := I.size
                have hk : ¬ c.d < a.tmps.size := by omega
                simp [Array.getD, hk]
            · rw [if_neg (fun h => hk h.1), if_neg (fun h => hk h.symm)]
          rw [e]
          exact hG'
      · refine fin _ (fun e a' w' h => h.1) ?_ (hopL.mem t h oi ho a w hframe hfacts ⟨j, ?_, hj, hG⟩)
        rotate_left
        · intro m c hc hw
          obtain ⟨oj, hoj, e, he, hb, hon⟩ := Region.waitsFor_spec hw
          have : oj = oi := by rw [hti] at hoj; exact Option.some.inj (hoj.symm.trans hoi)
          subst this
          have h3 := hafter e he hb
          rw [hon] at h3
          exact (hjs m c hc).1 h3
        rintro a' w' ⟨_, v, rfl, hbl, hp⟩
        refine step0 v _ (hR _ _ hbl) ⟨j, hj, ?_, ?_⟩ (fun _ => hp)
        · intro m c hc
          rw [getD_set_ne false (by rw [← hti]; exact (hdis2 t h c (List.mem_of_getElem? hc)).1)]
          exact hjs m c hc
        · have e : (CH.map fun c => (a.put (some t.d) v).tmps.getD c.d undef) = CH.map fun c => a.tmps.getD c.d undef := by
            apply List.map_congr_left
            intro c hc
            rw [put_get, if_neg (fun hh => (hdis2 t h c hc).2 hh.1)]
          rw [e]
          exact hGm _ _ _ _ hbl hG
  refine wp_region_any hm ?_
  have inv0 : HeadInv .any l.toArray n (Array.replicate l.toArray.size false) :=
    ⟨by simp, fun j oj _ hl => (by rw [getD_replicate_false] at hl; cases hl), fun t _ ht => getD_in (by simpa using ht) (getD_replicate_false _ _)⟩
  have I0 : ChInv l n CH TL T a0 G (Array.replicate l.toArray.size false) a0 { w0 with drawn := w0.drawn + 1 } :=
    ⟨inv0, rfl, rfl, fun _ _ => rfl, ⟨0, Nat.zero_le _, fun m c _ => (by rw [getD_replicate_false]; simp), hG0⟩, fun t _ hl => (by rw [getD_replicate_false] at hl; cases hl)⟩
  have ht0 : todo (Array.replicate l.toArray.size false) n = n := by
    unfold todo
    rw [List.filter_eq_self.2 (fun j hj => by
      have hj' := List.mem_range.1 hj
      have : (Array.replicate l.toArray.size false).getD j true = false := getD_in (by simp; omega) (getD_replicate_false _ _)
      rw [this]; rfl), List.length_range]
  have := key n _ _ _ I0 ht0
  rwa [show n + (l.length - n) = l.toArray.size by simp; omega] at this
end
end Go.Dx
end

/- the text Al -/
section
/- Boxes just made, strings cut and joined, stops for the walk. No program in sight but the seat's types. -/
set_option linter.unusedVariables false
namespace Go.Al
open Go.RowKit Go.Dx
def byB (l : List UInt8) : ByteArray := ⟨l.toArray⟩
theorem byB_size (l : List UInt8) : (byB l).size = l.length := by show l.toArray.size = _; rw [List.size_toArray]
theorem byB_data (l : List UInt8) : (byB l).data.toList = l := rfl
theorem byB_of (s : ByteArray) : byB s.data.toList = s := by cases s; rfl
theorem sblo (w : World) (o : Obj) : Below w.heap.size w (w.alloc o) := (Below.refl _ _).alloc (Nat.le_refl _) o
theorem blo3 {B : Nat} {w w' : World} (h : Below B w w') (hB : B ≤ w.heap.size) (o : Obj) : Below B w (w'.alloc o) := h.alloc (Nat.le_trans hB h.size) o
theorem allocs1 (w : World) (a : List Value) (t : TypeId) : ∃ w' g1, w' = w.alloc (.cells a.toArray t) ∧ g1 = w.heap.size ∧ Box w' g1 t a ∧ Below w.heap.size w w' ∧ g1 < w'.heap.size :=
  ⟨_, _, rfl, rfl, Box.new w t a.toArray, (Below.refl _ _).alloc (Nat.le_refl _) _, by simp⟩
theorem box_eq {w : World} {g g' : Nat} {t : TypeId} {cs : List Value} (h : Box w g t cs) (e : g = g') : Box w g' t cs := e ▸ h
theorem allocs2 (w : World) (a b : List Value) (t u : TypeId) : ∃ w' g1 g2, w' = (w.alloc (.cells a.toArray t)).alloc (.cells b.toArray u) ∧ g1 = w.heap.size ∧ g2 = w.heap.size + 1 ∧
    Box w' g1 t a ∧ Box w' g2 u b ∧ Below w.heap.size w w' ∧ g1 < g2 ∧ g2 < w'.heap.size :=
  ⟨_, _, _, rfl, rfl, rfl, (Box.new w t a.toArray).alloc _, box_eq (Box.new _ u b.toArray) (by simp), blo3 ((Below.refl _ _).alloc (Nat.le_refl _) _) (Nat.le_refl _) _, by simp, by simp⟩
theorem allocs3 (w : World) (a b c : List Value) (t u v : TypeId) : ∃ w' g1 g2 g3, w' = ((w.alloc (.cells a.toArray t)).alloc (.cells b.toArray u)).alloc (.cells c.toArray v) ∧ g1 = w.heap.size ∧ g2 = w.heap.size + 1 ∧
    g3 = w.heap.size + 1 + 1 ∧ Box w' g1 t a ∧ Box w' g2 u b ∧ Box w' g3 v c ∧ Below w.heap.size w w' ∧ g1 < g2 ∧ g2 < g3 ∧ g3 < w'.heap.size :=
  ⟨_, _, _, _, rfl, rfl, rfl, rfl, ((Box.new w t a.toArray).alloc _).alloc _, (box_eq (Box.new _ u b.toArray) (by simp)).alloc _, box_eq (Box.new _ v c.toArray) (by simp), blo3 (blo3 ((Below.refl _ _).alloc (Nat.le_refl _) _) (Nat.le_refl _) _) (Nat.le_refl _) _, by simp, by simp, by simp⟩
section
variable {P : Program} {w : World} {ops : Array Oper} {rest : List Oper} {act : Act} {Q : Exit → Act → World → Prop} {ty : TypeId} {pos : String} {after : Array Edge}
/-- 's + t' of strings -/
theorem str_add (d : Nat) (ta tb : TypeId) (x y : Operand) (s r q : ByteArray) (hx : act.eval x = .string s) (hy : act.eval y = .string r) (hsum : s.size + r.size ≤ 9223372036854775807) (hq : s ++ r = q)
    (hK : wpList P ops Q rest (act.put (some d) (.string q)) w) :
    wpList P ops Q ({ dst := some d, op := .binOp .add ta x y tb, type := ty, pos := pos, after := after, guard := none } :: rest) act w := by
  refine val_at rfl (.string q) ?_ hK
  have hrun := run_string_add_sum (P := P) w s r hsum
  rw [hq] at hrun
  simp [execOp, hx, hy, binOp, eqGuard, hrun, Result.andThen]
/-- 's[:hi]' of a string -/
theorem str_hi (d : Nat) (t : TypeId) (ht : P.underlying t = some .string) (x hi : Operand) (s r : ByteArray) (k : IntKind) (n : Nat) (hx : act.eval x = .string s) (hh : act.eval hi = .int k (n : Int)) (hn : n ≤ s.size) (hr : s.extract 0 n = r)
    (hK : wpList P ops Q rest (act.put (some d) (.string r)) w) :
    wpList P ops Q ({ dst := some d, op := .slice t x none (some hi) none, type := ty, pos := pos, after := after, guard := none } :: rest) act w := by
  refine val_at rfl (.string r) ?_ hK
  have h := run_slice_string_h (P := P) (w := w) (t := t) (s := s) ht k (n : Int) (by omega) (by omega)
  rw [Int.toNat_natCast, hr] at h
  have h' : (Instr.sliceAt t (.string s) none (some (.int k (n : Int))) none).run P w = .ok (.string r) w := by simp [Instr.sliceAt, run_underlying ht, h]
  simp only [execOp, Option.map_none, Option.map_some, hx, hh, Sem.run_bind, h', Result.andThen, Sem.run_pure]
/-- 's[lo:]' of a string -/
theorem str_lo (d : Nat) (t : TypeId) (ht : P.underlying t = some .string) (x lo : Operand) (s r : ByteArray) (k : IntKind) (n : Nat) (hx : act.eval x = .string s) (hh : act.eval lo = .int k (n : Int)) (hn : n ≤ s.size) (hr : s.extract n s.size = r)
    (hK : wpList P ops Q rest (act.put (some d) (.string r)) w) :
    wpList P ops Q ({ dst := some d, op := .slice t x (some lo) none none, type := ty, pos := pos, after := after, guard := none } :: rest) act w := by
  refine val_at rfl (.string r) ?_ hK
  have h := run_slice_string_l (P := P) (w := w) (t := t) (s := s) ht k (n : Int) (by omega) (by omega)
  rw [Int.toNat_natCast, hr] at h
  have h' : (Instr.sliceAt t (.string s) (some (.int k (n : Int))) none none).run P w = .ok (.string r) w := by simp [Instr.sliceAt, run_underlying ht, h]
  simp only [execOp, Option.map_none, Option.map_some, hx, hh, Sem.run_bind, h', Result.andThen, Sem.run_pure]
end
theorem _root_.Go.Dx.Box.sl_al {w : World} {g : Nat} {t : TypeId} {cs : List Value} {n : Nat} (h : Box w g t cs) (hn : cs.length = n) (hm : n ≤ maxLen) : Sl w 1 (some ⟨g, 0, none⟩) n n cs :=
  h.sl 0 n n 1 _ (by omega) (Nat.le_refl _) hm (fun j u hj => by rw [Nat.zero_add]; exact hj)
theorem byB_take (l : List UInt8) (n : Nat) : (byB l).extract 0 n = byB (l.take n) := by
  apply ByteArray.ext
  rw [ByteArray.data_extract]
  show l.toArray.extract 0 n = (l.take n).toArray
  simp
theorem byB_drop (l : List UInt8) (n : Nat) : (byB l).extract n (byB l).size = byB (l.drop n) := by
  apply ByteArray.ext
  rw [ByteArray.data_extract, byB_size]
  show l.toArray.extract n l.length = (l.drop n).toArray
  simp [List.take_of_length_le]
theorem byB_append (l r : List UInt8) : byB l ++ byB r = byB (l ++ r) := by
  apply ByteArray.ext
  rw [ByteArray.data_append]
  show l.toArray ++ r.toArray = (l ++ r).toArray
  simp
theorem hold_load {P : Program} {w : World} {ops : Array Oper} {rest : List Oper} {act : Act} {Q : Exit → Act → World → Prop} {dst : Option Tmp} {t ty : TypeId} {x : Operand} {pos : String} {after : Array Edge} {g : Option (Nat × Bool)}
    (h : Hid (wpList P ops Q ({ dst := dst, op := .load t x, type := ty, pos := pos, after := after, guard := g } :: rest) act w)) : wpList P ops Q ({ dst := dst, op := .load t x, type := ty, pos := pos, after := after, guard := g } :: rest) act w := h
theorem hold_store {P : Program} {w : World} {ops : Array Oper} {rest : List Oper} {act : Act} {Q : Exit → Act → World → Prop} {dst : Option Tmp} {t ty : TypeId} {x y : Operand} {pos : String} {after : Array Edge} {g : Option (Nat × Bool)}
    (h : Hid (wpList P ops Q ({ dst := dst, op := .store t x y, type := ty, pos := pos, after := after, guard := g } :: rest) act w)) : wpList P ops Q ({ dst := dst, op := .store t x y, type := ty, pos := pos, after := after, guard := g } :: rest) act w := h
theorem shold {p : Prop} (h : Hid p) : p := h.out
theorem own_ne {w : World} {B B' : Nat} {e e' : TypeId} {sz sz' : Nat} {p q : Addr} {n c n' c' : Nat} {cs cs' : List Value} (h : Own w B e sz (some p) n c cs) (h' : Own w B' e' sz' (some q) n' c' cs') (he : e ≠ e') : p.block ≠ q.block := by
  intro hb
  rcases h.2 with ⟨h1, _⟩ | ⟨g, cap, cur, h1, _, hg, _⟩
  · cases h1
  · rcases h'.2 with ⟨h2, _⟩ | ⟨g', cap', cur', h2, _, hg', _⟩
    · cases h2
    · injection h1 with h1
      injection h2 with h2
      injection h1 with h1
      injection h2 with h2
      subst h1 h2
      simp only at hb
      subst hb
      rw [hg] at hg'
      have hq := Option.some.inj hg'
      injection hq with _ hq _
      exact he hq
theorem own_zero {w : World} {B : Nat} {e : TypeId} {sz : Nat} {a : Option Addr} {n c : Nat} {cs : List Value} (h : Own w B e sz a n c cs) (hn : 0 < n) : ∃ g, a = some ⟨g, 0, none⟩ := by
  rcases h.2 with ⟨_, h0⟩ | ⟨g, cap, cur, hv, _⟩
  · omega
  · injection hv with h1; exact ⟨g, h1⟩
theorem cell_blw {w w' : World} {a : Addr} {v : Value} (h : w.cell? a = some v) (hb : Below w.heap.size w w') : w'.cell? a = some v := by
  rw [hb.cell (World.block_lt_of_cell? w _ h)]; exact h
section
variable {P : Program} {w : World} {ops : Array Oper} {rest : List Oper} {act : Act} {Q : Exit → Act → World → Prop} {ty : TypeId} {pos : String} {after : Array Edge}
/-- 'xs[i]', the address: elements of sz cells, the slice begins its block -/
theorem index_own (d : Nat) (t : TypeId) (x y : Operand) (sz : Nat) (e : TypeId) (ht : P.underlying t = some (.slice e)) (hsz : (P.info? e).map (·.size) = some sz)
    (g n c : Nat) (i : Nat) (iv : Int) (hx : act.eval x = .slice (some ⟨g, 0, none⟩) n c) (hy : act.eval y = .int .i64 iv) (hiv : iv = (i : Int)) (hi : i < n)
    (hK : wpList P ops Q rest (act.put (some d) (.pointer (some ⟨g, i * sz, none⟩))) w) :
    wpList P ops Q ({ dst := some d, op := .indexAddr t x y, type := ty, pos := pos, after := after, guard := none } :: rest) act w := by
  refine wpList_plain rfl fun K hK' => ?_
  obtain ⟨i0, hi0, hs0⟩ := Option.map_eq_some_iff.1 hsz
  subst hiv
  have hrun : (Instr.indexAt t (.slice (some ⟨g, 0, none⟩) n c) (.int .i64 (i : Int))).run P w = .ok (.pointer (some ⟨g, i * sz, none⟩)) w := by
    simp [Instr.indexAt, asIntOf, run_underlying ht, sizeOf, typeInfo, hi0, hs0, hi, Addr.add_lit]
  unfold Oper.wp
  simp [execOp, hx, hy, hrun, Result.andThen]
  exact hK' _ _ hK
end
theorem str_lo_z {P : Program} {w : World} {ops : Array Oper} {rest : List Oper} {act : Act} {Q : Exit → Act → World → Prop} {ty : TypeId} {pos : String} {after : Array Edge} (d : Nat) (t : TypeId) (ht : P.underlying t = some .string) (x lo : Operand) (s r : ByteArray) (k : IntKind) (n : Nat) (z : Int) (hz : z = (n : Int)) (hx : act.eval x = .string s) (hh : act.eval lo = .int k z) (hn : n ≤ s.size) (hr : s.extract n s.size = r)
    (hK : wpList P ops Q rest (act.put (some d) (.string r)) w) :
    wpList P ops Q ({ dst := some d, op := .slice t x (some lo) none none, type := ty, pos := pos, after := after, guard := none } :: rest) act w := by
  subst hz
  exact str_lo d t ht x lo s r k n hx hh hn hr hK
theorem str_hi_z {P : Program} {w : World} {ops : Array Oper} {rest : List Oper} {act : Act} {Q : Exit → Act → World → Prop} {ty : TypeId} {pos : String} {after : Array Edge} (d : Nat) (t : TypeId) (ht : P.underlying t = some .string) (x hi : Operand) (s r : ByteArray) (k : IntKind) (n : Nat) (z : Int) (hz : z = (n : Int)) (hx : act.eval x = .string s) (hh : act.eval hi = .int k z) (hn : n ≤ s.size) (hr : s.extract 0 n = r)
    (hK : wpList P ops Q rest (act.put (some d) (.string r)) w) :
    wpList P ops Q ({ dst := some d, op := .slice t x none (some hi) none, type := ty, pos := pos, after := after, guard := none } :: rest) act w := by
  subst hz
  exact str_hi d t ht x hi s r k n hx hh hn hr hK
theorem box_at {α : Type} {f : α → Value} {l : List α} {i : Nat} {x : α} (h : l[i]? = some x) : (l.map f)[i]? = some (f x) := by rw [List.getElem?_map, h]; rfl
end Go.Al
end

/- the text P1 -/
section
/- Chapter 35: pages and sheets in memory; the machine in plain Lean. -/
set_option linter.unusedVariables false
namespace Go.Proofs.Ytdeknimelkdaeaa
open Go.RowKit Go.Dx Go.Al
abbrev Pgl := List (List UInt8)
abbrev Sht := Pgl × Pgl
abbrev HS := Hd × Hd
def shc (h : HS) : List Value := [hv h.1, hv h.2]
theorem shc_len (h : HS) : (shc h).length = 2 := rfl
theorem shc_one (h : HS) : ∀ u ∈ shc h, u.oneCell' = true := by simp [shc, hv, Value.oneCell']
def hb (h : Hd) : List Nat := (h.1.map (·.block)).toList
def hbs (l : List HS) : List Nat := l.flatMap fun h => hb h.1 ++ hb h.2
def nilH : Hd := (none, 0, 0)
theorem own_of_box {w : World} {g n : Nat} {t : TypeId} {cs : List Value} (h : Box w g t cs) (hn : cs.length = n) (hm : n ≤ maxLen) {B : Nat} (hB : B ≤ g) : Own w B t 1 (some ⟨g, 0, none⟩) n n cs :=
  ⟨by omega, .inr ⟨g, n, cs.toArray, rfl, hB, h, Nat.le_refl _, hm, by simp [hn], by rw [List.take_of_length_le (by simp [hn])]⟩⟩
theorem row_boxP {w : World} {b : Nat} {t : TypeId} {n : Nat} {z : Value} (h : w.rowIs b t n (fun _ => z)) : Box w b t (List.replicate n z) := by
  obtain ⟨c, h1, h2, h3⟩ := h
  have : c = (List.replicate n z).toArray := by
    apply Array.ext (by simp [h2])
    intro i hi hi2
    have := h3 i (by omega)
    rw [Array.getElem?_eq_getElem hi] at this
    simpa using this
  subst this
  exact h1

/-- a page in memory: its table is a row of its own, its rows lie in blocks of bytes -/
def Tab (w : World) (h : Hd) (p : Pgl) : Prop := ∃ hs, Own w 0 31 1 h.1 h.2.1 h.2.2 (hs.map hv) ∧ Rows w hs p
theorem Tab.nil (w : World) : Tab w nilH [] := ⟨[], Own.nil _ _ _ _, Rows.nil w⟩
theorem Tab.fr {w w' : World} {S : List Nat} {h : Hd} {p : Pgl} (t : Tab w h p) (hf : Fr S w w') (hn : ∀ b ∈ S, NoB w b) (hd : ∀ b ∈ hb h, b ∉ S) : Tab w' h p := by
  obtain ⟨hs, h1, h2⟩ := t
  exact ⟨hs, own_fr h1 hf hd, h2.fr hf hn⟩
theorem Tab.below {w w' : World} {h : Hd} {p : Pgl} (t : Tab w h p) (hb : Below w.heap.size w w') : Tab w' h p := by
  obtain ⟨hs, h1, h2⟩ := t
  exact ⟨hs, h1.below hb, h2.below hb⟩
theorem Tab.lt {w : World} {h : Hd} {p : Pgl} (t : Tab w h p) : ∀ b ∈ hb h, b < w.heap.size := by
  obtain ⟨hs, h1, h2⟩ := t
  exact fun b hb => (own_lt h1 b hb).2
theorem Tab.nob {w : World} {h : Hd} {p : Pgl} (t : Tab w h p) : ∀ b ∈ hb h, NoB w b := by
  obtain ⟨hs, h1, h2⟩ := t
  exact own_nobs h1 (by decide)
theorem Tab.len {w : World} {h : Hd} {p : Pgl} (t : Tab w h p) : h.2.1 = p.length := by
  obtain ⟨hs, h1, h2⟩ := t
  have := h1.len
  rw [List.length_map, h2.1] at this
  omega
theorem Rows.rows {w : World} {hs : List Hd} {p : Pgl} (h : Rows w hs p) : ∀ (i : Nat) (h : Hd) (r : List UInt8), hs[i]? = some h → p[i]? = some r → Sl w 1 h.1 h.2.1 h.2.2 (r.map B8) := fun i x r h1 h2 => (h.2 i x r h1 h2).1
theorem Tab.pg {w : World} {h : Hd} {p : Pgl} (t : Tab w h p) : ∃ hs, Pg w h.1 h.2.1 h.2.2 hs p := by
  obtain ⟨hs, h1, h2⟩ := t
  exact ⟨hs, h1.sl, h2.1, h2.rows⟩
theorem Tab.ne {w : World} {h : Hd} {p : Pgl} (t : Tab w h p) {g : Nat} {T : TypeId} {cs : List Value} (hx : Box w g T cs) (hT : T ≠ 31) : g ∉ hb h := by
  obtain ⟨hs, h1, h2⟩ := t
  intro hm
  unfold hb at hm
  obtain ⟨a, n, c⟩ := h
  cases a with
  | none => cases hm
  | some q =>
    simp at hm
    subst hm
    exact kind_ne (q := q) h1 (show w.heap[q.block]? = _ from hx) (fun e => hT e.symm) rfl
theorem Tab.neq {w : World} {h : Hd} {p : Pgl} (t : Tab w h p) {T : TypeId} {sz n c : Nat} {a : Option Addr} {cs : List Value} (hx : Que w T sz a n c cs) (hT : T ≠ 31) : ∀ b ∈ (a.map (·.block)).toList, b ∉ hb h := by
  obtain ⟨hs, h1, h2⟩ := t
  intro b hbm hm
  unfold hb at hm
  obtain ⟨a', n', c'⟩ := h
  rcases hx.2 with ⟨rfl, _⟩ | ⟨g, off, cur, rfl, h3, _⟩
  · cases hbm
  · simp at hbm
    subst hbm
    cases a' with
    | none => cases hm
    | some q =>
      simp at hm
      subst hm
      exact kind_ne (q := q) h1 h3 (fun e => hT e.symm) rfl

/-- sheets in memory -/
structure Shs (w : World) (ws : List HS) (L : List Sht) : Prop where
  len : ws.length = L.length
  get : ∀ (i : Nat) (h : HS) (s : Sht), ws[i]? = some h → L[i]? = some s → Tab w h.1 s.1 ∧ Tab w h.2 s.2
theorem Shs.nil (w : World) : Shs w [] [] := ⟨rfl, fun i h s h1 => by cases h1⟩
theorem Shs.below {w w' : World} {ws : List HS} {L : List Sht} (h : Shs w ws L) (hb : Below w.heap.size w w') : Shs w' ws L :=
  ⟨h.len, fun i x s h1 h2 => ⟨(h.get i x s h1 h2).1.below hb, (h.get i x s h1 h2).2.below hb⟩⟩
theorem mem_hbs {ws : List HS} {i : Nat} {h : HS} (hi : ws[i]? = some h) : ∀ b ∈ hb h.1 ++ hb h.2, b ∈ hbs ws := fun b hm => by
  unfold hbs
  exact List.mem_flatMap.2 ⟨h, List.mem_of_getElem? hi, hm⟩
theorem Shs.fr {w w' : World} {S : List Nat} {ws : List HS} {L : List Sht} (h : Shs w ws L) (hf : Fr S w w') (hn : ∀ b ∈ S, NoB w b) (hd : ∀ b ∈ hbs ws, b ∉ S) : Shs w' ws L :=
  ⟨h.len, fun i x s h1 h2 => ⟨(h.get i x s h1 h2).1.fr hf hn (fun b hm => hd b (mem_hbs h1 b (List.mem_append_left _ hm))), (h.get i x s h1 h2).2.fr hf hn (fun b hm => hd b (mem_hbs h1 b (List.mem_append_right _ hm)))⟩⟩
theorem Shs.append {w : World} {ws ws' : List HS} {L L' : List Sht} (h : Shs w ws L) (h' : Shs w ws' L') : Shs w (ws ++ ws') (L ++ L') := by
  refine ⟨by rw [List.length_append, List.length_append, h.len, h'.len], fun i x s h1 h2 => ?_⟩
  rw [List.getElem?_append] at h1 h2
  by_cases hi : i < ws.length
  · rw [if_pos hi] at h1
    rw [if_pos (by rw [← h.len]; exact hi)] at h2
    exact h.get i x s h1 h2
  · rw [if_neg hi] at h1
    rw [if_neg (by rw [← h.len]; exact hi), ← h.len] at h2
    exact h'.get _ x s h1 h2
theorem Shs.one {w : World} {x : HS} {s : Sht} (h1 : Tab w x.1 s.1) (h2 : Tab w x.2 s.2) : Shs w [x] [s] := by
  refine ⟨rfl, fun i y r k1 k2 => ?_⟩
  cases i with
  | zero => simp at k1 k2; subst k1 k2; exact ⟨h1, h2⟩
  | succ i => simp at k1
theorem Shs.drop {w : World} {ws : List HS} {L : List Sht} (h : Shs w ws L) (k : Nat) : Shs w (ws.drop k) (L.drop k) :=
  ⟨by rw [List.length_drop, List.length_drop, h.len], fun i x r h1 h2 => h.get (k + i) x r (by rw [List.getElem?_drop] at h1; exact h1) (by rw [List.getElem?_drop] at h2; exact h2)⟩
theorem Shs.lt {w : World} {ws : List HS} {L : List Sht} (h : Shs w ws L) : ∀ b ∈ hbs ws, b < w.heap.size := fun b hm => by
  unfold hbs at hm
  obtain ⟨x, hx, hm⟩ := List.mem_flatMap.1 hm
  obtain ⟨i, hi, rfl⟩ := List.mem_iff_getElem.1 hx
  have hi2 : i < L.length := by rw [← h.len]; exact hi
  have := h.get i ws[i] L[i] (by simp [hi]) (by simp [hi2])
  rcases List.mem_append.1 hm with h1 | h1
  · exact this.1.lt b h1
  · exact this.2.lt b h1
theorem hbs_append (a b : List HS) : hbs (a ++ b) = hbs a ++ hbs b := by unfold hbs; rw [List.flatMap_append]
theorem hbs_drop {a : List HS} {k b : Nat} (h : b ∈ hbs (a.drop k)) : b ∈ hbs a := by
  rw [← List.take_append_drop k a, hbs_append]
  exact List.mem_append_right _ h
theorem hbs_one (x : HS) : hbs [x] = hb x.1 ++ hb x.2 := by unfold hbs; simp
end Go.Proofs.Ytdeknimelkdaeaa
end

/- the text Store -/
section
/- An index and a store, where the block is known: laws of the walk that do not search the context. No program in sight. -/
set_option linter.unusedVariables false
namespace Go.Dx
open Go.RowKit
section
variable {P : Program} {w : World} {ops : Array Oper} {rest : List Oper} {act : Act} {Q : Exit → Act → World → Prop} {ty : TypeId} {pos : String} {after : Array Edge}
/-- 'xs[i]', the address, the block known -/
theorem index_known (d : Nat) (t : TypeId) (x y : Operand) (e : TypeId) (ht : P.underlying t = some (.slice e)) (hsz : (P.info? e).map (·.size) = some 1)
    (b n c : Nat) (hx : act.eval x = .slice (some ⟨b, 0, none⟩) n c) (k : IntKind) (iv : Int) (i : Nat) (hy : act.eval y = .int k iv) (hiv : iv = (i : Int)) (hi : i < n)
    (hK : wpList P ops Q rest (act.put (some d) (.pointer (some ⟨b, i, none⟩))) w) :
    wpList P ops Q ({ dst := some d, op := .indexAddr t x y, type := ty, pos := pos, after := after, guard := none } :: rest) act w := by
  refine wpList_plain rfl fun K hK' => ?_
  obtain ⟨i0, hi0, hs0⟩ := Option.map_eq_some_iff.1 hsz
  subst hiv
  have hrun : (Instr.indexAt t (.slice (some ⟨b, 0, none⟩) n c) (.int k (i : Int))).run P w = .ok (.pointer (some ⟨b, i, none⟩)) w := by
    simp [Instr.indexAt, asIntOf, run_underlying ht, sizeOf, typeInfo, hi0, hs0, hi, Addr.add_lit]
  unfold Oper.wp
  simp [execOp, hx, hy, hrun, Result.andThen]
  exact hK' _ _ hK
/-- a slice is stored into a cell -/
theorem store_slice (t : TypeId) (x y : Operand) (hsz : (P.info? t).map (·.size) = some 1) (b i : Nat) (hx : act.eval x = .pointer (some ⟨b, i, none⟩)) (pa : Option Addr) (l c : Nat) (hy : act.eval y = .slice pa l c)
    (u : Value) (hc : w.cell? ⟨b, i, none⟩ = some u) (hf : w.frozen? ⟨b, i, none⟩ = false)
    (hK : wpList P ops Q rest act (w.setCell ⟨b, i, none⟩ (.slice pa l c))) :
    wpList P ops Q ({ dst := none, op := .store t x y, type := ty, pos := pos, after := after, guard := none } :: rest) act w := by
  refine wpList_plain rfl fun K hK' => ?_
  obtain ⟨i0, hi0, hs0⟩ := Option.map_eq_some_iff.1 hsz
  have hrun : (Instr.storeAt t (.pointer (some ⟨b, i, none⟩)) (.slice pa l c)).run P w = .ok () (w.setCell ⟨b, i, none⟩ (.slice pa l c)) := by
    simp [Instr.storeAt, Instr.sureAddr, storeVar, sizeOf, typeInfo, hi0, hs0, storeCells, go_sem, hc, hf]
  unfold Oper.wp
  simp [execOp, hx, hy, hrun, Result.andThen]
  exact hK' _ _ hK
end
end Go.Dx
end

/- the text P2 -/
section
/- Chapter 35: copied. -/
set_option linter.unusedVariables false
namespace Go.Proofs.Ytdeknimelkdaeaa
open Go.RowKit Go.Dx Go.Al
theorem set_rep {α : Type} (f : Hd → α) (hs : List Hd) (m : Nat) (x : Hd) : ((hs ++ List.replicate (m + 1) nilH).map f).set hs.length (f x) = ((hs ++ [x]) ++ List.replicate m nilH).map f := by
  rw [List.map_append, List.set_append_right _ _ (by simp), List.length_map, Nat.sub_self, List.replicate_succ]
  simp
theorem Rows.snoc {w : World} {hs : List Hd} {p : Pgl} {x : Hd} {r : List UInt8} (h : Rows w hs p) (h1 : Sl w 1 x.1 x.2.1 x.2.2 (r.map B8)) (k : Kind w x.1) : Rows w (hs ++ [x]) (p ++ [r]) := h.append (Rows.one h1 k)
set_option maxHeartbeats 1000000 in
theorem pr_copied (p : Pgl) (hs : List Hd) (a : Option Addr) (n c : Nat) (w : World) (hp : Pg w a n c hs p) (hl : ∀ r ∈ p, r.length ≤ 140737488355328) (hn : p.length * 24 ≤ 281474976710656) :
    Calls Try.prog 42 #[.slice a n c] w fun e w' => ∃ ax nx cx, e = .returned (.slice ax nx cx) ∧ Tab w' (ax, nx, cx) p ∧ (∀ b ∈ hb (ax, nx, cx), w.heap.size ≤ b) ∧ Below w.heap.size w w' := by
  obtain rfl := hp.n_eq
  have hm1 := Nat.le_trans hp.top.le hp.top.cap
  unfold maxLen at hm1
  have H24 : Hid (24 * p.length ≤ 281474976710656) := hide (by omega)
  clear hn
  go_enter Try.func42, Try.ntmps42
  go_wp2_with (with_reducible refine make_row 8 _ _ _ 31 (.slice none 0 0) 24 Try.underlying28 info_row rfl _ _ _ _ p.length rfl rfl rfl rfl H24.out (by omega) ?_; intro w1 hr1 hb1 hz1; have hx1 := hide (row_boxP hr1); clear hr1)
  obtain ⟨b, HB⟩ : ∃ b, Hid (w.heap.size = b) := ⟨_, hide rfl⟩
  rw [HB.out]
  rw [HB.out] at hx1
  have hz2 : Hid (w1.heap.size = b + 1) := hide (by rw [hz1, HB.out])
  clear hz1
  go_loopg [11] p.length (fun g i w' => ∃ (k : Nat) (ho : List Hd), k ≤ p.length ∧ g = p.length - k ∧ i = .int .i64 k ∧ ho.length = k ∧ Box w' b 31 ((ho ++ List.replicate (p.length - k) nilH).map hv) ∧ Rows w' ho (p.take k) ∧ Below b w w')
  case atStart => exact ⟨0, [], by omega, by omega, rfl, rfl, by have := hx1.out; simpa [nilH, hv] using this, Rows.nil _, by rw [← HB.out]; exact hb1⟩
  case round =>
    obtain ⟨k, ho, hk, hg, rfl, hol, hx, hr, hbw⟩ := hrel
    have HG := hide hg
    have HX := hide hx
    have HR := hide hr
    have HL := hide hol
    clear hg hx hr hol
    by_cases hkl : k < p.length
    · obtain ⟨r, hr⟩ : ∃ r, p[k]? = some r := ⟨p[k], by simp [hkl]⟩
      obtain ⟨a1, c1, hu, hsr⟩ := hp.get hr
      have hrl : r.length ≤ 140737488355328 := hl r (List.mem_of_getElem? hr)
      have HU := hide hu
      have HRR := hide hr
      clear hu hr
      have hbw2 : Below w.heap.size w wr := by rw [HB.out]; exact hbw
      have hcl := hide (clone6 r a1 r.length c1 wr (hsr.below hbw2) hrl)
      clear hrl
      go_wp2_with (first
        | (with_reducible refine idx_p 14 _ _ _ _ _ hs rfl (hp.top.below hbw2) _ _ k rfl rfl _ HU.out ?_; intro b2 o2 hcell hbo)
        | (go_at_call 40; refine hcl.out.mono ?_; rintro e w2 ⟨a2, c2, rfl, ho2, hb2⟩)
        | (with_reducible refine index_known 20 _ _ _ 31 Try.underlying28 size_row b p.length p.length rfl _ _ k rfl rfl hkl ?_)
        | (with_reducible refine hold_store ?_))
      refine hide ?_
      have hbl : b < wr.heap.size := HX.out.lt
      have hx2 : Box w2 b 31 ((ho ++ List.replicate (p.length - k) nilH).map hv) := HX.out.under hb2
      refine store_slice _ _ _ size_row b k rfl a2 r.length c2 rfl (.slice none 0 0) ?_ (hx2.free k) ?_
      · rw [hx2.cell k, List.getElem?_map, List.getElem?_append_right (by rw [HL.out]; exact Nat.le_refl _), HL.out, Nat.sub_self, List.getElem?_replicate, if_pos (by omega)]
        rfl
      have hpt := hx2.put k (.slice a2 r.length c2)
      have hfar : Below b w (w2.setCell ⟨b, k, none⟩ (.slice a2 r.length c2)) := (hbw.trans (hb2.mono (by omega))).setCell (p := ⟨b, k, none⟩) (Nat.le_refl _) _
      have hgw : w2.grownBy (w2.setCell ⟨b, k, none⟩ (.slice a2 r.length c2)) (some b) := ⟨rfl, rfl, rfl, by simp, fun j hj hne => Below.heap_setCell w2 _ _ j (fun e => hne (by rw [e]))⟩
      have hnb : NoB w2 b := NoB.box hx2 (by decide)
      have hk2 := Kind.own ho2
      have hrows : Rows (w2.setCell ⟨b, k, none⟩ (.slice a2 r.length c2)) (ho ++ [(a2, r.length, c2)]) (p.take (k + 1)) := by
        rw [take_snoc HRR.out]
        exact ((HR.out.below hb2).snoc ho2.sl hk2).kept hgw (fun b' hb' => by cases hb'; exact hnb)
      have hbox : Box (w2.setCell ⟨b, k, none⟩ (.slice a2 r.length c2)) b 31 (((ho ++ [(a2, r.length, c2)]) ++ List.replicate (p.length - (k + 1)) nilH).map hv) := by
        have e1 : p.length - k = p.length - (k + 1) + 1 := by omega
        rw [e1] at hpt
        have := set_rep hv ho (p.length - (k + 1)) (a2, r.length, c2)
        rw [HL.out] at this
        rw [← this]
        exact hpt
      generalize w2.setCell ⟨b, k, none⟩ (.slice a2 r.length c2) = w3 at hfar hrows hbox ⊢
      clear hx2 hpt hnb hk2 hgw
      have HB3 := hide hbox
      have HR3 := hide hrows
      clear hbox hrows
      go_wp2
      go_roundg (p.length - (k + 1))
      case measure => have := HG.out; omega
      case rel => exact ⟨k + 1, _, by omega, rfl, by go_num, by rw [List.length_append, HL.out]; rfl, HB3.out, HR3.out, hfar⟩
    · obtain rfl : k = p.length := by omega
      go_wp2
      go_ret
      have h1 := HX.out
      have h2 := HR.out
      rw [List.take_length] at h2
      rw [Nat.sub_self, List.replicate_zero, List.append_nil] at h1
      refine ⟨some ⟨b, 0, none⟩, p.length, p.length, rfl, ⟨ho, own_of_box h1 (by rw [List.length_map, HL.out]) (by unfold maxLen; omega) (Nat.zero_le _), h2⟩, ?_, by rw [HB.out]; exact hbw⟩
      intro x hx
      simp [hb] at hx
      subst hx
      rw [HB.out]
      exact Nat.le_refl _
end Go.Proofs.Ytdeknimelkdaeaa
end

/- the text P3 -/
section
/- Chapter 35: sheets. -/
set_option linter.unusedVariables false
namespace Go.Proofs.Ytdeknimelkdaeaa
open Go.RowKit Go.Dx Go.Al
/-- a list of pages as it lies -/
structure Pgs (w : World) (a : Option Addr) (n c : Nat) (hs : List Hd) (L : List Pgl) : Prop where
  top : Sl w 1 a n c (hs.map hv)
  len : hs.length = L.length
  get : ∀ (i : Nat) (h : Hd) (p : Pgl), hs[i]? = some h → L[i]? = some p → ∃ r, Pg w h.1 h.2.1 h.2.2 r p
theorem Pgs.below {w w' : World} {a : Option Addr} {n c : Nat} {hs : List Hd} {L : List Pgl} (h : Pgs w a n c hs L) (hb : Below w.heap.size w w') : Pgs w' a n c hs L :=
  ⟨h.top.below hb, h.len, fun i x p h1 h2 => by obtain ⟨r, hr⟩ := h.get i x p h1 h2; exact ⟨r, hr.below hb⟩⟩
theorem Pgs.n_eq {w : World} {a : Option Addr} {n c : Nat} {hs : List Hd} {L : List Pgl} (h : Pgs w a n c hs L) : n = L.length := by rw [h.top.n_eq, h.len]
theorem Pgs.at_ {w : World} {a : Option Addr} {n c : Nat} {hs : List Hd} {L : List Pgl} (h : Pgs w a n c hs L) {i : Nat} {p : Pgl} (hp : L[i]? = some p) : ∃ a' n' c' r, (hs.map hv)[i]? = some (.slice a' n' c') ∧ Pg w a' n' c' r p := by
  have hi : i < hs.length := by rw [h.len]; exact (List.getElem?_eq_some_iff.1 hp).1
  have hx : hs[i]? = some hs[i] := by simp [hi]
  obtain ⟨r, hr⟩ := h.get i _ p hx hp
  exact ⟨_, _, _, r, by rw [List.getElem?_map, hx]; rfl, hr⟩
/-- a page small enough to be copied -/
def Cp (p : Pgl) : Prop := (∀ r ∈ p, r.length ≤ 140737488355328) ∧ p.length * 24 ≤ 281474976710656
def sheetsL : List Pgl → List Sht
  | [] => []
  | [a] => [(a, [])]
  | a :: b :: l => (a, b) :: sheetsL l
theorem sheetsL_len : ∀ l : List Pgl, (sheetsL l).length = (l.length + 1) / 2
  | [] => rfl
  | [a] => by simp [sheetsL]
  | a :: b :: l => by rw [sheetsL, List.length_cons, sheetsL_len l, List.length_cons, List.length_cons]; omega
theorem sheetsL_step : ∀ (k : Nat) (l : List Pgl) (x : Pgl), l[2 * k]? = some x → sheetsL (l.take (2 * k + 2)) = sheetsL (l.take (2 * k)) ++ [(x, l.getD (2 * k + 1) [])]
  | 0, [], x, h => by cases h
  | 0, [a], x, h => by simp at h; subst h; rfl
  | 0, a :: b :: l, x, h => by simp at h; subst h; simp [sheetsL]
  | k + 1, [], x, h => by cases h
  | k + 1, [a], x, h => by rw [show 2 * (k + 1) = (2 * k + 1) + 1 by omega] at h; simp at h
  | k + 1, a :: b :: l, x, h => by
    have e : 2 * (k + 1) = 2 * k + 1 + 1 := by omega
    rw [e] at h ⊢
    simp only [List.getElem?_cons_succ] at h
    have ih := sheetsL_step k l x h
    rw [show 2 * k + 1 + 1 + 2 = (2 * k + 2) + 1 + 1 by omega, List.take_succ_cons, List.take_succ_cons, sheetsL, ih, List.take_succ_cons, List.take_succ_cons, sheetsL, List.cons_append]
    congr 2
theorem sheetsL_all {k : Nat} {l : List Pgl} (h : l.length ≤ 2 * k) : sheetsL (l.take (2 * k)) = sheetsL l := by rw [List.take_of_length_le h]
theorem info_sheet : (Try.prog.info? 29).map (fun i => (i.zero, i.size, i.bytes)) = some (some (.agg #[.slice none 0 0, .slice none 0 0]), 2, 48) := by kernel_rfl
theorem size_sheet : (Try.prog.info? 29).map (·.size) = some 2 := by kernel_rfl
theorem size_page : (Try.prog.info? 28).map (·.size) = some 1 := by kernel_rfl
section
variable {w : World} {ops : Array Oper} {rest : List Oper} {act : Act} {Q : Exit → Act → World → Prop} {ty : TypeId} {pos : String} {after : Array Edge}
theorem idx_pgs (d : Nat) (x y : Operand) (a : Option Addr) (n c : Nat) (hs : List Hd) (hx : act.eval x = .slice a n c) (ht : Sl w 1 a n c (hs.map hv)) (k : IntKind) (iv : Int) (i : Nat) (hy : act.eval y = .int k iv) (hiv : iv = (i : Int))
    (u : Value) (hu : (hs.map hv)[i]? = some u)
    (hK : ∀ b o, w.cell? ⟨b, o, none⟩ = some u → b < w.heap.size → wpList Try.prog ops Q rest (act.put (some d) (.pointer (some ⟨b, o, none⟩))) w) :
    wpList Try.prog ops Q ({ dst := some d, op := .indexAddr 23 x y, type := ty, pos := pos, after := after, guard := none } :: rest) act w :=
  index_sl d 23 x y 28 Try.underlying23 size_page a n c _ hx ht k iv i hy hiv u hu hK
theorem load_sheet (d : Nat) (x : Operand) (p : Addr) (hx : act.eval x = .pointer (some p)) (cs : List Value) (hl : cs.length = 2) (hc : ∀ j u, cs[j]? = some u → w.cell? (p.add j) = some u)
    (hK : wpList Try.prog ops Q rest (act.put (some d) (.agg cs.toArray)) w) :
    wpList Try.prog ops Q ({ dst := some d, op := .load 29 x, type := ty, pos := pos, after := after, guard := none } :: rest) act w :=
  load_agg d 29 x 2 size_sheet _ _ Try.underlying29 p hx cs hl hc hK
theorem load_sheet2 (d : Nat) (x : Operand) (g o o1 : Nat) (hx : act.eval x = .pointer (some ⟨g, o, none⟩)) (u0 u1 : Value) (h0 : w.cell? ⟨g, o, none⟩ = some u0) (h1 : w.cell? ⟨g, o1, none⟩ = some u1) (ho : o1 = o + 1)
    (hK : wpList Try.prog ops Q rest (act.put (some d) (.agg #[u0, u1])) w) :
    wpList Try.prog ops Q ({ dst := some d, op := .load 29 x, type := ty, pos := pos, after := after, guard := none } :: rest) act w :=
  load_sheet d x _ hx [u0, u1] rfl (fun j u hu => by
    subst ho
    rw [Addr.add_lit]
    match j with
    | 0 => simp at hu; subst hu; exact h0
    | 1 => simp at hu; subst hu; exact h1
    | n + 2 => simp at hu) hK
theorem build_sheet (d : Nat) (x : Operand) (u0 u1 : Value) (hx : act.eval x = .agg #[u0, u1])
    (hK : wpList Try.prog ops Q rest (act.put (some d) (.slice (some ⟨w.heap.size, 0, none⟩) 1 1)) (w.alloc (.cells #[u0, u1] 29))) :
    wpList Try.prog ops Q ({ dst := some d, op := .buildSlice 25 1 #[(0, x)], type := ty, pos := pos, after := after, guard := none } :: rest) act w :=
  build_one d 25 x 29 Try.underlying25 _ 2 48 info_sheet rfl (by decide) (by decide) _ [u0, u1] hx rfl rfl hK
end
section
variable {w : World} {ops : Array Oper} {rest : List Oper} {o : Oper} {act : Act} {Q : Exit → Act → World → Prop}
/-- 'append(out, s)' on sheets -/
theorem app_sheet (hg : o.guard = none) (s x : Operand) (hop : o.op = Op.call { callee := Callee.builtin Builtin.append, args := #[s, x], argTypes := #[25, 25] })
    (w0 : World) (B : Nat) (a : Option Addr) (n c : Nat) (xs : List HS) (hs : act.eval s = .slice a n c) (hown : Own w B 29 2 a n c (xs.flatMap shc))
    (y : HS) (hx : act.eval x = .slice (some ⟨w.heap.size, 0, none⟩) 1 1)
    (hn : (n + 1) * 48 ≤ 140737488355328) (hB : B ≤ w.heap.size) (hbel : Below B w0 w)
    (hK : ∀ a' c' w', Own w' B 29 2 a' (n + 1) c' ((xs ++ [y]).flatMap shc) → w.grownBy w' (a.map (·.block)) → Below B w0 w' → wpList Try.prog ops Q rest (act.put o.dst (.slice a' (n + 1) c')) w') :
    wpList Try.prog ops Q (o :: rest) act (w.alloc (.cells #[hv y.1, hv y.2] 29)) := by
  refine append_lit hg s x 25 hop 29 (.agg #[.slice none 0 0, .slice none 0 0]) 2 48 Try.underlying25 info_sheet rfl w0 B a n c _ hs hown 1 [hv y.1, hv y.2] hx rfl (by simp [hv, Value.oneCell']) hn (by unfold maxLen; omega) hB hbel ?_
  intro a' c' w' ho hgr hb
  refine hK a' c' w' ?_ hgr hb
  rw [List.flatMap_append]
  exact ho
end
end Go.Proofs.Ytdeknimelkdaeaa
end

/- the text P4 -/
section
/- Chapter 35: sheets. -/
set_option linter.unusedVariables false
namespace Go.Proofs.Ytdeknimelkdaeaa
open Go.RowKit Go.Dx Go.Al
theorem Tab.off {w : World} {h : Hd} {p : Pgl} (t : Tab w h p) {T : TypeId} {B sz n c : Nat} {a : Option Addr} {cs : List Value} (hx : Own w B T sz a n c cs) (hT : T ≠ 31) : ∀ b ∈ (a.map (·.block)).toList, b ∉ hb h := t.neq (Que.of_own hx) hT
theorem Shs.off {w : World} {ws : List HS} {L : List Sht} (h : Shs w ws L) {T : TypeId} {sz n c : Nat} {a : Option Addr} {cs : List Value} (hx : Que w T sz a n c cs) (hT : T ≠ 31) : ∀ b ∈ hbs ws, b ∉ (a.map (·.block)).toList := fun b hm hb' => by
  unfold hbs at hm
  obtain ⟨x, hx2, hm⟩ := List.mem_flatMap.1 hm
  obtain ⟨i, hi, rfl⟩ := List.mem_iff_getElem.1 hx2
  have hi2 : i < L.length := by rw [← h.len]; exact hi
  have := h.get i ws[i] L[i] (by simp [hi]) (by simp [hi2])
  rcases List.mem_append.1 hm with h1 | h1
  · exact this.1.neq hx hT b hb' h1
  · exact this.2.neq hx hT b hb' h1
/-- what a sheets' row grows by leaves the sheets' pages -/
theorem Shs.kept {w w' : World} {ws : List HS} {L : List Sht} {B sz n c : Nat} {a : Option Addr} {cs : List Value} {T : TypeId} (h : Shs w ws L) (ho : Own w B T sz a n c cs) (hT : T ≠ 31) (hT2 : T ≠ 5) (hg : w.grownBy w' (a.map (·.block))) : Shs w' ws L :=
  h.fr (Fr.ofGrown hg) (own_nobs ho hT2) (h.off (Que.of_own ho) hT)
theorem Tab.kept {w w' : World} {x : Hd} {p : Pgl} {B sz n c : Nat} {a : Option Addr} {cs : List Value} {T : TypeId} (h : Tab w x p) (ho : Own w B T sz a n c cs) (hT : T ≠ 31) (hT2 : T ≠ 5) (hg : w.grownBy w' (a.map (·.block))) : Tab w' x p :=
  h.fr (Fr.ofGrown hg) (own_nobs ho hT2) (fun b hb hm => h.off ho hT b hm hb)
/-- a list of sheets, new since block W -/
structure Shn (w : World) (W : Nat) (a : Option Addr) (n c : Nat) (ws : List HS) (L : List Sht) : Prop where
  top : Own w W 29 2 a n c (ws.flatMap shc)
  shs : Shs w ws L
  new : ∀ b ∈ hbs ws, W ≤ b
theorem Shn.nil (w : World) (W : Nat) : Shn w W none 0 0 [] [] := ⟨Own.nil _ _ _ _, Shs.nil w, fun b hb => by cases hb⟩
theorem Shn.below {w w' : World} {W n c : Nat} {a : Option Addr} {ws : List HS} {L : List Sht} (h : Shn w W a n c ws L) (hb : Below w.heap.size w w') : Shn w' W a n c ws L := ⟨h.top.below hb, h.shs.below hb, h.new⟩
theorem Shn.len {w : World} {W n c : Nat} {a : Option Addr} {ws : List HS} {L : List Sht} (h : Shn w W a n c ws L) : n = L.length := by
  have h1 := h.top.len
  rw [flat_len shc_len] at h1
  rw [← h.shs.len]
  omega
theorem Shn.push {w w' : World} {W n c c' : Nat} {a a' : Option Addr} {ws : List HS} {L : List Sht} {x : HS} {s : Sht} (h : Shn w W a n c ws L) (h1 : Tab w x.1 s.1) (h2 : Tab w x.2 s.2) (n1 : ∀ b ∈ hb x.1, W ≤ b) (n2 : ∀ b ∈ hb x.2, W ≤ b)
    (ho : Own w' W 29 2 a' (n + 1) c' ((ws ++ [x]).flatMap shc)) (hg : w.grownBy w' (a.map (·.block))) : Shn w' W a' (n + 1) c' (ws ++ [x]) (L ++ [s]) :=
  ⟨ho, (h.shs.append (Shs.one h1 h2)).kept h.top (by decide) (by decide) hg, fun b hm => by
    rw [hbs_append, hbs_one] at hm
    rcases List.mem_append.1 hm with h3 | h3
    · exact h.new b h3
    · rcases List.mem_append.1 h3 with h4 | h4
      · exact n1 b h4
      · exact n2 b h4⟩
theorem Shn.fr1 {w w' : World} {W n c g : Nat} {a : Option Addr} {ws : List HS} {L : List Sht} {cs : List Value} (h : Shn w W a n c ws L) (hf : Fr [g] w w') (hx : Box w g 29 cs) (hg : ∀ p, a = some p → p.block ≠ g) : Shn w' W a n c ws L :=
  ⟨own_fr h.top hf (fun b hb => by
      cases a with
      | none => cases hb
      | some q => simp at hb ⊢; rw [hb]; exact hg q rfl),
    h.shs.fr hf (fun b hm => by simp at hm; subst hm; exact NoB.box hx (by decide)) (fun b hm hm2 => by
      simp at hm2
      subst hm2
      unfold hbs at hm
      obtain ⟨x, hx2, hm⟩ := List.mem_flatMap.1 hm
      obtain ⟨i, hi, rfl⟩ := List.mem_iff_getElem.1 hx2
      have hi2 : i < L.length := by rw [← h.shs.len]; exact hi
      have := h.shs.get i ws[i] L[i] (by simp [hi]) (by simp [hi2])
      rcases List.mem_append.1 hm with h1 | h1
      · exact this.1.ne hx (by decide) h1
      · exact this.2.ne hx (by decide) h1), h.new⟩
set_option maxHeartbeats 1000000 in
theorem pr_sheets (L : List Pgl) (hs : List Hd) (a : Option Addr) (n c : Nat) (w : World) (hp : Pgs w a n c hs L) (hc : ∀ p ∈ L, Cp p) (hn : L.length ≤ 1000000) :
    Calls Try.prog 35 #[.slice a n c] w fun e w' => ∃ a' c' ws, e = .returned (.slice a' (sheetsL L).length c') ∧ Shn w' w.heap.size a' (sheetsL L).length c' ws (sheetsL L) ∧ Below w.heap.size w w' := by
  obtain rfl := hp.n_eq
  have hcop : ∀ (w1 : World) (p : Pgl) (a1 : Option Addr) (n1 c1 : Nat) (r1 : List Hd), p ∈ L → Pg w1 a1 n1 c1 r1 p → Calls Try.prog 42 #[.slice a1 n1 c1] w1 fun e w' => ∃ ax nx cx, e = .returned (.slice ax nx cx) ∧ Tab w' (ax, nx, cx) p ∧ (∀ b ∈ hb (ax, nx, cx), w1.heap.size ≤ b) ∧ Below w1.heap.size w1 w' :=
    fun w1 p a1 n1 c1 r1 hm h1 => pr_copied p r1 a1 n1 c1 w1 h1 (hc p hm).1 (hc p hm).2
  go_enter Try.func35, Try.ntmps35
  go_wp2_with fail
  go_loopg [3, 4] (L.length + 1) (fun g o i w' => ∃ (k : Nat) (a' : Option Addr) (c' : Nat) (ws : List HS), 2 * k ≤ L.length + 1 ∧ g = L.length + 1 - 2 * k ∧ i = .int .i64 ((2 * k : Nat) : Int) ∧ o = .slice a' k c' ∧ Shn w' w.heap.size a' k c' ws (sheetsL (L.take (2 * k))) ∧ Below w.heap.size w w')
  case atStart => exact ⟨0, none, 0, [], by omega, by omega, rfl, rfl, Shn.nil _ _, Below.refl _ _⟩
  case round =>
    obtain ⟨k, a', c', ws, hk, hg, rfl, rfl, hS, hbw⟩ := hrel
    have HG := hide hg
    have HS' := hide hS
    clear hg hS
    obtain ⟨j, hj⟩ : ∃ j, Hid (2 * k = j) := ⟨_, hide rfl⟩
    rw [hj.out] at hk
    rw [hj.out]
    by_cases hkl : j < L.length
    · obtain ⟨x, hx⟩ : ∃ x, L[j]? = some x := ⟨L[j], by simp [hkl]⟩
      have hxm := List.mem_of_getElem? hx
      obtain ⟨a1, n1, c1, r1, hu, hpg⟩ := (hp.below hbw).at_ hx
      have HU := hide hu
      have HX := hide hx
      clear hu hx
      have hcx := hcop wr x a1 n1 c1 r1 hxm hpg
      have hkc2 : k ≤ 1000000 := by have := hj.out; omega
      by_cases hj1 : j + 1 < L.length
      · obtain ⟨y, hy⟩ : ∃ y, L[j + 1]? = some y := ⟨L[j + 1], by simp [hj1]⟩
        have hym := List.mem_of_getElem? hy
        obtain ⟨a2, n2, c2, r2, hv2, hpg2⟩ := (hp.below hbw).at_ hy
        have HV := hide hv2
        have HY := hide hy
        clear hv2 hy
        have hd1 : decide ((j : Int) + 1 < (L.length : Int)) = true := decide_eq_true (by omega)
        go_wp2_with (first
          | (with_reducible refine idx_pgs 14 _ _ _ _ _ hs rfl (hp.below hbw).top _ _ j rfl rfl _ HU.out ?_; intro b2 o2 hcell hbo)
          | (go_at_call 42; refine hcx.mono ?_; rintro e w2 ⟨ax, nx, cx, rfl, ht1, hn1, hb1⟩; refine hold ?_))
        refine hide ?_
        go_wp2_with (with_reducible refine hold_store ?_)
        refine hide ?_
        refine store_fresh 29 29 _ _ 2 size_sheet _ rfl _ [.slice ax nx cx, .slice none 0 0] rfl rfl rfl rfl (by simp [Value.oneCell']) ?_
        have hx3 := hide (Box.new w2 29 #[.slice ax nx cx, .slice none 0 0])
        have hb3 : Below w2.heap.size w2 (w2.alloc (.cells [.slice ax nx cx, .slice none 0 0].toArray 29)) := sblo w2 _
        generalize w2.alloc (.cells [Value.slice ax nx cx, .slice none 0 0].toArray 29) = w3 at hx3 hb3 ⊢
        obtain ⟨g, hg⟩ : ∃ g, Hid (w2.heap.size = g) := ⟨_, hide rfl⟩
        rw [hg.out] at hx3 ⊢
        have hwr : Below wr.heap.size wr w3 := hb1.trans (hb3.mono hb1.size)
        have hgr : wr.heap.size ≤ g := by rw [← hg.out]; exact hb1.size
        have hbw3 : Below w.heap.size w w3 := hbw.trans (hwr.mono hbw.size)
        have hS3 := hide (HS'.out.below hwr)
        have hA1 : Hid (∀ p, a' = some p → p.block < wr.heap.size) := hide (fun p hp => by have h1 := HS'.out.top; rw [hp] at h1; exact h1.base.2)
        have ht3 := hide (ht1.below hb3)
        have hW1 : ∀ b ∈ hb (ax, nx, cx), w.heap.size ≤ b := fun b hm => Nat.le_trans hbw.size (hn1 b hm)
        clear hb3 HS' ht1 hn1 hcx
        have hcy := hcop w3 y a2 n2 c2 r2 hym (hpg2.below hwr)
        go_wp2_with (first
          | (with_reducible refine idx_pgs 26 _ _ _ _ _ hs rfl (hp.below hbw3).top _ _ (j + 1) rfl (by omega) _ HV.out ?_; intro b4 o4 hcell4 hbo4)
          | (go_at_call 42; refine hcy.mono ?_; rintro e w4 ⟨ay, ny, cy, rfl, ht4, hn4, hb4⟩; refine hold ?_))
        refine hide ?_
        go_wp2_with (with_reducible refine hold_store ?_)
        refine hide ?_
        have hx4 : Box w4 g 29 [.slice ax nx cx, .slice none 0 0] := hx3.out.under hb4
        refine store_slice _ _ _ size_page g 1 rfl ay ny cy rfl (.slice none 0 0) (hx4.at_ rfl) (hx4.free 1) ?_
        have hx5 := hide (hx4.put 1 (.slice ay ny cy))
        have hgw : w4.grownBy (w4.setCell ⟨g, 1, none⟩ (.slice ay ny cy)) (some g) := ⟨rfl, rfl, rfl, by simp, fun j hj hne => Below.heap_setCell w4 _ _ j (fun e => hne (by rw [e]))⟩
        have hbw5 : Below w.heap.size w (w4.setCell ⟨g, 1, none⟩ (.slice ay ny cy)) := (hbw3.trans (hb4.mono hbw3.size)).setCell (p := ⟨g, 1, none⟩) (Nat.le_trans hbw.size hgr) _
        have hfr : Fr [g] w4 (w4.setCell ⟨g, 1, none⟩ (.slice ay ny cy)) := Fr.ofGrown hgw
        have hnbg : ∀ b ∈ [g], NoB w4 b := fun b hm => by simp at hm; subst hm; exact NoB.box hx4 (by decide)
        have ht5 := hide ((ht3.out.below hb4).fr hfr hnbg (fun b hm hm2 => by simp at hm2; subst hm2; exact (ht3.out.below hb4).ne hx4 (by decide) hm))
        have tY := ht4.fr hfr hnbg (fun b hm hm2 => by simp at hm2; subst hm2; exact ht4.ne hx4 (by decide) hm)
        have hS5 := hide ((hS3.out.below hb4).fr1 hfr hx4 (fun p hp => by have := hA1.out p hp; omega))
        have nY : ∀ b ∈ hb (ay, ny, cy), w.heap.size ≤ b := fun b hm => Nat.le_trans hbw3.size (hn4 b hm)
        generalize w4.setCell ⟨g, 1, none⟩ (.slice ay ny cy) = w5 at hx5 hgw hbw5 hfr ht5 tY hS5 ⊢
        clear hgw hfr hnbg hx4
        have hc0 := hx5.out.at_ (j := 0) rfl
        have hc1 := hx5.out.at_ (j := 1) rfl
        have happ := hide (sheetsL_step k L x (by rw [hj.out]; exact HX.out))
        have hB5 : w.heap.size ≤ w5.heap.size := hbw5.size
        go_wp2_with (first
          | (with_reducible refine load_sheet2 31 _ g 0 1 rfl (.slice ax nx cx) (.slice ay ny cy) hc0 hc1 rfl ?_)
          | (with_reducible refine build_sheet 32 _ (.slice ax nx cx) (.slice ay ny cy) rfl ?_)
          | (at_builtin; refine app_sheet rfl _ _ rfl w w.heap.size a' k c' ws rfl hS5.out.top ((ax, nx, cx), (ay, ny, cy)) rfl (by omega) hB5 hbw5 ?_; intro a6 c6 w6 ho6 hg6 hb6))
        have hS6 := hide (hS5.out.push (x := ((ax, nx, cx), (ay, ny, cy))) (s := (x, y)) ht5.out tY hW1 nY ho6 hg6)
        clear ho6 hg6
        have hE : Hid (sheetsL (L.take (2 * k)) ++ [(x, y)] = sheetsL (L.take (2 * (k + 1)))) := hide (by rw [show 2 * (k + 1) = 2 * k + 2 by omega, happ.out, List.getD_eq_getElem?_getD, hj.out, HY.out]; rfl)
        rw [hE.out] at hS6
        go_wp2
        go_roundg (L.length + 1 - 2 * (k + 1))
        case measure => have := HG.out; have := hj.out; omega
        case rel => exact ⟨k + 1, a6, c6, ws ++ [((ax, nx, cx), (ay, ny, cy))], by have := hj.out; omega, rfl, by rw [← hj.out]; go_num, rfl, hS6.out, hb6⟩
      · have hd1 : decide ((j : Int) + 1 < (L.length : Int)) = false := decide_eq_false (by omega)
        have hnone : L[j + 1]? = none := List.getElem?_eq_none (by omega)
        have HNO := hide hnone
        clear hnone
        go_wp2_with (first
          | (with_reducible refine idx_pgs 14 _ _ _ _ _ hs rfl (hp.below hbw).top _ _ j rfl rfl _ HU.out ?_; intro b2 o2 hcell hbo)
          | (go_at_call 42; refine hcx.mono ?_; rintro e w2 ⟨ax, nx, cx, rfl, ht1, hn1, hb1⟩; refine hold ?_))
        refine hide ?_
        go_wp2_with (with_reducible refine hold_store ?_)
        refine hide ?_
        refine store_fresh 29 29 _ _ 2 size_sheet _ rfl _ [.slice ax nx cx, .slice none 0 0] rfl rfl rfl rfl (by simp [Value.oneCell']) ?_
        have hx3 := hide (Box.new w2 29 #[.slice ax nx cx, .slice none 0 0])
        have hb3 : Below w2.heap.size w2 (w2.alloc (.cells [.slice ax nx cx, .slice none 0 0].toArray 29)) := sblo w2 _
        generalize w2.alloc (.cells [Value.slice ax nx cx, .slice none 0 0].toArray 29) = w3 at hx3 hb3 ⊢
        obtain ⟨g, hg⟩ : ∃ g, Hid (w2.heap.size = g) := ⟨_, hide rfl⟩
        rw [hg.out] at hx3 ⊢
        have hwr : Below wr.heap.size wr w3 := hb1.trans (hb3.mono hb1.size)
        have hgr : wr.heap.size ≤ g := by rw [← hg.out]; exact hb1.size
        have hbw3 : Below w.heap.size w w3 := hbw.trans (hwr.mono hbw.size)
        have hS3 := hide (HS'.out.below hwr)
        have hA1 : Hid (∀ p, a' = some p → p.block < wr.heap.size) := hide (fun p hp => by have h1 := HS'.out.top; rw [hp] at h1; exact h1.base.2)
        have ht3 := hide (ht1.below hb3)
        have hW1 : ∀ b ∈ hb (ax, nx, cx), w.heap.size ≤ b := fun b hm => Nat.le_trans hbw.size (hn1 b hm)
        clear hb3 HS' ht1 hn1 hcx
        have hx5 := hx3
        have ht5 := ht3
        have hS5 := hS3
        have hbw5 := hbw3
        have tY := Tab.nil w3
        have nY : ∀ b ∈ hb nilH, w.heap.size ≤ b := fun b hm => by cases hm
        have hc0 := hx5.out.at_ (j := 0) rfl
        have hc1 := hx5.out.at_ (j := 1) rfl
        have happ := hide (sheetsL_step k L x (by rw [hj.out]; exact HX.out))
        have hB5 : w.heap.size ≤ w3.heap.size := hbw3.size
        go_wp2_with (first
          | (with_reducible refine load_sheet2 31 _ g 0 1 rfl (.slice ax nx cx) (.slice none 0 0) hc0 hc1 rfl ?_)
          | (with_reducible refine build_sheet 32 _ (.slice ax nx cx) (.slice none 0 0) rfl ?_)
          | (at_builtin; refine app_sheet rfl _ _ rfl w w.heap.size a' k c' ws rfl hS5.out.top ((ax, nx, cx), nilH) rfl (by omega) hB5 hbw3 ?_; intro a6 c6 w6 ho6 hg6 hb6))
        have hS6 := hide (hS5.out.push (x := ((ax, nx, cx), nilH)) (s := (x, [])) ht5.out tY hW1 nY ho6 hg6)
        clear ho6 hg6
        have hE : Hid (sheetsL (L.take (2 * k)) ++ [(x, [])] = sheetsL (L.take (2 * (k + 1)))) := hide (by rw [show 2 * (k + 1) = 2 * k + 2 by omega, happ.out, List.getD_eq_getElem?_getD, hj.out, HNO.out]; rfl)
        rw [hE.out] at hS6
        go_wp2
        go_roundg (L.length + 1 - 2 * (k + 1))
        case measure => have := HG.out; have := hj.out; omega
        case rel => exact ⟨k + 1, a6, c6, ws ++ [((ax, nx, cx), nilH)], by have := hj.out; omega, rfl, by rw [← hj.out]; go_num, rfl, hS6.out, hb6⟩
    · have hT : Hid (sheetsL (L.take (2 * k)) = sheetsL L) := hide (sheetsL_all (by rw [hj.out]; omega))
      have hS2 := HS'.out
      rw [hT.out] at hS2
      have hkk := hS2.len
      have HS2 := hide hS2
      clear hS2
      have hj2 : decide ((j : Int) < (L.length : Int)) = false := decide_eq_false (by omega)
      go_wp2
      go_ret
      refine ⟨a', c', ws, ?_, ?_, hbw⟩
      · rw [hkk]; rfl
      · have := HS2.out
        rw [hkk] at this
        exact this
end Go.Proofs.Ytdeknimelkdaeaa
end

/- the text P5 -/
section
/- Chapter 35: the machine in memory; New. -/
set_option linter.unusedVariables false
namespace Go.Proofs.Ytdeknimelkdaeaa
open Go.RowKit Go.Dx Go.Al
/-- the machine -/
structure Pr where
  (w0 w1 d0 d1 : Pgl) (rows : Nat) (busy : Bool) (paper : Nat) (waiting tray : List Sht) (mode : Nat)
/-- where its parts lie -/
structure PM where
  (h0 h1 e0 e1 : Hd) (wa : Option Addr) (wc : Nat) (ws : List HS) (ta : Option Addr) (tc : Nat) (ts : List HS)
def blk (a : Option Addr) : List Nat := (a.map (·.block)).toList
def stv (n : Nat) : Value := .iface (if n = 0 then 70 else if n = 1 then 78 else 79) (.agg #[])
def pcells (m : PM) (S : Pr) : List Value :=
  [.slice m.h0.1 m.h0.2.1 m.h0.2.2, .slice m.h1.1 m.h1.2.1 m.h1.2.2, .slice m.e0.1 m.e0.2.1 m.e0.2.2, .slice m.e1.1 m.e1.2.1 m.e1.2.2,
   .int .i64 (S.rows : Int), .bool S.busy, .int .i64 (S.paper : Int), .slice m.wa S.waiting.length m.wc, .slice m.ta S.tray.length m.tc, stv S.mode]
structure PIn (w : World) (m : PM) (S : Pr) : Prop where
  wq : Que w 29 2 m.wa S.waiting.length m.wc (m.ws.flatMap shc)
  tq : Que w 29 2 m.ta S.tray.length m.tc (m.ts.flatMap shc)
  wn : ∀ b ∈ blk m.wa, b ∉ blk m.ta
  ww : Shs w m.ws S.waiting
  tt : Shs w m.ts S.tray
  t0 : Tab w m.h0 S.w0
  t1 : Tab w m.h1 S.w1
  f0 : Tab w m.e0 S.d0
  f1 : Tab w m.e1 S.d1
  sw : ∀ b ∈ hb m.e0 ++ hb m.e1, b ∉ hbs m.ws ∧ b ∉ hbs m.ts ∧ b ∉ hb m.h0 ∧ b ∉ hb m.h1
  sd : ∀ b ∈ hb m.e0, b ∉ hb m.e1
structure PAt (w : World) (g : Nat) (m : PM) (S : Pr) : Prop where
  box : Box w g 76 (pcells m S)
  inn : PIn w m S
def m0 : PM := ⟨nilH, nilH, nilH, nilH, none, 0, [], none, 0, []⟩
def newP (n : Nat) : Pr := ⟨[], [], [], [], 0, false, n, [], [], 0⟩
/-- the blocks that a step may change -/
def mutB (g : Nat) (m : PM) : List Nat := g :: (blk m.wa ++ blk m.ta ++ hb m.e0 ++ hb m.e1)
theorem PIn.new (w : World) (n : Nat) : PIn w m0 (newP n) :=
  ⟨Que.nil _ _ _, Que.nil _ _ _, fun b hb => (by cases hb), Shs.nil w, Shs.nil w, Tab.nil w, Tab.nil w, Tab.nil w, Tab.nil w, fun b hb => (by cases hb), fun b hb => (by cases hb)⟩
theorem PIn.below {w w' : World} {m : PM} {S : Pr} (h : PIn w m S) (hb : Below w.heap.size w w') : PIn w' m S :=
  ⟨h.wq.below hb, h.tq.below hb, h.wn, h.ww.below hb, h.tt.below hb, h.t0.below hb, h.t1.below hb, h.f0.below hb, h.f1.below hb, h.sw, h.sd⟩
theorem PAt.below {w w' : World} {g : Nat} {m : PM} {S : Pr} (h : PAt w g m S) (hb : Below w.heap.size w w') : PAt w' g m S := ⟨h.box.under hb, h.inn.below hb⟩
/-- the machine's box alone is written -/
theorem PIn.put {w w' : World} {g : Nat} {m : PM} {S : Pr} {T : TypeId} {cs : List Value} (h : PIn w m S) (hx : Box w g T cs) (hT : T = 76) (hg : w.grownBy w' (some g)) : PIn w' m S := by
  subst hT
  have hf : Fr [g] w w' := Fr.ofGrown hg
  have hn : ∀ b ∈ [g], NoB w b := fun b hm => by simp at hm; subst hm; exact NoB.box hx (by decide)
  have ht : ∀ {x : Hd} {p : Pgl}, Tab w x p → Tab w' x p := fun t => t.fr hf hn (fun b hm hm2 => by simp at hm2; subst hm2; exact t.ne hx (by decide) hm)
  have hq : ∀ {a : Option Addr} {n c : Nat} {xs : List Value}, Que w 29 2 a n c xs → Que w' 29 2 a n c xs := fun {a n c xs} q => q.same fun b hm => hf.block b (q.lt b hm) (fun hh => by
    simp at hh
    subst hh
    rcases q.2 with ⟨rfl, _⟩ | ⟨g', off, cur, rfl, h1, _⟩
    · cases hm
    · simp at hm
      subst hm
      have hx' : w.heap[b]? = _ := hx
      rw [hx'] at h1
      injection h1 with h1
      injection h1 with _ h1
      exact absurd h1 (by decide))
  have hs : ∀ {ws : List HS} {L : List Sht}, Shs w ws L → Shs w' ws L := fun {ws L} s => ⟨s.len, fun i x y h1 h2 => ⟨ht (s.get i x y h1 h2).1, ht (s.get i x y h1 h2).2⟩⟩
  exact ⟨hq h.wq, hq h.tq, h.wn, hs h.ww, hs h.tt, ht h.t0, ht h.t1, ht h.f0, ht h.f1, h.sw, h.sd⟩
set_option maxRecDepth 100000 in
set_option maxHeartbeats 1000000 in
theorem pr_New (n : Int) (k : Nat) (w : World) (hk : n = (k : Int)) (h1 : k ≤ 1000) :
    Calls Try.prog 15 #[.int .i64 n] w fun e w' => ∃ g, e = .returned (.tuple #[.pointer (some ⟨g, 0, none⟩), .int .i64 0]) ∧ PAt w' g m0 (newP k) ∧ w.heap.size ≤ g ∧ Below w.heap.size w w' := by
  subst hk
  have d1 : decide ((k : Int) < 0) = false := decide_eq_false (by omega)
  have d2 : decide ((1000 : Int) < (k : Int)) = false := decide_eq_false (by omega)
  clear h1
  go_enter Try.func15, Try.ntmps15
  go_wp2_with fail
  go_ret2
  refine ⟨w.heap.size, rfl, ⟨Box.new w 76 _, (PIn.new _ k).below (sblo w _)⟩, Nat.le_refl _, sblo w _⟩
theorem pr_New_bad (n : Int) (w : World) (h : n < 0 ∨ 1000 < n) :
    Calls Try.prog 15 #[.int .i64 n] w fun e w' => e = .returned (.tuple #[.pointer none, .int .i64 1]) ∧ w' = w := by
  by_cases h1 : n < 0
  · have d1 : decide (n < 0) = true := decide_eq_true h1
    clear h h1
    go_enter Try.func15, Try.ntmps15
    go_wp2_with fail
    go_ret2
    exact ⟨rfl, rfl⟩
  · have d1 : decide (n < 0) = false := decide_eq_false h1
    have d2 : decide (1000 < n) = true := decide_eq_true (by omega)
    clear h h1
    go_enter Try.func15, Try.ntmps15
    go_wp2_with fail
    go_ret2
    exact ⟨rfl, rfl⟩
end Go.Proofs.Ytdeknimelkdaeaa
end

/- the text P6 -/
section
/- Chapter 35: how the machine's parts change. -/
set_option linter.unusedVariables false
namespace Go.Proofs.Ytdeknimelkdaeaa
open Go.RowKit Go.Dx Go.Al
def pfoot (g : Nat) (m : PM) : List Nat := mutB g m ++ (hbs m.ws ++ hbs m.ts ++ hb m.h0 ++ hb m.h1)
/-- blocks of S alone, or new ones, are changed; S' has blocks of S or new ones alone -/
structure Mv (w w' : World) (S S' : List Nat) : Prop where
  fr : Fr S w w'
  sub : ∀ b ∈ S', b ∈ S ∨ w.heap.size ≤ b
theorem Mv.refl (w : World) (S : List Nat) : Mv w w S S := ⟨Fr.refl _ _, fun b hb => .inl hb⟩
theorem Mv.trans {w w1 w2 : World} {S S1 S2 : List Nat} (h : Mv w w1 S S1) (k : Mv w1 w2 S1 S2) : Mv w w2 S S2 :=
  ⟨h.fr.on k.fr h.sub, fun b hb => by
    rcases k.sub b hb with h1 | h1
    · exact h.sub b h1
    · have := h.fr.size
      exact .inr (by omega)⟩
theorem Mv.below {w w1 w2 : World} {S S1 : List Nat} (h : Mv w w1 S S1) (hb : Below w1.heap.size w1 w2) : Mv w w2 S S1 := ⟨h.fr.below hb, h.sub⟩
theorem Mv.grown {w w1 w2 : World} {S S1 : List Nat} {row : Option Nat} (h : Mv w w1 S S1) (k : w1.grownBy w2 row) (hr : ∀ b, row = some b → b ∈ S1) : Mv w w2 S S1 :=
  ⟨h.fr.grown k (fun b hb => h.sub b (hr b hb)), h.sub⟩
theorem Mv.less {w w1 : World} {S S1 S2 : List Nat} (h : Mv w w1 S S1) (hs : ∀ b ∈ S2, b ∈ S1 ∨ w.heap.size ≤ b) : Mv w w1 S S2 :=
  ⟨h.fr, fun b hb => by
    rcases hs b hb with h1 | h1
    · exact h.sub b h1
    · exact .inr h1⟩
theorem Mv.blw {w w1 : World} {S S1 : List Nat} {B : Nat} (h : Mv w w1 S S1) (hB : B ≤ w.heap.size) (hS : ∀ b ∈ S, B ≤ b) : Below B w w1 := h.fr.blw hB hS
theorem Mv.new {w w1 : World} {S S1 : List Nat} {B : Nat} (h : Mv w w1 S S1) (hB : B ≤ w.heap.size) (hS : ∀ b ∈ S, B ≤ b) : ∀ b ∈ S1, B ≤ b := fun b hb => by
  rcases h.sub b hb with h1 | h1
  · exact hS b h1
  · omega
theorem PIn.lt {w : World} {m : PM} {S : Pr} (h : PIn w m S) (g : Nat) (hg : g < w.heap.size) : ∀ b ∈ pfoot g m, b < w.heap.size := by
  intro b hm
  unfold pfoot mutB at hm
  simp only [List.mem_append, List.mem_cons] at hm
  rcases hm with (rfl | ((h1 | h1) | h1) | h1) | ((h1 | h1) | h1) | h1
  · exact hg
  · exact h.wq.lt b h1
  · exact h.tq.lt b h1
  · exact h.f0.lt b h1
  · exact h.f1.lt b h1
  · exact h.ww.lt b h1
  · exact h.tt.lt b h1
  · exact h.t0.lt b h1
  · exact h.t1.lt b h1
/-- a new page is the one in work -/
theorem PIn.new0 {w w' : World} {m : PM} {S : Pr} {x : Hd} {p : Pgl} (h : PIn w m S) (hb' : Below w.heap.size w w') (ht : Tab w' x p) (hx : ∀ b ∈ hb x, w.heap.size ≤ b) : PIn w' { m with e0 := x } { S with d0 := p } :=
  ⟨h.wq.below hb', h.tq.below hb', h.wn, h.ww.below hb', h.tt.below hb', h.t0.below hb', h.t1.below hb', ht, h.f1.below hb', fun b hm => by
    rcases List.mem_append.1 hm with h1 | h1
    · have h2 := hx b h1
      exact ⟨fun hh => by have := h.ww.lt b hh; omega, fun hh => by have := h.tt.lt b hh; omega, fun hh => by have := h.t0.lt b hh; omega, fun hh => by have := h.t1.lt b hh; omega⟩
    · exact h.sw b (List.mem_append_right _ h1), fun b hm hh => by
    have h2 := hx b hm
    have := h.f1.lt b hh
    omega⟩
theorem PIn.new1 {w w' : World} {m : PM} {S : Pr} {x : Hd} {p : Pgl} (h : PIn w m S) (hb' : Below w.heap.size w w') (ht : Tab w' x p) (hx : ∀ b ∈ hb x, w.heap.size ≤ b) : PIn w' { m with e1 := x } { S with d1 := p } :=
  ⟨h.wq.below hb', h.tq.below hb', h.wn, h.ww.below hb', h.tt.below hb', h.t0.below hb', h.t1.below hb', h.f0.below hb', ht, fun b hm => by
    rcases List.mem_append.1 hm with h1 | h1
    · exact h.sw b (List.mem_append_left _ h1)
    · have h2 := hx b h1
      exact ⟨fun hh => by have := h.ww.lt b hh; omega, fun hh => by have := h.tt.lt b hh; omega, fun hh => by have := h.t0.lt b hh; omega, fun hh => by have := h.t1.lt b hh; omega⟩, fun b hm hh => by
    have h2 := hx b hh
    have := h.f0.lt b hm
    omega⟩
theorem hbs_cons (x : HS) (l : List HS) : hbs (x :: l) = (hb x.1 ++ hb x.2) ++ hbs l := by unfold hbs; rw [List.flatMap_cons]
/-- the first sheet is taken -/
theorem PIn.take {w : World} {h0 h1 e0 e1 : Hd} {wa ta a' : Option Addr} {wc tc : Nat} {ws ts : List HS} {y : HS} {w0 w1 d0 d1 : Pgl} {rows : Nat} {busy : Bool} {paper : Nat} {waiting tray : List Sht} {x : Sht} {mode : Nat} {c' r' : Nat} {b' : Bool} {q' : Nat}
    (h : PIn w ⟨h0, h1, e0, e1, wa, wc, y :: ws, ta, tc, ts⟩ ⟨w0, w1, d0, d1, rows, busy, paper, x :: waiting, tray, mode⟩) (hq : Que w 29 2 a' waiting.length c' (ws.flatMap shc)) (ha : ∀ b ∈ blk a', b ∈ blk wa) :
    PIn w ⟨y.1, y.2, nilH, nilH, a', c', ws, ta, tc, ts⟩ ⟨x.1, x.2, [], [], r', b', q', waiting, tray, mode⟩ :=
  ⟨hq, h.tq, fun b hm => h.wn b (ha b hm), h.ww.drop 1, h.tt, (h.ww.get 0 y x rfl rfl).1, (h.ww.get 0 y x rfl rfl).2, Tab.nil w, Tab.nil w, fun b hm => (by cases hm), fun b hm => (by cases hm)⟩
/-- the work is put away -/
theorem PIn.clear {w : World} {h0 h1 e0 e1 : Hd} {wa ta : Option Addr} {wc tc : Nat} {ws ts : List HS} {w0 w1 d0 d1 : Pgl} {rows : Nat} {busy : Bool} {paper : Nat} {waiting tray : List Sht} {mode : Nat} {r' m' : Nat} {b' : Bool} {q' : Nat}
    (h : PIn w ⟨h0, h1, e0, e1, wa, wc, ws, ta, tc, ts⟩ ⟨w0, w1, d0, d1, rows, busy, paper, waiting, tray, mode⟩) :
    PIn w ⟨nilH, nilH, nilH, nilH, wa, wc, ws, ta, tc, ts⟩ ⟨[], [], [], [], r', b', q', waiting, tray, m'⟩ :=
  ⟨h.wq, h.tq, h.wn, h.ww, h.tt, Tab.nil w, Tab.nil w, Tab.nil w, Tab.nil w, fun b hm => (by cases hm), fun b hm => (by cases hm)⟩
/-- numbers alone are changed -/
theorem PIn.nums {w : World} {m : PM} {w0 w1 d0 d1 : Pgl} {rows : Nat} {busy : Bool} {paper : Nat} {waiting tray : List Sht} {mode : Nat} {r' m' : Nat} {b' : Bool} {q' : Nat}
    (h : PIn w m ⟨w0, w1, d0, d1, rows, busy, paper, waiting, tray, mode⟩) : PIn w m ⟨w0, w1, d0, d1, r', b', q', waiting, tray, m'⟩ :=
  ⟨h.wq, h.tq, h.wn, h.ww, h.tt, h.t0, h.t1, h.f0, h.f1, h.sw, h.sd⟩
def blank : Pgl := List.replicate 25 []
theorem Rows.blank (w : World) (n : Nat) : Rows w (List.replicate n nilH) (List.replicate n []) := by
  refine ⟨by simp, fun i x r h1 h2 => ?_⟩
  rw [List.getElem?_replicate] at h1 h2
  split at h1
  · rename_i hi
    rw [if_pos hi] at h2
    cases h1; cases h2
    exact ⟨Sl.empty w 1, fun q hq => by cases hq⟩
  · cases h1
theorem Tab.blank {w : World} {b : Nat} (h : Box w b 31 (List.replicate 25 (.slice none 0 0))) : Tab w (some ⟨b, 0, none⟩, 25, 25) blank :=
  ⟨List.replicate 25 nilH, own_of_box (by rw [List.map_replicate]; exact h) (by simp) (by show 25 ≤ maxLen; decide) (Nat.zero_le _), Rows.blank w 25⟩
def takeP (S : Pr) : Pr × Int :=
  if S.busy then (S, 0) else match S.waiting with
  | [] => (S, 6)
  | x :: l => if S.paper = 0 then (S, 11) else (⟨x.1, x.2, blank, blank, 0, true, S.paper - 1, l, S.tray, S.mode⟩, 0)
end Go.Proofs.Ytdeknimelkdaeaa
end
