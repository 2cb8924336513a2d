/- The contracts of the functions that the law reaches, joined into one text. -/
import Derived.Test.YtdeknimelkdaeaaLawPL5a
import Derived.Deep.CutBlock
set_option linter.unusedVariables false
set_option linter.unusedSimpArgs false

/- the text P39 -/
section
/- Chapter 35: both machines in one memory. -/
set_option linter.unusedVariables false
namespace Go.Proofs.Ytdeknimelkdaeaa
open Go.RowKit Go.Dx Go.Al
theorem que_nob {w : World} {e : TypeId} {sz n c : Nat} {a : Option Addr} {cs : List Value} (h : Que w e sz a n c cs) (he : e ≠ 5) : ∀ b ∈ (a.map (·.block)).toList, NoB w b := fun b hb C z hc => by
  rcases h.2 with ⟨rfl, _⟩ | ⟨g, off, cur, rfl, h1, _⟩
  · cases hb
  · simp at hb
    subst hb
    rw [h1] at hc
    injection hc with hc
    injection hc with _ hc
    exact he hc
theorem shs_nob {w : World} {ws : List HS} {L : List Sht} (h : Shs w ws L) : ∀ b ∈ hbs ws, NoB w b := fun b hm => by
  unfold hbs at hm
  obtain ⟨x, hx, hm⟩ := List.mem_flatMap.1 hm
  obtain ⟨i, hi, hxi⟩ := List.getElem_of_mem hx
  have h1 : ws[i]? = some x := by rw [← hxi]; simp [hi]
  have h2 : L[i]? = some (L[i]'(by rw [← h.len]; exact hi)) := by simp
  have h3 := h.get i _ _ h1 h2
  rcases List.mem_append.1 hm with h4 | h4
  · exact h3.1.nob b h4
  · exact h3.2.nob b h4
section
variable {w0 w w' : World} {X F : List Nat} {g r : Nat} {pm : PM} {m : RM} {S S1 S2 : Pr}
theorem PAt.lt (h : PAt w g pm S) : ∀ b ∈ pfoot g pm, b < w.heap.size := h.inn.lt g h.box.lt
theorem PAt.nob (h : PAt w g pm S) : ∀ b ∈ pfoot g pm, NoB w b := by
  intro b hm
  unfold pfoot mutB at hm
  simp only [List.mem_append, List.mem_cons] at hm
  rcases hm with (rfl | ((h1 | h1) | h1) | h1) | ((h1 | h1) | h1) | h1
  · exact NoB.box h.box (by decide)
  · exact que_nob h.inn.wq (by decide) b h1
  · exact que_nob h.inn.tq (by decide) b h1
  · exact h.inn.f0.nob b h1
  · exact h.inn.f1.nob b h1
  · exact shs_nob h.inn.ww b h1
  · exact shs_nob h.inn.tt b h1
  · exact h.inn.t0.nob b h1
  · exact h.inn.t1.nob b h1
theorem PAt.fr (h : PAt w g pm S) (hf : Fr F w w') (hn : ∀ b ∈ F, NoB w b) (hd : ∀ b ∈ pfoot g pm, b ∉ F) : PAt w' g pm S := by
  have hd2 : ∀ {b}, b = g ∨ b ∈ blk pm.wa ∨ b ∈ blk pm.ta ∨ b ∈ hb pm.e0 ∨ b ∈ hb pm.e1 ∨ b ∈ hbs pm.ws ∨ b ∈ hbs pm.ts ∨ b ∈ hb pm.h0 ∨ b ∈ hb pm.h1 → b ∉ F := fun {b} hb' => hd b (by
    unfold pfoot mutB
    simp only [List.mem_append, List.mem_cons]
    rcases hb' with h | h | h | h | h | h | h | h | h <;> simp [h])
  have hi := h.inn
  refine ⟨?_, hi.wq.same (fun b hb => hf.block b (hi.wq.lt b hb) (hd2 (.inr (.inl hb)))), hi.tq.same (fun b hb => hf.block b (hi.tq.lt b hb) (hd2 (.inr (.inr (.inl hb))))), hi.wn,
    hi.ww.fr hf hn (fun b hb => hd2 (by simp [hb])), hi.tt.fr hf hn (fun b hb => hd2 (by simp [hb])), hi.t0.fr hf hn (fun b hb => hd2 (by simp [hb])), hi.t1.fr hf hn (fun b hb => hd2 (by simp [hb])),
    hi.f0.fr hf hn (fun b hb => hd2 (by simp [hb])), hi.f1.fr hf hn (fun b hb => hd2 (by simp [hb])), hi.sw, hi.sd⟩
  have h1 : w.heap[g]? = some (.cells (pcells pm S).toArray _ (0, 0)) := h.box
  show w'.heap[g]? = _
  rw [hf.block g (Box.lt h.box) (hd2 (.inl rfl))]
  exact h1
/-- both machines, apart -/
structure Du (w0 w : World) (g : Nat) (pm : PM) (S1 : Pr) (r : Nat) (X : List Nat) (m : RM) (S2 : Pr) : Prop where
  p : PAt w g pm S1
  q : RAt w0 w r X m S2
  ap : ∀ b ∈ pfoot g pm, b ∉ rfoot r X m
  blw : Below w0.heap.size w0 w
  lp : ∀ b ∈ pfoot g pm, w0.heap.size ≤ b
  lr : ∀ b ∈ rfoot r X m, w0.heap.size ≤ b
theorem Du.below (h : Du w0 w g pm S1 r X m S2) (hb : Below w.heap.size w w') : Du w0 w' g pm S1 r X m S2 := ⟨h.p.below hb, h.q.below hb, h.ap, h.blw.trans (hb.mono h.blw.size), h.lp, h.lr⟩
theorem Du.stepP {S' : Pr} {pm' : PM} (h : Du w0 w g pm S1 r X m S2) (hp : PAt w' g pm' S') (hm : Mv w w' (pfoot g pm) (pfoot g pm')) : Du w0 w' g pm' S' r X m S2 :=
  ⟨hp, h.q.fr hm.fr h.p.nob (fun b hb hh => h.ap b hh hb), fun b hb hh => by
    rcases hm.sub b hb with h1 | h1
    · exact h.ap b h1 hh
    · have := h.q.lt b hh; omega, h.blw.trans (hm.blw h.blw.size h.lp), hm.new h.blw.size h.lp, h.lr⟩
theorem Du.stepR {S' : Pr} {X' : List Nat} {m' : RM} (h : Du w0 w g pm S1 r X m S2) (hq : RAt w0 w' r X' m' S') (hm : Mv w w' (rfoot r X m) (rfoot r X' m')) : Du w0 w' g pm S1 r X' m' S' :=
  ⟨h.p.fr hm.fr h.q.nob h.ap, hq, fun b hb hh => by
    rcases hm.sub b hh with h1 | h1
    · exact h.ap b hb h1
    · have := h.p.lt b hb; omega, h.blw.trans (hm.blw h.blw.size h.lr), h.lp, hm.new h.blw.size h.lr⟩
end
/-- sheets of paper, but for the broken ones -/
def tot (S : Pr) : Nat := S.tray.length + (if S.busy then 1 else 0) + S.paper
theorem tot_load (S : Pr) (L : List Pgl) : tot (loadP S L).1 = tot S := by unfold loadP; split; rfl; split <;> rfl
theorem tot_clear {S : Pr} (h : PInv S) : tot (clearP S).1 + (if S.mode = 1 then 1 else 0) = tot S := by
  unfold clearP
  by_cases h1 : S.mode = 1
  · have hb := h.md (by omega)
    rw [if_pos h1, if_pos h1]
    simp [tot, hb]
    omega
  · rw [if_neg h1, if_neg h1]; rfl
theorem tot_on {S : Pr} (h : PInv S) : tot (onP S).1 = tot S := by
  unfold onP
  by_cases h1 : S.mode = 2
  · have hb := h.md (by omega)
    rw [if_pos h1]
    simp [tot, layP, hb]
  · rw [if_neg h1]
theorem tot_take (S : Pr) : tot (takeP S).1 = tot S := by
  rcases take_cases S with ⟨hb, e⟩ | ⟨hb, hw, e⟩ | ⟨hb, hP, hw, e⟩ | ⟨x, l, P, hb, hw, hP, e⟩
  · rw [e]
  · rw [e]
  · rw [e]
  · rw [e]; simp [tot, hb, hP]; omega
theorem tot_done {S : Pr} (h : S.busy = true) : tot (doneP S) = tot S := by
  unfold doneP
  split
  · simp [tot, layP, h]
  · rfl
theorem tot_step (S : Pr) (f : Nat) (hm2 : S.mode ≤ 2) : tot (stepP S f).1 = tot S := by
  by_cases m1 : S.mode = 1
  · unfold stepP; rw [if_pos m1]
  · by_cases m2 : S.mode = 2
    · unfold stepP; rw [if_neg m1, if_pos m2]
    · have hm : S.mode = 0 := by omega
      by_cases ht : (takeP S).2 = 0
      · rw [step_go f hm ht]
        have hb := (take_ok hm ht).1
        split
        · exact tot_take S
        · split
          · exact tot_take S
          · show tot (doneP _) = _
            have : tot (if f = 0 then embP (takeP S).1 else (takeP S).1) = tot S := by
              split
              · exact tot_take S
              · exact tot_take S
            rw [← this]
            refine tot_done ?_
            split
            · exact hb
            · exact hb
      · unfold stepP
        rw [if_neg m1, if_neg m2, if_pos (by simpa using ht)]
        exact tot_take S
end Go.Proofs.Ytdeknimelkdaeaa
end

/- the text P40 -/
section
/- Chapter 35: act does the same with both machines. -/
set_option linter.unusedVariables false
namespace Go.Proofs.Ytdeknimelkdaeaa
open Go.RowKit Go.Dx Go.Al
section
variable {w0 w w' : World} {X F : List Nat} {g r : Nat} {pm : PM} {m : RM} {S S1 S2 : Pr}
theorem Du.stepY {S' : Pr} {X' Y : List Nat} {m' : RM} (h : Du w0 w g pm S1 r X m S2) (hq : RAt w0 w' r X' m' S') (hf : Fr [r] w w') (hs : ∀ b ∈ rfoot r X' m', b ∈ rfoot r X m ∨ b ∈ Y ∨ w.heap.size ≤ b) (hY : ∀ b ∈ Y, b ∉ pfoot g pm ∧ w0.heap.size ≤ b) : Du w0 w' g pm S1 r X' m' S' := by
  have hr : r ∈ rfoot r X m := by simp [rfoot]
  have hf2 : Fr (rfoot r X m) w w' := hf.more (fun b hb => by simp at hb; rw [hb]; exact hr)
  refine ⟨h.p.fr hf2 h.q.nob h.ap, hq, fun b hb hh => ?_, h.blw.trans (hf2.blw h.blw.size h.lr), h.lp, fun b hb => ?_⟩
  · rcases hs b hh with h1 | h1 | h1
    · exact h.ap b hb h1
    · exact (hY b h1).1 hb
    · have := h.p.lt b hb; omega
  · rcases hs b hb with h1 | h1 | h1
    · exact h.lr b h1
    · exact (hY b h1).2
    · have := h.blw.size; omega
/-- a step of both, whatever the fault -/
def StepB (w0 w : World) (g : Nat) (pm : PM) (r : Nat) (X : List Nat) (m : RM) (S : Pr) (v E : Int) (S' : Pr) : Prop :=
  (Calls Try.prog 17 #[.pointer (some ⟨g, 0, none⟩), .int .i64 v] w fun e w1 => e = .returned (.int .i64 E) ∧ ∃ pm', Du w0 w1 g pm' S' r X m S) ∧
  (∀ w1 pm', Du w0 w1 g pm' S' r X m S → Calls Try.prog 46 #[.pointer (some ⟨r, 0, none⟩), .int .i64 v] w1 fun e w2 => e = .returned (.int .i64 E) ∧ ∃ X' m', Du w0 w2 g pm' S' r X' m' S' ∧ m'.br = m.br)
theorem du_step (D : Du w0 w g pm S r X m S) (hi : PInv S) (v : Int) : ∃ E S', PInv S' ∧ tot S' = tot S ∧ StepB w0 w g pm r X m S v E S' := by
  by_cases hv : v < 0 ∨ 3 < v
  · refine ⟨1, S, hi, rfl, ?_, fun w1 pm' D1 => ?_⟩
    · refine (pr_Step_bad (some ⟨g, 0, none⟩) v w (.inr hv)).mono ?_
      rintro e w1 ⟨rfl, rfl⟩
      exact ⟨rfl, pm, D⟩
    · refine (ref35_Step_bad r v w1 hv).mono ?_
      rintro e w2 ⟨rfl, rfl⟩
      exact ⟨rfl, X, m, D1, rfl⟩
  · obtain ⟨f, rfl⟩ : ∃ f : Nat, v = (f : Int) := ⟨v.toNat, by omega⟩
    have hf : f ≤ 3 := by omega
    refine ⟨(stepP S f).2, (stepP S f).1, inv_step hi f, tot_step S f hi.mode, ?_, fun w1 pm' D1 => ?_⟩
    · refine (pr_Step g pm S f w D.p hi hf).mono ?_
      rintro e w1 ⟨rfl, pm', hp, hm⟩
      exact ⟨rfl, pm', D.stepP hp hm⟩
    · refine (ref35_Step w0 r X m S f w1 D1.q hi hf D1.blw D1.lr).mono ?_
      rintro e w2 ⟨rfl, X', m', hq, hm, hb⟩
      exact ⟨rfl, X', m', D1.stepR hq hm, hb⟩
/-- what stands between two calls of act -/
structure ActC (w0 w : World) (g r N B : Nat) (pm : PM) (X : List Nat) (m : RM) (S : Pr) : Prop where
  du : Du w0 w g pm S r X m S
  inv : PInv S
  sum : tot S + m.br = N
  fp : ∀ b ∈ pfoot g pm, b < B
  fr : ∀ b ∈ rfoot r X m, b < B
def ActSt (w0 w : World) (g r N B : Nat) : Prop := ∃ pm X m S, ActC w0 w g r N B pm X m S
theorem ActC.below {N B : Nat} (h : ActC w0 w g r N B pm X m S) (hb : Below w.heap.size w w') : ActC w0 w' g r N B pm X m S := ⟨h.du.below hb, h.inv, h.sum, h.fp, h.fr⟩
theorem ActSt.below {N B : Nat} (h : ActSt w0 w g r N B) (hb : Below w.heap.size w w') : ActSt w0 w' g r N B := by
  obtain ⟨pm, X, m, S, h1⟩ := h
  exact ⟨pm, X, m, S, h1.below hb⟩
theorem ActSt.of {N : Nat} (h : Du w0 w g pm S r X m S) (hi : PInv S) (hs : tot S + m.br = N) : ActSt w0 w g r N w.heap.size := ⟨pm, X, m, S, h, hi, hs, h.p.lt, h.q.lt⟩
end
/-- the pages that are loaded -/
structure PgL (w0 w : World) (B : Nat) (a : Option Addr) (n c : Nat) (hs : List Hd) (L : List Pgl) (Y : List Nat) : Prop where
  top : Sl w 1 a n c (hs.map hv)
  len : hs.length = L.length
  pgs : ∀ (i : Nat) (x : Hd) (p : Pgl), hs[i]? = some x → L[i]? = some p → RPg w0 w Y x p
  ylt : ∀ b ∈ Y, b < w.heap.size
  ynb : ∀ b ∈ Y, NoB w b
  ynw : ∀ b ∈ Y, B ≤ b
  alt : ∀ b ∈ blk a, b < w.heap.size
  anw : ∀ b ∈ blk a, B ≤ b
  few : L.length ≤ 1000
theorem PgL.pgS {w0 w : World} {B n c : Nat} {a : Option Addr} {hs : List Hd} {L : List Pgl} {Y : List Nat} (h : PgL w0 w B a n c hs L Y) (hb : Below w0.heap.size w0 w) : Pgs w a n c hs L := ⟨h.top, h.len, fun i x p h1 h2 => (h.pgs i x p h1 h2).pg hb⟩
theorem PgL.below {w0 w w' : World} {B n c : Nat} {a : Option Addr} {hs : List Hd} {L : List Pgl} {Y : List Nat} (h : PgL w0 w B a n c hs L Y) (hb : Below w.heap.size w w') : PgL w0 w' B a n c hs L Y :=
  ⟨h.top.below hb, h.len, fun i x p h1 h2 => (h.pgs i x p h1 h2).fr (F := []) (Fr.of hb) (by simp) (by simp), fun b hm => Nat.lt_of_lt_of_le (h.ylt b hm) hb.size, fun b hm => NoB.fr (F := []) (h.ynb b hm) (Fr.of hb) (h.ylt b hm) (by simp), h.ynw, fun b hm => Nat.lt_of_lt_of_le (h.alt b hm) hb.size, h.anw, h.few⟩
def LoadB (w0 : World) (g r N : Nat) (pm : PM) (X : List Nat) (m : RM) (S : Pr) (a : Option Addr) (n c : Nat) (w : World) (E : Int) (S' : Pr) : Prop :=
  (Calls Try.prog 16 #[.pointer (some ⟨g, 0, none⟩), .slice a n c] w fun e w1 => e = .returned (.int .i64 E) ∧ ∃ pm', Du w0 w1 g pm' S' r X m S ∧
    Calls Try.prog 43 #[.pointer (some ⟨r, 0, none⟩), .slice a n c] w1 fun e w2 => e = .returned (.int .i64 E) ∧ ActSt w0 w2 g r N w2.heap.size)
theorem du_load {w0 w : World} {g r N B : Nat} {pm : PM} {X : List Nat} {m : RM} {S : Pr} {n c : Nat} {a : Option Addr} {hs : List Hd} {L : List Pgl} {Y : List Nat} (h : ActC w0 w g r N B pm X m S) (hL : PgL w0 w B a n c hs L Y) (hB : w0.heap.size ≤ B) :
    LoadB w0 g r N pm X m S a n c w (loadP S L).2 (loadP S L).1 := by
  have D := h.du
  have hf := hL.few
  refine (pr_Load g pm S w D.p h.inv.wait L hs a n c (hL.pgS D.blw) (by omega)).mono ?_
  rintro e w1 ⟨rfl, pm', hp, hm⟩
  have D1 := D.stepP hp hm
  refine ⟨rfl, pm', D1, ?_⟩
  have hYp : ∀ b ∈ Y, b ∉ pfoot g pm := fun b hb hh => by have h1 := hL.ynw b hb; have h2 := h.fp b hh; omega
  have hYr : ∀ b ∈ Y, b ∉ rfoot r X m := fun b hb hh => by have h1 := hL.ynw b hb; have h2 := h.fr b hh; omega
  have hT : Sl w1 1 a n c (hs.map hv) := sl_fr35 hL.top hm.fr (fun b hb => ⟨hL.alt b hb, fun hh => by have h1 := hL.anw b hb; have h2 := h.fp b hh; omega⟩)
  refine (ref35_Load w0 r X Y m S w1 D1.q D1.blw h.inv.wait L hs a n c hT hL.len (fun i x p h1 h2 => (hL.pgs i x p h1 h2).fr hm.fr D.p.nob hYp) (fun b hb => ⟨Nat.lt_of_lt_of_le (hL.ylt b hb) hm.fr.size, (hL.ynb b hb).fr hm.fr (hL.ylt b hb) (hYp b hb), fun e => hYr b hb (by simp [rfoot, e]), fun hh => hYr b hb (by simp [rfoot, hh])⟩) (by omega)).mono ?_
  rintro e w2 ⟨rfl, X', m', hq, hf2, hs2, hbr⟩
  refine ⟨rfl, ActSt.of (D1.stepY hq hf2 hs2 (fun b hb => ⟨fun hh => ?_, by have := hL.ynw b hb; omega⟩)) (inv_load h.inv L) (by rw [tot_load, hbr]; exact h.sum)⟩
  rcases hm.sub b hh with h1 | h1
  · exact hYp b hb h1
  · have := hL.ylt b hb; omega
end Go.Proofs.Ytdeknimelkdaeaa
end

/- the text P41 -/
section
/- Chapter 35: act, walked. -/
set_option linter.unusedVariables false
namespace Go.Proofs.Ytdeknimelkdaeaa
open Go.RowKit Go.Dx Go.Al
section
variable {w0 w w' : World} {X : List Nat} {g r N B : Nat} {pm : PM} {m : RM} {S : Pr}
/-- the same done with both -/
def BothB (f1 f2 : Nat) (w0 w : World) (g r N : Nat) (pm : PM) (X : List Nat) (m : RM) (S : Pr) (E : Int) (S' : Pr) : Prop :=
  Calls Try.prog f1 #[.pointer (some ⟨g, 0, none⟩)] w fun e w1 => e = .returned (.int .i64 E) ∧ ∃ pm', Du w0 w1 g pm' S' r X m S ∧
    Calls Try.prog f2 #[.pointer (some ⟨r, 0, none⟩)] w1 fun e w2 => e = .returned (.int .i64 E) ∧ ActSt w0 w2 g r N w2.heap.size
theorem du_clear (h : ActC w0 w g r N B pm X m S) (hN : N ≤ 1000) : BothB 23 44 w0 w g r N pm X m S (clearP S).2 (clearP S).1 := by
  refine (pr_Clear g pm S w h.du.p h.inv.mode).mono ?_
  rintro e w1 ⟨rfl, pm', hp, hm⟩
  have D1 := h.du.stepP hp hm
  refine ⟨rfl, pm', D1, ?_⟩
  refine (ref35_Clear w0 r X m S w1 D1.q (by have := h.sum; omega)).mono ?_
  rintro e w2 ⟨rfl, X', m', hq, hm2, hb⟩
  exact ⟨rfl, ActSt.of (D1.stepR hq hm2) (inv_clear h.inv) (by have h1 := tot_clear h.inv; have h2 := h.sum; rw [hb]; omega)⟩
theorem du_on (h : ActC w0 w g r N B pm X m S) : BothB 24 45 w0 w g r N pm X m S (onP S).2 (onP S).1 := by
  have ht : S.tray.length ≤ 10000 := by have := h.inv.bud; omega
  refine (pr_On g pm S w h.du.p h.inv.mode ht).mono ?_
  rintro e w1 ⟨rfl, pm', hp, hm⟩
  have D1 := h.du.stepP hp hm
  refine ⟨rfl, pm', D1, ?_⟩
  refine (ref35_On w0 r X m S w1 D1.q (fun e => h.inv.md (by omega)) ht).mono ?_
  rintro e w2 ⟨rfl, X', m', hq, hm2, hb⟩
  exact ⟨rfl, ActSt.of (D1.stepR hq hm2) (inv_on h.inv) (by rw [tot_on h.inv, hb]; exact h.sum)⟩
def StepC (w0 w : World) (g r N : Nat) (pm : PM) (X : List Nat) (m : RM) (S : Pr) (v E : Int) (S' : Pr) : Prop :=
  Calls Try.prog 17 #[.pointer (some ⟨g, 0, none⟩), .int .i64 v] w fun e w1 => e = .returned (.int .i64 E) ∧ ∃ pm', Du w0 w1 g pm' S' r X m S ∧
    Calls Try.prog 46 #[.pointer (some ⟨r, 0, none⟩), .int .i64 v] w1 fun e w2 => e = .returned (.int .i64 E) ∧ ActSt w0 w2 g r N w2.heap.size
theorem du_stepC (h : ActC w0 w g r N B pm X m S) (v : Int) : ∃ E S', StepC w0 w g r N pm X m S v E S' := by
  obtain ⟨E, S', hi, ht, h1, h2⟩ := du_step h.du h.inv v
  refine ⟨E, S', h1.mono ?_⟩
  rintro e w1 ⟨rfl, pm', D1⟩
  refine ⟨rfl, pm', D1, (h2 w1 pm' D1).mono ?_⟩
  rintro e w2 ⟨rfl, X', m', D2, hb⟩
  exact ⟨rfl, ActSt.of D2 hi (by rw [ht, hb]; exact h.sum)⟩
end
set_option maxRecDepth 100000 in
set_option maxHeartbeats 4000000 in
theorem act_0 (w0 w : World) (g r N B n c : Nat) (a : Option Addr) (hs : List Hd) (L : List Pgl) (Y : List Nat) (by_ : Int) (h : ActSt w0 w g r N B) (hL : PgL w0 w B a n c hs L Y) (hB : w0.heap.size ≤ B) (hN : N ≤ 1000) (hb : -9223372036854775808 ≤ by_ ∧ by_ ≤ 9223372036854775807) :
    Calls Try.prog 20 #[.pointer (some ⟨g, 0, none⟩), .pointer (some ⟨r, 0, none⟩), .slice a n c, .int .i64 0, .int .i64 by_] w fun e w' => e = .returned (.bool true) ∧ ActSt w0 w' g r N w'.heap.size := by
  obtain ⟨pm, X, m, S, hC⟩ := h
  have hc := du_load hC hL hB
  clear hC hL
  obtain ⟨E, hE⟩ : ∃ E, Hid ((loadP S L).2 = E) := ⟨_, hide rfl⟩
  rw [hE.out] at hc
  unfold LoadB at hc
  have hEE : (E == E) = true := by simp
  have HC := hide hc
  clear hc hE
  go_enter Try.func20, Try.ntmps20
  go_wp2_with (first
    | (go_at_call 16; refine HC.out.mono ?_; rintro e w1 ⟨rfl, pm', D1, hc2⟩; have HC2 := hide hc2; clear hc2)
    | (go_at_call 43; refine HC2.out.mono ?_; rintro e w2 ⟨rfl, A2⟩; have HA2 := hide A2; clear A2))
  go_ret
  exact ⟨rfl, HA2.out⟩
set_option maxRecDepth 100000 in
set_option maxHeartbeats 4000000 in
theorem act_1 (w0 w : World) (g r N B n c : Nat) (a : Option Addr) (hs : List Hd) (L : List Pgl) (Y : List Nat) (by_ : Int) (h : ActSt w0 w g r N B) (hL : PgL w0 w B a n c hs L Y) (hB : w0.heap.size ≤ B) (hN : N ≤ 1000) (hb : -9223372036854775808 ≤ by_ ∧ by_ ≤ 9223372036854775807) :
    Calls Try.prog 20 #[.pointer (some ⟨g, 0, none⟩), .pointer (some ⟨r, 0, none⟩), .slice a n c, .int .i64 1, .int .i64 by_] w fun e w' => e = .returned (.bool true) ∧ ActSt w0 w' g r N w'.heap.size := by
  obtain ⟨pm, X, m, S, hC⟩ := h
  have hc := du_clear hC hN
  clear hC hL
  obtain ⟨E, hE⟩ : ∃ E, Hid ((clearP S).2 = E) := ⟨_, hide rfl⟩
  rw [hE.out] at hc
  unfold BothB at hc
  have hEE : (E == E) = true := by simp
  have HC := hide hc
  clear hc hE
  go_enter Try.func20, Try.ntmps20
  go_wp2_with (first
    | (go_at_call 23; refine HC.out.mono ?_; rintro e w1 ⟨rfl, pm', D1, hc2⟩; have HC2 := hide hc2; clear hc2)
    | (go_at_call 44; refine HC2.out.mono ?_; rintro e w2 ⟨rfl, A2⟩; have HA2 := hide A2; clear A2))
  go_ret
  exact ⟨rfl, HA2.out⟩
set_option maxRecDepth 100000 in
set_option maxHeartbeats 4000000 in
theorem act_2 (w0 w : World) (g r N B n c : Nat) (a : Option Addr) (hs : List Hd) (L : List Pgl) (Y : List Nat) (by_ : Int) (h : ActSt w0 w g r N B) (hL : PgL w0 w B a n c hs L Y) (hB : w0.heap.size ≤ B) (hN : N ≤ 1000) (hb : -9223372036854775808 ≤ by_ ∧ by_ ≤ 9223372036854775807) :
    Calls Try.prog 20 #[.pointer (some ⟨g, 0, none⟩), .pointer (some ⟨r, 0, none⟩), .slice a n c, .int .i64 2, .int .i64 by_] w fun e w' => e = .returned (.bool true) ∧ ActSt w0 w' g r N w'.heap.size := by
  obtain ⟨pm, X, m, S, hC⟩ := h
  have hc := du_on hC
  clear hC hL
  obtain ⟨E, hE⟩ : ∃ E, Hid ((onP S).2 = E) := ⟨_, hide rfl⟩
  rw [hE.out] at hc
  unfold BothB at hc
  have hEE : (E == E) = true := by simp
  have HC := hide hc
  clear hc hE
  go_enter Try.func20, Try.ntmps20
  go_wp2_with (first
    | (go_at_call 24; refine HC.out.mono ?_; rintro e w1 ⟨rfl, pm', D1, hc2⟩; have HC2 := hide hc2; clear hc2)
    | (go_at_call 45; refine HC2.out.mono ?_; rintro e w2 ⟨rfl, A2⟩; have HA2 := hide A2; clear A2))
  go_ret
  exact ⟨rfl, HA2.out⟩
set_option maxRecDepth 100000 in
set_option maxHeartbeats 4000000 in
theorem act_3 (w0 w : World) (g r N B n c : Nat) (a : Option Addr) (hs : List Hd) (L : List Pgl) (Y : List Nat) (by_ : Int) (h : ActSt w0 w g r N B) (hL : PgL w0 w B a n c hs L Y) (hB : w0.heap.size ≤ B) (hN : N ≤ 1000) (hb : -9223372036854775808 ≤ by_ ∧ by_ ≤ 9223372036854775807) :
    Calls Try.prog 20 #[.pointer (some ⟨g, 0, none⟩), .pointer (some ⟨r, 0, none⟩), .slice a n c, .int .i64 3, .int .i64 by_] w fun e w' => e = .returned (.bool true) ∧ ActSt w0 w' g r N w'.heap.size := by
  obtain ⟨pm, X, m, S, hC⟩ := h
  obtain ⟨j, hj⟩ : ∃ j, aroundF by_ 6 = j := ⟨_, rfl⟩
  obtain ⟨v, hv⟩ : ∃ v : Int, Hid ((j : Int) - 1 = v) := ⟨_, hide rfl⟩
  have hj6 : j < 6 := by rw [← hj]; exact aroundF_lt (by omega)
  have HAr : ∀ w : World, Calls Try.prog 10 #[.int .i64 by_, .int .i64 6] w fun e w' => e = .returned (.int .i64 (j : Int)) ∧ w = w' := fun w => Around_at hj rfl (by omega) (by omega) hb.1 hb.2
  have HAR := hide HAr
  obtain ⟨E, S', hc⟩ := du_stepC hC v
  unfold StepC at hc
  have hEE : (E == E) = true := by simp
  have HC := hide hc
  have hjv : (j : Int) - 1 = v := hv.out
  clear hc hC hL HAr hj hb
  go_enter Try.func20, Try.ntmps20
  go_wp2_with (first
    | (go_at_call 10; refine (HAR.out _).mono ?_; rintro e w5 ⟨rfl, rfl⟩)
    | (go_at_call 17; refine HC.out.mono ?_; rintro e w1 ⟨rfl, pm', D1, hc2⟩; have HC2 := hide hc2; clear hc2)
    | (go_at_call 46; refine HC2.out.mono ?_; rintro e w2 ⟨rfl, A2⟩; have HA2 := hide A2; clear A2))
  go_ret
  exact ⟨rfl, HA2.out⟩
set_option maxRecDepth 100000 in
set_option maxHeartbeats 4000000 in
theorem act_4 (w0 w : World) (g r N B n c : Nat) (a : Option Addr) (hs : List Hd) (L : List Pgl) (Y : List Nat) (by_ : Int) (h : ActSt w0 w g r N B) (hL : PgL w0 w B a n c hs L Y) (hB : w0.heap.size ≤ B) (hN : N ≤ 1000) (hb : -9223372036854775808 ≤ by_ ∧ by_ ≤ 9223372036854775807) (k : Nat) (hk : 4 ≤ k ∧ k ≤ 5) :
    Calls Try.prog 20 #[.pointer (some ⟨g, 0, none⟩), .pointer (some ⟨r, 0, none⟩), .slice a n c, .int .i64 (k : Int), .int .i64 by_] w fun e w' => e = .returned (.bool true) ∧ ActSt w0 w' g r N w'.heap.size := by
  obtain ⟨K, hK⟩ : ∃ K, aroundF by_ 30 = K := ⟨_, rfl⟩
  have hK6 : K < 30 := by rw [← hK]; exact aroundF_lt (by omega)
  have HAr : ∀ w : World, Calls Try.prog 10 #[.int .i64 by_, .int .i64 30] w fun e w' => e = .returned (.int .i64 (K : Int)) ∧ w = w' := fun w => Around_at hK rfl (by omega) (by omega) hb.1 hb.2
  have HAR := hide HAr
  have HA := hide h
  have e0 : ((k : Int) == 0) = false := by simp; omega
  have e1 : ((k : Int) == 1) = false := by simp; omega
  have e2 : ((k : Int) == 2) = false := by simp; omega
  have e3 : ((k : Int) == 3) = false := by simp; omega
  clear HAr hK hb hL h hk
  go_enter Try.func20, Try.ntmps20
  go_wp2_with fail
  go_loopg [11] K (fun gh v w' => ∃ i B', i ≤ K ∧ gh = K - i ∧ v = .int .i64 (i : Int) ∧ ActSt w0 w' g r N B')
  case atStart => exact ⟨0, B, by omega, by omega, rfl, HA.out⟩
  case round =>
    obtain ⟨i, B', hi, hg, rfl, hA⟩ := hrel
    have HG := hide hg
    clear hg
    by_cases hiK : i < K
    · obtain ⟨pm, X, m, S, hC⟩ := hA
      obtain ⟨E, S', hc⟩ := du_stepC hC 0
      unfold StepC at hc
      have hEE : (E != E) = false := by simp
      have HC := hide hc
      clear hc hC
      go_wp2_with (first
        | (go_at_call 10; refine (HAR.out _).mono ?_; rintro e w5 ⟨rfl, rfl⟩)
        | (go_at_call 17; refine HC.out.mono ?_; rintro e w1 ⟨rfl, pm', D1, hc2⟩; have HC2 := hide hc2; clear hc2)
        | (go_at_call 46; refine HC2.out.mono ?_; rintro e w2 ⟨rfl, A2⟩; have HA2 := hide A2; clear A2))
      go_roundg (K - (i + 1))
      case measure => have := HG.out; omega
      case rel => exact ⟨i + 1, _, by omega, rfl, by go_num, HA2.out⟩
    · obtain rfl : i = K := by omega
      have HA3 := hide hA
      clear hA
      go_wp2_with (go_at_call 10; refine (HAR.out _).mono ?_; rintro e w5 ⟨rfl, rfl⟩)
      go_ret
      obtain ⟨pm, X, m, S, hC⟩ := HA3.out
      exact ⟨rfl, ActSt.of hC.du hC.inv hC.sum⟩
theorem law35_act (w0 w : World) (g r N B n c : Nat) (a : Option Addr) (hs : List Hd) (L : List Pgl) (Y : List Nat) (by_ : Int) (h : ActSt w0 w g r N B) (hL : PgL w0 w B a n c hs L Y) (hB : w0.heap.size ≤ B) (hN : N ≤ 1000) (hb : -9223372036854775808 ≤ by_ ∧ by_ ≤ 9223372036854775807) (k : Nat) (hk : k ≤ 5) :
    Calls Try.prog 20 #[.pointer (some ⟨g, 0, none⟩), .pointer (some ⟨r, 0, none⟩), .slice a n c, .int .i64 (k : Int), .int .i64 by_] w fun e w' => e = .returned (.bool true) ∧ ActSt w0 w' g r N w'.heap.size := by
  have h3 : k = 0 ∨ k = 1 ∨ k = 2 ∨ k = 3 ∨ 4 ≤ k := by omega
  rcases h3 with rfl | rfl | rfl | rfl | h3
  · exact act_0 w0 w g r N B n c a hs L Y by_ h hL hB hN hb
  · exact act_1 w0 w g r N B n c a hs L Y by_ h hL hB hN hb
  · exact act_2 w0 w g r N B n c a hs L Y by_ h hL hB hN hb
  · exact act_3 w0 w g r N B n c a hs L Y by_ h hL hB hN hb
  · exact act_4 w0 w g r N B n c a hs L Y by_ h hL hB hN hb k ⟨h3, hk⟩
end Go.Proofs.Ytdeknimelkdaeaa
end

/- the text P42 -/
section
/- Chapter 35: the generator's pages are new; a wide modulus. -/
set_option linter.unusedVariables false
namespace Go.Proofs.Ytdeknimelkdaeaa
open Go.RowKit Go.Dx Go.Al
def NewHs (B : Nat) (hs : List Hd) : Prop := ∀ x ∈ hs, ∀ b ∈ hb x, B ≤ b
theorem NewHs.push {B B' : Nat} {hs : List Hd} {x : Hd} (h : NewHs B hs) (hx : ∀ b ∈ hb x, B' ≤ b) (hB : B ≤ B') : NewHs B (hs ++ [x]) := fun y hy b hm => by
  rcases List.mem_append.1 hy with h1 | h1
  · exact h y h1 b hm
  · simp at h1; subst h1; exact Nat.le_trans hB (hx b hm)
theorem own_newB {w : World} {B B' : Nat} {t : TypeId} {sz n c : Nat} {a : Option Addr} {cs : List Value} (h : Own w B t sz a n c cs) (hB : B' ≤ B) : ∀ b ∈ hb (a, n, c), B' ≤ b := fun b hm => Nat.le_trans hB (own_lt h b hm).1
def GivesPagesN (w : World) (most : Nat) (e : Ending) (w' : World) : Prop := ∃ a' c' hs L, e = .returned (.slice a' L.length c') ∧ Own w' w.heap.size 28 1 a' L.length c' (hs.map hv) ∧ Tbs w' hs L ∧ L.length ≤ most ∧ (∀ p ∈ L, PF p) ∧ Below w.heap.size w w' ∧ NewHs w.heap.size hs
set_option maxRecDepth 100000 in
set_option maxHeartbeats 4000000 in
theorem ref35_PagesN (l : List Int) (most : Nat) (a : Option Addr) (n c : Nat) (w : World) (hs : Sl w 1 a n c (l.map I64)) (hl : ∀ x ∈ l, -9223372036854775808 ≤ x ∧ x ≤ 9223372036854775807) (hmost : most ≤ 100) :
    Calls Try.prog 8 #[.slice a n c, .int .i64 (most : Int)] w (GivesPagesN w most) := by
  obtain ⟨M, HM⟩ : ∃ M, Hid (most + 1 = M) := ⟨_, hide rfl⟩
  have hMi : (most : Int) + 1 = (M : Int) := by have := HM.out; omega
  have hM0 : 1 ≤ M ∧ M ≤ 101 := by have := HM.out; omega
  obtain ⟨K, HK⟩ : ∃ K, Hid (atF l 0 M = K) := ⟨_, hide rfl⟩
  have hK : K < M := by rw [← HK.out]; exact atF_lt (by omega)
  have HQ : Hid (∀ (i v : Int) (m r : Nat), atF l i m = r → (m : Int) = v → 1 ≤ m → m ≤ 1000000000 → ∀ w', Below w.heap.size w w' → Calls Try.prog 22 #[.slice a n c, .int .i64 i, .int .i64 v] w' fun e w2 => e = .returned (.int .i64 (r : Int)) ∧ w' = w2) :=
    fun i v m r h hv h1 h2 w' hb => At_at h hv h1 h2 hl (hs.below hb)
  clear hl
  go_enter Try.func8, Try.ntmps8
  go_wp2_with fail
  refine (HQ.out 0 _ M K HK.out rfl (by omega) (by omega) _ (Below.refl _ _)).mono ?_
  rintro e w1 ⟨rfl, rfl⟩
  go_wp2_with fail
  go_loopg [5, 7] K (fun g o i w' => ∃ (k : Nat) (ao : Option Addr) (co : Nat) (hs : List Hd) (L : List Pgl), k ≤ K ∧ g = K - k ∧ L.length = k ∧ (∀ p ∈ L, PF p) ∧ i = .int .i64 (k : Int) ∧ o = .slice ao k co ∧ Own w' w.heap.size 28 1 ao k co (hs.map hv) ∧ Tbs w' hs L ∧ Below w.heap.size w w' ∧ NewHs w.heap.size hs)
  case atStart => exact ⟨0, none, 0, [], [], by omega, by omega, rfl, (fun p hp => by cases hp), rfl, rfl, Own.nil _ _ _ _, Tbs.nil _, Below.refl _ _, fun x hx => by cases hx⟩
  case round =>
    obtain ⟨k, ao, co, hs2, L, hk, hg, hLk, hLF, rfl, rfl, hO, hT, hbk, hNW⟩ := hrel
    have HNW := hide hNW
    clear hNW
    have HG := hide hg
    have HLK := hide hLk
    have HLF := hide hLF
    have HO := hide hO
    have HT := hide hT
    clear hg hLk hLF hO hT
    by_cases hkl : k < K
    · obtain ⟨wy, rfl⟩ : ∃ wy : World, wy = wr := ⟨_, rfl⟩
      obtain ⟨d, Hd'⟩ : ∃ d, Hid (atF l (1 + 7 * (k : Int)) 5 = d) := ⟨_, hide rfl⟩
      have hd : d < 5 := by rw [← Hd'.out]; exact atF_lt (by omega)
      go_wp2_with fail
      go_loopg [8, 9] (d + 1) (fun g x i w' => ∃ (j : Nat) (a2 : Option Addr) (c2 : Nat) (hp : List Hd) (p : Pgl), j ≤ d ∧ g = d + 1 - j ∧ p.length = j ∧ (∀ x ∈ p, x.length ≤ 40 ∧ ∀ c ∈ x, c.toNat < 64) ∧ i = .int .i64 (j : Int) ∧ x = .slice a2 j c2 ∧ OPage w' wy.heap.size a2 c2 hp p ∧ Below wy.heap.size wy w')
      case atStart => exact ⟨0, none, 0, [], [], by omega, by omega, rfl, (fun x hx => by cases hx), rfl, rfl, OPage.nil _ _, Below.refl _ _⟩
      case round =>
        obtain ⟨j, a2, c2, hp, p, hj, hg1, hpj, hpF, rfl, rfl, hop, hbj⟩ := hrel
        have HG1 := hide hg1
        have HPJ := hide hpj
        have HPF := hide hpF
        clear hg1 hpj hpF
        have hbw : Below w.heap.size w wr := hbk.trans (hbj.mono hbk.size)
        go_wp2_with fail
        refine (HQ.out _ _ 5 d Hd'.out rfl (by omega) (by omega) _ hbw).mono ?_
        rintro e w1 ⟨rfl, rfl⟩
        by_cases hjd : j < d
        · obtain ⟨wz, rfl⟩ : ∃ wz : World, wz = wr := ⟨_, rfl⟩
          obtain ⟨u, Hu⟩ : ∃ u, Hid (atF l (2 + 7 * (k : Int) + (j : Int)) 6 = u) := ⟨_, hide rfl⟩
          have hu : u < 6 := by rw [← Hu.out]; exact atF_lt (by omega)
          go_wp2_with fail
          go_loopg [10, 11] (u + 1) (fun g x i w' => ∃ (q : Nat) (a3 : Option Addr) (c3 : Nat) (xs : List UInt8), q ≤ u ∧ g = u + 1 - q ∧ xs.length = q ∧ (∀ c ∈ xs, c.toNat < 64) ∧ i = .int .i64 (q : Int) ∧ x = .slice a3 q c3 ∧ Own w' wz.heap.size 5 1 a3 q c3 (xs.map B8) ∧ Below wz.heap.size wz w')
          case atStart => exact ⟨0, none, 0, [], by omega, by omega, rfl, (fun x hx => by cases hx), rfl, rfl, Own.nil _ _ _ _, Below.refl _ _⟩
          case round =>
            obtain ⟨q, a3, c3, xs, hq, hg2, hxq, hxF, rfl, rfl, hox, hbq⟩ := hrel
            have HG2 := hide hg2
            have HXQ := hide hxq
            have HXF := hide hxF
            clear hg2 hxq hxF
            have hbw2 : Below w.heap.size w wr := hbw.trans (hbq.mono hbw.size)
            go_wp2_with fail
            refine (HQ.out _ _ 6 u Hu.out rfl (by omega) (by omega) _ hbw2).mono ?_
            rintro e w1 ⟨rfl, rfl⟩
            by_cases hqu : q < u
            · obtain ⟨m, Hm⟩ : ∃ m, Hid (atF l (3 + 7 * (k : Int) + (j : Int) + 3 * (q : Int)) 64 = m) := ⟨_, hide rfl⟩
              have hm : m < 64 := by rw [← Hm.out]; exact atF_lt (by omega)
              go_wp2_with fail
              refine (HQ.out _ _ 64 m Hm.out rfl (by omega) (by omega) _ hbw2).mono ?_
              rintro e w1 ⟨rfl, rfl⟩
              go_wp2_with (at_builtin; refine app_b rfl _ _ rfl wz wz.heap.size _ _ _ _ rfl hox _ rfl (by omega) hbq.size hbq ?_; intro a' c' w' ho' hgr' hb')
              go_roundg (u + 1 - (q + 1))
              case measure => have := HG2.out; omega
              case rel =>
                refine ⟨q + 1, a', c', xs ++ [UInt8.ofNat m], by omega, rfl, by rw [List.length_append, HXQ.out]; rfl, ?_, by go_num, rfl, by rw [List.map_append]; show Own _ _ _ _ _ _ _ (xs.map B8 ++ [B8 (UInt8.ofNat m)]); rw [u8_small (by omega)]; exact ho', hb'⟩
                intro c hc
                rcases List.mem_append.1 hc with h1 | h1
                · exact HXF.out c h1
                · simp at h1; rw [h1]; exact u8_64 hm
            · obtain rfl : u = q := by omega
              go_wp2_with (at_builtin; refine app_p rfl _ _ rfl wy wy.heap.size _ _ _ hp p HPJ.out rfl (hop.below hbq) (a3, u, c3) xs (hox.mono hbj.size) rfl (by omega) (Nat.le_trans hbj.size hbq.size) (hbj.trans (hbq.mono hbj.size)) ?_; intro a' c' w' ho' hb')
              go_roundg (d + 1 - (j + 1))
              case measure => have := HG1.out; omega
              case rel => exact ⟨j + 1, a', c', hp ++ [(a3, u, c3)], p ++ [xs], by omega, rfl, by rw [List.length_append, HPJ.out]; rfl, PF.push HPF.out ⟨by rw [HXQ.out]; omega, HXF.out⟩, by go_num, rfl, ho', hb'⟩
        · obtain rfl : d = j := by omega
          obtain ⟨t, Ht⟩ : ∃ t, Hid (atF l (4 + 7 * (k : Int)) 9 = t) := ⟨_, hide rfl⟩
          by_cases ht0 : t = 0
          · subst ht0
            go_wp2_with fail
            refine (HQ.out _ _ 9 0 Ht.out rfl (by omega) (by omega) _ hbw).mono ?_
            rintro e w1 ⟨rfl, rfl⟩
            go_wp2_with fail
            go_loopg [8] (25 - d) (fun g x w' => ∃ (j : Nat) (a2 : Option Addr) (c2 : Nat) (hp : List Hd) (p : Pgl), j ≤ 25 ∧ g = 25 - j ∧ p.length = j ∧ (∀ x ∈ p, x.length ≤ 40 ∧ ∀ c ∈ x, c.toNat < 64) ∧ x = .slice a2 j c2 ∧ OPage w' wy.heap.size a2 c2 hp p ∧ Below wy.heap.size wy w')
            case atStart => exact ⟨d, a2, c2, hp, p, by omega, by omega, HPJ.out, HPF.out, rfl, hop, hbj⟩
            case round =>
              clear hop hbj hbw HPJ HPF
              obtain ⟨j, a2, c2, hp, p, hj, hg1, hpj, hpF, rfl, hop, hbj⟩ := hrel
              have HG1 := hide hg1
              have HPJ := hide hpj
              have HPF := hide hpF
              clear hg1 hpj hpF
              have hbw : Below w.heap.size w wr := hbk.trans (hbj.mono hbk.size)
              by_cases hj25 : j < 25
              · obtain ⟨m, Hm⟩ : ∃ m, Hid (atF l (5 + 7 * (k : Int)) 64 = m) := ⟨_, hide rfl⟩
                have hm : m < 64 := by rw [← Hm.out]; exact atF_lt (by omega)
                go_wp2_with fail
                refine (HQ.out _ _ 64 m Hm.out rfl (by omega) (by omega) _ hbw).mono ?_
                rintro e w1 ⟨rfl, rfl⟩
                have hbx := sblo wr (.cells #[.int .u8 (m : Int)] 5)
                have hsz : Hid ((wr.alloc (.cells #[.int .u8 (m : Int)] 5)).heap.size = wr.heap.size + 1) := hide (by simp)
                have hrow : Own (wr.alloc (.cells #[.int .u8 (m : Int)] 5)) wy.heap.size 5 1 (some ⟨wr.heap.size, 0, none⟩) 1 1 ([UInt8.ofNat m].map B8) := by
                  show Own _ _ _ _ _ _ _ [B8 (UInt8.ofNat m)]
                  rw [u8_small (by omega)]
                  exact own_lit.mono hbj.size
                go_wp2_with (at_builtin; refine app_p rfl _ _ rfl wy wy.heap.size _ _ _ hp p HPJ.out rfl (hop.below hbx) (some ⟨wr.heap.size, 0, none⟩, 1, 1) [UInt8.ofNat m] hrow (by first | (rw [hsz.out]; done) | (rw [hsz.out]; rfl)) (by omega) (Nat.le_trans hbj.size hbx.size) (hbj.trans (hbx.mono hbj.size)) ?_; intro a' c' w' ho' hb')
                go_roundg (25 - (j + 1))
                case measure => have := HG1.out; omega
                case rel => exact ⟨j + 1, a', c', hp ++ [(some ⟨wr.heap.size, 0, none⟩, 1, 1)], p ++ [[UInt8.ofNat m]], by omega, rfl, by rw [List.length_append, HPJ.out]; rfl, PF.push HPF.out ⟨by simp, fun c hc => by simp at hc; rw [hc]; exact u8_64 hm⟩, rfl, ho', hb'⟩
              · obtain rfl : j = 25 := by omega
                have htab := hop.tab
                rw [HPJ.out] at htab
                have htop := hop.top
                rw [HPJ.out] at htop
                have hNY := hide (NewHs.push HNW.out (own_newB htop (Nat.le_refl _)) hbk.size)
                clear htop
                have HOr := HO.out.below hbj
                have hBr := hbw.size
                go_wp2_with (at_builtin; refine append_lit rfl _ _ 23 rfl 28 (.slice none 0 0) 1 24 Try.underlying23 info_pg rfl w w.heap.size ao k co _ rfl HOr 1 [hv (a2, 25, c2)] rfl rfl (by simp [hv, Value.oneCell']) (by omega) (by unfold maxLen; omega) hBr hbw ?_; intro a' c' w' ho' hgr' hb')
                have HT' := hide (((HT.out.below hbj).push htab).kept HOr (by decide) (by decide) hgr')
                have HO' := hide ho'
                clear ho' hgr' HOr
                go_roundg (K - (k + 1))
                case measure => have := HG.out; omega
                case rel => exact ⟨k + 1, a', c', hs2 ++ [(a2, 25, c2)], L ++ [p], by omega, rfl, by rw [List.length_append, HLK.out]; rfl, (fun x hx => by
                  rcases List.mem_append.1 hx with h1 | h1
                  · exact HLF.out x h1
                  · simp at h1; rw [h1]; exact ⟨by rw [HPJ.out]; omega, HPF.out⟩), by go_num, rfl, by rw [List.map_append]; exact HO'.out, HT'.out, hb', hNY.out⟩
          · have htab := hop.tab
            rw [HPJ.out] at htab
            have htop := hop.top
            rw [HPJ.out] at htop
            have hNY := hide (NewHs.push HNW.out (own_newB htop (Nat.le_refl _)) hbk.size)
            clear htop
            have HOr := HO.out.below hbj
            have hBr := hbw.size
            go_wp2_with fail
            refine (HQ.out _ _ 9 t Ht.out rfl (by omega) (by omega) _ hbw).mono ?_
            rintro e w1 ⟨rfl, rfl⟩
            go_wp2_with (at_builtin; refine append_lit rfl _ _ 23 rfl 28 (.slice none 0 0) 1 24 Try.underlying23 info_pg rfl w w.heap.size ao k co _ rfl HOr 1 [hv (a2, d, c2)] rfl rfl (by simp [hv, Value.oneCell']) (by omega) (by unfold maxLen; omega) hBr hbw ?_; intro a' c' w' ho' hgr' hb')
            have HT' := hide (((HT.out.below hbj).push htab).kept HOr (by decide) (by decide) hgr')
            have HO' := hide ho'
            clear ho' hgr' HOr
            go_roundg (K - (k + 1))
            case measure => have := HG.out; omega
            case rel => exact ⟨k + 1, a', c', hs2 ++ [(a2, d, c2)], L ++ [p], by omega, rfl, by rw [List.length_append, HLK.out]; rfl, (fun x hx => by
              rcases List.mem_append.1 hx with h1 | h1
              · exact HLF.out x h1
              · simp at h1; rw [h1]; exact ⟨by rw [HPJ.out]; omega, HPF.out⟩), by go_num, rfl, by rw [List.map_append]; exact HO'.out, HT'.out, hb', hNY.out⟩
    · obtain rfl : k = K := by omega
      go_wp2
      go_ret
      exact ⟨ao, co, hs2, L, by rw [HLK.out]; rfl, by rw [HLK.out]; exact HO.out, HT.out, by rw [HLK.out]; have := HM.out; omega, HLF.out, hbk, HNW.out⟩
set_option maxHeartbeats 400000 in
theorem around_wide (n v : Int) (m : Nat) (w : World) (hv : (m : Int) = v) (h0 : -9223372036854775808 ≤ n) (h1 : n ≤ 9223372036854775807) (hm : 1 ≤ m) (hm2 : m ≤ 1000000000000000) :
    Calls Try.prog 10 #[.int .i64 n, .int .i64 v] w fun e w' => e = .returned (.int .i64 (aroundF n m : Nat)) ∧ w = w' := by
  subst hv
  have hr := aroundF_eq (n := n) hm
  obtain ⟨r, HR⟩ : ∃ r, Hid (aroundF n m = r) := ⟨_, hide rfl⟩
  rw [HR.out] at hr ⊢
  by_cases hn : n < 0
  · rw [if_pos hn] at hr
    have HH := hide hr
    clear hr
    go_enter Try.func10, Try.ntmps10
    go_wp2
    go_ret
    exact ⟨by rw [← HH.out, ← Int.tmod_eq_emod_of_nonneg (by omega), Int.neg_tmod]; rfl, rfl⟩
  · rw [if_neg hn] at hr
    have HH := hide hr
    clear hr
    go_enter Try.func10, Try.ntmps10
    go_wp2
    go_ret
    exact ⟨by rw [← HH.out]; rfl, rfl⟩
end Go.Proofs.Ytdeknimelkdaeaa
end

/- the text PL5 -/
section
/- Chapter 35: the walk of PressRuns. -/
set_option linter.unusedVariables false
namespace Go.Proofs.Ytdeknimelkdaeaa
open Go.RowKit Go.Dx Go.Al
theorem ActSt.re {w0 w : World} {g r N B : Nat} (h : ActSt w0 w g r N B) : ActSt w0 w g r N w.heap.size := by
  obtain ⟨pm, X, m, S, h1⟩ := h
  exact ActSt.of h1.du h1.inv h1.sum
theorem du_new {w1 w2 w3 : World} {g r n : Nat} (hp : PAt w2 g m0 (newP n)) (hq : RAt w1 w3 r [] (rm0 r) (newP n)) (hbl : Below w2.heap.size w2 w3) (hr : w2.heap.size ≤ r) (hb1 : Below w1.heap.size w1 w2) (hg : w1.heap.size ≤ g) (hn : n ≤ 1000) : ActSt w1 w3 g r n w3.heap.size := by
  have hgl := hp.box.lt
  refine ActSt.of ⟨hp.below hbl, hq, fun b h1 h2 => ?_, hb1.trans (hbl.mono hb1.size), fun b h1 => ?_, fun b h1 => ?_⟩ (inv_new hn) (by simp [tot, newP, rm0])
  · simp [pfoot, mutB, m0, blk, hb, hbs, nilH] at h1
    simp [rfoot, rm0] at h2
    omega
  · simp [pfoot, mutB, m0, blk, hb, hbs, nilH] at h1
    omega
  · simp [rfoot, rm0] at h1
    have := hb1.size
    omega
theorem pgl_of {w0 w w' : World} {a : Option Addr} {n c : Nat} {hs : List Hd} {L : List Pgl} (hO : Own w' w.heap.size 28 1 a n c (hs.map hv)) (hT : Tbs w' hs L) (hN : NewHs w.heap.size hs) (hf : L.length ≤ 1000) : PgL w0 w' w.heap.size a n c hs L (hs.flatMap hb) := by
  have tab : ∀ b ∈ hs.flatMap hb, ∃ x p, x ∈ hs ∧ Tab w' x p ∧ b ∈ hb x := fun b hm => by
    obtain ⟨x, hx, hm⟩ := List.mem_flatMap.1 hm
    obtain ⟨i, hi, hxi⟩ := List.getElem_of_mem hx
    have h1 : hs[i]? = some x := by rw [← hxi]; simp [hi]
    have h2 : L[i]? = some (L[i]'(by rw [← hT.len]; exact hi)) := by simp
    exact ⟨x, _, hx, hT.get i _ _ h1 h2, hm⟩
  refine ⟨hO.sl, hT.len, fun i x p h1 h2 => RPg.tab w0 (hT.get i x p h1 h2) (fun b hm => List.mem_flatMap.2 ⟨x, List.mem_of_getElem? h1, hm⟩), fun b hm => ?_, fun b hm => ?_, fun b hm => ?_, fun b hm => (own_lt hO b hm).2, fun b hm => (own_lt hO b hm).1, hf⟩
  · obtain ⟨x, p, -, t, h⟩ := tab b hm
    exact t.lt b h
  · obtain ⟨x, p, -, t, h⟩ := tab b hm
    exact t.nob b h
  · obtain ⟨x, p, hx, t, h⟩ := tab b hm
    exact hN x hx b h
/-- the raw page behind them -/
theorem pgl_raw {w0 w' : World} {B n c : Nat} {a : Option Addr} {hs : List Hd} {L : List Pgl} {x : Hd} {p : Pgl} (hO : Own w' B 28 1 a n c ((hs ++ [x]).map hv)) (hT : Tbs w' hs L) (hN : NewHs B hs) (hr : PgE w0 x p) (hf : L.length ≤ 999) : PgL w0 w' B a n c (hs ++ [x]) (L ++ [p]) (hs.flatMap hb) := by
  have tab : ∀ b ∈ hs.flatMap hb, ∃ x p, x ∈ hs ∧ Tab w' x p ∧ b ∈ hb x := fun b hm => by
    obtain ⟨x, hx, hm⟩ := List.mem_flatMap.1 hm
    obtain ⟨i, hi, hxi⟩ := List.getElem_of_mem hx
    have h1 : hs[i]? = some x := by rw [← hxi]; simp [hi]
    have h2 : L[i]? = some (L[i]'(by rw [← hT.len]; exact hi)) := by simp
    exact ⟨x, _, hx, hT.get i _ _ h1 h2, hm⟩
  refine ⟨hO.sl, by rw [List.length_append, List.length_append, hT.len]; rfl, fun i y q h1 h2 => ?_, fun b hm => ?_, fun b hm => ?_, fun b hm => ?_, fun b hm => (own_lt hO b hm).2, fun b hm => (own_lt hO b hm).1, by rw [List.length_append]; simp; omega⟩
  · rw [List.getElem?_append] at h1 h2
    by_cases hi : i < hs.length
    · rw [if_pos hi] at h1
      rw [if_pos (by rw [← hT.len]; exact hi)] at h2
      exact RPg.tab w0 (hT.get i y q h1 h2) (fun b hm => List.mem_flatMap.2 ⟨y, List.mem_of_getElem? h1, hm⟩)
    · rw [if_neg hi] at h1
      rw [if_neg (by rw [← hT.len]; exact hi), ← hT.len] at h2
      cases hj : i - hs.length with
      | zero => rw [hj] at h1 h2; simp at h1 h2; subst h1 h2; exact RPg.old w' _ hr
      | succ j => rw [hj] at h1; simp at h1
  · obtain ⟨x, p, -, t, h⟩ := tab b hm
    exact t.lt b h
  · obtain ⟨x, p, -, t, h⟩ := tab b hm
    exact t.nob b h
  · obtain ⟨x, p, hx, t, h⟩ := tab b hm
    exact hN x hx b h
theorem shp_ref {w0 w : World} {r : Nat} {X : List Nat} {m : RM} {S : Pr} (h : RAt w0 w r X m S) (hb : Below w0.heap.size w0 w) : Shp w m.ta S.tray.length m.tc m.ts S.tray :=
  ⟨h.inn.tl, ⟨h.inn.tt.len, fun i y s h1 h2 => by
    obtain ⟨k1, k2⟩ := h.inn.tt.get i y s h1 h2
    exact ⟨k1.pg hb, k2.pg hb⟩⟩⟩
theorem Du.fr {w0 w w' : World} {X F : List Nat} {g r : Nat} {pm : PM} {m : RM} {S1 S2 : Pr} (h : Du w0 w g pm S1 r X m S2) (hf : Fr F w w') (hn : ∀ b ∈ F, NoB w b) (h1 : ∀ b ∈ pfoot g pm, b ∉ F) (h2 : ∀ b ∈ rfoot r X m, b ∉ F) (h3 : ∀ b ∈ F, w0.heap.size ≤ b) : Du w0 w' g pm S1 r X m S2 :=
  ⟨h.p.fr hf hn h1, h.q.fr hf hn h2, h.ap, h.blw.trans (hf.blw h.blw.size h3), h.lp, h.lr⟩
theorem ActSt.fr {w0 w w' : World} {F : List Nat} {g r N B : Nat} (h : ActSt w0 w g r N B) (hf : Fr F w w') (hn : ∀ b ∈ F, NoB w b) (h3 : ∀ b ∈ F, B ≤ b) (hB : w0.heap.size ≤ B) : ActSt w0 w' g r N B := by
  obtain ⟨pm, X, m, S, h1⟩ := h
  exact ⟨pm, X, m, S, h1.du.fr hf hn (fun b hb hh => by have := h1.fp b hb; have := h3 b hh; omega) (fun b hb hh => by have := h1.fr b hb; have := h3 b hh; omega) (fun b hb => Nat.le_trans hB (h3 b hb)), h1.inv, h1.sum, h1.fp, h1.fr⟩
def OutF (T : Nat) (L : List Sht) (vs : List Value) (w : World) : Prop := ∃ a c ws, vs = [.slice a T c] ∧ Shp w a T c ws L
def PapF (v : Int) (vs : List Value) (w : World) : Prop := ∃ b o, vs = [.pointer (some ⟨b, o, none⟩)] ∧ w.cell? ⟨b, o, none⟩ = some (.int .i64 v)
/-- the many pages of the end -/
def manyL : List Pgl := List.replicate 128 []
def manyS : Pr := (loadP (newP 0) manyL).1
theorem many_1 : (loadP (newP 0) manyL).2 = 0 := by decide +kernel
theorem many_2 : (loadP manyS [[]]).2 = 4 := by decide +kernel
theorem many_3 : (loadP manyS [[]]).1 = manyS := by unfold loadP; rw [if_neg (by decide +kernel), if_pos (by decide +kernel)]
theorem many_4 : (stepP manyS 0).2 = 11 := by decide +kernel
theorem pgs_empty {w : World} {b n : Nat} (h : Box w b 28 (List.replicate n (.slice none 0 0))) (hn : n ≤ 1000) : Pgs w (some ⟨b, 0, none⟩) n n (List.replicate n nilH) (List.replicate n []) :=
  ⟨by
    have ho : Own w 0 28 1 (some ⟨b, 0, none⟩) n n ((List.replicate n nilH).map hv) := own_of_box (by rw [List.map_replicate]; exact h) (by simp) (by unfold maxLen; omega) (Nat.zero_le _)
    exact ho.sl, by simp, fun i x p h1 h2 => by
    have e1 : x = nilH := by rw [List.getElem?_replicate] at h1; split at h1 <;> cases h1; rfl
    have e2 : p = [] := by rw [List.getElem?_replicate] at h2; split at h2 <;> cases h2; rfl
    subst e1 e2
    exact ⟨[], Sl.empty w 1, rfl, fun i h r h1 => by cases h1⟩⟩
set_option maxRecDepth 100000 in
set_option maxHeartbeats 16000000 in
theorem walk_PressRuns (paper : Int) (l script : List Int) (a1 a2 a3 : Option Addr) (n1 c1 n2 c2 n3 c3 : Nat) (hsr : List Hd) (raw : Pgl) (w : World) (hp : -9223372036854775808 ≤ paper ∧ paper ≤ 9223372036854775807)
    (hs1 : Sl w 1 a1 n1 c1 (l.map I64)) (hb1 : ∀ x ∈ l, -9223372036854775808 ≤ x ∧ x ≤ 9223372036854775807) (hs2 : Sl w 1 a2 n2 c2 (script.map I64)) (hb2 : ∀ x ∈ script, -9223372036854775808 ≤ x ∧ x ≤ 9223372036854775807) (hr : Pg w a3 n3 c3 hsr raw) (hg1 : n1 ≤ 140737488355328) :
    Calls Try.prog 5 #[.int .i64 paper, .slice a1 n1 c1, .slice a2 n2 c2, .slice a3 n3 c3] w fun e w' => e = .returned (.bool true) ∧ Below w.heap.size w w' := by
  have HN1 := hide hs1.n_eq
  have HN2 := hide hs2.n_eq
  have hm1 := Nat.le_trans hs1.le hs1.cap
  have hm2 := Nat.le_trans hs2.le hs2.cap
  unfold maxLen at hm1 hm2
  obtain ⟨j4, hj4⟩ : ∃ j4, aroundF paper 4 = j4 := ⟨_, rfl⟩
  have hj4l : j4 < 4 := by rw [← hj4]; exact aroundF_lt (by omega)
  obtain ⟨P1, hP1⟩ : ∃ P1, Hid ([-1, 1000, 1001, paper][j4]? = some P1) := ⟨[-1, 1000, 1001, paper][j4]'hj4l, hide (by simp)⟩
  have HSL4 : Hid (Sl (w.alloc (.cells #[.int .i64 (-1), .int .i64 1000, .int .i64 1001, .int .i64 paper] 3)) 1 (some ⟨w.heap.size, 0, none⟩) 4 4 ([-1, 1000, 1001, paper].map I64)) := hide (by
    have ho : Own (w.alloc (.cells #[.int .i64 (-1), .int .i64 1000, .int .i64 1001, .int .i64 paper] 3)) 0 3 1 (some ⟨w.heap.size, 0, none⟩) 4 4 [.int .i64 (-1), .int .i64 1000, .int .i64 1001, .int .i64 paper] := own_of_box (Box.new w 3 #[.int .i64 (-1), .int .i64 1000, .int .i64 1001, .int .i64 paper]) rfl (by show 4 ≤ maxLen; decide) (Nat.zero_le _)
    exact ho.sl)
  have hS4 := HSL4.out
  go_enter Try.func5, Try.ntmps5
  go_wp2_with (go_at_call 10; refine (ref_Around paper 5 5 _ rfl hp.1 hp.2 (by omega) (by omega)).mono ?_; rintro e w5 ⟨rfl, rfl⟩; refine hold ?_)
  refine hide ?_
  obtain ⟨j5, hj5⟩ : ∃ j5, aroundF paper 5 = j5 := ⟨_, rfl⟩
  have hj5l : j5 < 5 := by rw [← hj5]; exact aroundF_lt (by omega)
  rw [hj5]
  have HA4 := hide (fun w => Around_at (w := w) hj4 (rfl : ((4 : Nat) : Int) = 4) (by omega) (by omega) hp.1 hp.2)
  clear hj5 hj4
  go_wp2_with (first
    | (go_at_call 10; refine (HA4.out _).mono ?_; rintro e w5 ⟨rfl, rfl⟩)
    | (with_reducible refine idx_i 27 _ _ _ _ _ [-1, 1000, 1001, paper] rfl hS4 _ _ j4 rfl rfl P1 hP1.out ?_; intro b27 o27 hc27 hbo27))
  have hbA := sblo w (.cells #[.int .i64 (-1), .int .i64 1000, .int .i64 1001, .int .i64 paper] 3)
  have hbB := sblo (w.alloc (.cells #[.int .i64 (-1), .int .i64 1000, .int .i64 1001, .int .i64 paper] 3)) (.cells #[.int .i64 (j5 : Int), I64 P1] 3)
  have hPB : Box ((w.alloc (.cells #[.int .i64 (-1), .int .i64 1000, .int .i64 1001, .int .i64 paper] 3)).alloc (.cells #[.int .i64 (j5 : Int), I64 P1] 3)) (w.heap.size + 1) 3 [.int .i64 (j5 : Int), I64 P1] := by
    have h1 := Box.new (w.alloc (.cells #[.int .i64 (-1), .int .i64 1000, .int .i64 1001, .int .i64 paper] 3)) 3 #[.int .i64 (j5 : Int), I64 P1]
    have h2 : (w.alloc (.cells #[.int .i64 (-1), .int .i64 1000, .int .i64 1001, .int .i64 paper] 3)).heap.size = w.heap.size + 1 := by simp
    rw [h2] at h1
    exact h1
  have hb01 := hbA.trans (hbB.mono hbA.size)
  clear hS4 HSL4 hbA hbB hP1 HA4
  generalize hw1 : (w.alloc (.cells #[.int .i64 (-1), .int .i64 1000, .int .i64 1001, .int .i64 paper] 3)).alloc (.cells #[.int .i64 (j5 : Int), I64 P1] 3) = w1 at *
  generalize hbP : w.heap.size + 1 = bP at *
  clear hw1 hbP
  have HP : Hid (Sl w1 1 (some ⟨bP, 0, none⟩) 2 2 ([(j5 : Int), P1].map I64)) := hide (by
    have ho : Own w1 0 3 1 (some ⟨bP, 0, none⟩) 2 2 [.int .i64 (j5 : Int), .int .i64 P1] := own_of_box hPB rfl (by show 2 ≤ maxLen; decide) (Nat.zero_le _)
    exact ho.sl)
  have HS1 := hide (hs1.below hb01)
  have HS2 := hide (hs2.below hb01)
  have HS1b := hide hb1
  have HS2b := hide hb2
  have HR := hide (hr.below hb01)
  have HB01 := hide hb01
  have HR3 := hide hr.n_eq
  clear hs1 hs2 hb1 hb2 hr hPB hb01
  go_loopg [10] 2 (fun gh v w' => ∃ k : Nat, k ≤ 2 ∧ gh = 2 - k ∧ v = .int .i64 (k : Int) ∧ Below w1.heap.size w1 w')
  case atStart => exact ⟨0, by omega, rfl, rfl, Below.refl _ _⟩
  case round =>
    obtain ⟨k, hk, rfl, rfl, hbw⟩ := hrel
    by_cases hk2 : k < 2
    · obtain ⟨N, hN⟩ : ∃ N, Hid ([(j5 : Int), P1][k]? = some N) := ⟨[(j5 : Int), P1][k]'hk2, hide (by simp)⟩
      have SLP := HP.out.below hbw
      by_cases hbad : N < 0 ∨ 1000 < N
      · have hN1 := pr_New_bad N wr hbad
        have hN2 := ref35_New_bad N wr hbad
        go_wp2_with (first
          | (with_reducible refine idx_i 37 _ _ _ _ _ [(j5 : Int), P1] rfl SLP _ _ k rfl rfl N hN.out ?_; intro b37 o37 hc37 hbo37)
          | (with_reducible refine idx_i 45 _ _ _ _ _ [(j5 : Int), P1] rfl SLP _ _ k rfl rfl N hN.out ?_; intro b45 o45 hc45 hbo45)
          | (go_at_call 15; refine hN1.mono ?_; rintro e w5 ⟨rfl, rfl⟩)
          | (go_at_call 19; refine hN2.mono ?_; rintro e w5 ⟨rfl, rfl⟩))
        go_roundg (2 - (k + 1))
        case measure => omega
        case rel => exact ⟨k + 1, by omega, rfl, by go_num, hbw⟩
      · obtain ⟨n, rfl⟩ : ∃ n : Nat, N = (n : Int) := ⟨N.toNat, by omega⟩
        have hn6 : n ≤ 1000 := by omega
        have hN1 := hide (pr_New (n : Int) n wr rfl hn6)
        clear hbad
        go_wp2_with (first
          | (with_reducible refine idx_i 37 _ _ _ _ _ [(j5 : Int), P1] rfl SLP _ _ k rfl rfl (n : Int) hN.out ?_; intro b37 o37 hc37 hbo37)
          | (go_at_call 15; refine hN1.out.mono ?_; rintro e w2 ⟨g, rfl, hPn, hg1, hb2⟩; refine hold ?_))
        refine hide ?_
        have hb12 : Below w1.heap.size w1 w2 := hbw.trans (hb2.mono hbw.size)
        have hg1 := Nat.le_trans hbw.size hg1
        have hN2 := hide (ref35_New w1 (n : Int) n w2 rfl hn6)
        have SLP2 := SLP.below hb2
        clear hb2 hN1 SLP
        go_wp2_with (first
          | (with_reducible refine idx_i 45 _ _ _ _ _ [(j5 : Int), P1] rfl SLP2 _ _ k rfl rfl (n : Int) hN.out ?_; intro b45 o45 hc45 hbo45)
          | (go_at_call 19; refine hN2.out.mono ?_; rintro e w3 ⟨r, rfl, hRn, hgr, hb3⟩; refine hold ?_))
        refine hide ?_
        clear SLP2 hN2 hbw
        have hA3 := hide (du_new hPn hRn hb3 hgr hb12 hg1 hn6)
        go_upto_block 2 with fail
        go_cut [8] (fun v w' => ActSt w1 w' g r n w'.heap.size)
        case first =>
          go_wp2_with fail
          go_loopg [15] 30 (fun gh v w' => ∃ j B : Nat, j ≤ 30 ∧ gh = 30 - j ∧ v = .int .i64 (3 * (j : Int)) ∧ ActSt w1 w' g r n B)
          case atStart => exact ⟨0, _, by omega, by omega, rfl, hA3.out⟩
          case round =>
            obtain ⟨j, B, hj, hg, rfl, hA⟩ := hrel
            have HG := hide hg
            clear hg
            have hbl : Below w1.heap.size w1 wr := by obtain ⟨pm, X, m, S, h⟩ := hA; exact h.du.blw
            have HA := hide hA.re
            clear hA
            by_cases hc1 : 3 * j + 2 < n2
            · have d1 : decide (3 * (j : Int) + 2 < (n2 : Int)) = true := decide_eq_true (by omega)
              by_cases hc2 : j < 30
              · have d2 : decide (3 * (j : Int) < 90) = true := decide_eq_true (by omega)
                obtain ⟨x0, hx0⟩ : ∃ x0, Hid (script[3 * j]? = some x0) := ⟨script[3 * j]'(by rw [← HN2.out]; omega), hide (by simp)⟩
                obtain ⟨x1, hx1⟩ : ∃ x1, Hid (script[3 * j + 1]? = some x1) := ⟨script[3 * j + 1]'(by rw [← HN2.out]; omega), hide (by simp)⟩
                obtain ⟨x2, hx2⟩ : ∃ x2, Hid (script[3 * j + 2]? = some x2) := ⟨script[3 * j + 2]'(by rw [← HN2.out]; omega), hide (by simp)⟩
                have bx0 := HS2b.out x0 (List.mem_of_getElem? hx0.out)
                have bx1 := HS2b.out x1 (List.mem_of_getElem? hx1.out)
                have bx2 := HS2b.out x2 (List.mem_of_getElem? hx2.out)
                obtain ⟨q, hq⟩ : ∃ q, aroundF x2 (n1 + 1) = q := ⟨_, rfl⟩
                have hqn : q ≤ n1 := by have := aroundF_lt (n := x2) (m := n1 + 1) (by omega); omega
                have HAq := hide (fun w => around_wide x2 ((n1 : Int) + 1) (n1 + 1) w (by omega) bx2.1 bx2.2 (by omega) (by omega))
                rw [hq] at HAq
                obtain ⟨k6, hk6⟩ : ∃ k6, aroundF x0 6 = k6 := ⟨_, rfl⟩
                have hk6l : k6 < 6 := by rw [← hk6]; exact aroundF_lt (by omega)
                have HA6 := hide (fun w => Around_at (w := w) hk6 (rfl : ((6 : Nat) : Int) = 6) (by omega) (by omega) bx0.1 bx0.2)
                obtain ⟨k9, hk9⟩ : ∃ k9, aroundF x1 9 = k9 := ⟨_, rfl⟩
                have HA9 := hide (fun w => Around_at (w := w) hk9 (rfl : ((9 : Nat) : Int) = 9) (by omega) (by omega) bx1.1 bx1.2)
                have SLs := HS2.out.below hbl
                have SLl := HS1.out.below hbl
                clear hq hk6 hk9 bx0 bx2
                go_wp2_with (first
                  | (with_reducible refine idx_i 77 _ _ _ _ _ script rfl SLs _ _ (3 * j + 2) rfl (by omega) x2 hx2.out ?_; intro b77 o77 hc77 hbo77)
                  | (go_at_call 10; refine (HAq.out _).mono ?_; rintro e w5 ⟨rfl, rfl⟩)
                  | (with_reducible refine cut_lo 83 _ _ _ 3 Try.underlying22 1 size_int a1 n1 c1 _ rfl SLl _ _ q rfl rfl hqn ?_; intro a83 hs83 ha83; refine hold ?_))
                refine hide ?_
                have hpg := hide (ref35_PagesN (l.drop q) 4 a83 (n1 - q) (c1 - q) wr (by rw [Nat.mul_one, ← List.map_drop] at hs83; exact hs83) (fun x hx => HS1b.out x (List.mem_of_mem_drop hx)) (by omega))
                clear hs83 ha83 SLs SLl
                go_wp2_with (go_at_call 8; refine hpg.out.mono ?_; rintro e w4 ⟨aL, cL, hsL, L, rfl, hO, hT, hL4, hLF, hb4, hNw⟩; refine hold ?_)
                refine hide ?_
                obtain ⟨nL, hnL⟩ : ∃ nL, Hid (L.length = nL) := ⟨_, hide rfl⟩
                rw [hnL.out] at hO hL4 ⊢
                have HO4 := hide hO
                have HT4 := hide hT
                have HNw := hide hNw
                have hbl4 : Below w1.heap.size w1 w4 := hbl.trans (hb4.mono hbl.size)
                have HA4 := hide (HA.out.below hb4)
                have hsz4 := hb4.size
                have hsz1 := hbl.size
                have SLs := HS2.out.below hbl4
                clear hO hT hLF hNw hb4 HA hpg hbl HAq
                go_upto_if 91 with (first
                  | (with_reducible refine idx_i 87 _ _ _ _ _ script rfl SLs _ _ (3 * j) rfl (by omega) x0 hx0.out ?_; intro b87 o87 hc87 hbo87)
                  | (go_at_call 10; refine (HA6.out _).mono ?_; rintro e w5 ⟨rfl, rfl⟩))
                go_cut [17] (fun v w' => w' = w4 ∧ ∃ kk : Nat, kk ≤ 5 ∧ v = .int .i64 (kk : Int))
                case first =>
                  by_cases hj0 : j = 0
                  · subst hj0
                    go_wp2_with fail
                    go_meet
                    exact ⟨rfl, 0, by omega, rfl⟩
                  · have z0 : (3 * (j : Int) == 0) = false := by simp; omega
                    go_wp2_with fail
                    go_meet
                    exact ⟨rfl, k6, by omega, rfl⟩
                case rest =>
                  obtain ⟨rfl, kk, hkk, rfl⟩ := hcut
                  have wq : ∃ w' : World, w' = wc := ⟨_, rfl⟩
                  obtain ⟨w4, rfl⟩ := wq
                  have hp4 := hide (pgl_of (w0 := w1) HO4.out HT4.out HNw.out (by rw [hnL.out]; omega))
                  by_cases hk0 : kk = 0
                  · subst hk0
                    by_cases hk9 : k9 = 0
                    · subst hk9
                      by_cases hn3 : n3 < 30
                      · have d3 : decide ((n3 : Int) < 30) = true := decide_eq_true (by omega)
                        have HOb := HO4.out
                        go_wp2_with (first
                          | (refine unguard_any (by first | rfl | (simp [Region.wanted, yielded, Act.put]; done)) ?_; with_reducible refine idx_i 98 _ _ _ _ _ script rfl SLs _ _ (3 * j + 1) rfl (by omega) x1 hx1.out ?_; intro b98 o98 hc98 hbo98)
                          | (go_at_call 10; refine (HA9.out _).mono ?_; rintro e w5 ⟨rfl, rfl⟩)
                          | (at_builtin; refine append_lit rfl _ _ 23 rfl 28 (.slice none 0 0) 1 24 Try.underlying23 info_pg rfl w4 wr.heap.size aL nL cL _ rfl HOb 1 [hv (a3, n3, c3)] rfl rfl (by simp [hv, Value.oneCell']) (by omega) (by unfold maxLen; omega) hsz4 (Below.refl _ _) ?_; intro a6 c6 w6 ho6 hgr6 hb6; refine hold ?_))
                        refine hide ?_
                        have hT6 := hide (HT4.out.kept HOb (by decide) (by decide) hgr6)
                        have hp6 := hide (pgl_raw (w0 := w1) (B := wr.heap.size) (hs := hsL) (x := (a3, n3, c3)) (p := raw) (by rw [List.map_append]; exact ho6) hT6.out HNw.out ⟨hsr, HR.out⟩ (by rw [hnL.out]; omega))
                        have hF6 : Fr (blk aL) w4 w6 := (Fr.refl _ _).grown hgr6 (fun b hb => .inl (by unfold blk; rw [hb]; simp))
                        have hA6 := hide (HA4.out.fr hF6 (own_nobs HOb (by decide)) (fun b hb => (own_lt HOb b hb).1) hsz1)
                        have hbl6 := hbl4.trans (hF6.blw hbl4.size (fun b hb => Nat.le_trans hsz1 (own_lt HOb b hb).1))
                        have SLs := HS2.out.below hbl6
                        have hact := hide (law35_act w1 w6 g r n wr.heap.size (nL + 1) c6 a6 _ _ _ x1 hA6.out hp6.out hsz1 hn6 bx1 0 (by omega))
                        clear ho6 hgr6 hb6 hT6 hF6 HOb hA6 hp6 hp4 HO4 HT4 HA4 HNw
                        go_wp2_with (first
                          | (with_reducible refine idx_i 119 _ _ _ _ _ script rfl SLs _ _ (3 * j + 1) rfl (by omega) x1 hx1.out ?_; intro b119 o119 hc119 hbo119)
                          | (go_at_call 20; refine hact.out.mono ?_; rintro e w9 ⟨rfl, A9⟩; have HA9 := hide A9; clear A9))
                        go_roundg (30 - (j + 1))
                        case measure => have := HG.out; omega
                        case rel => exact ⟨j + 1, _, by omega, rfl, by go_num, HA9.out⟩
                      · have d3 : decide ((n3 : Int) < 30) = false := decide_eq_false (by omega)
                        have hact := hide (law35_act w1 w4 g r n wr.heap.size nL cL aL _ _ _ x1 HA4.out hp4.out hsz1 hn6 bx1 0 (by omega))
                        clear hp4 HO4 HT4 HA4 HNw
                        go_wp2_with (first
                          | (refine unguard_any (by first | rfl | (simp [Region.wanted, yielded, Act.put]; done)) ?_; with_reducible refine idx_i 98 _ _ _ _ _ script rfl SLs _ _ (3 * j + 1) rfl (by omega) x1 hx1.out ?_; intro b98 o98 hc98 hbo98)
                          | (go_at_call 10; refine (HA9.out _).mono ?_; rintro e w5 ⟨rfl, rfl⟩)
                          | (with_reducible refine idx_i 119 _ _ _ _ _ script rfl SLs _ _ (3 * j + 1) rfl (by omega) x1 hx1.out ?_; intro b119 o119 hc119 hbo119)
                          | (go_at_call 20; refine hact.out.mono ?_; rintro e w9 ⟨rfl, A9⟩; have HA9 := hide A9; clear A9))
                        go_roundg (30 - (j + 1))
                        case measure => have := HG.out; omega
                        case rel => exact ⟨j + 1, _, by omega, rfl, by go_num, HA9.out⟩
                    · have d9 : ((k9 : Int) == 0) = false := by simp; omega
                      have hact := hide (law35_act w1 w4 g r n wr.heap.size nL cL aL _ _ _ x1 HA4.out hp4.out hsz1 hn6 bx1 0 (by omega))
                      clear hp4 HO4 HT4 HA4 HNw
                      go_wp2_with (first
                        | (refine unguard_any (by first | rfl | (simp [Region.wanted, yielded, Act.put]; done)) ?_; with_reducible refine idx_i 98 _ _ _ _ _ script rfl SLs _ _ (3 * j + 1) rfl (by omega) x1 hx1.out ?_; intro b98 o98 hc98 hbo98)
                        | (go_at_call 10; refine (HA9.out _).mono ?_; rintro e w5 ⟨rfl, rfl⟩)
                        | (with_reducible refine idx_i 119 _ _ _ _ _ script rfl SLs _ _ (3 * j + 1) rfl (by omega) x1 hx1.out ?_; intro b119 o119 hc119 hbo119)
                        | (go_at_call 20; refine hact.out.mono ?_; rintro e w9 ⟨rfl, A9⟩; have HA9 := hide A9; clear A9))
                      go_roundg (30 - (j + 1))
                      case measure => have := HG.out; omega
                      case rel => exact ⟨j + 1, _, by omega, rfl, by go_num, HA9.out⟩
                  · have d0 : ((kk : Int) == 0) = false := by simp; omega
                    have hact := hide (law35_act w1 w4 g r n wr.heap.size nL cL aL _ _ _ x1 HA4.out hp4.out hsz1 hn6 bx1 kk hkk)
                    clear hp4 HO4 HT4 HA4 HNw
                    go_wp2_with (first
                      | (refine unguard_any (by first | rfl | (simp [Region.wanted, yielded, Act.put]; done)) ?_; with_reducible refine idx_i 98 _ _ _ _ _ script rfl SLs _ _ (3 * j + 1) rfl (by omega) x1 hx1.out ?_; intro b98 o98 hc98 hbo98)
                      | (go_at_call 10; refine (HA9.out _).mono ?_; rintro e w5 ⟨rfl, rfl⟩)
                      | (with_reducible refine idx_i 119 _ _ _ _ _ script rfl SLs _ _ (3 * j + 1) rfl (by omega) x1 hx1.out ?_; intro b119 o119 hc119 hbo119)
                      | (go_at_call 20; refine hact.out.mono ?_; rintro e w9 ⟨rfl, A9⟩; have HA9 := hide A9; clear A9))
                    go_roundg (30 - (j + 1))
                    case measure => have := HG.out; omega
                    case rel => exact ⟨j + 1, _, by omega, rfl, by go_num, HA9.out⟩
              · have d2 : decide (3 * (j : Int) < 90) = false := decide_eq_false (by omega)
                go_wp2_with fail
                go_meet
                exact HA.out
            · have d1 : decide (3 * (j : Int) + 2 < (n2 : Int)) = false := decide_eq_false (by omega)
              go_wp2_with fail
              go_meet
              exact HA.out
        case rest =>
          obtain ⟨w4, rfl⟩ : ∃ w' : World, w' = wc := ⟨_, rfl⟩
          obtain ⟨pm, X, m, S, hC⟩ := hcut
          have HC := hide hC
          have hblc := hC.du.blw
          obtain ⟨TN, hTN⟩ : ∃ TN, Hid (S.tray.length = TN) := ⟨_, hide rfl⟩
          have hT1 : TN ≤ 1000 := by have := hC.inv.bud; rw [hTN.out] at this; omega
          have hbr1 : m.br ≤ 1000 := by have := hC.sum; omega
          have hpp1 : S.paper ≤ 1000 := by have := hC.inv.bud; omega
          obtain ⟨wk, hwk⟩ : ∃ wk, Hid ((if S.busy then 1 else 0) = wk) := ⟨_, hide rfl⟩
          have hwk1 : wk ≤ 1 := by rw [← hwk.out]; split <;> omega
          have hsum : (TN : Int) + (wk : Int) + (m.br : Int) + (S.paper : Int) = (n : Int) := by
            have h1 := hC.sum
            unfold tot at h1
            rw [hTN.out, hwk.out] at h1
            omega
          have hne : ((TN : Int) + (wk : Int) + (m.br : Int) + (S.paper : Int) != (n : Int)) = false := by rw [hsum]; simp
          have HS := hide hsum
          have hOut := hide (fun (w9 : World) (hb9 : Below w4.heap.size w4 w9) => by
            have h1 := pr_Out g pm S w9 (HC.out.du.p.below hb9) HC.out.inv.cts (by rw [hTN.out]; omega)
            rw [hTN.out] at h1
            exact h1)
          have hShR := hide (fun (w9 : World) (hb9 : Below w4.heap.size w4 w9) => by
            have h1 := shp_ref (HC.out.du.q.below hb9) (hblc.trans (hb9.mono hblc.size))
            rw [hTN.out] at h1
            exact h1)
          have SLPc := HP.out.below hblc
          have HBx := hC.du.q.box
          unfold rcells at HBx
          rw [hTN.out] at HBx
          have q2 : w4.cell? ⟨r, 2, none⟩ = some (.slice m.ta TN m.tc) := HBx.at_ rfl
          have q3 : w4.cell? ⟨r, 3, none⟩ = some (.bool S.busy) := HBx.at_ rfl
          have q10 : w4.cell? ⟨r, 10, none⟩ = some (.int .i64 (m.br : Int)) := HBx.at_ rfl
          have q0 : w4.cell? ⟨r, 0, none⟩ = some (.int .i64 (S.paper : Int)) := HBx.at_ rfl
          clear hC HBx hsum hPn hRn hb3 hA3
          go_wp2_with fail
          refine wp_region_free 7 [⟨0, 123, [123], fun vs _ => vs = [.pointer (some ⟨g, 0, none⟩)]⟩, ⟨1, 124, [124], OutF TN S.tray⟩, ⟨2, 125, [125], fun vs _ => vs = [.pointer (some ⟨r, 0, none⟩)]⟩, ⟨3, 126, [126], fun vs _ => vs = [.pointer (some ⟨r, 0, none⟩)]⟩, ⟨4, 127, [127], fun vs _ => vs = [.pointer (some ⟨r, 2, none⟩)]⟩, ⟨5, 128, [128], fun vs _ => vs = [.slice m.ta TN m.tc]⟩, ⟨6, 129, [129], fun vs _ => vs = [.bool true]⟩] (by kernel_rfl) (by kernel_rfl) ?_ ?_ ?_
          · simp only [All]
            refine ⟨fun _ _ _ _ h => h, ?_, fun _ _ _ _ h => h, fun _ _ _ _ h => h, fun _ _ _ _ h => h, fun _ _ _ _ h => h, fun _ _ _ _ h => h, trivial⟩
            · rintro vs w1 w2 hb ⟨a, c, ws, h1, h2⟩
              exact ⟨a, c, ws, h1, h2.below hb⟩
          · simp only [All]
            refine ⟨?_, ?_, ?_, ?_, ?_, ?_, ?_, trivial⟩
            · intro o ho a' w' hb hfr hdep
              obtain rfl := Option.some.inj ho
              have g11 : a'.tmps[11]?.getD undef = .pointer (some ⟨g, 0, none⟩) := by have h := hfr 11 (by kernel_rfl); simpa using h
              clear ho hfr hdep
              go_wp2_with fail
              exact ⟨rfl, _, rfl, Below.refl _ _, rfl⟩
            · intro o ho a' w' hb hfr hdep
              obtain rfl := Option.some.inj ho
              have g123 : a'.tmps[123]?.getD undef = .pointer (some ⟨g, 0, none⟩) := by have h := hdep 0 _ rfl (by kernel_rfl); simpa using h
              clear ho hfr hdep
              go_wp2_with (go_at_call 18; refine (hOut.out _ hb).mono ?_; rintro e w2 ⟨a, c, ws, rfl, hS, h2⟩)
              exact ⟨rfl, _, rfl, h2, a, c, ws, rfl, hS.shp⟩
            · intro o ho a' w' hb hfr hdep
              obtain rfl := Option.some.inj ho
              have g13 : a'.tmps[13]?.getD undef = .pointer (some ⟨r, 0, none⟩) := by have h := hfr 13 (by kernel_rfl); simpa using h
              clear ho hfr hdep
              go_wp2_with fail
              exact ⟨rfl, _, rfl, Below.refl _ _, rfl⟩
            · intro o ho a' w' hb hfr hdep
              obtain rfl := Option.some.inj ho
              have g125 : a'.tmps[125]?.getD undef = .pointer (some ⟨r, 0, none⟩) := by have h := hdep 2 _ rfl (by kernel_rfl); simpa using h
              clear ho hfr hdep
              go_wp2_with fail
              exact ⟨rfl, _, rfl, Below.refl _ _, rfl⟩
            · intro o ho a' w' hb hfr hdep
              obtain rfl := Option.some.inj ho
              have g126 : a'.tmps[126]?.getD undef = .pointer (some ⟨r, 0, none⟩) := by have h := hdep 3 _ rfl (by kernel_rfl); simpa using h
              clear ho hfr hdep
              go_wp2_with fail
              exact ⟨rfl, _, rfl, Below.refl _ _, rfl⟩
            · intro o ho a' w' hb hfr hdep
              obtain rfl := Option.some.inj ho
              have g127 : a'.tmps[127]?.getD undef = .pointer (some ⟨r, 2, none⟩) := by have h := hdep 4 _ rfl (by kernel_rfl); simpa using h
              clear ho hfr hdep
              have hcl := cell_below q2 hb
              go_wp2_with fail
              exact ⟨rfl, _, rfl, Below.refl _ _, rfl⟩
            · intro o ho a' w' hb hfr hdep
              obtain rfl := Option.some.inj ho
              obtain ⟨a124, c124, ws124, g124, P124⟩ := hdep 1 _ rfl (by kernel_rfl)
              simp at g124
              have g128 : a'.tmps[128]?.getD undef = .slice m.ta TN m.tc := by have h := hdep 5 _ rfl (by kernel_rfl); simpa using h
              clear ho hfr hdep
              have hst := hide (ref35_SameTrays S.tray ws124 m.ts a124 m.ta TN TN c124 m.tc w' P124 (hShR.out _ hb) (by rw [hTN.out]; omega))
              go_wp2_with (go_at_call 21; refine hst.out.mono ?_; rintro e w2 ⟨rfl, h2⟩)
              exact ⟨rfl, _, rfl, h2, rfl⟩
          · intro gg w5 hbl hp'
            have p129 := hp' 6 _ rfl
            clear hp'
            simp at p129
            simp only [List.drop_succ_cons, List.drop_zero, List.map_cons, List.map_nil, putAll, Act.put, List.setIfInBounds_toArray, List.set_cons_succ, List.set_cons_zero, List.cons_append, List.nil_append, p129]
            clear p129
            have c3 : w5.cell? ⟨r, 3, none⟩ = some (.bool S.busy) := cell_below q3 hbl
            replace q10 := cell_below q10 hbl
            replace q0 := cell_below q0 hbl
            replace SLPc := SLPc.below hbl
            replace hblc := hblc.trans (hbl.mono hblc.size)
            have hO5 := hOut.out
            replace hOut := hide (fun (w9 : World) (hb9 : Below w5.heap.size w5 w9) => hO5 w9 (hbl.trans (hb9.mono hbl.size)))
            clear hO5 q2 q3 hShR hbl HC
            go_upto_if 134 with fail
            go_cut [18] (fun v w' => w' = w5 ∧ v = .int .i64 (wk : Int))
            case first =>
              have hwk2 := hwk.out
              cases hbz : S.busy with
              | true =>
                rw [hbz] at hwk2
                simp only [if_true] at hwk2
                subst hwk2
                go_wp2_with fail
                go_meet
                exact ⟨rfl, rfl⟩
              | false =>
                rw [hbz] at hwk2
                simp only [if_false, Bool.false_eq_true] at hwk2
                subst hwk2
                go_wp2_with fail
                go_meet
                exact ⟨rfl, rfl⟩
            case rest =>
              obtain ⟨rfl, rfl⟩ := hcut
              obtain ⟨w5, rfl⟩ : ∃ w' : World, w' = wc := ⟨_, rfl⟩
              clear c3 hwk
              go_wp2_with fail
              refine wp_region_free 19 [⟨0, 135, [135], fun vs _ => vs = [.pointer (some ⟨g, 0, none⟩)]⟩, ⟨1, 136, [136], OutF TN S.tray⟩, ⟨2, 137, [137], fun vs _ => vs = [.int .i64 (TN : Int)]⟩, ⟨3, 138, [138], fun vs _ => vs = [.int .i64 (wk : Int)]⟩, ⟨4, 139, [139], fun vs _ => vs = [.int .i64 ((TN : Int) + (wk : Int))]⟩, ⟨5, 140, [140], fun vs _ => vs = [.pointer (some ⟨r, 0, none⟩)]⟩, ⟨6, 141, [141], fun vs _ => vs = [.pointer (some ⟨r, 0, none⟩)]⟩, ⟨7, 142, [142], fun vs _ => vs = [.pointer (some ⟨r, 10, none⟩)]⟩, ⟨8, 143, [143], fun vs _ => vs = [.int .i64 (m.br : Int)]⟩, ⟨9, 144, [144], fun vs _ => vs = [.int .i64 ((TN : Int) + (wk : Int) + (m.br : Int))]⟩, ⟨10, 145, [145], fun vs _ => vs = [.pointer (some ⟨r, 0, none⟩)]⟩, ⟨11, 146, [146], fun vs _ => vs = [.pointer (some ⟨r, 0, none⟩)]⟩, ⟨12, 147, [147], fun vs _ => vs = [.pointer (some ⟨r, 0, none⟩)]⟩, ⟨13, 148, [148], fun vs _ => vs = [.int .i64 (S.paper : Int)]⟩, ⟨14, 149, [149], fun vs _ => vs = [.int .i64 ((TN : Int) + (wk : Int) + (m.br : Int) + (S.paper : Int))]⟩, ⟨15, 150, [150], fun vs _ => vs = [.slice (some ⟨bP, 0, none⟩) 2 2]⟩, ⟨16, 151, [151], fun vs _ => vs = [.int .i64 (k : Int)]⟩, ⟨17, 152, [152], PapF (n : Int)⟩, ⟨18, 153, [153], fun vs _ => vs = [.int .i64 (n : Int)]⟩] (by kernel_rfl) (by kernel_rfl) ?_ ?_ ?_
              · simp only [All]
                refine ⟨fun _ _ _ _ h => h, ?_, fun _ _ _ _ h => h, fun _ _ _ _ h => h, fun _ _ _ _ h => h, fun _ _ _ _ h => h, fun _ _ _ _ h => h, fun _ _ _ _ h => h, fun _ _ _ _ h => h, fun _ _ _ _ h => h, fun _ _ _ _ h => h, fun _ _ _ _ h => h, fun _ _ _ _ h => h, fun _ _ _ _ h => h, fun _ _ _ _ h => h, fun _ _ _ _ h => h, fun _ _ _ _ h => h, ?_, fun _ _ _ _ h => h, trivial⟩
                · rintro vs w1 w2 hb ⟨a, c, ws, h1, h2⟩
                  exact ⟨a, c, ws, h1, h2.below hb⟩
                · rintro vs w1 w2 hb ⟨b, o, h1, h2⟩
                  exact ⟨b, o, h1, cell_blw h2 hb⟩
              · simp only [All]
                refine ⟨?_, ?_, ?_, ?_, ?_, ?_, ?_, ?_, ?_, ?_, ?_, ?_, ?_, ?_, ?_, ?_, ?_, ?_, ?_, trivial⟩
                · intro o ho a' w' hb hfr hdep
                  obtain rfl := Option.some.inj ho
                  have g11 : a'.tmps[11]?.getD undef = .pointer (some ⟨g, 0, none⟩) := by have h := hfr 11 (by kernel_rfl); simpa using h
                  clear ho hfr hdep
                  go_wp2_with fail
                  exact ⟨rfl, _, rfl, Below.refl _ _, rfl⟩
                · intro o ho a' w' hb hfr hdep
                  obtain rfl := Option.some.inj ho
                  have g135 : a'.tmps[135]?.getD undef = .pointer (some ⟨g, 0, none⟩) := by have h := hdep 0 _ rfl (by kernel_rfl); simpa using h
                  clear ho hfr hdep
                  go_wp2_with (go_at_call 18; refine (hOut.out _ hb).mono ?_; rintro e w2 ⟨a, c, ws, rfl, hS, h2⟩)
                  exact ⟨rfl, _, rfl, h2, a, c, ws, rfl, hS.shp⟩
                · intro o ho a' w' hb hfr hdep
                  obtain rfl := Option.some.inj ho
                  obtain ⟨a136, c136, ws136, g136, P136⟩ := hdep 1 _ rfl (by kernel_rfl)
                  simp at g136
                  clear ho hfr hdep
                  go_wp2_with fail
                  exact ⟨rfl, _, rfl, Below.refl _ _, rfl⟩
                · intro o ho a' w' hb hfr hdep
                  obtain rfl := Option.some.inj ho
                  have g18 : a'.tmps[18]?.getD undef = .int .i64 (wk : Int) := by have h := hfr 18 (by kernel_rfl); simpa using h
                  clear ho hfr hdep
                  go_wp2_with fail
                  exact ⟨rfl, _, rfl, Below.refl _ _, rfl⟩
                · intro o ho a' w' hb hfr hdep
                  obtain rfl := Option.some.inj ho
                  have g137 : a'.tmps[137]?.getD undef = .int .i64 (TN : Int) := by have h := hdep 2 _ rfl (by kernel_rfl); simpa using h
                  have g138 : a'.tmps[138]?.getD undef = .int .i64 (wk : Int) := by have h := hdep 3 _ rfl (by kernel_rfl); simpa using h
                  clear ho hfr hdep
                  go_wp2_with fail
                  exact ⟨rfl, _, rfl, Below.refl _ _, rfl⟩
                · intro o ho a' w' hb hfr hdep
                  obtain rfl := Option.some.inj ho
                  have g13 : a'.tmps[13]?.getD undef = .pointer (some ⟨r, 0, none⟩) := by have h := hfr 13 (by kernel_rfl); simpa using h
                  clear ho hfr hdep
                  go_wp2_with fail
                  exact ⟨rfl, _, rfl, Below.refl _ _, rfl⟩
                · intro o ho a' w' hb hfr hdep
                  obtain rfl := Option.some.inj ho
                  have g140 : a'.tmps[140]?.getD undef = .pointer (some ⟨r, 0, none⟩) := by have h := hdep 5 _ rfl (by kernel_rfl); simpa using h
                  clear ho hfr hdep
                  go_wp2_with fail
                  exact ⟨rfl, _, rfl, Below.refl _ _, rfl⟩
                · intro o ho a' w' hb hfr hdep
                  obtain rfl := Option.some.inj ho
                  have g141 : a'.tmps[141]?.getD undef = .pointer (some ⟨r, 0, none⟩) := by have h := hdep 6 _ rfl (by kernel_rfl); simpa using h
                  clear ho hfr hdep
                  go_wp2_with fail
                  exact ⟨rfl, _, rfl, Below.refl _ _, rfl⟩
                · intro o ho a' w' hb hfr hdep
                  obtain rfl := Option.some.inj ho
                  have g142 : a'.tmps[142]?.getD undef = .pointer (some ⟨r, 10, none⟩) := by have h := hdep 7 _ rfl (by kernel_rfl); simpa using h
                  clear ho hfr hdep
                  have hcl := cell_below q10 hb
                  go_wp2_with fail
                  exact ⟨rfl, _, rfl, Below.refl _ _, rfl⟩
                · intro o ho a' w' hb hfr hdep
                  obtain rfl := Option.some.inj ho
                  have g139 : a'.tmps[139]?.getD undef = .int .i64 ((TN : Int) + (wk : Int)) := by have h := hdep 4 _ rfl (by kernel_rfl); simpa using h
                  have g143 : a'.tmps[143]?.getD undef = .int .i64 (m.br : Int) := by have h := hdep 8 _ rfl (by kernel_rfl); simpa using h
                  clear ho hfr hdep
                  go_wp2_with fail
                  exact ⟨rfl, _, rfl, Below.refl _ _, rfl⟩
                · intro o ho a' w' hb hfr hdep
                  obtain rfl := Option.some.inj ho
                  have g13 : a'.tmps[13]?.getD undef = .pointer (some ⟨r, 0, none⟩) := by have h := hfr 13 (by kernel_rfl); simpa using h
                  clear ho hfr hdep
                  go_wp2_with fail
                  exact ⟨rfl, _, rfl, Below.refl _ _, rfl⟩
                · intro o ho a' w' hb hfr hdep
                  obtain rfl := Option.some.inj ho
                  have g145 : a'.tmps[145]?.getD undef = .pointer (some ⟨r, 0, none⟩) := by have h := hdep 10 _ rfl (by kernel_rfl); simpa using h
                  clear ho hfr hdep
                  go_wp2_with fail
                  exact ⟨rfl, _, rfl, Below.refl _ _, rfl⟩
                · intro o ho a' w' hb hfr hdep
                  obtain rfl := Option.some.inj ho
                  have g146 : a'.tmps[146]?.getD undef = .pointer (some ⟨r, 0, none⟩) := by have h := hdep 11 _ rfl (by kernel_rfl); simpa using h
                  clear ho hfr hdep
                  go_wp2_with fail
                  exact ⟨rfl, _, rfl, Below.refl _ _, rfl⟩
                · intro o ho a' w' hb hfr hdep
                  obtain rfl := Option.some.inj ho
                  have g147 : a'.tmps[147]?.getD undef = .pointer (some ⟨r, 0, none⟩) := by have h := hdep 12 _ rfl (by kernel_rfl); simpa using h
                  clear ho hfr hdep
                  have hcl := cell_below q0 hb
                  go_wp2_with fail
                  exact ⟨rfl, _, rfl, Below.refl _ _, rfl⟩
                · intro o ho a' w' hb hfr hdep
                  obtain rfl := Option.some.inj ho
                  have g144 : a'.tmps[144]?.getD undef = .int .i64 ((TN : Int) + (wk : Int) + (m.br : Int)) := by have h := hdep 9 _ rfl (by kernel_rfl); simpa using h
                  have g148 : a'.tmps[148]?.getD undef = .int .i64 (S.paper : Int) := by have h := hdep 13 _ rfl (by kernel_rfl); simpa using h
                  clear ho hfr hdep
                  go_wp2_with fail
                  exact ⟨rfl, _, rfl, Below.refl _ _, rfl⟩
                · intro o ho a' w' hb hfr hdep
                  obtain rfl := Option.some.inj ho
                  have g9 : a'.tmps[9]?.getD undef = .slice (some ⟨bP, 0, none⟩) 2 2 := by have h := hfr 9 (by kernel_rfl); simpa using h
                  clear ho hfr hdep
                  go_wp2_with fail
                  exact ⟨rfl, _, rfl, Below.refl _ _, rfl⟩
                · intro o ho a' w' hb hfr hdep
                  obtain rfl := Option.some.inj ho
                  have g10 : a'.tmps[10]?.getD undef = .int .i64 (k : Int) := by have h := hfr 10 (by kernel_rfl); simpa using h
                  clear ho hfr hdep
                  go_wp2_with fail
                  exact ⟨rfl, _, rfl, Below.refl _ _, rfl⟩
                · intro o ho a' w' hb hfr hdep
                  obtain rfl := Option.some.inj ho
                  have g150 : a'.tmps[150]?.getD undef = .slice (some ⟨bP, 0, none⟩) 2 2 := by have h := hdep 15 _ rfl (by kernel_rfl); simpa using h
                  have g151 : a'.tmps[151]?.getD undef = .int .i64 (k : Int) := by have h := hdep 16 _ rfl (by kernel_rfl); simpa using h
                  clear ho hfr hdep
                  refine idx_i 152 _ _ _ _ _ [(j5 : Int), P1] (by show a'.tmps.getD 150 undef = _; simpa using g150) (SLPc.below hb) _ _ k (by show a'.tmps.getD 151 undef = _; simpa using g151) rfl (n : Int) hN.out ?_
                  intro b o hcell hbo
                  exact ⟨rfl, _, rfl, Below.refl _ _, b, o, rfl, hcell⟩
                · intro o ho a' w' hb hfr hdep
                  obtain rfl := Option.some.inj ho
                  obtain ⟨b152, o152, g152, c152⟩ := hdep 17 _ rfl (by kernel_rfl)
                  simp at g152
                  clear ho hfr hdep
                  have hcl := c152
                  go_wp2_with fail
                  exact ⟨rfl, _, rfl, Below.refl _ _, rfl⟩
              · intro gg w6 hbl hp'
                have p149 := hp' 14 _ rfl
                have p153 := hp' 18 _ rfl
                clear hp'
                simp at p149 p153
                simp only [List.drop_succ_cons, List.drop_zero, List.map_cons, List.map_nil, putAll, Act.put, List.setIfInBounds_toArray, List.set_cons_succ, List.set_cons_zero, List.cons_append, List.nil_append, p149, p153]
                clear p149 p153
                have hb16 := hblc.trans (hbl.mono hblc.size)
                clear hbl q0 q10 hOut SLPc
                go_wp2_with fail
                go_roundg (2 - (k + 1))
                case measure => omega
                case rel => exact ⟨k + 1, by omega, rfl, by go_num, hb16⟩
            

    · obtain rfl : k = 2 := by omega
      have hN0 := hide (pr_New 0 0 wr rfl (by omega))
      go_wp2_with (go_at_call 15; refine hN0.out.mono ?_; rintro e w2 ⟨g, rfl, hPn, hg1, hb2⟩; refine hold ?_)
      refine hide ?_
      have HPn := hide hPn
      have hB2 := hbw.trans (hb2.mono hbw.size)
      have hgB := Nat.le_trans hbw.size hg1
      clear hPn hb2 hN0 hg1
      go_wp2_with (with_reducible refine make_row 162 _ _ _ 28 (.slice none 0 0) 24 Try.underlying23 info_pg rfl .i64 .i64 128 128 128 rfl rfl rfl rfl (by decide) (by decide) ?_; intro w3 hr3 hb3 hz3; refine hold ?_)
      refine hide ?_
      have hld := hide (pr_Load g m0 (newP 0) w3 (HPn.out.below hb3) (by show 0 ≤ 64; omega) manyL (List.replicate 128 nilH) _ 128 128 (pgs_empty (row_boxP hr3) (by omega)) (by unfold manyL; simp))
      rw [many_1] at hld
      have hB3 := hB2.trans (hb3.mono hB2.size)
      clear hr3 hz3
      go_wp2_with (go_at_call 16; refine hld.out.mono ?_; rintro e w4 ⟨rfl, m4, A4, MV4⟩; refine hold ?_)
      refine hide ?_
      have h0 : ∀ b ∈ pfoot g m0, w1.heap.size ≤ b := fun b hb => by simp [pfoot, mutB, m0, blk, Go.Proofs.Ytdeknimelkdaeaa.hb, hbs, nilH] at hb; omega
      have HA4 : Hid (PAt w4 g m4 manyS) := hide A4
      have hN4 := MV4.new hB3.size h0
      have hB4 := hB3.trans (MV4.blw hB3.size h0)
      clear A4 MV4 hld hB3 hB2 hb3 h0
      go_wp2_with (first
        | (refine unguard_any (by first | rfl | (simp [Region.wanted, yielded, Act.put]; done)) ?_; with_reducible refine make_row 167 _ _ _ 28 (.slice none 0 0) 24 Try.underlying23 info_pg rfl .i64 .i64 1 1 1 rfl rfl rfl rfl (by decide) (by decide) ?_; intro w5 hr5 hb5 hz5; refine hold ?_))
      refine hide ?_
      have hld := hide (pr_Load g m4 manyS w5 (HA4.out.below hb5) (by decide +kernel) [[]] [nilH] _ 1 1 (pgs_empty (n := 1) (row_boxP hr5) (by omega)) (by simp))
      rw [many_2, many_3] at hld
      have hB5 := hB4.trans (hb5.mono hB4.size)
      clear hr5 hz5 hb5 hB4
      go_wp2_with (first
        | (go_at_call 16; refine hld.out.mono ?_; rintro e w6 ⟨rfl, m6, A6, MV6⟩; refine hold ?_))
      refine hide ?_
      have hst := hide (pr_Step g m6 manyS 0 w6 A6 (inv_load (inv_new (by omega)) manyL) (by omega))
      rw [many_4] at hst
      have hN6 := MV6.new hB5.size hN4
      have hB6 := hB5.trans (MV6.blw hB5.size hN4)
      have hlv := fun w' => law35_lives w'
      clear A6 MV6 hld hB5 hN4
      go_wp2_with (first
        | (go_at_call 17; refine hst.out.mono ?_; rintro e w7 ⟨rfl, m7, -, MV7⟩; refine hold ?_))
      refine hide ?_
      have hB7 := hB6.trans (MV7.blw hB6.size hN6)
      clear MV7 hst hB6
      go_wp2_with (go_at_call 14; refine (hlv _).mono ?_; rintro e w8 ⟨rfl, hb8⟩)
      go_ret
      exact ⟨rfl, HB01.out.trans ((hB7.trans (hb8.mono hB7.size)).mono HB01.out.size)⟩
end Go.Proofs.Ytdeknimelkdaeaa
end
