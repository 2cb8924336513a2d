/- The contracts of the functions that the law reaches, joined into one text. -/
import Derived.Test.YtfagjaabladgpaaDoorBaseBA
import Derived.MapKept
import Derived.Lib.Strings
import Derived.WideShapes
import Derived.StillTail
import Derived.Deep.Quiet
set_option linter.unusedVariables false
set_option linter.unusedSimpArgs false

section
/- Round trips of strings and lists. No Go. -/
namespace Go.Dx
def Round {α : Type} (P : α → Prop) (f : List UInt8 → α × Int × Int) (enc : α → List UInt8) : Prop :=
 ∀ x t, P x → f (enc x ++ t) = (x, (((enc x).length : Nat) : Int), 0) ∧ 1 ≤ (enc x).length
theorem round_int : Round (fun x => -9223372036854775808 ≤ x ∧ x ≤ 9223372036854775807) decInt encInt := fun x t h => ⟨decInt_enc h.1 h.2 t, encInt_pos x⟩
theorem cnt_round {N : Nat} (hN : N ≤ 9223372036854775807) {size : Int} (h1 : 1 ≤ size) {r : List UInt8} (hr : N * size.toNat ≤ r.length) : cntErr (encInt (N : Int) ++ r) size = 0 := by
 have hd := decInt_enc (n := (N : Int)) (by omega) (by omega) r
 unfold cntErr
 rw [hd, if_neg (by simp), if_neg (by simp only; omega), if_neg]
 simp only
 rw [List.length_append]
 obtain ⟨S, rfl⟩ := Int.eq_ofNat_of_zero_le (a := size) (by omega)
 simp only [Int.toNat_natCast] at hr
 intro h
 have h2 : ¬ (N : Int) ≤ (((encInt (N : Int)).length + r.length : Nat) - ((encInt (N : Int)).length : Int) : Int) / (S : Int) := by omega
 apply h2
 rw [Int.le_ediv_iff_mul_le (by omega)]
 have h3 : ((N * S : Nat) : Int) = (N : Int) * (S : Int) := by simp
 rw [← h3]
 omega
theorem round_bytes : Round (fun s : ByteArray => s.size ≤ 9223372036854775807) decBytes (fun s => encBytes s.data.toList) := fun s t hs => by
 have hl : s.data.toList.length = s.size := Array.length_toList
 refine ⟨?_, ?_⟩
 ·have e : encBytes s.data.toList ++ t = encInt (s.size : Int) ++ (s.data.toList ++ t) := by unfold encBytes; rw [hl, List.append_assoc]
  have hc : cntErr (encInt (s.size : Int) ++ (s.data.toList ++ t)) 1 = 0 := cnt_round hs (by omega) (by rw [List.length_append]; simp)
  have hd := decInt_enc (n := (s.size : Int)) (by omega) (by omega) (s.data.toList ++ t)
  simp only [e]
  unfold decBytes
  rw [if_pos hc, hd]
  simp only [Int.toNat_natCast]
  have e2 : (encInt (s.size : Int) ++ (s.data.toList ++ t)).drop (encInt (s.size : Int)).length = s.data.toList ++ t := List.drop_left
  have e3 : (s.data.toList ++ t).take s.size = s.data.toList := by rw [← hl]; exact List.take_left
  rw [e2, e3]
  unfold encBytes
  rw [hl, List.length_append, hl]
  simp
 ·have := encInt_pos (s.data.toList.length : Int)
  unfold encBytes
  rw [List.length_append]
  omega
theorem seqTo_round {α : Type} {P : α → Prop} {f : List UInt8 → α × Int × Int} {enc : α → List UInt8} (hf : Round P f enc) (pre t : List UInt8) : ∀ (xs : List α), (∀ x ∈ xs, P x) →
  ∀ k, k ≤ xs.length → seqTo f (pre ++ (xs.flatMap enc ++ t)) pre.length k = (xs.take k, pre.length + ((xs.take k).flatMap enc).length, 0) := by
 intro xs hP k
 induction k with
 | zero => intro _; simp [seqTo]
 | succ k ih =>
  intro hk
  have h := ih (by omega)
  have hx : k < xs.length := by omega
  have hsplit : xs.flatMap enc = (xs.take k).flatMap enc ++ (enc xs[k] ++ (xs.drop (k + 1)).flatMap enc) := by
   conv => lhs; rw [← List.take_append_drop k xs, List.drop_eq_getElem_cons hx]
   rw [List.flatMap_append, List.flatMap_cons]
  have hd : (pre ++ (xs.flatMap enc ++ t)).drop (pre.length + ((xs.take k).flatMap enc).length) = enc xs[k] ++ ((xs.drop (k + 1)).flatMap enc ++ t) := by
   rw [List.drop_append, List.drop_of_length_le (by omega), List.nil_append, Nat.add_sub_cancel_left, hsplit, List.append_assoc, List.drop_left, List.append_assoc]
  have hr := (hf xs[k] ((xs.drop (k + 1)).flatMap enc ++ t) (hP _ (List.getElem_mem hx))).1
  rw [seqTo_step h (by rw [hd, hr]), hd, hr]
  have ht : xs.take (k + 1) = xs.take k ++ [xs[k]] := by rw [List.take_add_one, List.getElem?_eq_getElem hx]; rfl
  rw [ht, List.flatMap_append, List.length_append]
  simp [Nat.add_assoc]
theorem flatMap_ge {α : Type} {enc : α → List UInt8} : ∀ {xs : List α}, (∀ x ∈ xs, 1 ≤ (enc x).length) → xs.length ≤ (xs.flatMap enc).length
 | [], _ => by simp
 | x :: xs, h => by
  rw [List.flatMap_cons, List.length_append, List.length_cons]
  have := h x List.mem_cons_self
  have := flatMap_ge (xs := xs) fun y hy => h y (List.mem_cons_of_mem _ hy)
  omega
theorem decSeq_round {α : Type} {P : α → Prop} {f : List UInt8 → α × Int × Int} {enc : α → List UInt8} (hf : Round P f enc) (xs : List α) (hP : ∀ x ∈ xs, P x) (hN : xs.length ≤ 9223372036854775807) (t : List UInt8) :
  decSeq f ((encInt (xs.length : Int) ++ xs.flatMap enc) ++ t) = (xs, (((encInt (xs.length : Int) ++ xs.flatMap enc).length : Nat) : Int), 0) := by
 have hge : xs.length ≤ (xs.flatMap enc).length := flatMap_ge fun x hx => (hf x [] (hP x hx)).2
 have hd := decInt_enc (n := (xs.length : Int)) (by omega) (by omega) (xs.flatMap enc ++ t)
 have hc : cntErr (encInt (xs.length : Int) ++ (xs.flatMap enc ++ t)) 1 = 0 := cnt_round hN (by omega) (by rw [List.length_append, show ((1 : Int).toNat) = 1 from rfl]; omega)
 have hs := seqTo_round hf (encInt (xs.length : Int)) t xs hP xs.length (Nat.le_refl _)
 rw [List.take_length] at hs
 rw [List.append_assoc, decSeq_ok hc (by rw [hd]) (by rw [hd]) hs, List.length_append]
end Go.Dx
end

section
/- Proper prefixes of encodings ask for more. No Go. -/
namespace Go.Dx

theorem cnt_more_enc {N : Nat} (hN : N ≤ 9223372036854775807) {size : Int} {i : Nat} (r : List UInt8) (hi : i < (encInt (N : Int)).length) : cntErr ((encInt (N : Int) ++ r).take i) size = 3 := by
 have h := decInt_cut (n := (N : Int)) (by omega) (by omega) hi
 rw [List.take_append_of_le_length (by omega)]
 unfold cntErr
 rw [h, if_pos (by decide)]
theorem cnt_more {N : Nat} (hN : N ≤ 9223372036854775807) {S : Nat} (h1 : 1 ≤ S) (t : List UInt8) (ht : t.length < N * S) : cntErr (encInt (N : Int) ++ t) (S : Int) = 3 := by
 have hd := decInt_enc (n := (N : Int)) (by omega) (by omega) t
 unfold cntErr
 rw [hd, if_neg (by simp), if_neg (by simp only; omega), if_pos]
 simp only
 rw [List.length_append]
 have e : (((encInt (N : Int)).length + t.length : Nat) : Int) - ((encInt (N : Int)).length : Int) = (t.length : Int) := by omega
 rw [e]
 have h3 : t.length / S < N := (Nat.div_lt_iff_lt_mul (by omega)).2 ht
 have h4 : (t.length : Int) / (S : Int) = ((t.length / S : Nat) : Int) := by simp
 rw [h4]
 omega
theorem take_enc {N : Nat} (r : List UInt8) {i : Nat} (hi : (encInt (N : Int)).length ≤ i) : (encInt (N : Int) ++ r).take i = encInt (N : Int) ++ r.take (i - (encInt (N : Int)).length) := by
 rw [List.take_append, List.take_of_length_le hi]
def Cuts {α : Type} (P : α → Prop) (f : List UInt8 → α × Int × Int) (enc : α → List UInt8) : Prop := ∀ x i, P x → i < (enc x).length → (f ((enc x).take i)).2.2 = 3
theorem cuts_int : Cuts (fun x => -9223372036854775808 ≤ x ∧ x ≤ 9223372036854775807) decInt encInt := fun x i h hi => by rw [decInt_cut h.1 h.2 hi]
theorem cuts_bytes : Cuts (fun s : ByteArray => s.size ≤ 9223372036854775807) decBytes (fun s => encBytes s.data.toList) := fun s i hs hi => by
 have hl : s.data.toList.length = s.size := Array.length_toList
 simp only [encBytes] at hi ⊢
 rw [hl] at hi ⊢
 rw [List.length_append, hl] at hi
 have hs : s.size ≤ 9223372036854775807 := hs
 have hc : cntErr ((encInt (s.size : Int) ++ s.data.toList).take i) 1 = 3 := by
  by_cases h : i < (encInt (s.size : Int)).length
  ·exact cnt_more_enc hs _ h
  ·rw [take_enc _ (by omega)]
   exact cnt_more (S := 1) hs (by omega) _ (by rw [List.length_take, hl]; omega)
 unfold decBytes
 rw [if_neg (by rw [hc]; decide), hc]

theorem cut_at {α : Type} (enc : α → List UInt8) : ∀ (xs : List α) (j : Nat), j < (xs.flatMap enc).length →
  ∃ (k : Nat) (hk : k < xs.length) (m : Nat), m < (enc xs[k]).length ∧ (xs.flatMap enc).take j = (xs.take k).flatMap enc ++ (enc xs[k]).take m
 | [], j, h => by simp at h
 | x :: xs, j, h => by
  rw [List.flatMap_cons, List.length_append] at h
  by_cases hj : j < (enc x).length
  ·refine ⟨0, by simp, j, by simpa using hj, ?_⟩
   rw [List.flatMap_cons, List.take_append_of_le_length (by omega)]
   simp
  ·obtain ⟨k, hk, m, hm, e⟩ := cut_at enc xs (j - (enc x).length) (by omega)
   refine ⟨k + 1, by simpa using hk, m, by simpa using hm, ?_⟩
   rw [List.flatMap_cons, List.take_append, List.take_of_length_le (by omega), e]
   simp
theorem decSeq_cut {α : Type} {P : α → Prop} {f : List UInt8 → α × Int × Int} {enc : α → List UInt8} (hf : Round P f enc) (hc : Cuts P f enc) (xs : List α) (hP : ∀ x ∈ xs, P x) (hN : xs.length ≤ 9223372036854775807)
  {i : Nat} (hi : i < (encInt (xs.length : Int) ++ xs.flatMap enc).length) : decSeq f ((encInt (xs.length : Int) ++ xs.flatMap enc).take i) = ([], 0, 3) := by
 rw [List.length_append] at hi
 by_cases h : i < (encInt (xs.length : Int)).length
 ·rw [decSeq_cnt (by rw [cnt_more_enc hN _ h]; decide), cnt_more_enc hN _ h]
 ·rw [take_enc _ (by omega)]
  generalize hj : i - (encInt (xs.length : Int)).length = j
  have hj2 : j < (xs.flatMap enc).length := by omega
  by_cases hlt : j < xs.length * 1
  ·have h3 : cntErr (encInt (xs.length : Int) ++ (xs.flatMap enc).take j) 1 = 3 := cnt_more (S := 1) hN (by omega) _ (by rw [List.length_take]; omega)
   rw [decSeq_cnt (by rw [h3]; decide), h3]
  ·have h0 : cntErr (encInt (xs.length : Int) ++ (xs.flatMap enc).take j) 1 = 0 := cnt_round hN (by omega) (by rw [List.length_take]; show _ * 1 ≤ _; omega)
   have hd := decInt_enc (n := (xs.length : Int)) (by omega) (by omega) ((xs.flatMap enc).take j)
   obtain ⟨k, hk, m, hm, e⟩ := cut_at enc xs j hj2
   have hs := seqTo_round hf (encInt (xs.length : Int)) ((enc xs[k]).take m) (xs.take k) (fun x hx => hP x (List.mem_of_mem_take hx)) k (by rw [List.length_take]; omega)
   rw [List.take_take, Nat.min_self] at hs
   rw [e]
   rw [e] at h0 hd
   have hdrop : (encInt (xs.length : Int) ++ ((xs.take k).flatMap enc ++ (enc xs[k]).take m)).drop ((encInt (xs.length : Int)).length + ((xs.take k).flatMap enc).length) = (enc xs[k]).take m := by
    rw [← List.append_assoc, ← List.length_append, List.drop_left]
   have h3 := hc xs[k] m (hP _ (List.getElem_mem hk)) hm
   have hst := seqTo_stop hs (by rw [hdrop, h3]; decide)
   rw [hdrop, h3] at hst
   exact decSeq_err h0 (by rw [hd]) (by rw [hd]) hk (by decide) hst
end Go.Dx
end

section
/- Chapter 06, in plain Lean: characters, cells, rules, tables, and the error of tables. No program in sight. -/
namespace Go.Dx

def isS (c : UInt8) : Bool := decide (97 ≤ c.toNat) && decide (c.toNat ≤ 122)
def isC (c : UInt8) : Bool := decide (65 ≤ c.toNat) && decide (c.toNat ≤ 90)
def isL (c : UInt8) : Bool := isS c || isC c
def low (c : UInt8) : UInt8 := if isC c then c + 32 else c
def isD (c : UInt8) : Bool := decide (48 ≤ c.toNat) && decide (c.toNat ≤ 57)
def isW (c : UInt8) : Bool := decide (32 ≤ c.toNat) && decide (c.toNat ≤ 126)
def cellOk (c : UInt8) : Bool := decide (1 ≤ c.toNat) && decide (c.toNat ≤ 63)
def okCells (l : List UInt8) : Bool := l.all cellOk
def indic (l : List UInt8) : Bool := decide (1 ≤ l.length) && decide (l.length ≤ 4) && okCells l
def chars (s : ByteArray) : List UInt8 := s.data.toList
def small (s : ByteArray) : Bool := (chars s).all isS

structure Ru where
 text : ByteArray
 whr : Int
 cells : List UInt8

def oneMark (s : ByteArray) : Bool := match chars s with
 | [c] => isW c && !isL c && !isD c
 | _ => false
def ruOk (r : Ru) : Bool :=
 decide (1 ≤ r.text.size) && decide (r.text.size ≤ 8) && decide (0 ≤ r.whr) && decide (r.whr ≤ 3) && indic r.cells && (small r.text || oneMark r.text && decide (r.whr = 0))

structure Ta where
 l0 : List Ru
 l1 : List Ru
 dig : List UInt8
 cap : List UInt8
 num : List UInt8
 fin : List UInt8
 sw : List UInt8

def nameOf (r : Ru) : List UInt8 × Int := (chars r.text, r.whr)
def dupB (l : List Ru) : Bool := !decide (l.map nameOf).Nodup
def ownB (l : List Ru) (c : UInt8) : Bool := decide (([c], (0 : Int)) ∈ l.map nameOf)
def missB (l : List Ru) : Bool := (List.range 26).any fun k => !ownB l (UInt8.ofNat (97 + k))
def goodT (t : Ta) : Bool :=
 decide (t.dig.length = 10) && okCells t.dig && indic t.cap && indic t.num && indic t.fin && indic t.sw && t.l0.all ruOk && t.l1.all ruOk
def validE (t : Ta) : Int :=
 if 96 < t.l0.length ∨ 96 < t.l1.length then 4
 else if goodT t = false then 1
 else if (dupB t.l0 || dupB t.l1) = true then 7
 else if (missB t.l0 || missB t.l1) = true then 6 else 0

structure Sy where
 lang : Int
 c : UInt8
 deriving DecidableEq
def symOk (x : Sy) : Bool := (decide (x.lang = 0) || decide (x.lang = 1)) && isW x.c
def goodS (l : List Sy) : Bool := l.all symOk
def inWord (l : List Sy) (i : Nat) : Bool := match i with
 | 0 => false
 | k + 1 => match l[k]?, l[k + 1]? with
  | some x, some y => isL x.c && isL y.c && decide (x.lang = y.lang)
  | _, _ => false
def sameAt (g : Int) : Bool → List UInt8 → List Sy → Bool
 | _, [], _ => true
 | _, _ :: _, [] => false
 | b, u :: s, x :: l => decide (low x.c = u) && decide (x.lang = g) && (b || !isC x.c) && sameAt g false s l
def placeOk (r : Ru) (l : List Sy) (i : Nat) : Bool :=
 !small r.text || (if r.whr = 1 then !inWord l i && !inWord l (i + r.text.size) else if r.whr = 2 then !inWord l i && inWord l (i + r.text.size) else if r.whr = 3 then inWord l i else true)
def fitsB (r : Ru) (l : List Sy) (i : Nat) : Bool :=
 match l[i]? with
 | none => decide (r.text.size = 0)
 | some x => sameAt x.lang true (chars r.text) (l.drop i) && placeOk r l i

structure St where
 lang : Int
 num : Bool
 wrd : Bool
 deriving DecidableEq
structure Stp where
 dst : St
 len : Int
 cells : List UInt8
 rule : Int
 deriving DecidableEq
def headC (t : Ta) (s : St) (x : Sy) : List UInt8 := (if s.num && isL x.c then t.fin else []) ++ (if isC x.c then t.cap else [])
def ruleSteps (t : Ta) (s : St) (x : Sy) (l : List Sy) (i : Nat) : Nat → List Ru → List Stp
 | _, [] => []
 | k, r :: rs => (if fitsB r l i then [⟨⟨x.lang, false, isL x.c⟩, (r.text.size : Int), headC t s x ++ r.cells, (k : Int)⟩] else []) ++ ruleSteps t s x l i (k + 1) rs
def langOf (t : Ta) (g : Int) : List Ru := if g = 0 then t.l0 else t.l1
def nextL (t : Ta) (s : St) (l : List Sy) (i : Nat) (x : Sy) : List Stp :=
 if x.lang ≠ s.lang then [⟨⟨x.lang, false, false⟩, 0, t.sw, -1⟩]
 else if isD x.c then [⟨⟨x.lang, true, false⟩, 1, (if s.num then [] else t.num) ++ [t.dig.getD (x.c.toNat - 48) 0], -1⟩]
 else ruleSteps t s x l i 0 (langOf t x.lang)
def stepsL (t : Ta) (s : St) (l : List Sy) (i : Int) : List Stp :=
 if validE t = 0 ∧ (s.lang = 0 ∨ s.lang = 1) ∧ 0 ≤ i ∧ goodS l = true then
  match l[i.toNat]? with
  | none => []
  | some x => nextL t s l i.toNat x
 else []
end Go.Dx
end

section
/- Chapter 06, in plain Lean: the bytes of tables, written and read. No program in sight. -/
namespace Go.Dx
def thenD {α β γ : Type} (f : List UInt8 → α × Int × Int) (g : List UInt8 → β × Int × Int) (h : α → β → γ) (d : γ) (b : List UInt8) : γ × Int × Int :=
 if (f b).2.2 ≠ 0 then (d, 0, (f b).2.2)
 else if (g (b.drop (f b).2.1.toNat)).2.2 ≠ 0 then (d, 0, (g (b.drop (f b).2.1.toNat)).2.2)
 else (h (f b).1 (g (b.drop (f b).2.1.toNat)).1, (f b).2.1 + (g (b.drop (f b).2.1.toNat)).2.1, 0)
theorem thenD_fst {α β γ : Type} {f : List UInt8 → α × Int × Int} {g : List UInt8 → β × Int × Int} {h : α → β → γ} {d : γ} {b : List UInt8} (h1 : (f b).2.2 ≠ 0) : thenD f g h d b = (d, 0, (f b).2.2) := by unfold thenD; rw [if_pos h1]
theorem thenD_snd {α β γ : Type} {f : List UInt8 → α × Int × Int} {g : List UInt8 → β × Int × Int} {h : α → β → γ} {d : γ} {b : List UInt8} (h1 : (f b).2.2 = 0) (h2 : (g (b.drop (f b).2.1.toNat)).2.2 ≠ 0) : thenD f g h d b = (d, 0, (g (b.drop (f b).2.1.toNat)).2.2) := by
 unfold thenD; rw [if_neg (by simp [h1]), if_pos h2]
theorem thenD_ok {α β γ : Type} {f : List UInt8 → α × Int × Int} {g : List UInt8 → β × Int × Int} {h : α → β → γ} {d : γ} {b : List UInt8} (h1 : (f b).2.2 = 0) (h2 : (g (b.drop (f b).2.1.toNat)).2.2 = 0) :
  thenD f g h d b = (h (f b).1 (g (b.drop (f b).2.1.toNat)).1, (f b).2.1 + (g (b.drop (f b).2.1.toNat)).2.1, 0) := by
 unfold thenD; rw [if_neg (by simp [h1]), if_neg (by simp [h2])]
theorem thenD_round {α β γ : Type} {f : List UInt8 → α × Int × Int} {g : List UInt8 → β × Int × Int} {h : α → β → γ} {d : γ} {P : α → Prop} {Q : β → Prop} {e1 : α → List UInt8} {e2 : β → List UInt8}
  (hf : Round P f e1) (hg : Round Q g e2) {R : γ → Prop} {e : γ → List UInt8} (p1 : γ → α) (p2 : γ → β) (he : ∀ z, e z = e1 (p1 z) ++ e2 (p2 z)) (hR : ∀ z, R z → P (p1 z) ∧ Q (p2 z)) (hh : ∀ z, R z → h (p1 z) (p2 z) = z) :
  Round R (thenD f g h d) e := fun z t hz => by
 obtain ⟨hp, hq⟩ := hR z hz
 have h1 := hf (p1 z) (e2 (p2 z) ++ t) hp
 have h2 := hg (p2 z) t hq
 rw [he z, List.append_assoc]
 have hd : (e1 (p1 z) ++ (e2 (p2 z) ++ t)).drop (f (e1 (p1 z) ++ (e2 (p2 z) ++ t))).2.1.toNat = e2 (p2 z) ++ t := by
  rw [h1.1]
  simp
 refine ⟨?_, by rw [List.length_append]; have := h1.2; omega⟩
 rw [thenD_ok (by rw [h1.1]) (by rw [hd, h2.1]), hd, h1.1, h2.1, List.length_append]
 simp only [hh z hz]
 simp
theorem thenD_cuts {α β γ : Type} {f : List UInt8 → α × Int × Int} {g : List UInt8 → β × Int × Int} {h : α → β → γ} {d : γ} {P : α → Prop} {Q : β → Prop} {e1 : α → List UInt8} {e2 : β → List UInt8}
  (hf : Round P f e1) (cf : Cuts P f e1) (cg : Cuts Q g e2) {R : γ → Prop} {e : γ → List UInt8} (p1 : γ → α) (p2 : γ → β) (he : ∀ z, e z = e1 (p1 z) ++ e2 (p2 z)) (hR : ∀ z, R z → P (p1 z) ∧ Q (p2 z)) :
  Cuts R (thenD f g h d) e := fun z i hz hi => by
 obtain ⟨hp, hq⟩ := hR z hz
 rw [he z] at hi ⊢
 rw [List.length_append] at hi
 by_cases h1 : i < (e1 (p1 z)).length
 ·rw [List.take_append_of_le_length (by omega)]
  have h3 := cf (p1 z) i hp h1
  rw [thenD_fst (by rw [h3]; decide), h3]
 ·rw [List.take_append, List.take_of_length_le (by omega)]
  have h2 := hf (p1 z) ((e2 (p2 z)).take (i - (e1 (p1 z)).length)) hp
  have h3 := cg (p2 z) (i - (e1 (p1 z)).length) hq (by omega)
  have hd : (e1 (p1 z) ++ (e2 (p2 z)).take (i - (e1 (p1 z)).length)).drop (f (e1 (p1 z) ++ (e2 (p2 z)).take (i - (e1 (p1 z)).length))).2.1.toNat = (e2 (p2 z)).take (i - (e1 (p1 z)).length) := by
   rw [h2.1]
   simp
  rw [thenD_snd (by rw [h2.1]) (by rw [hd, h3]; decide), hd, h3]
def manyD {α : Type} (f : List UInt8 → α × Int × Int) (b : List UInt8) : List α × Int × Int :=
 if (decInt b).2.2 ≠ 0 then ([], 0, (decInt b).2.2)
 else if (decInt b).1 < 0 then ([], 0, 2)
 else if (seqTo f b (decInt b).2.1.toNat (decInt b).1.toNat).2.2 ≠ 0 then ([], 0, (seqTo f b (decInt b).2.1.toNat (decInt b).1.toNat).2.2)
 else ((seqTo f b (decInt b).2.1.toNat (decInt b).1.toNat).1, ((seqTo f b (decInt b).2.1.toNat (decInt b).1.toNat).2.1 : Int), 0)
def encMany {α : Type} (e : α → List UInt8) (l : List α) : List UInt8 := encInt l.length ++ l.flatMap e
theorem manyD_round {α : Type} {P : α → Prop} {f : List UInt8 → α × Int × Int} {e : α → List UInt8} (hf : Round P f e) : Round (fun l : List α => l.length ≤ 9223372036854775807 ∧ ∀ x ∈ l, P x) (manyD f) (encMany e) := fun l t hl => by
 have hd := decInt_enc (n := (l.length : Int)) (by omega) (by have := hl.1; omega) (l.flatMap e ++ t)
 have hs := seqTo_round hf (encInt (l.length : Int)) t l hl.2 l.length (Nat.le_refl _)
 rw [List.take_length] at hs
 unfold encMany
 rw [List.append_assoc]
 refine ⟨?_, by rw [List.length_append]; have := encInt_pos (l.length : Int); omega⟩
 unfold manyD
 rw [hd]
 simp only [Int.toNat_natCast]
 rw [if_neg (by simp), if_neg (by omega), hs, if_neg (by simp), List.length_append]
theorem manyD_cuts {α : Type} {P : α → Prop} {f : List UInt8 → α × Int × Int} {e : α → List UInt8} (hf : Round P f e) (hc : Cuts P f e) : Cuts (fun l : List α => l.length ≤ 9223372036854775807 ∧ ∀ x ∈ l, P x) (manyD f) (encMany e) := fun l i hl hi => by
 unfold encMany at hi ⊢
 rw [List.length_append] at hi
 by_cases h : i < (encInt (l.length : Int)).length
 ·have h3 := decInt_cut (n := (l.length : Int)) (by omega) (by have := hl.1; omega) h
  rw [List.take_append_of_le_length (by omega)]
  unfold manyD
  rw [h3, if_pos (by decide)]
 ·rw [take_enc _ (by omega)]
  generalize hj : i - (encInt (l.length : Int)).length = j
  have hj2 : j < (l.flatMap e).length := by omega
  have hd := decInt_enc (n := (l.length : Int)) (by omega) (by have := hl.1; omega) ((l.flatMap e).take j)
  obtain ⟨k, hk, m, hm, he⟩ := cut_at e l j hj2
  have hs := seqTo_round hf (encInt (l.length : Int)) ((e l[k]).take m) (l.take k) (fun x hx => hl.2 x (List.mem_of_mem_take hx)) k (by rw [List.length_take]; omega)
  rw [List.take_take, Nat.min_self] at hs
  rw [he] at hd ⊢
  have hdrop : (encInt (l.length : Int) ++ ((l.take k).flatMap e ++ (e l[k]).take m)).drop ((encInt (l.length : Int)).length + ((l.take k).flatMap e).length) = (e l[k]).take m := by
   rw [← List.append_assoc, ← List.length_append, List.drop_left]
  have h3 := hc l[k] m (hl.2 _ (List.getElem_mem hk)) hm
  have hst := seqTo_stop hs (by rw [hdrop, h3]; decide)
  rw [hdrop, h3] at hst
  obtain ⟨q, hq⟩ : ∃ q, l.length = (k + 1) + q := ⟨l.length - (k + 1), by omega⟩
  have hall := seqTo_err (f := f) (l := encInt (l.length : Int) ++ ((l.take k).flatMap e ++ (e l[k]).take m)) (A := (encInt (l.length : Int)).length) (k := k + 1) (by rw [hst]; simp) q
  rw [← hq, hst] at hall
  unfold manyD
  rw [hd]
  simp only [Int.toNat_natCast]
  rw [if_neg (by simp), if_neg (by omega), hall, if_pos (by simp)]
def S8 (l : List UInt8) : ByteArray := ⟨l.toArray⟩
theorem S8_list (l : List UInt8) : (S8 l).data.toList = l := by unfold S8; simp
theorem S8_size (l : List UInt8) : (S8 l).size = l.length := by unfold S8; show l.toArray.size = _; simp
def encRu (r : Ru) : List UInt8 := encBytes r.text.data.toList ++ (encInt r.whr ++ encBytes r.cells)
def encTa (t : Ta) : List UInt8 := encMany encRu t.l0 ++ (encMany encRu t.l1 ++ encStrs [S8 t.dig, S8 t.cap, S8 t.num, S8 t.fin, S8 t.sw])
def ru0 : Ru := ⟨⟨#[]⟩, 0, []⟩
def ta0 : Ta := ⟨[], [], [], [], [], [], []⟩
def decRu : List UInt8 → Ru × Int × Int := thenD decBytes (thenD decInt decBytes (fun w c => (w, c)) (0, ⟨#[]⟩)) (fun s q => ⟨s, q.1, q.2.data.toList⟩) ru0
def decFive (b : List UInt8) : List ByteArray × Int × Int :=
 if (decSeq decBytes b).2.2 ≠ 0 then ([], 0, (decSeq decBytes b).2.2) else if (decSeq decBytes b).1.length ≠ 5 then ([], 0, 2) else decSeq decBytes b
def five (x : List (List Ru)) (l : List ByteArray) : Ta := ⟨x.getD 0 [], x.getD 1 [], (l.getD 0 ⟨#[]⟩).data.toList, (l.getD 1 ⟨#[]⟩).data.toList, (l.getD 2 ⟨#[]⟩).data.toList, (l.getD 3 ⟨#[]⟩).data.toList, (l.getD 4 ⟨#[]⟩).data.toList⟩
def decTa : List UInt8 → Ta × Int × Int := thenD (manyD decRu) (thenD (manyD decRu) decFive (fun y l => (y, l)) ([], [])) (fun x q => five [x, q.1] q.2) ta0
def RuB (r : Ru) : Prop := r.text.size ≤ 9223372036854775807 ∧ (-9223372036854775808 ≤ r.whr ∧ r.whr ≤ 9223372036854775807) ∧ r.cells.length ≤ 9223372036854775807
def TaB (t : Ta) : Prop := (t.l0.length ≤ 9223372036854775807 ∧ ∀ r ∈ t.l0, RuB r) ∧ (t.l1.length ≤ 9223372036854775807 ∧ ∀ r ∈ t.l1, RuB r) ∧ ∀ x ∈ [t.dig, t.cap, t.num, t.fin, t.sw], x.length ≤ 9223372036854775807
theorem ru_round : Round RuB decRu encRu :=
 thenD_round round_bytes
  (thenD_round (R := fun q : Int × ByteArray => (-9223372036854775808 ≤ q.1 ∧ q.1 ≤ 9223372036854775807) ∧ q.2.size ≤ 9223372036854775807) (e := fun q : Int × ByteArray => encInt q.1 ++ encBytes q.2.data.toList) round_int round_bytes (·.1) (·.2) (fun _ => rfl) (fun _ h => h) (fun _ _ => rfl))
  (·.text) (fun r => (r.whr, S8 r.cells)) (fun r => by unfold encRu; rw [S8_list]) (fun r h => ⟨h.1, h.2.1, by show (S8 r.cells).size ≤ _; rw [S8_size]; exact h.2.2⟩) (fun r _ => by simp only [S8_list])
theorem ru_cuts : Cuts RuB decRu encRu :=
 thenD_cuts round_bytes cuts_bytes
  (thenD_cuts (R := fun q : Int × ByteArray => (-9223372036854775808 ≤ q.1 ∧ q.1 ≤ 9223372036854775807) ∧ q.2.size ≤ 9223372036854775807) (e := fun q : Int × ByteArray => encInt q.1 ++ encBytes q.2.data.toList) round_int cuts_int cuts_bytes (·.1) (·.2) (fun _ => rfl) (fun _ h => h))
  (·.text) (fun r => (r.whr, S8 r.cells)) (fun r => by unfold encRu; rw [S8_list]) (fun r h => ⟨h.1, h.2.1, by show (S8 r.cells).size ≤ _; rw [S8_size]; exact h.2.2⟩)
theorem five_round : Round (fun x : List ByteArray => x.length = 5 ∧ ∀ s ∈ x, s.size ≤ 9223372036854775807) decFive encStrs := fun x t hx => by
 have h := decSeq_round round_bytes x hx.2 (by have h5 : x.length = 5 := hx.1; omega) t
 have e : encStrs x ++ t = (encInt (x.length : Int) ++ x.flatMap fun s => encBytes s.data.toList) ++ t := rfl
 rw [e]
 refine ⟨?_, by show 1 ≤ (encInt (x.length : Int) ++ x.flatMap fun s => encBytes s.data.toList).length; rw [List.length_append]; have := encInt_pos (x.length : Int); omega⟩
 unfold decFive
 rw [h, if_neg (by simp), if_neg (by simp [hx.1])]
 rfl
theorem five_cuts : Cuts (fun x : List ByteArray => x.length = 5 ∧ ∀ s ∈ x, s.size ≤ 9223372036854775807) decFive encStrs := fun x i hx hi => by
 have h := decSeq_cut round_bytes cuts_bytes x hx.2 (by have h5 : x.length = 5 := hx.1; omega) (i := i) hi
 have e : (encStrs x).take i = (encInt (x.length : Int) ++ x.flatMap fun s => encBytes s.data.toList).take i := rfl
 rw [e]
 unfold decFive
 rw [h, if_pos (by decide)]
theorem ta_round : Round TaB decTa encTa :=
 thenD_round (manyD_round ru_round)
  (thenD_round (R := fun q : List Ru × List ByteArray => (q.1.length ≤ 9223372036854775807 ∧ ∀ r ∈ q.1, RuB r) ∧ (q.2.length = 5 ∧ ∀ s ∈ q.2, s.size ≤ 9223372036854775807)) (e := fun q : List Ru × List ByteArray => encMany encRu q.1 ++ encStrs q.2) (manyD_round ru_round) five_round (·.1) (·.2) (fun _ => rfl) (fun _ h => h) (fun _ _ => rfl))
  (·.l0) (fun t => (t.l1, [S8 t.dig, S8 t.cap, S8 t.num, S8 t.fin, S8 t.sw])) (fun t => rfl)
  (fun t h => ⟨h.1, h.2.1, rfl, fun s hs => by
   have h5 := h.2.2
   simp only [List.mem_cons, List.not_mem_nil, or_false] at hs
   rcases hs with rfl | rfl | rfl | rfl | rfl <;> rw [S8_size] <;> exact h5 _ (by simp)⟩)
  (fun t _ => by simp [five, S8_list])
theorem ta_cuts : Cuts TaB decTa encTa :=
 thenD_cuts (manyD_round ru_round) (manyD_cuts ru_round ru_cuts)
  (thenD_cuts (R := fun q : List Ru × List ByteArray => (q.1.length ≤ 9223372036854775807 ∧ ∀ r ∈ q.1, RuB r) ∧ (q.2.length = 5 ∧ ∀ s ∈ q.2, s.size ≤ 9223372036854775807)) (e := fun q : List Ru × List ByteArray => encMany encRu q.1 ++ encStrs q.2) (manyD_round ru_round) (manyD_cuts ru_round ru_cuts) five_cuts (·.1) (·.2) (fun _ => rfl) (fun _ h => h))
  (·.l0) (fun t => (t.l1, [S8 t.dig, S8 t.cap, S8 t.num, S8 t.fin, S8 t.sw])) (fun t => rfl)
  (fun t h => ⟨h.1, h.2.1, rfl, fun s hs => by
   have h5 := h.2.2
   simp only [List.mem_cons, List.not_mem_nil, or_false] at hs
   rcases hs with rfl | rfl | rfl | rfl | rfl <;> rw [S8_size] <;> exact h5 _ (by simp)⟩)
end Go.Dx
end

section
/- wire.Bytes and the reference's. -/
namespace Go.Proofs.YtfagjaabladgpaaDoor
open Go.RowKit Go.Dx

set_option maxHeartbeats 400000 in
theorem wire_Bytes (s : ByteArray) (hs : s.size ≤ 140737488355000) (w : World) :
  Calls Tryd.prog 24 #[.string s] w (Gives 5 1 (encBytes s.data.toList).length ((encBytes s.data.toList).map B8) w) := by
 have h9 := encInt_le (s.size : Int)
 have el : (encBytes s.data.toList).length = (encInt (s.size : Int)).length + s.size := by unfold encBytes; rw [List.length_append, Array.length_toList]; rfl
 have em : (encBytes s.data.toList).map B8 = (encInt (s.size : Int)).map B8 ++ s.data.toList.map B8 := by unfold encBytes; rw [List.map_append, Array.length_toList]; rfl
 rw [el, em]
 clear el em
 go_enter Tryd.func24, Tryd.ntmps24
 go_wp2_with fail
 refine (wire_Int _ (by omega) (by omega) _).mono ?_
 rintro e w1 ⟨a, c, rfl, ho, hb⟩
 go_wp2_with (refine app_str rfl _ _ rfl w w.heap.size _ _ _ _ rfl ho _ rfl (by omega) hb.size hb ?_; intro a' c' w' ho' hgr' hb')
 go_ret
 exact ⟨a', c', rfl, ho', hb'⟩
set_option maxHeartbeats 400000 in
theorem ref_Bytes (s : ByteArray) (hs : s.size ≤ 140737488355000) (w : World) :
  Calls Tryd.prog 27 #[.string s] w (Gives 5 1 (encBytes s.data.toList).length ((encBytes s.data.toList).map B8) w) := by
 have h9 := encInt_le (s.size : Int)
 have el : (encBytes s.data.toList).length = (encInt (s.size : Int)).length + s.size := by unfold encBytes; rw [List.length_append, Array.length_toList]; rfl
 have em : (encBytes s.data.toList).map B8 = (encInt (s.size : Int)).map B8 ++ s.data.toList.map B8 := by unfold encBytes; rw [List.map_append, Array.length_toList]; rfl
 rw [el, em]
 clear el em
 go_enter Tryd.func27, Tryd.ntmps27
 go_wp2_with fail
 refine (ref_Int _ (by omega) (by omega) _).mono ?_
 rintro e w1 ⟨a, c, rfl, ho, hb⟩
 go_wp2_with (first
  | (with_reducible refine to_bytes 7 _ s rfl (by unfold maxLen; omega) ?_; intro a2 c2 w2 hs2 hb2 hp2)
  | (at_builtin; refine app_bs rfl _ _ rfl w w.heap.size _ _ _ _ rfl (ho.below hb2) _ _ _ s.data.toList rfl hs2 (by omega) (Nat.le_trans hb.size hb2.size) (hb.trans (hb2.mono hb.size)) ?_; intro a' c' w' ho' hgr' hb'))
 go_ret
 exact ⟨a', c', rfl, ho', hb'⟩

end Go.Proofs.YtfagjaabladgpaaDoor
end

section
namespace Go.Proofs.YtfagjaabladgpaaDoor
open Go.RowKit Go.Dx

theorem neq_nat {a b : Nat} (h : a ≠ b) : ((a : Int) != (b : Int)) = true := by simp; omega
theorem eq_nat {a b : Nat} (h : a = b) : ((a : Int) != (b : Int)) = false := by simp; omega

theorem same_step {l1 l2 : List UInt8} {k : Nat} {x y : UInt8} (hx : l1[k]? = some x) (hy : l2[k]? = some y) (h : l1.take k = l2.take k) : (x = y ↔ l1.take (k + 1) = l2.take (k + 1)) := by
 rw [List.take_add_one, List.take_add_one, hx, hy, h]; simp
theorem ne_of_take {l1 l2 : List UInt8} {k : Nat} (h : l1.take k ≠ l2.take k) : l1 ≠ l2 := fun e => h (by rw [e])

set_option maxHeartbeats 400000 in
theorem ref_Same (l1 l2 : List UInt8) (a1 a2 : Option Addr) (n1 n2 c1 c2 : Nat) (w : World) (h1 : Sl w 1 a1 n1 c1 (l1.map B8)) (h2 : Sl w 1 a2 n2 c2 (l2.map B8)) :
  Calls Tryd.prog 7 #[.slice a1 n1 c1, .slice a2 n2 c2] w (Still (.bool (decide (l1 = l2))) w) := by
 obtain rfl := h1.n_eq
 obtain rfl := h2.n_eq
 have hm1 := Nat.le_trans h1.le h1.cap
 have hm2 := Nat.le_trans h2.le h2.cap
 unfold maxLen at hm1 hm2
 by_cases hlen : l1.length = l2.length
 ·have hb := eq_nat hlen
  have hle1 : l1.length ≤ l2.length := by omega
  have hle2 : l2.length ≤ l1.length := by omega
  have HL := hide hlen
  clear hlen
  go_enter Tryd.func7, Tryd.ntmps7
  go_wp2
  go_loopg [5] l1.length (fun g i w' => ∃ (k n : Nat), k ≤ l1.length ∧ g = l1.length - k ∧ l1.take k = l2.take k ∧ i = .int .i64 k ∧ w' = w.drewN n)
  case atStart => exact ⟨0, 0, by omega, by omega, rfl, rfl, rfl⟩
  case round =>
   obtain ⟨k, nq, hk, hg, ht, rfl, rfl⟩ := hrel
   have HG := hide hg
   have HT := hide ht
   clear hg ht
   by_cases hkl : k < l1.length
   ·obtain ⟨b1, o1, rfl, hb1, hc1⟩ := h1.ex (by simp; omega)
    obtain ⟨b2, o2, rfl, hb2, hc2⟩ := h2.ex (by simp; omega)
    obtain ⟨x, hx⟩ : ∃ x, l1[k]? = some x := ⟨l1[k], by simp [hkl]⟩
    obtain ⟨y, hy⟩ : ∃ y, l2[k]? = some y := ⟨l2[k]'(by omega), by simp⟩
    have hx1 : w.cell? ⟨b1, o1 + k, none⟩ = some (.int .u8 (x.toNat : Int)) := hc1 k _ (by rw [List.getElem?_map, hx]; rfl)
    have hy1 : w.cell? ⟨b2, o2 + k, none⟩ = some (.int .u8 (y.toNat : Int)) := hc2 k _ (by rw [List.getElem?_map, hy]; rfl)
    have HX := hide (same_step hx hy HT.out)
    clear hc1 hc2 hx hy
    by_cases hxy : x = y
    ·have HE := hide (HX.out.1 hxy)
     subst hxy
     have hn : ((x.toNat : Int) != (x.toNat : Int)) = false := by simp
     go_wp2
     go_quiet (fail)
     go_wp2
     go_roundg (l1.length - (k + 1))
     case measure => have := HG.out; omega
     case rel => exact ⟨k + 1, _, by omega, rfl, HE.out, by go_num, by first | rfl | exact World.drewN_drewN _ _ _⟩
    ·have hn : ((x.toNat : Int) != (y.toNat : Int)) = true := neq_nat (fun e => hxy (UInt8.toNat_inj.1 e))
     have HE := hide (ne_of_take (fun e => hxy (HX.out.2 e)))
     have hne : Value.bool (decide (l1 = l2)) = .bool false := by rw [decide_eq_false HE.out]
     have HN := hide hne
     clear hne hxy
     go_wp2
     go_quiet (fail)
     go_wp2
     go_ret
     exact ⟨by rw [HN.out]; rfl, _, World.drewN_drewN _ _ _⟩
   ·obtain rfl : k = l1.length := by omega
    go_wp2
    go_ret
    have : l1 = l2 := by have := HT.out; rw [List.take_length, List.take_of_length_le (by omega)] at this; exact this
    exact ⟨by rw [decide_eq_true this]; rfl, _, rfl⟩
 ·have hb := neq_nat hlen
  have HN := hide (decide_eq_false (fun e : l1 = l2 => hlen (by rw [e])))
  clear hlen
  go_enter Tryd.func7, Tryd.ntmps7
  go_wp2
  go_ret
  exact ⟨by rw [HN.out]; rfl, 0, rfl⟩



end Go.Proofs.YtfagjaabladgpaaDoor
end

section
namespace Go.Proofs.YtfagjaabladgpaaDoor
open Go.RowKit Go.Dx
abbrev R3 (r : Int × Int × Int) : Value := .tuple #[.int .i64 r.1, .int .i64 r.2.1, .int .i64 r.2.2]

set_option maxRecDepth 100000 in
set_option maxHeartbeats 400000 in
theorem wire_GetInt (l : List UInt8) (a : Option Addr) (n c : Nat) (w : World) (hs : Sl w 1 a n c (l.map B8)) :
    Calls Tryd.prog 33 #[.slice a n c] w fun e w' => e = .returned (R3 (decInt l)) ∧ w = w' := by
  obtain rfl := hs.n_eq
  have hm := Nat.le_trans hs.le hs.cap
  unfold maxLen at hm
  cases l with
  | nil =>
    go_enter Tryd.func33, Tryd.ntmps33
    go_wp2
    go_ret3
    exact ⟨rfl, rfl⟩
  | cons h t =>
    obtain ⟨b, off, rfl, hbs, hc⟩ := hs.ex (by simp)
    have hc0 : w.cell? ⟨b, off, none⟩ = some (.int .u8 (h.toNat : Int)) := hc 0 _ rfl
    have hle := hs.le
    simp only [List.length_cons] at hm hle ⊢
    have hne : (((t.length : Int) + 1) == 0) = false := by simp; omega
    have HC := hide hc
    clear hc hs
    obtain ⟨neg, HN⟩ : ∃ neg, Hid (neg = decide (h.toNat < 128)) := ⟨_, rfl⟩
    obtain ⟨K, HK⟩ : ∃ K, Hid (K = (flp neg h).toNat - 128) := ⟨_, rfl⟩
    go_enter Tryd.func33, Tryd.ntmps33
    go_upto_if 16 with (fail)
    go_cut [5] (fun f w' => f = .int .u8 ((fl neg).toNat : Int) ∧ w = w')
    case first =>
      by_cases h7 : h.toNat < 128
      · go_wp2
        go_meet
        exact ⟨by rw [HN.out, decide_eq_true h7]; rfl, rfl⟩
      · go_wp2
        go_meet
        exact ⟨by rw [HN.out, decide_eq_false h7]; rfl, rfl⟩
    case rest =>
      obtain ⟨rfl, rfl⟩ := hcut
      have hx := xor_fl h neg
      have hfb := UInt8.toNat_lt (flp neg h)
      go_upto_region 6 with (fail)
      go_cut [6] (fun k w' => k = .int .i64 (K : Int) ∧ w = w')
      case first =>
        go_wp2
        go_meet
        exact ⟨by rw [HK.out]; congr 1; have := flp_ge h neg HN.out; omega, rfl⟩
      case rest =>
        obtain ⟨rfl, rfl⟩ := hcut
        have HX := hide hx
        have HD : Hid (decInt (h :: t) = decK neg K t) := by show _ = _; rw [HN.out, HK.out]; rw [HN.out]; rfl
        clear hx hfb
        by_cases h8 : 8 < K
        · go_wp2
          go_ret3
          exact ⟨by rw [HD.out, decK_8 h8]; rfl, rfl⟩
        · by_cases hlen : t.length < K
          · go_wp2
            go_ret3
            exact ⟨by rw [HD.out, decK_more h8 hlen]; rfl, rfl⟩
          · have hsp : (0 < K ∧ flp neg (t.getD 0 0) = 0) ∨ (0 < K ∧ flp neg (t.getD 0 0) ≠ 0 ∧ ¬ c = 1) ∨ (¬ 0 < K ∧ c = 1) ∨ (¬ 0 < K ∧ ¬ c = 1) := by
              by_cases h0 : 0 < K
              · by_cases hz : flp neg (t.getD 0 0) = 0
                · exact .inl ⟨h0, hz⟩
                · exact .inr (.inl ⟨h0, hz, by omega⟩)
              · by_cases hc1 : c = 1
                · exact .inr (.inr (.inl ⟨h0, hc1⟩))
                · exact .inr (.inr (.inr ⟨h0, hc1⟩))
            have hd1 : 0 < K → ∃ d, t.getD 0 0 = d ∧ w.cell? ⟨b, off + 1, none⟩ = some (.int .u8 (d.toNat : Int)) := by
              intro h0
              cases t with
              | nil => simp at hlen; omega
              | cons d t => exact ⟨d, rfl, HC.out 1 _ rfl⟩
            rcases hsp with ⟨h0, hz⟩ | hsp
            · obtain ⟨d, hd, hcd⟩ := hd1 h0
              rw [hd] at hz
              have hx := xor_fl d neg
              have hzz : (flp neg d).toNat = 0 := by rw [hz]; rfl
              have HD2 := hide hd
              clear hd hd1
              go_wp2
              go_ret3
              exact ⟨by rw [HD.out, decK_zero h8 hlen h0 (by rw [HD2.out]; exact hz)]; rfl, rfl⟩
            · have hfin : Hid (K = 0 ∨ flp neg (t.getD 0 0) ≠ 0) := by
                rcases hsp with ⟨h0, hz, _⟩ | ⟨h0, _⟩ | ⟨h0, _⟩
                · exact .inr hz
                · exact .inl (by omega)
                · exact .inl (by omega)
              rcases hsp with ⟨h0, hz, hcap⟩ | ⟨h0, rfl⟩ | ⟨h0, hcap⟩
              all_goals first
                | (obtain ⟨d, hd, hcd⟩ := hd1 h0
                   rw [hd] at hz
                   have hx := xor_fl d neg
                   have hzz : (((flp neg d).toNat : Int) == 0) = false := by
                     simp; intro e; exact hz (UInt8.toNat_inj.1 e)
                   have HD2 := hide hd
                   clear hd hd1 hz
                   go_wp2)
                | (clear hd1
                   go_wp2)
              all_goals
                go_loopg [7, 48] K (fun g m i w' => ∃ j : Nat, j ≤ K ∧ g = K - j ∧ m = .int .u64 ((val ((t.take j).map (flp neg)) : Nat) : Int) ∧ i = .int .i64 j ∧ w = w')
                case atStart => exact ⟨0, by omega, rfl, by simp [val], rfl, rfl⟩
                case round =>
                  obtain ⟨j, hj, hg, rfl, rfl, rfl⟩ := hrel
                  have HG := hide hg
                  clear hg
                  by_cases hjk : j < K
                  · first
                    | (exfalso; omega)
                    | (obtain ⟨d, hd⟩ : ∃ d, t[j]? = some d := ⟨t[j]'(by omega), by simp⟩
                       have hcell : w.cell? ⟨b, off + 1 + j, none⟩ = some (.int .u8 (d.toNat : Int)) := by
                         rw [Nat.add_assoc, Nat.add_comm 1 j]; exact HC.out (j + 1) _ (by simp [hd])
                       have hv : val ((t.take j).map (flp neg)) < 72057594037927936 := val_lt7 _ (by simp; omega)
                       have hx := xor_fl d neg
                       have ho := or_u64 (val ((t.take j).map (flp neg))) (flp neg d) hv
                       have hfd := UInt8.toNat_lt (flp neg d)
                       have HV : Hid (val ((t.take (j + 1)).map (flp neg)) = 256 * val ((t.take j).map (flp neg)) + (flp neg d).toNat) := by
                         show _ = _; rw [List.take_add_one, hd]; simp [val_snoc]
                       clear hd
                       generalize val ((t.take j).map (flp neg)) = v at *
                       go_wp2
                       go_roundg (K - (j + 1))
                       case measure => have := HG.out; omega
                       case rel => exact ⟨j + 1, by omega, rfl, by rw [HV.out]; go_num, by go_num, rfl⟩)
                  · obtain rfl : j = K := by omega
                    have HB := hide (@decK_big neg j t h8 hlen hfin.out)
                    have HO := hide (@decK_ok neg j t h8 hlen hfin.out)
                    have hvl : val ((t.take j).map (flp neg)) < 18446744073709551616 := val_lt8 _ (by simp; omega)
                    generalize val ((t.take j).map (flp neg)) = v at *
                    by_cases hbig : 9223372036854775808 ≤ v
                    · go_wp2
                      go_ret3
                      exact ⟨by rw [HD.out, HB.out hbig]; rfl, rfl⟩
                    · cases neg
                      · go_wp2
                        go_ret3
                        exact ⟨by rw [HD.out, HO.out hbig]; rfl, rfl⟩
                      · have hw : wrap64 (bits .xor .u64 IntKind.u64.max (v : Int)) = -1 - (v : Int) := by
                          rw [u64_not v (by omega)]; unfold wrap64; omega
                        go_wp2
                        go_ret3
                        exact ⟨by rw [HD.out, HO.out hbig]; rfl, rfl⟩
end Go.Proofs.YtfagjaabladgpaaDoor
end

section
namespace Go.Proofs.YtfagjaabladgpaaDoor
open Go.RowKit Go.Dx

set_option maxRecDepth 100000 in
set_option maxHeartbeats 800000 in
theorem ref_GetInt (l : List UInt8) (a : Option Addr) (n c : Nat) (w : World) (hs : Sl w 1 a n c (l.map B8)) :
  Calls Tryd.prog 36 #[.slice a n c] w fun e w' => e = .returned (R3 (decInt l)) ∧ Below w.heap.size w w' := by
 obtain rfl := hs.n_eq
 have hm := Nat.le_trans hs.le hs.cap
 unfold maxLen at hm
 cases l with
 | nil =>
  go_enter Tryd.func36, Tryd.ntmps36
  go_wp2
  go_ret3
  exact ⟨rfl, Below.refl _ _⟩
 | cons h t =>
  have HS := hide hs
  obtain ⟨b, off, rfl, hbs, hc⟩ := hs.ex (by simp)
  have hc0 : w.cell? ⟨b, off, none⟩ = some (.int .u8 (h.toNat : Int)) := hc 0 _ rfl
  have hle := hs.le
  simp only [List.length_cons] at hm hle ⊢
  have hne : (((t.length : Int) + 1) == 0) = false := by simp; omega
  have HC := hide hc
  clear hc hs
  have hhb := UInt8.toNat_lt h
  have hKK : ∃ (neg : Bool) (K : Nat), neg = decide (h.toNat < 128) ∧ (flp neg h).toNat = 128 + K ∧ ((neg = true ∧ (h.toNat : Int) = 127 - K) ∨ (neg = false ∧ (h.toNat : Int) = 128 + K)) := by
   by_cases h7 : h.toNat < 128
   ·exact ⟨true, 127 - h.toNat, by rw [decide_eq_true h7], by have := flp_neg h; omega, .inl ⟨rfl, by omega⟩⟩
   ·exact ⟨false, h.toNat - 128, by rw [decide_eq_false h7], by rw [flp_pos]; omega, .inr ⟨rfl, by omega⟩⟩
  obtain ⟨neg, K, hn, hf, hk⟩ := hKK
  have HD : Hid (decInt (h :: t) = decK neg K t) := by show _ = _; rw [show decInt (h :: t) = decK (decide (h.toNat < 128)) ((flp (decide (h.toNat < 128)) h).toNat - 128) t from rfl, ← hn, hf]; congr 1; omega
  have HF := hide hf
  have HK := hide hk
  clear hf hn
  have hK127 : K ≤ 127 := by omega
  by_cases h8 : 8 < K
  ·have hr : (h.toNat : Int) < 119 ∨ (136 : Int) < h.toNat := by omega
   clear hk
   rcases hr with hr | hr
   all_goals
    go_enter Tryd.func36, Tryd.ntmps36
    go_wp2
    go_ret3
    exact ⟨by rw [HD.out, decK_8 h8]; rfl, Below.refl _ _⟩
  ·have hr : (119 : Int) ≤ h.toNat ∧ (h.toNat : Int) ≤ 136 := by omega
   obtain ⟨hr1, hr2⟩ := hr
   clear hk
   go_enter Tryd.func36, Tryd.ntmps36
   go_upto_if 27 with (fail)
   go_cut [6] (fun k w' => k = .int .i64 (K : Int) ∧ w = w')
   case first =>
    rcases HK.out with ⟨_, h1⟩ | ⟨_, h1⟩
    ·have h2 : (h.toNat : Int) < 128 := by omega
     have H1 := hide h1
     clear h1
     go_wp2
     go_meet
     exact ⟨by congr 1; have := H1.out; omega, rfl⟩
    ·have h2 : ¬ (h.toNat : Int) < 128 := by omega
     have H1 := hide h1
     clear h1
     go_wp2
     go_meet
     exact ⟨by congr 1; have := H1.out; omega, rfl⟩
   case rest =>
    obtain ⟨rfl, rfl⟩ := hcut
    by_cases hlen : t.length < K
    ·go_wp2
     go_ret3
     exact ⟨by rw [HD.out, decK_more h8 hlen]; rfl, Below.refl _ _⟩
    ·go_wp2
     go_loopg [7, 8] K (fun g m i w' => ∃ j : Nat, j ≤ K ∧ g = K - j ∧ val ((t.take j).map (flp neg)) < 9223372036854775808 ∧ m = .int .i64 ((val ((t.take j).map (flp neg)) : Nat) : Int) ∧ i = .int .i64 ((j : Int) + 1) ∧ w = w')
     case atStart => exact ⟨0, by omega, rfl, by simp [val], by simp [val], rfl, rfl⟩
     case round =>
      obtain ⟨j, hj, hg, hv, rfl, rfl, rfl⟩ := hrel
      have HG := hide hg
      clear hg
      by_cases hjk : j < K
      ·obtain ⟨d, hd⟩ : ∃ d, t[j]? = some d := ⟨t[j]'(by omega), by simp⟩
       have hcell : w.cell? ⟨b, off + (j + 1), none⟩ = some (.int .u8 (d.toNat : Int)) := HC.out (j + 1) _ (by simp [hd])
       have hvj := val_lt ((t.take j).map (flp neg))
       simp only [List.length_map, List.length_take] at hvj
       rw [Nat.min_eq_left (by omega)] at hvj
       have hfd := UInt8.toNat_lt (flp neg d)
       have hdb := UInt8.toNat_lt d
       have HV : Hid (val ((t.take (j + 1)).map (flp neg)) = 256 * val ((t.take j).map (flp neg)) + (flp neg d).toNat) := by
        show _ = _; rw [List.take_add_one, hd]; simp [val_snoc]
       have HB : Hid (36028797018963967 < val ((t.take j).map (flp neg)) → decK neg K t = (0, 0, 2) ∨ flp neg (t.getD 0 0) = 0 ∨ True) := fun _ => .inr (.inr trivial)
       have HV7 := hide hvj
       clear hd hvj
       generalize val ((t.take j).map (flp neg)) = v at *
       go_upto_if 46 with (fail)
       go_cut [9] (fun x w' => x = .int .i64 ((flp neg d).toNat : Int) ∧ w = w')
       case first =>
        rcases HK.out with ⟨hn, h1⟩ | ⟨hn, h1⟩
        ·have h2 : (h.toNat : Int) < 128 := by omega
         clear h1
         go_wp2
         go_meet
         exact ⟨by rw [hn, flp_neg], rfl⟩
        ·have h2 : ¬ (h.toNat : Int) < 128 := by omega
         clear h1
         go_wp2
         go_meet
         exact ⟨by rw [hn, flp_pos], rfl⟩
       case rest =>
        obtain ⟨rfl, rfl⟩ := hcut
        by_cases hbig : 36028797018963967 < v
        ·have h7 : j = 7 := by
          have := HV7.out
          refine Nat.le_antisymm (by omega) (Nat.le_of_not_lt fun hlt => ?_)
          have h2 : 256 ^ j ≤ 256 ^ 6 := Nat.pow_le_pow_right (by omega) (by omega)
          simp at h2
          omega
         have H7 := hide h7
         clear h7
         go_wp2
         go_ret3
         have hK8 : K = j + 1 := by have := H7.out; omega
         refine ⟨?_, Below.refl _ _⟩
         rw [HD.out, decK_form h8 hlen (by rw [hK8, HV.out]; omega)]
         rfl
        ·go_wp2
         go_roundg (K - (j + 1))
         case measure => have := HG.out; omega
         case rel => exact ⟨j + 1, by omega, rfl, by rw [HV.out]; omega, by rw [HV.out]; go_num, by go_num, rfl⟩
      ·obtain rfl : j = K := by omega
       obtain ⟨N, HN⟩ : ∃ N : Int, Hid (N = if neg then -1 - (val ((t.take j).map (flp neg)) : Int) else val ((t.take j).map (flp neg))) := ⟨_, rfl⟩
       have HE := hide (@enc_iff neg h j t HF.out (by omega) (by omega) hv)
       have HO := hide (@decK_ok neg j t h8 hlen)
       generalize val ((t.take j).map (flp neg)) = v at *
       go_upto_if 57 with (fail)
       go_cut [10] (fun x w' => x = .int .i64 N ∧ w = w')
       case first =>
        rcases HK.out with ⟨hn, h1⟩ | ⟨hn, h1⟩
        ·have h2 : (h.toNat : Int) < 128 := by omega
         clear h1
         go_wp2
         go_meet
         exact ⟨by rw [HN.out, hn]; rfl, rfl⟩
        ·have h2 : ¬ (h.toNat : Int) < 128 := by omega
         clear h1
         go_wp2
         go_meet
         exact ⟨by rw [HN.out, hn]; rfl, rfl⟩
       case rest =>
        obtain ⟨rfl, rfl⟩ := hcut
        have hN1 : -9223372036854775808 ≤ N := by rw [HN.out]; split <;> omega
        have hN2 : N ≤ 9223372036854775807 := by rw [HN.out]; split <;> omega
        have hsl : ∀ w1, Below w.heap.size w w1 → Sl w1 1 (some ⟨b, off, none⟩) (j + 1) c ((h :: t.take j).map B8) := fun w1 hb => by
         have := (HS.out.below hb).take (j + 1) (by simp; omega)
         simpa using this
        obtain ⟨r, HR⟩ : ∃ r : Bool, Hid (r = decide (encInt N = h :: t.take j)) := ⟨_, rfl⟩
        have hsame : ∀ (w1 : World) (a1 : Option Addr) (n1 c1 : Nat), Sl w1 1 a1 n1 c1 ((encInt N).map B8) → Below w.heap.size w w1 →
          Calls Tryd.prog 7 #[.slice a1 n1 c1, .slice (some ⟨b, off, none⟩) (j + 1) c] w1 (Still (.bool r) w1) := fun w1 a1 n1 c1 h1 h2 => by
         rw [HR.out]; exact ref_Same _ _ _ _ _ _ _ _ _ h1 (hsl _ h2)
        have HSAME := hide hsame
        clear hsame hsl
        have hs1 : IntKind.i64.wrap ((j : Int) + 1) = (j : Int) + 1 := IntWalk.i64_in _ (by omega)
        have hs2 : (0 : Int) ≤ (j : Int) + 1 := by omega
        have hs3 : (j : Int) + 1 ≤ (c : Int) := by omega
        have hs4 : ((j : Int) + 1).toNat = j + 1 := by omega
        have hcne : ¬ c = 0 := by omega
        go_upto_region 24 with (fail)
        go_cut [67] (fun x w' => x = .bool (!r) ∧ Below w.heap.size w w')
        case first =>
         go_region_with (first
          | (go_at_call 26; refine (ref_Int _ hN1 hN2 _).mono ?_; rintro e w1 ⟨a1, c1, rfl, ho1, hb1⟩)
          | (go_at_call 7; refine (HSAME.out _ _ _ _ ho1.sl (undrew hb1)).mono ?_; rintro e w2 ⟨rfl, nq, rfl⟩))
         all_goals (go_wp2_with fail; go_meet; exact ⟨rfl, (undrew hb1).trans (Below.mono (Still.below nq) hb1.size)⟩)
        case rest =>
         obtain ⟨rfl, hbw⟩ := hcut
         clear HSAME hs1 hs2 hs3 hs4 hcne
         have hiff : r = true ↔ (j = 0 ∨ flp neg (t.getD 0 0) ≠ 0) := by rw [HR.out, decide_eq_true_iff, HN.out]; exact HE.out
         by_cases hz : j = 0 ∨ flp neg (t.getD 0 0) ≠ 0
         ·obtain rfl : r = true := hiff.2 hz
          have HZ := hide hz
          clear hz hiff
          go_wp2
          go_ret3
          exact ⟨by rw [HD.out, HO.out HZ.out (by omega), HN.out]; rfl, hbw⟩
         ·obtain rfl : r = false := by cases r; rfl; exact absurd (hiff.1 rfl) hz
          have HZ := hide hz
          clear hz hiff
          go_wp2
          go_ret3
          refine ⟨?_, hbw⟩
          rw [HD.out, decK_zero h8 hlen (by have := HZ.out; omega) (by have := HZ.out; exact Decidable.byContradiction fun e => this (.inr e))]
          rfl
end Go.Proofs.YtfagjaabladgpaaDoor
end

section
namespace Go.Proofs.YtfagjaabladgpaaDoor
open Go.RowKit Go.Dx

theorem neq_int {a b : Int} (h : a ≠ b) : (a != b) = true := by simp [h]

set_option maxHeartbeats 400000 in
theorem wire_count (l : List UInt8) (a : Option Addr) (n c : Nat) (size : Int) (h1 : 1 ≤ size) (h2 : size ≤ 1000) (w : World) (hs : Sl w 1 a n c (l.map B8)) :
  Calls Tryd.prog 55 #[.slice a n c, .int .i64 size] w fun e w' => e = .returned (R3 ((decInt l).1, (decInt l).2.1, cntErr l size)) ∧ w = w' := by
 obtain rfl := hs.n_eq
 have hm := Nat.le_trans hs.le hs.cap
 unfold maxLen at hm
 have HG := hide (wire_GetInt l a l.length c w hs)
 have HU := hide (@decInt_used l)
 have HC : Hid (cntErr l size = cntErr l size) := rfl
 unfold cntErr at HC ⊢
 generalize decInt l = r at *
 obtain ⟨N, at_, E⟩ := r
 simp only at *
 clear HC
 by_cases hE : E = 0
 ·subst hE
  obtain ⟨u1, u2, u3, u4⟩ := HU.out rfl
  rw [if_neg (by simp)]
  by_cases hN : N < 0
  ·rw [if_pos hN]
   go_enter Tryd.func55, Tryd.ntmps55
   go_wp2_with (go_at_call 33; refine HG.out.mono ?_; rintro e w' ⟨rfl, rfl⟩)
   go_ret3
   exact ⟨rfl, rfl⟩
  ·rw [if_neg hN]
   have hq1 : 0 ≤ ((l.length : Int) - at_) / size := Int.ediv_nonneg (by omega) (by omega)
   have hq2 : ((l.length : Int) - at_) / size ≤ (l.length : Int) - at_ := Int.ediv_le_self _ (by omega)
   by_cases hq : ((l.length : Int) - at_) / size < N
   ·rw [if_pos hq]
    go_enter Tryd.func55, Tryd.ntmps55
    go_wp2_with (go_at_call 33; refine HG.out.mono ?_; rintro e w' ⟨rfl, rfl⟩)
    go_ret3
    exact ⟨rfl, rfl⟩
   ·rw [if_neg hq]
    go_enter Tryd.func55, Tryd.ntmps55
    go_wp2_with (go_at_call 33; refine HG.out.mono ?_; rintro e w' ⟨rfl, rfl⟩)
    go_ret3
    exact ⟨rfl, rfl⟩
 ·have hb := neq_int hE
  rw [if_pos hE]
  have HE := hide hE
  clear hE
  go_enter Tryd.func55, Tryd.ntmps55
  go_wp2_with (go_at_call 33; refine HG.out.mono ?_; rintro e w' ⟨rfl, rfl⟩)
  go_ret3
  exact ⟨rfl, rfl⟩

set_option maxHeartbeats 400000 in
theorem ref_count (l : List UInt8) (a : Option Addr) (n c : Nat) (size : Int) (h1 : 1 ≤ size) (h2 : size ≤ 1000) (w : World) (hs : Sl w 1 a n c (l.map B8)) (hlen : l.length ≤ 4503599627370496) :
  Calls Tryd.prog 56 #[.slice a n c, .int .i64 size] w fun e w' => e = .returned (R3 (if cntErr l size = 0 then ((decInt l).1, (decInt l).2.1, 0) else (0, 0, cntErr l size))) ∧ Below w.heap.size w w' := by
 obtain rfl := hs.n_eq
 have HG := hide (ref_GetInt l a l.length c w hs)
 have HU := hide (@decInt_used l)
 unfold cntErr
 generalize decInt l = r at *
 obtain ⟨N, at_, E⟩ := r
 simp only at *
 by_cases hE : E = 0
 ·subst hE
  obtain ⟨u1, u2, u3, u4⟩ := HU.out rfl
  by_cases hN : N < 0
  ·have HF : Hid ((if (if (0 : Int) ≠ 0 then (0 : Int) else if N < 0 then 2 else if ((l.length : Int) - at_) / size < N then 3 else 0) = 0 then (N, at_, (0 : Int)) else (0, 0, if (0 : Int) ≠ 0 then 0 else if N < 0 then 2 else if ((l.length : Int) - at_) / size < N then 3 else 0)) = (0, 0, 2)) := by
    show _ = _; simp [hN]
   rw [HF.out]
   go_enter Tryd.func56, Tryd.ntmps56
   go_wp2_with (go_at_call 36; refine HG.out.mono ?_; rintro e w' ⟨rfl, hb⟩)
   go_ret3
   exact ⟨rfl, hb⟩
  ·by_cases hq : ((l.length : Int) - at_) / size < N
   ·have HF : Hid ((if (if (0 : Int) ≠ 0 then (0 : Int) else if N < 0 then 2 else if ((l.length : Int) - at_) / size < N then 3 else 0) = 0 then (N, at_, (0 : Int)) else (0, 0, if (0 : Int) ≠ 0 then 0 else if N < 0 then 2 else if ((l.length : Int) - at_) / size < N then 3 else 0)) = (0, 0, 3)) := by
     show _ = _; simp [hN, hq]
    rw [HF.out]
    by_cases hbig : (l.length : Int) < N
    ·clear hq
     go_enter Tryd.func56, Tryd.ntmps56
     go_wp2_with (go_at_call 36; refine HG.out.mono ?_; rintro e w' ⟨rfl, hb⟩)
     go_ret3
     exact ⟨rfl, hb⟩
    ·have hm : (l.length : Int) - at_ < N * size := by
      have := Int.ediv_lt_iff_lt_mul (a := (l.length : Int) - at_) (b := N) (show 0 < size by omega)
      exact this.1 hq
     have hm2 : N * size ≤ 4503599627370496 * 1000 := Int.mul_le_mul (by omega) h2 (by omega) (by omega)
     have hm3 : 0 ≤ N * size := Int.mul_nonneg (by omega) (by omega)
     clear hq
     go_enter Tryd.func56, Tryd.ntmps56
     go_wp2_with (go_at_call 36; refine HG.out.mono ?_; rintro e w' ⟨rfl, hb⟩)
     go_ret3
     exact ⟨rfl, hb⟩
   ·have HF : Hid ((if (if (0 : Int) ≠ 0 then (0 : Int) else if N < 0 then 2 else if ((l.length : Int) - at_) / size < N then 3 else 0) = 0 then (N, at_, (0 : Int)) else (0, 0, if (0 : Int) ≠ 0 then 0 else if N < 0 then 2 else if ((l.length : Int) - at_) / size < N then 3 else 0)) = (N, at_, 0)) := by
     show _ = _; simp [hN, hq]
    rw [HF.out]
    have hm : ¬ (l.length : Int) - at_ < N * size := by
     intro h
     exact hq ((Int.ediv_lt_iff_lt_mul (a := (l.length : Int) - at_) (b := N) (show 0 < size by omega)).2 h)
    have hm3 : 0 ≤ N * size := Int.mul_nonneg (by omega) (by omega)
    have hbig : ¬ (l.length : Int) < N := by
     have : ((l.length : Int) - at_) / size ≤ (l.length : Int) - at_ := Int.ediv_le_self _ (by omega)
     omega
    clear hq
    go_enter Tryd.func56, Tryd.ntmps56
    go_wp2_with (go_at_call 36; refine HG.out.mono ?_; rintro e w' ⟨rfl, hb⟩)
    go_ret3
    exact ⟨rfl, hb⟩
 ·have hb0 := neq_int hE
  have HF : Hid ((if (if E ≠ 0 then E else if N < 0 then 2 else if ((l.length : Int) - at_) / size < N then 3 else 0) = 0 then (N, at_, (0 : Int)) else (0, 0, if E ≠ 0 then E else if N < 0 then 2 else if ((l.length : Int) - at_) / size < N then 3 else 0)) = (0, 0, E)) := by
   show _ = _; simp [hE]
  rw [HF.out]
  clear hE
  go_enter Tryd.func56, Tryd.ntmps56
  go_wp2_with (go_at_call 36; refine HG.out.mono ?_; rintro e w' ⟨rfl, hb⟩)
  go_ret3
  exact ⟨rfl, hb⟩
end Go.Proofs.YtfagjaabladgpaaDoor
end

section
namespace Go.Proofs.YtfagjaabladgpaaDoor
open Go.RowKit Go.Dx

abbrev RS (r : ByteArray × Int × Int) : Value := .tuple #[.string r.1, .int .i64 r.2.1, .int .i64 r.2.2]

set_option maxHeartbeats 400000 in
theorem wire_GetBytes (l : List UInt8) (a : Option Addr) (n c : Nat) (w : World) (hs : Sl w 1 a n c (l.map B8)) :
  Calls Tryd.prog 54 #[.slice a n c] w fun e w' => e = .returned (RS (decBytes l)) ∧ w = w' := by
 have hm := Nat.le_trans hs.le hs.cap
 unfold maxLen at hm
 have HG := hide (wire_count l a n c 1 (by omega) (by omega) w hs)
 by_cases hE : cntErr l 1 = 0
 ·obtain ⟨A, N, e1, e2, e3, hA, hAN, hN⟩ := cnt_facts (by omega) hE
  have hn := hs.n_eq
  simp at hAN
  have hF : decBytes l = (⟨((l.drop A).take N).toArray⟩, (A : Int) + N, 0) := by unfold decBytes; rw [if_pos hE, e1, e2]; rfl
  have HF := hide hF
  rw [e1, e2, hE] at HG
  have hnl : l.length ≤ n := by omega
  clear hF e1 e2 e3 hE hn
  go_enter Tryd.func54, Tryd.ntmps54
  go_wp2_with (first
   | (go_at_call 55; refine HG.out.mono ?_; rintro e w' ⟨rfl, rfl⟩)
   | (with_reducible refine cut_b 22 _ _ _ _ _ _ _ rfl hs _ _ _ _ A (A + N) rfl rfl rfl (by go_num) (by omega) (by omega) ?_; intro a2 hs2 hp2)
   | (with_reducible refine to_str 23 _ _ _ _ _ rfl hs2 ?_))
  go_ret3
  exact ⟨by rw [HF.out]; rfl, rfl⟩
 ·have hF : decBytes l = (⟨#[]⟩, 0, cntErr l 1) := by unfold decBytes; rw [if_neg hE]
  have HF := hide hF
  have hb := neq_int hE
  clear hF hE
  go_enter Tryd.func54, Tryd.ntmps54
  go_wp2_with (go_at_call 55; refine HG.out.mono ?_; rintro e w' ⟨rfl, rfl⟩)
  go_ret3
  exact ⟨by rw [HF.out]; rfl, rfl⟩

set_option maxHeartbeats 400000 in
theorem ref_GetBytes (l : List UInt8) (a : Option Addr) (n c : Nat) (w : World) (hs : Sl w 1 a n c (l.map B8)) (hlen : l.length ≤ 4503599627370496) :
  Calls Tryd.prog 37 #[.slice a n c] w fun e w' => e = .returned (RS (decBytes l)) ∧ Below w.heap.size w w' := by
 have HG := hide (ref_count l a n c 1 (by omega) (by omega) w hs hlen)
 by_cases hE : cntErr l 1 = 0
 ·obtain ⟨A, N, e1, e2, e3, hA, hAN, hN⟩ := cnt_facts (by omega) hE
  have hn := hs.n_eq
  simp at hAN
  have hF : decBytes l = (⟨((l.drop A).take N).toArray⟩, (A : Int) + N, 0) := by unfold decBytes; rw [if_pos hE, e1, e2]; rfl
  have HF := hide hF
  rw [if_pos hE, e1, e2] at HG
  have hnl : l.length ≤ n := by omega
  clear hF e1 e2 e3 hE hn
  go_enter Tryd.func37, Tryd.ntmps37
  go_wp2_with (first
   | (go_at_call 56; refine HG.out.mono ?_; rintro e w' ⟨rfl, hb⟩)
   | (with_reducible refine cut_b 22 _ _ _ _ _ _ _ rfl (hs.below hb) _ _ _ _ A (A + N) rfl rfl rfl (by go_num) (by omega) (by omega) ?_; intro a2 hs2 hp2)
   | (with_reducible refine to_str 23 _ _ _ _ _ rfl hs2 ?_))
  go_ret3
  exact ⟨by rw [HF.out]; rfl, hb⟩
 ·have hF : decBytes l = (⟨#[]⟩, 0, cntErr l 1) := by unfold decBytes; rw [if_neg hE]
  have HF := hide hF
  have hb := neq_int hE
  rw [if_neg hE] at HG
  clear hF hE
  go_enter Tryd.func37, Tryd.ntmps37
  go_wp2_with (go_at_call 56; refine HG.out.mono ?_; rintro e w' ⟨rfl, hb⟩)
  go_ret3
  exact ⟨by rw [HF.out]; rfl, hb⟩
end Go.Proofs.YtfagjaabladgpaaDoor
end

section
namespace Go.Proofs.YtfagjaabladgpaaDoor
open Go.RowKit Go.Dx
def accTo {α : Type} (p : List UInt8) (g : α → List UInt8) (l : List α) (k : Nat) : List UInt8 := p ++ (l.take k).flatMap g
theorem acc_zero {α : Type} (p : List UInt8) (g : α → List UInt8) (l : List α) : accTo p g l 0 = p := by simp [accTo]
theorem acc_succ {α : Type} (p : List UInt8) (g : α → List UInt8) {l : List α} {k : Nat} {x : α} (h : l[k]? = some x) : accTo p g l (k + 1) = accTo p g l k ++ g x := by
 unfold accTo; rw [List.take_add_one, h]; simp
theorem acc_all {α : Type} (p : List UInt8) (g : α → List UInt8) (l : List α) : accTo p g l l.length = p ++ l.flatMap g := by unfold accTo; rw [List.take_length]
theorem acc_le {α : Type} (p : List UInt8) (g : α → List UInt8) (l : List α) (k : Nat) : (accTo p g l k).length ≤ (p ++ l.flatMap g).length := by
 unfold accTo
 have e : l.flatMap g = (l.take k).flatMap g ++ (l.drop k).flatMap g := by rw [← List.flatMap_append, List.take_append_drop]
 rw [e]; simp

set_option maxHeartbeats 400000 in
theorem wire_Strings (l : List ByteArray) (hl : ∀ x ∈ l, x.size ≤ 140737488355000) (hT : (encStrs l).length ≤ 140737488355000) (hN : l.length ≤ 140737488355000) (a : Option Addr) (n c : Nat) (w : World) (hs : Sl w 1 a n c (l.map Value.string)) :
  Calls Tryd.prog 25 #[.slice a n c] w (Gives 5 1 (encStrs l).length ((encStrs l).map B8) w) := by
 obtain rfl := hs.n_eq
 go_enter Tryd.func25, Tryd.ntmps25
 go_wp2_with fail
 refine (wire_Int _ (by omega) (by omega) _).mono ?_
 rintro e w1 ⟨a1, c1, rfl, ho1, hb1⟩
 go_wp2_with fail
 go_loopg [3, 11] l.length (fun g x i w' => ∃ (k : Nat) (a : Option Addr) (c : Nat) (xs : List UInt8), k ≤ l.length ∧ g = l.length - k ∧ xs = accTo (encInt l.length) (fun s : ByteArray => encBytes s.data.toList) l k ∧ i = .int .i64 k ∧ x = .slice a xs.length c ∧ Own w' w.heap.size 5 1 a xs.length c (xs.map B8) ∧ Below w.heap.size w w')
 case atStart => exact ⟨0, a1, c1, encInt l.length, by omega, by omega, (acc_zero _ _ _).symm, rfl, rfl, ho1, hb1⟩
 case round =>
  obtain ⟨k, a2, c2, xs, hk, hg, hxs, rfl, rfl, hown, hb⟩ := hrel
  have HG := hide hg
  have hle : xs.length ≤ 140737488355000 := by rw [hxs]; exact Nat.le_trans (acc_le _ _ _ _) hT
  have HX := hide hxs
  clear hg hxs
  by_cases hkl : k < l.length
  ·obtain ⟨x, hx⟩ : ∃ x, l[k]? = some x := ⟨l[k], by simp [hkl]⟩
   have hcx := hl x (List.mem_of_getElem? hx)
   obtain ⟨ys, HY⟩ : ∃ ys, Hid (ys = (fun s : ByteArray => encBytes s.data.toList) x) := ⟨_, rfl⟩
   have HS : Hid (accTo (encInt l.length) (fun s : ByteArray => encBytes s.data.toList) l (k + 1) = xs ++ ys) := by show _ = _; rw [HX.out, HY.out]; exact acc_succ _ _ hx
   have hsum : xs.length + ys.length ≤ 140737488355000 := by rw [← List.length_append, ← HS.out]; exact Nat.le_trans (acc_le _ _ _ _) hT
   have HH := hide hx
   have HC : Hid (∀ w, Calls Tryd.prog 24 #[.string x] w (Gives 5 1 ys.length (ys.map B8) w)) := fun w => by rw [HY.out]; exact wire_Bytes x hcx w
   clear hx
   go_wp2_with (first
    | (with_reducible refine idx_s 13 _ _ _ _ _ l rfl (hs.below hb) _ _ k rfl rfl x HH.out ?_; intro b o hcell hbo)
    | (go_at_call 24; refine (HC.out _).mono ?_; rintro e w2 ⟨a3, c3, rfl, ho3, hb3⟩)
    | (at_builtin; refine app_bs rfl _ _ rfl w w.heap.size _ _ _ _ rfl (hown.below hb3) _ _ _ ys rfl ho3.sl (by omega) (Nat.le_trans hb.size hb3.size) (hb.trans (hb3.mono hb.size)) ?_; intro a' c' w' ho' hgr' hb'))
   go_roundg (l.length - (k + 1))
   case measure => have := HG.out; omega
   case rel => exact ⟨k + 1, a', c', xs ++ ys, by omega, rfl, HS.out.symm, by go_num, by rw [List.length_append], by rw [List.length_append, List.map_append]; exact ho', hb'⟩
  ·obtain rfl : k = l.length := by omega
   go_wp2
   go_ret
   have e : encStrs l = xs := by rw [HX.out, acc_all]; rfl
   rw [e]
   exact ⟨a2, c2, rfl, hown, hb⟩

set_option maxHeartbeats 400000 in
theorem ref_Strings (l : List ByteArray) (hl : ∀ x ∈ l, x.size ≤ 140737488355000) (hT : (encStrs l).length ≤ 140737488355000) (hN : l.length ≤ 140737488355000) (a : Option Addr) (n c : Nat) (w : World) (hs : Sl w 1 a n c (l.map Value.string)) :
  Calls Tryd.prog 28 #[.slice a n c] w (Gives 5 1 (encStrs l).length ((encStrs l).map B8) w) := by
 obtain rfl := hs.n_eq
 go_enter Tryd.func28, Tryd.ntmps28
 go_wp2_with fail
 refine (ref_Int _ (by omega) (by omega) _).mono ?_
 rintro e w1 ⟨a1, c1, rfl, ho1, hb1⟩
 go_wp2_with fail
 go_loopg [3, 4] l.length (fun g x i w' => ∃ (k : Nat) (a : Option Addr) (c : Nat) (xs : List UInt8), k ≤ l.length ∧ g = l.length - k ∧ xs = accTo (encInt l.length) (fun s : ByteArray => encBytes s.data.toList) l k ∧ i = .int .i64 k ∧ x = .slice a xs.length c ∧ Own w' w.heap.size 5 1 a xs.length c (xs.map B8) ∧ Below w.heap.size w w')
 case atStart => exact ⟨0, a1, c1, encInt l.length, by omega, by omega, (acc_zero _ _ _).symm, rfl, rfl, ho1, hb1⟩
 case round =>
  obtain ⟨k, a2, c2, xs, hk, hg, hxs, rfl, rfl, hown, hb⟩ := hrel
  have HG := hide hg
  have hle : xs.length ≤ 140737488355000 := by rw [hxs]; exact Nat.le_trans (acc_le _ _ _ _) hT
  have HX := hide hxs
  clear hg hxs
  by_cases hkl : k < l.length
  ·obtain ⟨x, hx⟩ : ∃ x, l[k]? = some x := ⟨l[k], by simp [hkl]⟩
   have hcx := hl x (List.mem_of_getElem? hx)
   obtain ⟨ys, HY⟩ : ∃ ys, Hid (ys = (fun s : ByteArray => encBytes s.data.toList) x) := ⟨_, rfl⟩
   have HS : Hid (accTo (encInt l.length) (fun s : ByteArray => encBytes s.data.toList) l (k + 1) = xs ++ ys) := by show _ = _; rw [HX.out, HY.out]; exact acc_succ _ _ hx
   have hsum : xs.length + ys.length ≤ 140737488355000 := by rw [← List.length_append, ← HS.out]; exact Nat.le_trans (acc_le _ _ _ _) hT
   have HH := hide hx
   have HC : Hid (∀ w, Calls Tryd.prog 27 #[.string x] w (Gives 5 1 ys.length (ys.map B8) w)) := fun w => by rw [HY.out]; exact ref_Bytes x hcx w
   clear hx
   go_wp2_with (first
    | (with_reducible refine idx_s 17 _ _ _ _ _ l rfl (hs.below hb) _ _ k rfl rfl x HH.out ?_; intro b o hcell hbo)
    | (go_at_call 27; refine (HC.out _).mono ?_; rintro e w2 ⟨a3, c3, rfl, ho3, hb3⟩)
    | (at_builtin; refine app_bs rfl _ _ rfl w w.heap.size _ _ _ _ rfl (hown.below hb3) _ _ _ ys rfl ho3.sl (by omega) (Nat.le_trans hb.size hb3.size) (hb.trans (hb3.mono hb.size)) ?_; intro a' c' w' ho' hgr' hb'))
   go_roundg (l.length - (k + 1))
   case measure => have := HG.out; omega
   case rel => exact ⟨k + 1, a', c', xs ++ ys, by omega, rfl, HS.out.symm, by go_num, by rw [List.length_append], by rw [List.length_append, List.map_append]; exact ho', hb'⟩
  ·obtain rfl : k = l.length := by omega
   go_wp2
   go_ret
   have e : encStrs l = xs := by rw [HX.out, acc_all]; rfl
   rw [e]
   exact ⟨a2, c2, rfl, hown, hb⟩

end Go.Proofs.YtfagjaabladgpaaDoor
end

section
/- A map that the call makes, whose keys are structs of a string and a number, and whose elements are all true: a set. No program in sight. -/
namespace Go.Dx
open Go.RowKit

abbrev nameV (n : ByteArray × Int) : Value := .agg #[.string n.1, .int .i64 n.2]
structure NameKey (P : Program) (K : TypeId) : Prop where
 ex : ∃ f0 f1 : Field, P.underlying K = some (.struct #[f0, f1]) ∧ f0.name ≠ "_" ∧ f1.name ≠ "_" ∧ f0.offset = 0 ∧ f1.offset = 1 ∧ P.underlying f0.type = some .string ∧ P.underlying f1.type = some (.int .i64)
 held : P.stoodInHeld K = false

theorem run_part_one {P : Program} {w : World} {t : TypeId} {xs : Array Value} {off : Nat} {v : Value} {d : TypeDesc} (hd : P.underlying t = some d) (hp : d = .string ∨ d = .int .i64) (hx : xs[off]? = some v) : (part t xs off).run P w = .ok v w := by
 rcases hp with rfl | rfl <;> simp [part, isAgg, run_underlying hd, hx]

theorem name_eq {P : Program} {K : TypeId} (h : NameKey P K) (w : World) (n m : ByteArray × Int) : (Op.equal K (nameV n) (nameV m)).run P w = .ok (n.1.toList == m.1.toList && n.2 == m.2) w := by
 obtain ⟨f0, f1, hu, h0, h1, o0, o1, u0, u1⟩ := h.ex
 have hf : P.fieldsOf K = #[f0, f1] := by simp [Program.fieldsOf, hu]
 have hrun := run_equalIn_struct w (P := P) 9999 K #[.string n.1, .int .i64 n.2] #[.string m.1, .int .i64 m.2] (by rw [hf]; exact hu) h.held
 rw [hf] at hrun
 have a0 := fun (xs : Array Value) (v : Value) (hx : xs[0]? = some v) => run_part_one (w := w) u0 (.inl rfl) hx
 have a1 := fun (xs : Array Value) (v : Value) (hx : xs[1]? = some v) => run_part_one (w := w) u1 (.inr rfl) hx
 have e1 := a0 #[.string n.1, .int .i64 n.2] (.string n.1) rfl
 have e2 := a0 #[.string m.1, .int .i64 m.2] (.string m.1) rfl
 have e3 := a1 #[.string n.1, .int .i64 n.2] (.int .i64 n.2) rfl
 have e4 := a1 #[.string m.1, .int .i64 m.2] (.int .i64 m.2) rfl
 have q1 := run_equalIn_string w (P := P) 9998 f0.type n.1 m.1 u0
 have q2 := run_equalIn_int w (P := P) 9998 f1.type .i64 .i64 n.2 m.2 u1
 show (Op.equalIn 10000 K (nameV n) (nameV m)).run P w = _
 rw [hrun]
 simp only [Op.eqFields, h0, h1, o0, o1, e1, e2, e3, e4, q1, q2, Sem.run_bind, Result.andThen_ok, ne_eq, not_false_eq_true, if_true]
 simp only [show (9999 : Nat) = 9998 + 1 from rfl, q1, q2, Result.andThen_ok]
 cases hq : (n.1.toList == m.1.toList)
 ·simp
 ·cases hq2 : (n.2 == m.2) <;> simp [e3, e4, q2, hq2]

theorem name_key {P : Program} {K : TypeId} (h : NameKey P K) (w : World) (b : Bool) (n : ByteArray × Int) : (Instr.checkKey b 10000 K (nameV n)).run P w = .ok () w := by
 obtain ⟨f0, f1, hu, h0, h1, o0, o1, u0, u1⟩ := h.ex
 have e1 := run_part_one (P := P) (w := w) (xs := #[.string n.1, .int .i64 n.2]) u0 (.inl rfl) (off := 0) (v := .string n.1) rfl
 have e3 := run_part_one (P := P) (w := w) (xs := #[.string n.1, .int .i64 n.2]) u1 (.inr rfl) (off := 1) (v := .int .i64 n.2) rfl
 have c1 : ∀ k, (Instr.checkKey b (k + 1) f0.type (.string n.1)).run P w = .ok () w := fun k => by simp [Instr.checkKey, run_underlying u0]
 have c2 : ∀ k, (Instr.checkKey b (k + 1) f1.type (.int .i64 n.2)).run P w = .ok () w := fun k => by simp [Instr.checkKey, run_underlying u1]
 have key : ∀ k, (Instr.checkKey b (k + 2) K (nameV n)).run P w = .ok () w := fun k => by
  rw [Instr.checkKey]
  simp [run_underlying hu, h0, h1, o0, o1, e1, e3, c1, c2]
 exact key 9998
structure NSet (w : World) (b : Nat) (ns : List (ByteArray × Int)) : Prop where
 ex : ∃ es clock, w.heap[b]? = some (.map es clock) ∧ es.toList.map (fun e => (e.key, e.val)) = ns.map (fun n => (nameV n, Value.bool true))
def isIn (ns : List (ByteArray × Int)) (n : ByteArray × Int) : Bool := ns.any fun m => n.1.toList == m.1.toList && n.2 == m.2

theorem NSet.new (w : World) : NSet (w.alloc (.map #[] 0)) w.heap.size [] := ⟨#[], 0, heap_alloc_new w _, rfl⟩
theorem NSet.lt {w : World} {b : Nat} {ns : List (ByteArray × Int)} (h : NSet w b ns) : b < w.heap.size := by
 obtain ⟨es, clock, hb, _⟩ := h.ex
 exact (Array.getElem?_eq_some_iff.1 hb).1
theorem NSet.kept {w w' : World} {row : Option Nat} {b : Nat} {ns : List (ByteArray × Int)} (h : NSet w b ns) (hg : w.grownBy w' row) (hne : some b ≠ row) : NSet w' b ns := by
 have hlt := h.lt
 obtain ⟨es, clock, hb, he⟩ := h.ex
 exact ⟨es, clock, (hg.block b hlt hne).trans hb, he⟩
theorem NSet.below {w w' : World} {b : Nat} {ns : List (ByteArray × Int)} (h : NSet w b ns) (hg : Below w.heap.size w w') : NSet w' b ns := by
 have hlt := h.lt
 obtain ⟨es, clock, hb, he⟩ := h.ex
 exact ⟨es, clock, (hg.block b hlt).trans hb, he⟩
theorem NSet.alloc {w : World} {b : Nat} {ns : List (ByteArray × Int)} (h : NSet w b ns) (o : Obj) : NSet (w.alloc o) b ns := h.below ((Below.refl _ _).alloc (Nat.le_refl _) _)
theorem find_names {P : Program} {K : TypeId} (h : NameKey P K) (w : World) (n : ByteArray × Int) : ∀ (es : List MapEntry) (ns : List (ByteArray × Int)) (i : Nat), es.map (fun e => (e.key, e.val)) = ns.map (fun n => (nameV n, Value.bool true)) →
  ∃ r, (Instr.findAsking K (nameV n) es i).run P w = .ok r w ∧ r.map (·.2) = if isIn ns n then some (Value.bool true) else none := by
 intro es
 induction es with
 | nil =>
  intro ns i he
  cases ns with
  | nil => exact ⟨none, by simp [Instr.findAsking], rfl⟩
  | cons m ns => cases he
 | cons e es ih =>
  intro ns i he
  cases ns with
  | nil => cases he
  | cons m ns =>
   rw [List.map_cons, List.map_cons] at he
   injection he with h1 h2
   injection h1 with hk hv
   have hq := name_eq h w n m
   cases hc : (n.1.toList == m.1.toList && n.2 == m.2)
   ·obtain ⟨r, hr, hr2⟩ := ih ns (i + 1) h2
    refine ⟨r, ?_, ?_⟩
    ·rw [hc] at hq
     simp only [Instr.findAsking, hk, Sem.run_bind, hq, Result.andThen_ok, Bool.false_eq_true, if_false]
     exact hr
    ·rw [hr2]; simp only [isIn, List.any_cons, hc, Bool.false_or]; rfl
   ·refine ⟨some (i, e.val), ?_, ?_⟩
    ·rw [hc] at hq
     simp only [Instr.findAsking, hk, Sem.run_bind, hq, Result.andThen_ok, if_true, Sem.run_pure]
    ·simp only [isIn, List.any_cons, hc, Bool.true_or, if_true, Option.map_some, hv]

theorem find_key {P : Program} {K : TypeId} (h : NameKey P K) (w : World) (n : ByteArray × Int) (es : List MapEntry) (ns : List (ByteArray × Int)) (he : es.map (fun e => (e.key, e.val)) = ns.map (fun n => (nameV n, Value.bool true))) :
  ∃ r, (Instr.findKey K (nameV n) es).run P w = .ok r w ∧ r.map (·.2) = if isIn ns n then some (Value.bool true) else none := by
 obtain ⟨f0, f1, hu, _⟩ := h.ex
 cases es with
 | nil =>
  cases ns with
  | nil => exact ⟨none, by simp [Instr.findKey, run_underlying hu, Instr.findNow], rfl⟩
  | cons m ns => cases he
 | cons e es =>
  obtain ⟨r, hr, hr2⟩ := find_names h w n (e :: es) ns 0 he
  refine ⟨r, ?_, hr2⟩
  have hk : e.key = nameV (ns.headD n) := by
   cases ns with
   | nil => cases he
   | cons m ns => injection he with h1 _; injection h1
  have hf : Instr.findNow (.struct #[f0, f1]) (nameV n) (e :: es) 0 = none := by
   simp [Instr.findNow, hk, Instr.sameNow]
  simp only [Instr.findKey, Sem.run_bind, run_underlying hu, Result.andThen_ok, hf]
  exact hr

section
variable {P : Program} {w : World} {ops : Array Oper} {rest : List Oper} {o : Oper} {a : Act} {Q : Exit → Act → World → Prop}
theorem look_name {K : TypeId} (hK0 : NameKey P K) (hg : o.guard = none) (m x : Operand) (t e : TypeId) (hop : o.op = Op.lookup t m x false) (ht : P.underlying t = some (.map K e))
  (hz : ∀ w, (zeroValue e).run P w = .ok (.bool false) w) (b : Nat) (ns : List (ByteArray × Int)) (hm : a.eval m = .map (some b)) (hown : NSet w b ns) (n : ByteArray × Int) (hx : a.eval x = nameV n)
  (hK : wpList P ops Q rest (a.put o.dst (.bool (isIn ns n))) w) : wpList P ops Q (o :: rest) a w := by
 refine wpList_plain hg fun K' hK' => ?_
 obtain ⟨es, clock, hb, he⟩ := hown.ex
 obtain ⟨r, hr, hr2⟩ := find_key hK0 w n es.toList ns he
 have hrun : (Instr.lookup t (.map (some b)) (nameV n) false).run P w = .ok (.bool (isIn ns n)) w := by
  have hck := name_key hK0 w es.isEmpty n
  cases r with
  | none =>
   cases hi : isIn ns n
   ·simp [Instr.lookup, run_underlying ht, MapKept.run_getObj_map hb, hck, hr, hz]
   ·rw [hi] at hr2; cases hr2
  | some q =>
   cases hi : isIn ns n
   ·rw [hi] at hr2; cases hr2
   ·rw [hi] at hr2
    have : q.2 = .bool true := by simpa using hr2
    obtain ⟨q1, q2⟩ := q
    subst this
    simp [Instr.lookup, run_underlying ht, MapKept.run_getObj_map hb, hck, hr]
 unfold Oper.wp
 simp [execOp, hop, hm, hx, hrun, Result.andThen]
 exact hK' _ _ hK
theorem put_name {K : TypeId} (hK0 : NameKey P K) (hg : o.guard = none) (m x v : Operand) (t e : TypeId) (hop : o.op = Op.mapUpdate t m x v) (ht : P.underlying t = some (.map K e))
  (b : Nat) (ns : List (ByteArray × Int)) (hm : a.eval m = .map (some b)) (hown : NSet w b ns) (n : ByteArray × Int) (hx : a.eval x = nameV n) (hv : a.eval v = .bool true) (hnew : isIn ns n = false)
  (hK : ∀ w', NSet w' b (ns ++ [n]) → w.grownBy w' (some b) → w'.heap.size = w.heap.size → wpList P ops Q rest (a.put o.dst undef) w') : wpList P ops Q (o :: rest) a w := by
 refine wpList_plain hg fun K' hK' => ?_
 obtain ⟨es, clock, hb, he⟩ := hown.ex
 obtain ⟨r, hr, hr2⟩ := find_key hK0 w n es.toList ns he
 rw [hnew] at hr2
 have hrn : r = none := by cases r with
  | none => rfl
  | some q => cases hr2
 subst hrn
 have hck := name_key hK0 w false n
 have hlt := hown.lt
 obtain ⟨w', hw'⟩ : ∃ w', w' = { w with heap := w.heap.setIfInBounds b (.map (es.push { key := nameV n, val := .bool true, born := clock }) (clock + 1)) } := ⟨_, rfl⟩
 have hrun : (Instr.mapUpdate t (.map (some b)) (nameV n) (.bool true)).run P w = .ok () w' := by
  subst hw'
  simp [Instr.mapUpdate, run_underlying ht, MapKept.run_getObj_map hb, MapKept.run_setObj_map _ hb, hck, hr]
 unfold Oper.wp
 simp [execOp, hop, hm, hx, hv, hrun, Result.andThen]
 refine hK' _ _ (hK w' ?_ ?_ ?_)
 ·refine ⟨_, clock + 1, by rw [hw']; simp [Array.getElem?_setIfInBounds, hlt]; rfl, ?_⟩
  simp [he]
 ·rw [hw']
  refine ⟨rfl, rfl, rfl, by simp, fun k hk hne => ?_⟩
  simp only [Array.getElem?_setIfInBounds]
  rw [if_neg (fun e => hne (by rw [e]))]
 ·rw [hw']; simp
end
end Go.Dx
end

section
/- Chapter 06, in plain Lean: laws on names, on the error of tables, and on where a rule fits. No program in sight. -/
namespace Go.Dx

abbrev nmOf (r : Ru) : ByteArray × Int := (r.text, r.whr)
theorem isIn_eq (l : List Ru) (n : ByteArray × Int) : isIn (l.map nmOf) n = decide ((chars n.1, n.2) ∈ l.map nameOf) := by
 rw [Bool.eq_iff_iff]
 simp only [isIn, List.any_map, List.any_eq_true, decide_eq_true_eq, List.mem_map, nameOf, Function.comp, Bool.and_eq_true, beq_iff_eq, ByteArray.toList_eq, chars, Prod.mk.injEq]
 constructor
 ·rintro ⟨r, hr, h1, h2⟩; exact ⟨r, hr, h1.symm, h2.symm⟩
 ·rintro ⟨r, hr, h1, h2⟩; exact ⟨r, hr, h1.symm, h2.symm⟩
def apart (l : List Ru) (k : Nat) : Prop := ((l.take k).map nameOf).Nodup
theorem apart_zero (l : List Ru) : apart l 0 := by simp [apart]
theorem take_succ_get {α : Type} {l : List α} {k : Nat} {x : α} (h : l[k]? = some x) : l.take (k + 1) = l.take k ++ [x] := by
 rw [List.take_add_one, h]; rfl
theorem apart_step {l : List Ru} {k : Nat} {r : Ru} (h : l[k]? = some r) (ha : apart l k) (hn : isIn ((l.take k).map nmOf) (nmOf r) = false) : apart l (k + 1) := by
 rw [isIn_eq] at hn
 simp only [decide_eq_false_iff_not] at hn
 unfold apart at ha ⊢
 rw [take_succ_get h, List.map_append, List.nodup_append]
 refine ⟨ha, by simp, ?_⟩
 intro a h1 b h2 e
 simp only [List.map_cons, List.map_nil, List.mem_singleton] at h2
 subst h2; subst e
 exact hn h1
theorem dup_of {l : List Ru} {k : Nat} {r : Ru} (h : l[k]? = some r) (hn : isIn ((l.take k).map nmOf) (nmOf r) = true) : dupB l = true := by
 rw [isIn_eq] at hn
 simp only [decide_eq_true_eq] at hn
 unfold dupB
 simp only [Bool.not_eq_true', decide_eq_false_iff_not]
 intro hd
 have hk := (List.getElem?_eq_some_iff.1 h).1
 have hs : (l.take (k + 1)).Sublist l := List.take_sublist _ _
 have := (hs.map nameOf).nodup hd
 rw [take_succ_get h, List.map_append, List.nodup_append] at this
 exact this.2.2 _ hn _ (by simp [nameOf]) rfl
theorem apart_all {l : List Ru} (h : apart l l.length) : dupB l = false := by
 unfold apart at h
 rw [List.take_length] at h
 simp [dupB, h]
theorem own_in (l : List Ru) (c : UInt8) (s : ByteArray) (hs : chars s = [c]) : isIn (l.map nmOf) (s, 0) = ownB l c := by
 rw [isIn_eq]
 simp only [hs, ownB]
def ownTo (l : List Ru) (k : Nat) : Prop := ∀ j, j < k → ownB l (UInt8.ofNat (97 + j)) = true
theorem ownTo_step {l : List Ru} {k : Nat} (h : ownTo l k) (h2 : ownB l (UInt8.ofNat (97 + k)) = true) : ownTo l (k + 1) := by
 intro j hj
 by_cases e : j = k
 ·subst e; exact h2
 ·exact h j (by omega)
theorem miss_of {l : List Ru} {k : Nat} (hk : k < 26) (h : ownB l (UInt8.ofNat (97 + k)) = false) : missB l = true := by
 unfold missB
 rw [List.any_eq_true]
 exact ⟨k, by simpa using hk, by rw [h]; rfl⟩
theorem miss_no {l : List Ru} (h : ownTo l 26) : missB l = false := by
 unfold missB
 rw [List.any_eq_false]
 intro k hk
 rw [h k (by simpa using hk)]; simp
def inAt (l : List Sy) (g : Int) (i : Int) : Bool := decide (0 ≤ i) && match l[i.toNat]? with
 | some x => decide (x.lang = g) && isL x.c
 | none => false
structure IsLo (l : List Sy) (g : Int) (i a : Int) : Prop where
 le : a ≤ i
 all : ∀ j, a ≤ j → j < i → inAt l g j = true
 no : inAt l g (a - 1) = false
structure IsHi (l : List Sy) (g : Int) (i b : Int) : Prop where
 le : i ≤ b
 all : ∀ j, i ≤ j → j < b → inAt l g j = true
 no : inAt l g b = false
theorem lo_cmp {l : List Sy} {g : Int} {i a : Int} (h : IsLo l g i a) : decide (a < i) = inAt l g (i - 1) := by
 cases hi : inAt l g (i - 1)
 ·have : ¬ a < i := fun hl => by rw [h.all (i - 1) (by omega) (by omega)] at hi; cases hi
  simp [this]
 ·have : a < i := by
   have := h.le
   have hn := h.no
   by_cases e : a = i
   ·rw [e, hi] at hn; cases hn
   ·omega
  simp [this]
theorem hi_cmp {l : List Sy} {g : Int} {i b : Int} (h : IsHi l g i b) (n : Nat) (hn : ∀ j, i ≤ j → j < i + n → inAt l g j = true) : i + n ≤ b ∧ decide (i + n < b) = inAt l g (i + n) := by
 have hb : i + n ≤ b := by
  have h1 := h.no
  have h2 := h.le
  by_cases e : b < i + n
  ·rw [hn b h2 e] at h1; cases h1
  ·omega
 refine ⟨hb, ?_⟩
 cases hi : inAt l g (i + n)
 ·have : ¬ i + n < b := fun hl => by rw [h.all (i + n) (by omega) hl] at hi; cases hi
  simp [this]
 ·have : i + n < b := by
   have hn := h.no
   by_cases e : b = i + n
   ·rw [e, hi] at hn; cases hn
   ·omega
  simp [this]
theorem inAt_nat (l : List Sy) (g : Int) (k : Nat) : inAt l g (k : Int) = match l[k]? with
 | some x => decide (x.lang = g) && isL x.c
 | none => false := by
 unfold inAt
 simp
theorem isS_low {c : UInt8} (h : isS (low c) = true) : isL c = true := by
 unfold low at h
 by_cases hc : isC c = true
 ·simp [isL, hc]
 ·rw [if_neg hc] at h
  simp [isL, h]
theorem same_letters {g : Int} : ∀ (s : List UInt8) (b : Bool) (l : List Sy), sameAt g b s l = true → s.all isS = true → ∀ j, j < s.length → ∃ x, l[j]? = some x ∧ x.lang = g ∧ isL x.c = true := by
 intro s
 induction s with
 | nil => intro b l _ _ j hj; cases hj
 | cons u s ih =>
  intro b l h hs j hj
  cases l with
  | nil => cases h
  | cons x l =>
   simp only [sameAt, Bool.and_eq_true, decide_eq_true_eq] at h
   obtain ⟨⟨⟨h1, h2⟩, h3⟩, h4⟩ := h
   rw [List.all_cons, Bool.and_eq_true] at hs
   cases j with
   | zero => exact ⟨x, rfl, h2, isS_low (by rw [h1]; exact hs.1)⟩
   | succ j =>
    obtain ⟨y, hy, h5⟩ := ih false l h4 hs.2 j (by simpa using hj)
    exact ⟨y, by simpa using hy, h5⟩
theorem place_eq {r : Ru} {l : List Sy} {i : Nat} {x : Sy} (hx : l[i]? = some x) (hs : sameAt x.lang true (chars r.text) (l.drop i) = true) (hm : small r.text = true) (h1 : 1 ≤ r.text.size)
  {a b : Int} (ha : IsLo l x.lang i a) (hb : IsHi l x.lang i b) :
  inWord l i = decide (a < (i : Int)) ∧ (i : Int) + r.text.size ≤ b ∧ inWord l (i + r.text.size) = decide ((i : Int) + r.text.size < b) := by
 have hlen : (chars r.text).length = r.text.size := Array.length_toList
 have hin : ∀ j, j < r.text.size → ∃ y, l[i + j]? = some y ∧ y.lang = x.lang ∧ isL y.c = true := by
  intro j hj
  obtain ⟨y, hy, h2⟩ := same_letters _ _ _ hs hm j (by rw [hlen]; exact hj)
  exact ⟨y, by rw [← List.getElem?_drop]; exact hy, h2⟩
 have hall : ∀ j, (i : Int) ≤ j → j < (i : Int) + r.text.size → inAt l x.lang j = true := by
  intro j h2 h3
  obtain ⟨y, hy, h4, h5⟩ := hin (j - i).toNat (by omega)
  have e : j = ((i + (j - i).toNat : Nat) : Int) := by omega
  rw [e, inAt_nat, hy]
  simp [h4, h5]
 obtain ⟨hb1, hb2⟩ := hi_cmp hb r.text.size hall
 obtain ⟨y0, hy0, g0, k0⟩ := hin 0 (by omega)
 rw [Nat.add_zero, hx] at hy0
 obtain rfl := Option.some.inj hy0
 refine ⟨?_, hb1, ?_⟩
 ·rw [lo_cmp ha]
  cases i with
  | zero => simp [inWord, inAt]
  | succ k =>
   have e : ((k + 1 : Nat) : Int) - 1 = (k : Int) := by omega
   rw [e, inAt_nat]
   simp only [inWord, hx]
   cases l[k]? with
   | none => rfl
   | some z => simp only [k0, Bool.and_true]; rw [Bool.and_comm]
 ·rw [hb2]
  obtain ⟨z, hz, g1, k1⟩ := hin (r.text.size - 1) (by omega)
  have e1 : i + r.text.size = (i + (r.text.size - 1)) + 1 := by omega
  have e2 : (i : Int) + r.text.size = (((i + (r.text.size - 1)) + 1 : Nat) : Int) := by omega
  rw [e2, inAt_nat, e1]
  simp only [inWord, hz]
  cases hq : l[i + (r.text.size - 1) + 1]? with
  | none => rfl
  | some q =>
   simp only [g1]
   rw [k1, Bool.true_and, Bool.and_comm]
   congr 1
   rw [decide_eq_decide]
   exact ⟨fun h => h.symm, fun h => h.symm⟩
theorem same_len {g : Int} : ∀ (s : List UInt8) (b : Bool) (l : List Sy), sameAt g b s l = true → s.length ≤ l.length := by
 intro s
 induction s with
 | nil => intro b l _; exact Nat.zero_le _
 | cons u s ih =>
  intro b l h
  cases l with
  | nil => cases h
  | cons x l =>
   simp only [sameAt, Bool.and_eq_true] at h
   have := ih false l h.2
   simp; omega
end Go.Dx
end

section
/- Chapter 06, in plain Lean: what the steps of valid tables are like (Always). No program in sight. -/
namespace Go.Dx

theorem valid_parts {t : Ta} (h : validE t = 0) : t.l0.length ≤ 96 ∧ t.l1.length ≤ 96 ∧ goodT t = true ∧ dupB t.l0 = false ∧ dupB t.l1 = false ∧ missB t.l0 = false ∧ missB t.l1 = false := by
 unfold validE at h
 split at h
 ·cases h
 ·rename_i h1
  split at h
  ·cases h
  ·rename_i h2
   split at h
   ·cases h
   ·rename_i h3
    split at h
    ·cases h
    ·rename_i h4
     simp only [Bool.or_eq_true, not_or, Bool.not_eq_true] at h2 h3 h4
     refine ⟨by omega, by omega, by simpa using h2, h3.1, h3.2, h4.1, h4.2⟩
theorem good_parts {t : Ta} (h : goodT t = true) : t.dig.length = 10 ∧ indic t.cap = true ∧ indic t.num = true ∧ indic t.fin = true ∧ indic t.sw = true ∧ (∀ r ∈ t.l0, ruOk r = true) ∧ (∀ r ∈ t.l1, ruOk r = true) := by
 unfold goodT at h
 simp only [Bool.and_eq_true, decide_eq_true_eq, List.all_eq_true] at h
 obtain ⟨⟨⟨⟨⟨⟨⟨h1, _⟩, h2⟩, h3⟩, h4⟩, h5⟩, h6⟩, h7⟩ := h
 exact ⟨h1, h2, h3, h4, h5, h6, h7⟩
theorem lang_ok {t : Ta} (h : goodT t = true) (g : Int) : ∀ r ∈ langOf t g, ruOk r = true := by
 intro r hr
 obtain ⟨_, _, _, _, _, h0, h1⟩ := good_parts h
 unfold langOf at hr
 split at hr
 ·exact h0 r hr
 ·exact h1 r hr
theorem ru_parts {r : Ru} (h : ruOk r = true) : 1 ≤ r.text.size ∧ r.text.size ≤ 8 ∧ 0 ≤ r.whr ∧ r.whr ≤ 3 ∧ indic r.cells = true ∧ (small r.text = true ∨ oneMark r.text = true ∧ r.whr = 0) := by
 unfold ruOk at h
 simp only [Bool.and_eq_true, Bool.or_eq_true, decide_eq_true_eq] at h
 obtain ⟨⟨⟨⟨⟨h1, h2⟩, h3⟩, h4⟩, h5⟩, h6⟩ := h
 exact ⟨h1, h2, h3, h4, h5, h6⟩
theorem indic_le {l : List UInt8} (h : indic l = true) : l.length ≤ 4 := by
 unfold indic at h
 simp only [Bool.and_eq_true, decide_eq_true_eq] at h
 exact h.1.2
def isM (c : UInt8) : Bool := decide (c ∈ ([32, 46, 44, 63, 39, 45] : List UInt8))
structure GoodTa (t : Ta) : Prop where
 ok : validE t = 0
 mark : ∀ g c, isM c = true → ownB (langOf t g) c = true
def plainSy (x : Sy) : Bool := symOk x && (isL x.c || isD x.c || isM x.c)
theorem steps_at {t : Ta} (ht : validE t = 0) {s : St} (hs : s.lang = 0 ∨ s.lang = 1) {l : List Sy} (hl : goodS l = true) {i : Nat} {x : Sy} (hx : l[i]? = some x) : stepsL t s l i = nextL t s l i x := by
 unfold stepsL
 rw [if_pos ⟨ht, hs, by omega, hl⟩]
 simp [hx]
theorem fits_len {r : Ru} {l : List Sy} {i : Nat} (hi : i < l.length) (h : fitsB r l i = true) : i + r.text.size ≤ l.length := by
 unfold fitsB at h
 rw [List.getElem?_eq_getElem hi] at h
 simp only [Bool.and_eq_true] at h
 have := same_len _ _ _ h.1
 rw [List.length_drop] at this
 have e : (chars r.text).length = r.text.size := Array.length_toList
 omega
end Go.Dx
end

section
/- Chapter 06, in plain Lean: the steps hang on the word alone (Local). No program in sight. -/
namespace Go.Dx

end Go.Dx
end

section
/- Slices whose elements are structs: what they read as, an element's address, an element loaded whole. No program in sight. -/
namespace Go.Dx
open Go.RowKit

section
variable {α : Type} {f : α → List Value} {sz : Nat}
theorem flat_len (hf : ∀ x, (f x).length = sz) : ∀ l : List α, (l.flatMap f).length = l.length * sz
 | [] => by simp
 | x :: l => by rw [List.flatMap_cons, List.length_append, hf, flat_len hf l, List.length_cons, Nat.add_mul]; omega
theorem flat_drop (hf : ∀ x, (f x).length = sz) : ∀ (l : List α) (i : Nat), (l.flatMap f).drop (i * sz) = (l.drop i).flatMap f
 | [], i => by simp
 | x :: l, 0 => by simp
 | x :: l, i + 1 => by
  rw [List.flatMap_cons, List.drop_succ_cons, ← flat_drop hf l i, Nat.add_mul, Nat.one_mul, Nat.add_comm, List.drop_append, hf, Nat.add_sub_cancel_left]
  rw [List.drop_of_length_le (by rw [hf]; omega)]
  rfl
theorem flat_take (hf : ∀ x, (f x).length = sz) : ∀ (l : List α) (i : Nat), (l.flatMap f).take (i * sz) = (l.take i).flatMap f
 | [], i => by simp
 | x :: l, 0 => by simp
 | x :: l, i + 1 => by
  rw [List.flatMap_cons, List.take_succ_cons, List.flatMap_cons, ← flat_take hf l i, Nat.add_mul, Nat.one_mul, Nat.add_comm, List.take_append, hf, Nat.add_sub_cancel_left]
  rw [List.take_of_length_le (by rw [hf]; omega)]
theorem flat_get (hf : ∀ x, (f x).length = sz) {l : List α} {i : Nat} {x : α} (hx : l[i]? = some x) {j : Nat} (hj : j < sz) : (l.flatMap f)[i * sz + j]? = (f x)[j]? := by
 have hi := (List.getElem?_eq_some_iff.1 hx).1
 rw [← List.getElem?_drop, flat_drop hf, List.drop_eq_getElem_cons hi, List.flatMap_cons, List.getElem?_append_left (by rw [hf]; exact hj), (List.getElem?_eq_some_iff.1 hx).2]
theorem Sl.nf (hf : ∀ x, (f x).length = sz) (h0 : 0 < sz) {w : World} {a : Option Addr} {n c : Nat} {l : List α} (h : Sl w sz a n c (l.flatMap f)) : n = l.length := by
 have := h.len
 rw [flat_len hf] at this
 exact (Nat.eq_of_mul_eq_mul_right h0 this).symm
theorem one_flat (hf : ∀ x, ∀ u ∈ f x, u.oneCell' = true) (l : List α) : ∀ u ∈ l.flatMap f, u.oneCell' = true := by
 intro u hu
 obtain ⟨x, _, hx⟩ := List.mem_flatMap.1 hu
 exact hf x u hx
end

section ops
variable {P : Program} {w : World} {ops : Array Oper} {rest : List Oper} {act : Act} {Q : Exit → Act → World → Prop}
 {ty : TypeId} {pos : String} {after : Array Edge}
theorem index_row (d : Nat) (t : TypeId) (x y : Operand) (e : TypeId) (ht : P.underlying t = some (.slice e)) (sz : Nat) (hsz : (P.info? e).map (·.size) = some sz)
  (a : Option Addr) (n c : Nat) (cs : List Value) (hx : act.eval x = .slice a n c) (hs : Sl w sz a n c cs) (k : IntKind) (iv : Int) (i : Nat) (hy : act.eval y = .int k iv) (hiv : iv = (i : Int)) (hi : i < n) (h0 : 0 < sz)
  (hK : ∀ b o, (∀ j u, j < sz → cs[i * sz + j]? = some u → w.cell? ⟨b, o + j, none⟩ = some u) → b < w.heap.size → (∀ p, a = some p → p.block = b) → wpList P ops Q rest (act.put (some d) (.pointer (some ⟨b, o, none⟩))) w) :
  wpList P ops Q ({ dst := some d, op := .indexAddr t x y, type := ty, pos := pos, after := after, guard := none } :: rest) act w := by
 refine wpList_plain rfl fun K hK' => ?_
 have hlen := hs.len
 have hm : (i + 1) * sz ≤ n * sz := Nat.mul_le_mul_right _ hi
 obtain ⟨b, o, rfl, hb, hc⟩ := hs.ex (by rw [hlen]; exact Nat.mul_pos (by omega) h0)
 obtain ⟨i0, hi0, hs0⟩ := Option.map_eq_some_iff.1 hsz
 subst hiv
 have hrun : (Instr.indexAt t (.slice (some ⟨b, o, none⟩) n c) (.int k (i : Int))).run P w = .ok (.pointer (some ⟨b, o + i * sz, none⟩)) w := by
  simp [Instr.indexAt, asIntOf, run_underlying ht, sizeOf, typeInfo, hi0, hs0, hi, Addr.add_lit]
 unfold Oper.wp
 simp [execOp, hx, hy, hrun, Result.andThen]
 exact hK' _ _ (hK b (o + i * sz) (fun j u hj hu => by rw [Nat.add_assoc]; exact hc _ u hu) hb (fun p hp => by cases hp; rfl))
theorem load_struct (d : Nat) (t : TypeId) (x : Operand) (sz : Nat) (hsz : (P.info? t).map (·.size) = some sz) (fs : Array Field) (hag : P.underlying t = some (.struct fs))
  (p : Addr) (hx : act.eval x = .pointer (some p)) (cs : List Value) (hl : cs.length = sz) (hc : ∀ j u, cs[j]? = some u → w.cell? (p.add j) = some u)
  (hK : wpList P ops Q rest (act.put (some d) (.agg cs.toArray)) w) :
  wpList P ops Q ({ dst := some d, op := .load t x, type := ty, pos := pos, after := after, guard := none } :: rest) act w := by
 refine wpList_plain rfl fun K hK' => ?_
 obtain ⟨i, hi, hs0⟩ := Option.map_eq_some_iff.1 hsz
 subst hs0
 have hrun : (Instr.loadAt t (.pointer (some p))).run P w = .ok (.agg cs.toArray) w := by
  have hl2 := run_loadCells_list (P := P) w p cs hc
  rw [hl] at hl2
  simp [Instr.loadAt, Instr.sureAddr, loadVar, isAgg, run_underlying hag, sizeOf, typeInfo, hi, hl2]
 unfold Oper.wp
 simp [execOp, hx, hrun, Result.andThen]
 exact hK' _ _ hK
end ops
abbrev RH := Ru × (Option Addr × Nat × Nat)
def hdv (h : Option Addr × Nat × Nat) : Value := .slice h.1 h.2.1 h.2.2
def rc (p : RH) : List Value := [.string p.1.text, .int .i64 p.1.whr, hdv p.2]
theorem rc_len (p : RH) : (rc p).length = 3 := rfl
theorem rc_one (p : RH) : ∀ u ∈ rc p, u.oneCell' = true := by simp [rc, hdv, Value.oneCell']
def sc (x : Sy) : List Value := [.int .i64 x.lang, .int .u8 (x.c.toNat : Int)]
theorem sc_len (x : Sy) : (sc x).length = 2 := rfl
theorem sc_one (x : Sy) : ∀ u ∈ sc x, u.oneCell' = true := by simp [sc, Value.oneCell']
abbrev SH := Stp × (Option Addr × Nat × Nat)
def stc (p : SH) : List Value := [.int .i64 p.1.dst.lang, .bool p.1.dst.num, .bool p.1.dst.wrd, .int .i64 p.1.len, hdv p.2, .int .i64 p.1.rule]
theorem stc_len (p : SH) : (stc p).length = 6 := rfl
theorem stc_one (p : SH) : ∀ u ∈ stc p, u.oneCell' = true := by simp [stc, hdv, Value.oneCell']
structure Rul (w : World) (a : Option Addr) (n c : Nat) (ps : List RH) : Prop where
 top : Sl w 3 a n c (ps.flatMap rc)
 row : ∀ p ∈ ps, Sl w 1 p.2.1 p.2.2.1 p.2.2.2 (p.1.cells.map B8) ∧ p.1.text.size ≤ 1000
def rus (ps : List RH) : List Ru := ps.map (·.1)
theorem Rul.n_eq {w : World} {a : Option Addr} {n c : Nat} {ps : List RH} (h : Rul w a n c ps) : n = ps.length := h.top.nf rc_len (by decide)
theorem Rul.below {w w' : World} {a : Option Addr} {n c : Nat} {ps : List RH} (h : Rul w a n c ps) (hb : Below w.heap.size w w') : Rul w' a n c ps :=
 ⟨h.top.below hb, fun p hp => ⟨(h.row p hp).1.below hb, (h.row p hp).2⟩⟩
structure TH where
 r0 : Option Addr × Nat × Nat
 r1 : Option Addr × Nat × Nat
 p0 : List RH
 p1 : List RH
 d : Option Addr × Nat × Nat
 c : Option Addr × Nat × Nat
 n : Option Addr × Nat × Nat
 f : Option Addr × Nat × Nat
 s : Option Addr × Nat × Nat
def TH.v (H : TH) : Value := .agg #[hdv H.r0, hdv H.r1, hdv H.d, hdv H.c, hdv H.n, hdv H.f, hdv H.s]
structure TaIs (w : World) (H : TH) (t : Ta) : Prop where
 l0 : Rul w H.r0.1 H.r0.2.1 H.r0.2.2 H.p0
 l1 : Rul w H.r1.1 H.r1.2.1 H.r1.2.2 H.p1
 e0 : rus H.p0 = t.l0
 e1 : rus H.p1 = t.l1
 d : Sl w 1 H.d.1 H.d.2.1 H.d.2.2 (t.dig.map B8)
 c : Sl w 1 H.c.1 H.c.2.1 H.c.2.2 (t.cap.map B8)
 n : Sl w 1 H.n.1 H.n.2.1 H.n.2.2 (t.num.map B8)
 f : Sl w 1 H.f.1 H.f.2.1 H.f.2.2 (t.fin.map B8)
 s : Sl w 1 H.s.1 H.s.2.1 H.s.2.2 (t.sw.map B8)
theorem TaIs.below {w w' : World} {H : TH} {t : Ta} (h : TaIs w H t) (hb : Below w.heap.size w w') : TaIs w' H t :=
 ⟨h.l0.below hb, h.l1.below hb, h.e0, h.e1, h.d.below hb, h.c.below hb, h.n.below hb, h.f.below hb, h.s.below hb⟩
structure Stl (w : World) (a : Option Addr) (n c : Nat) (ps : List SH) (l : List Stp) : Prop where
 top : Sl w 6 a n c (ps.flatMap stc)
 row : ∀ p ∈ ps, Sl w 1 p.2.1 p.2.2.1 p.2.2.2 (p.1.cells.map B8)
 eq : ps.map (·.1) = l
theorem Stl.n_eq {w : World} {a : Option Addr} {n c : Nat} {ps : List SH} {l : List Stp} (h : Stl w a n c ps l) : n = l.length := by
 rw [← h.eq, List.length_map]; exact h.top.nf stc_len (by decide)
theorem Stl.below {w w' : World} {a : Option Addr} {n c : Nat} {ps : List SH} {l : List Stp} (h : Stl w a n c ps l) (hb : Below w.heap.size w w') : Stl w' a n c ps l :=
 ⟨h.top.below hb, fun p hp => (h.row p hp).below hb, h.eq⟩
end Go.Dx
end

section
/- Chapter 06, in plain Lean: the tables that the generator makes are valid. No program in sight. -/
namespace Go.Dx
structure Raw (l : List Ru) : Prop where
 ok : ∀ r ∈ l, ruOk r = true
 own : ∀ c, (isS c = true ∨ isM c = true) → ([c], (0 : Int)) ∈ l.map nameOf
 len : l.length ≤ 90
structure OnceOf (l out : List Ru) : Prop where
 sub : ∀ r ∈ out, r ∈ l
 names : ∀ n, n ∈ l.map nameOf → n ∈ out.map nameOf
 nodup : (out.map nameOf).Nodup
 len : out.length ≤ l.length
theorem once_step {l out : List Ru} (h : OnceOf l out) (r : Ru) : OnceOf (l ++ [r]) (if isIn (out.map nmOf) (nmOf r) then out else out ++ [r]) := by
 rw [isIn_eq]
 by_cases hn : (chars (nmOf r).1, (nmOf r).2) ∈ out.map nameOf
 ·rw [decide_eq_true hn, if_pos rfl]
  refine ⟨fun q hq => List.mem_append_left _ (h.sub q hq), ?_, h.nodup, by rw [List.length_append]; exact Nat.le_trans h.len (by omega)⟩
  intro n h2
  rw [List.map_append, List.mem_append] at h2
  rcases h2 with h2 | h2
  ·exact h.names n h2
  ·simp only [List.map_cons, List.map_nil, List.mem_singleton] at h2
   subst h2; exact hn
 ·rw [decide_eq_false hn, if_neg (by simp)]
  refine ⟨?_, ?_, ?_, by rw [List.length_append, List.length_append]; have := h.len; simp; omega⟩
  ·intro q hq
   rcases List.mem_append.1 hq with hq | hq
   ·exact List.mem_append_left _ (h.sub q hq)
   ·exact List.mem_append_right _ hq
  ·intro n h2
   rw [List.map_append, List.mem_append] at h2 ⊢
   rcases h2 with h2 | h2
   ·exact .inl (h.names n h2)
   ·exact .inr h2
  ·rw [List.map_append, List.nodup_append]
   refine ⟨h.nodup, by simp, ?_⟩
   intro a h1 b h2 e
   simp only [List.map_cons, List.map_nil, List.mem_singleton] at h2
   subst h2; subst e
   exact hn h1
theorem onceOf_nil : OnceOf [] [] := ⟨fun _ h => h, fun _ h => h, by simp, Nat.le_refl _⟩
theorem own_once {l out : List Ru} (hr : Raw l) (h : OnceOf l out) (c : UInt8) (hc : isS c = true ∨ isM c = true) : ownB out c = true := by
 unfold ownB
 exact decide_eq_true (h.names _ (hr.own c hc))
theorem isS_nat (k : Nat) (hk : k < 26) : isS (UInt8.ofNat (97 + k)) = true := by
 have e : (UInt8.ofNat (97 + k)).toNat = 97 + k := by rw [UInt8.toNat_ofNat']; omega
 unfold isS
 rw [e]; simp; omega
theorem once_miss {l out : List Ru} (hr : Raw l) (h : OnceOf l out) : missB out = false := by
 refine miss_no fun j hj => own_once hr h _ (.inl (isS_nat j hj))
theorem good_tables {t : Ta} {L0 L1 : List Ru} (h0 : Raw L0) (h1 : Raw L1) (o0 : OnceOf L0 t.l0) (o1 : OnceOf L1 t.l1) (hd : t.dig.length = 10) (hdc : okCells t.dig = true) (hc : indic t.cap = true) (hn : indic t.num = true) (hf : indic t.fin = true) (hs : indic t.sw = true) : GoodTa t := by
 constructor
 ·unfold validE
  have l0 := o0.len
  have l1 := o1.len
  have q0 := h0.len
  have q1 := h1.len
  rw [if_neg (by omega)]
  have hg : goodT t = true := by
   unfold goodT
   simp only [Bool.and_eq_true, decide_eq_true_eq, List.all_eq_true]
   exact ⟨⟨⟨⟨⟨⟨⟨hd, hdc⟩, hc⟩, hn⟩, hf⟩, hs⟩, fun r hr => h0.ok r (o0.sub r hr)⟩, fun r hr => h1.ok r (o1.sub r hr)⟩
  rw [hg, if_neg (by simp)]
  have d0 : dupB t.l0 = false := by unfold dupB; simp [o0.nodup]
  have d1 : dupB t.l1 = false := by unfold dupB; simp [o1.nodup]
  rw [d0, d1, once_miss h0 o0, once_miss h1 o1]
  rfl
 ·intro g c hc
  unfold langOf
  split
  ·exact own_once h0 o0 c (.inr hc)
  ·exact own_once h1 o1 c (.inr hc)
structure Raw1 (l : List Ru) (k : Nat) : Prop where
 ok : ∀ r ∈ l, ruOk r = true
 own : ∀ j, j < k → ([UInt8.ofNat (97 + j)], (0 : Int)) ∈ l.map nameOf
 len : l.length = k
theorem Raw1.zero : Raw1 [] 0 := ⟨fun _ h => by simp at h, fun j h => by omega, rfl⟩
theorem one_ok {v : UInt8} (h : cellOk v = true) : indic [v] = true := by simp [indic, okCells, h]
theorem two_ok {v u : UInt8} (h : cellOk v = true) (h2 : cellOk u = true) : indic [v, u] = true := by simp [indic, okCells, h, h2]
theorem size_chars (s : ByteArray) : s.size = (chars s).length := (Array.length_toList).symm
theorem letter_ok {s : ByteArray} {j : Nat} (hj : j < 26) (hs : chars s = [UInt8.ofNat (97 + j)]) {cs : List UInt8} (hc : indic cs = true) : ruOk ⟨s, 0, cs⟩ = true := by
 have hi := isS_nat j hj
 generalize UInt8.ofNat (97 + j) = u at hs hi
 unfold ruOk small
 rw [size_chars]
 simp [hs, hc, hi]
theorem Raw1.step {l : List Ru} {k : Nat} (h : Raw1 l k) (hk : k < 26) {s : ByteArray} (hs : chars s = [UInt8.ofNat (97 + k)]) {v : UInt8} (hv : cellOk v = true) : Raw1 (l ++ [⟨s, 0, [v]⟩]) (k + 1) := by
 refine ⟨?_, ?_, by rw [List.length_append, h.len]; rfl⟩
 ·intro r hr
  rcases List.mem_append.1 hr with hr | hr
  ·exact h.ok r hr
  ·rw [List.mem_singleton] at hr; subst hr; exact letter_ok hk hs (one_ok hv)
 ·intro j hj
  rw [List.map_append, List.mem_append]
  by_cases e : j = k
  ·subst e; right; simp [nameOf, hs]
  ·left; exact h.own j (by omega)
def marks6 : List UInt8 := [32, 46, 44, 63, 39, 45]
structure Raw2 (l : List Ru) (k : Nat) : Prop where
 ok : ∀ r ∈ l, ruOk r = true
 own : ∀ j, j < 26 → ([UInt8.ofNat (97 + j)], (0 : Int)) ∈ l.map nameOf
 mark : ∀ c, c ∈ marks6.take k → ([c], (0 : Int)) ∈ l.map nameOf
 len : l.length = 26 + k
theorem Raw2.zero {l : List Ru} (h : Raw1 l 26) : Raw2 l 0 := ⟨h.ok, h.own, fun c hc => by simp at hc, h.len⟩
theorem mark_ok : ∀ c ∈ marks6, (isW c && !isL c && !isD c) = true ∧ isS c = false := by decide
theorem Raw2.step {l : List Ru} {k : Nat} (h : Raw2 l k) {c : UInt8} (hk : marks6[k]? = some c) {s : ByteArray} (hs : chars s = [c]) {v : UInt8} (hv : cellOk v = true) : Raw2 (l ++ [⟨s, 0, [v]⟩]) (k + 1) := by
 refine ⟨?_, ?_, ?_, by rw [List.length_append, h.len]; rfl⟩
 ·intro r hr
  rcases List.mem_append.1 hr with hr | hr
  ·exact h.ok r hr
  ·rw [List.mem_singleton] at hr
   subst hr
   obtain ⟨h1, h2⟩ := mark_ok c (List.mem_of_getElem? hk)
   unfold ruOk small oneMark
   rw [size_chars]
   simp [hs, h1, h2, one_ok hv]
 ·intro j hj
  rw [List.map_append, List.mem_append]
  exact .inl (h.own j hj)
 ·intro d hd
  rw [List.map_append, List.mem_append]
  rw [List.take_add_one, hk, List.mem_append] at hd
  rcases hd with hd | hd
  ·exact .inl (h.mark d hd)
  ·simp only [Option.toList_some, List.mem_singleton] at hd
   subst hd
   right; simp [nameOf, hs]
structure Raw3 (l : List Ru) (k : Nat) : Prop where
 ok : ∀ r ∈ l, ruOk r = true
 own : ∀ c, (isS c = true ∨ isM c = true) → ([c], (0 : Int)) ∈ l.map nameOf
 len : l.length = 32 + k
theorem Raw3.zero {l : List Ru} (h : Raw2 l 6) : Raw3 l 0 := by
 refine ⟨h.ok, ?_, h.len⟩
 intro c hc
 rcases hc with hc | hc
 ·have hc2 := hc
  unfold isS at hc2
  simp only [Bool.and_eq_true, decide_eq_true_eq] at hc2
  have := h.own (c.toNat - 97) (by omega)
  have e : 97 + (c.toNat - 97) = c.toNat := by omega
  rw [e, UInt8.ofNat_toNat] at this
  exact this
 ·refine h.mark c ?_
  unfold isM at hc
  simpa [marks6] using hc
theorem Raw3.step {l : List Ru} {k : Nat} (h : Raw3 l k) {r : Ru} (hr : ruOk r = true) : Raw3 (l ++ [r]) (k + 1) := by
 refine ⟨?_, ?_, by rw [List.length_append, h.len]; rfl⟩
 ·intro q hq
  rcases List.mem_append.1 hq with hq | hq
  ·exact h.ok q hq
  ·rw [List.mem_singleton] at hq; subst hq; exact hr
 ·intro c hc
  rw [List.map_append, List.mem_append]
  exact .inl (h.own c hc)
theorem Raw3.raw {l : List Ru} {k : Nat} (h : Raw3 l k) (hk : k ≤ 50) : Raw l := ⟨h.ok, h.own, by rw [h.len]; omega⟩
end Go.Dx
end

section
/- Chapter 06: characters: Letter, letter, digit, written, of the program and of the reference. -/
namespace Go.Proofs.YtfagjaabladgpaaDoor
open Go.RowKit Go.Dx

theorem let_S {c : UInt8} (h1 : 97 ≤ c.toNat) (h2 : c.toNat ≤ 122) : low c = c ∧ isL c = true ∧ isC c = false := by
 have hC : isC c = false := by unfold isC; simp; omega
 exact ⟨by unfold low; rw [hC]; rfl, by unfold isL isS; simp [h1, h2], hC⟩
theorem let_C {c : UInt8} (h1 : 65 ≤ c.toNat) (h2 : c.toNat ≤ 90) : ((low c).toNat : Int) = (c.toNat : Int) + 32 ∧ isL c = true ∧ isC c = true := by
 have hC : isC c = true := by unfold isC; simp [h1, h2]
 refine ⟨?_, by unfold isL; rw [hC, Bool.or_true], hC⟩
 unfold low
 rw [if_pos hC, UInt8.toNat_add]
 have : (32 : UInt8).toNat = 32 := rfl
 rw [this]
 omega
theorem let_N {c : UInt8} (h : c.toNat < 65 ∨ (90 < c.toNat ∧ c.toNat < 97) ∨ 122 < c.toNat) : low c = c ∧ isL c = false ∧ isC c = false := by
 have hC : isC c = false := by unfold isC; simp; omega
 have hS : isS c = false := by unfold isS; simp; omega
 exact ⟨by unfold low; rw [hC]; rfl, by unfold isL; rw [hC, hS]; rfl, hC⟩

def LetterR (c : UInt8) : Ending := .returned (.tuple #[.int .u8 ((low c).toNat : Int), .bool (isL c), .bool (isC c)])

set_option maxHeartbeats 400000 in
theorem tab_Letter (c : UInt8) (w : World) : Calls Tryd.prog 45 #[.int .u8 (c.toNat : Int)] w fun e w' => e = LetterR c ∧ w = w' := by
 have hlt := c.toNat_lt
 unfold LetterR
 by_cases h1 : 97 ≤ c.toNat ∧ c.toNat ≤ 122
 ·obtain ⟨e1, e2, e3⟩ := let_S h1.1 h1.2
  rw [e1, e2, e3]
  have d1 : decide (97 ≤ (c.toNat : Int)) = true := decide_eq_true (by omega)
  have d2 : decide ((c.toNat : Int) ≤ 122) = true := decide_eq_true (by omega)
  clear e1 e2 e3 h1
  go_enter Tryd.func45, Tryd.ntmps45
  go_wp2_with fail
  go_ret3
  exact ⟨rfl, rfl⟩
 ·by_cases h2 : 65 ≤ c.toNat ∧ c.toNat ≤ 90
  ·obtain ⟨e1, e2, e3⟩ := let_C h2.1 h2.2
   rw [e1, e2, e3]
   have d1 : decide (97 ≤ (c.toNat : Int)) = false := decide_eq_false (by omega)
   have d3 : decide (65 ≤ (c.toNat : Int)) = true := decide_eq_true (by omega)
   have d4 : decide ((c.toNat : Int) ≤ 90) = true := decide_eq_true (by omega)
   have l1 : 65 ≤ (c.toNat : Int) := by omega
   have l2 : (c.toNat : Int) ≤ 90 := by omega
   clear e1 e2 e3 h1 h2 hlt
   generalize (c.toNat : Int) = x at *
   go_enter Tryd.func45, Tryd.ntmps45
   go_wp2_with fail
   go_ret3
   exact ⟨by rw [show (x - 65) + 97 = x + 32 by omega]; rfl, rfl⟩
  ·have h3 : c.toNat < 65 ∨ (90 < c.toNat ∧ c.toNat < 97) ∨ 122 < c.toNat := by omega
   obtain ⟨e1, e2, e3⟩ := let_N h3
   rw [e1, e2, e3]
   clear e1 e2 e3
   rcases h3 with h3 | ⟨h3, h4⟩ | h3
   ·have d1 : decide (97 ≤ (c.toNat : Int)) = false := decide_eq_false (by omega)
    have d3 : decide (65 ≤ (c.toNat : Int)) = false := decide_eq_false (by omega)
    clear h1 h2 h3
    go_enter Tryd.func45, Tryd.ntmps45
    go_wp2_with fail
    go_ret3
    exact ⟨rfl, rfl⟩
   ·have d1 : decide (97 ≤ (c.toNat : Int)) = false := decide_eq_false (by omega)
    have d3 : decide (65 ≤ (c.toNat : Int)) = true := decide_eq_true (by omega)
    have d4 : decide ((c.toNat : Int) ≤ 90) = false := decide_eq_false (by omega)
    clear h1 h2 h3
    go_enter Tryd.func45, Tryd.ntmps45
    go_wp2_with fail
    go_ret3
    exact ⟨rfl, rfl⟩
   ·have d1 : decide (97 ≤ (c.toNat : Int)) = true := decide_eq_true (by omega)
    have d2 : decide ((c.toNat : Int) ≤ 122) = false := decide_eq_false (by omega)
    have d3 : decide (65 ≤ (c.toNat : Int)) = true := decide_eq_true (by omega)
    have d4 : decide ((c.toNat : Int) ≤ 90) = false := decide_eq_false (by omega)
    clear h1 h2 h3
    go_enter Tryd.func45, Tryd.ntmps45
    go_wp2_with fail
    go_ret3
    exact ⟨rfl, rfl⟩
end Go.Proofs.YtfagjaabladgpaaDoor
end

section
/- Chapter 06: characters: letter, digit, written; the reference's Letter, Is, Digit, Written. -/
namespace Go.Proofs.YtfagjaabladgpaaDoor
open Go.RowKit Go.Dx

set_option maxHeartbeats 400000 in
theorem tab_letter (c : UInt8) (w : World) : Calls Tryd.prog 73 #[.int .u8 (c.toNat : Int)] w fun e w' => e = .returned (.bool (isL c)) ∧ w = w' := by
 have hc := tab_Letter c w
 unfold LetterR at hc
 go_enter Tryd.func73, Tryd.ntmps73
 go_wp2_with (go_at_call 45; refine hc.mono ?_; rintro e w2 ⟨rfl, rfl⟩)
 go_ret
 exact ⟨rfl, rfl⟩
set_option maxHeartbeats 400000 in
theorem tab_digit (c : UInt8) (w : World) : Calls Tryd.prog 44 #[.int .u8 (c.toNat : Int)] w fun e w' => e = .returned (.bool (isD c)) ∧ w = w' := by
 by_cases h1 : 48 ≤ c.toNat
 ·have d1 : decide (48 ≤ (c.toNat : Int)) = true := decide_eq_true (by omega)
  by_cases h2 : c.toNat ≤ 57
  ·have d2 : decide ((c.toNat : Int) ≤ 57) = true := decide_eq_true (by omega)
   have HE : Hid (isD c = true) := hide (by unfold isD; simp [h1, h2])
   clear h1 h2
   go_enter Tryd.func44, Tryd.ntmps44
   go_wp2_with fail
   go_ret
   exact ⟨by rw [HE.out]; rfl, rfl⟩
  ·have d2 : decide ((c.toNat : Int) ≤ 57) = false := decide_eq_false (by omega)
   have HE : Hid (isD c = false) := hide (by unfold isD; simp; omega)
   clear h1 h2
   go_enter Tryd.func44, Tryd.ntmps44
   go_wp2_with fail
   go_ret
   exact ⟨by rw [HE.out]; rfl, rfl⟩
 ·have d1 : decide (48 ≤ (c.toNat : Int)) = false := decide_eq_false (by omega)
  have HE : Hid (isD c = false) := hide (by unfold isD; simp; omega)
  clear h1
  go_enter Tryd.func44, Tryd.ntmps44
  go_wp2_with fail
  go_ret
  exact ⟨by rw [HE.out]; rfl, rfl⟩
set_option maxHeartbeats 400000 in
theorem tab_written (c : UInt8) (w : World) : Calls Tryd.prog 63 #[.int .u8 (c.toNat : Int)] w fun e w' => e = .returned (.bool (isW c)) ∧ w = w' := by
 by_cases h1 : 32 ≤ c.toNat
 ·have d1 : decide (32 ≤ (c.toNat : Int)) = true := decide_eq_true (by omega)
  by_cases h2 : c.toNat ≤ 126
  ·have d2 : decide ((c.toNat : Int) ≤ 126) = true := decide_eq_true (by omega)
   have HE : Hid (isW c = true) := hide (by unfold isW; simp [h1, h2])
   clear h1 h2
   go_enter Tryd.func63, Tryd.ntmps63
   go_wp2_with fail
   go_ret
   exact ⟨by rw [HE.out]; rfl, rfl⟩
  ·have d2 : decide ((c.toNat : Int) ≤ 126) = false := decide_eq_false (by omega)
   have HE : Hid (isW c = false) := hide (by unfold isW; simp; omega)
   clear h1 h2
   go_enter Tryd.func63, Tryd.ntmps63
   go_wp2_with fail
   go_ret
   exact ⟨by rw [HE.out]; rfl, rfl⟩
 ·have d1 : decide (32 ≤ (c.toNat : Int)) = false := decide_eq_false (by omega)
  have HE : Hid (isW c = false) := hide (by unfold isW; simp; omega)
  clear h1
  go_enter Tryd.func63, Tryd.ntmps63
  go_wp2_with fail
  go_ret
  exact ⟨by rw [HE.out]; rfl, rfl⟩
end Go.Proofs.YtfagjaabladgpaaDoor
end

section
namespace Go.Proofs.YtfagjaabladgpaaDoor
open Go.RowKit Go.Dx

end Go.Proofs.YtfagjaabladgpaaDoor
end

section
namespace Go.Proofs.YtfagjaabladgpaaDoor
open Go.RowKit Go.Dx

end Go.Proofs.YtfagjaabladgpaaDoor
end

section
namespace Go.Proofs.YtfagjaabladgpaaDoor
open Go.RowKit Go.Dx
def Gives3 (e : TypeId) (sz n : Nat) (cs : List Value) (x y : Int) (w : World) (r : Ending) (w' : World) : Prop :=
 ∃ a c, r = .returned (.tuple #[.slice a n c, .int .i64 x, .int .i64 y]) ∧ Own w' w.heap.size e sz a n c cs ∧ Below w.heap.size w w'

set_option maxHeartbeats 400000 in
theorem wire_GetStrings (l : List UInt8) (a : Option Addr) (n c : Nat) (w : World) (hs : Sl w 1 a n c (l.map B8)) (hlen : l.length ≤ 1000000000) :
  Calls Tryd.prog 35 #[.slice a n c] w (Gives3 9 1 (decSeq decBytes l).1.length ((decSeq decBytes l).1.map Value.string) (decSeq decBytes l).2.1 (decSeq decBytes l).2.2 w) := by
 have hn := hs.n_eq
 have HC := hide (wire_count l a n c 1 (by omega) (by omega) w hs)
 by_cases hE : cntErr l 1 = 0
 ·obtain ⟨A, N, e1, e2, e3, hA, hAN, hN⟩ := cnt_facts (by omega) hE
  simp at hAN
  rw [e1, e2, hE] at HC
  have HE := hide (fun k E (hk : k < N) (h0 : E ≠ 0) => @decSeq_err _ decBytes l A N k hE e1 e2 E hk h0)
  have HO := hide (fun xs B => @decSeq_ok _ decBytes l A N hE e1 e2 xs B)
  have hnl : l.length ≤ n := by omega
  have hnl2 : n ≤ l.length := by omega
  have HNL := hide hn
  obtain ⟨D, HD⟩ : ∃ D, Hid (D = decSeq decBytes l) := ⟨_, rfl⟩
  rw [← HD.out]
  clear e1 e2 e3 hE hn
  go_enter Tryd.func35, Tryd.ntmps35
  go_wp2_with (go_at_call 55; refine HC.out.mono ?_; rintro e w1 ⟨rfl, rfl⟩)
  go_loopg [6, 8, 22] N (fun g at_ x i w' => ∃ (k B : Nat) (a : Option Addr) (c : Nat) (xs : List ByteArray), k ≤ N ∧ g = N - k ∧ seqTo decBytes l A k = (xs, B, 0) ∧ B ≤ l.length ∧ at_ = .int .i64 B ∧ i = .int .i64 k ∧ x = .slice a xs.length c ∧ Own w' w.heap.size 9 1 a xs.length c (xs.map Value.string) ∧ Below w.heap.size w w')
  case atStart => exact ⟨0, A, none, 0, [], by omega, by omega, rfl, by omega, rfl, rfl, rfl, Own.nil _ _ _ _, Below.refl _ _⟩
  case round =>
   obtain ⟨k, B, a2, c2, xs, hk, hg, hseq, hB, rfl, rfl, rfl, hown, hb⟩ := hrel
   have HG := hide hg
   have hxl : xs.length ≤ k := Nat.le_of_eq (seqTo_len hseq)
   have HS := hide hseq
   clear hg hseq
   by_cases hkN : k < N
   ·obtain ⟨r, HR⟩ : ∃ r, Hid (r = decBytes (l.drop B)) := ⟨_, rfl⟩
    have HF : Hid (∀ a' w', Sl w' 1 a' (n - B) (c - B) ((l.drop B).map B8) → Calls Tryd.prog 54 #[.slice a' (n - B) (c - B)] w' fun e w'' => e = .returned (RS r) ∧ w' = w'') := by
     intro a' w' h; rw [HR.out]; exact wire_GetBytes _ _ _ _ _ h
    have HU := hide (@decBytes_used (l.drop B))
    obtain ⟨r1, r2, r3⟩ := r
    by_cases hr : r3 = 0
    ·subst hr
     obtain ⟨u1, u2⟩ : 1 ≤ r2 ∧ r2 ≤ ((l.drop B).length : Int) := by
      have := HU.out; rw [← HR.out] at this; have h2 := this rfl; exact ⟨h2.1, h2.2⟩
     rw [List.length_drop] at u2
     have hst : seqTo decBytes l A (k + 1) = (xs ++ [r1], B + r2.toNat, 0) := by rw [seqTo_step HS.out (by rw [← HR.out]), ← HR.out]
     have HST := hide hst
     obtain ⟨U, rfl⟩ := Int.eq_ofNat_of_zero_le (a := r2) (by omega)
     clear hst
     go_wp2_with (first
      | (with_reducible refine cutlo_b 27 _ _ _ _ _ l rfl (hs.below hb) _ _ B rfl rfl (by omega) ?_; intro a3 hs3 hp3)
      | (go_at_call 54; refine (HF.out _ _ hs3).mono ?_; rintro e w2 ⟨rfl, rfl⟩)
      | (at_builtin; refine app_s rfl _ _ rfl w w.heap.size _ _ _ _ rfl hown _ rfl (by omega) hb.size hb ?_; intro a' c' w' ho' hgr' hb'))
     go_roundg (N - (k + 1))
     case measure => have := HG.out; omega
     case rel =>
      refine ⟨k + 1, B + U, a', c', xs ++ [r1], by omega, rfl, by rw [HST.out]; simp, by omega, by go_num, by go_num, by rw [List.length_append]; rfl, ?_, hb'⟩
      rw [List.length_append, List.map_append]; exact ho'
    ·have hbn := neq_int hr
     have hst : seqTo decBytes l A (k + 1) = ([], 0, r3) := by rw [seqTo_stop HS.out (by rw [← HR.out]; exact hr), ← HR.out]
     have hD : D = ([], 0, r3) := by rw [HD.out]; exact HE.out k r3 hkN hr hst
     clear hst
     have HR3 := hide hr
     subst hD
     clear hr
     go_wp2_with (first
      | (with_reducible refine cutlo_b 27 _ _ _ _ _ l rfl (hs.below hb) _ _ B rfl rfl (by omega) ?_; intro a3 hs3 hp3)
      | (go_at_call 54; refine (HF.out _ _ hs3).mono ?_; rintro e w2 ⟨rfl, rfl⟩))
     go_ret3
     exact ⟨none, 0, rfl, Own.nil _ _ _ _, hb⟩
   ·obtain rfl : k = N := by omega
    have hD : D = (xs, (B : Int), 0) := by rw [HD.out]; exact HO.out xs B HS.out
    subst hD
    go_wp2
    go_ret3
    exact ⟨a2, c2, rfl, hown, hb⟩
 ·have hbn := neq_int hE
  obtain ⟨D, HD⟩ : ∃ D, Hid (D = decSeq decBytes l) := ⟨_, rfl⟩
  rw [← HD.out]
  have hD : D = ([], 0, cntErr l 1) := by rw [HD.out]; exact decSeq_cnt hE
  
  clear hE HD hn
  generalize cntErr l 1 = E at *
  subst hD
  go_enter Tryd.func35, Tryd.ntmps35
  go_wp2_with (go_at_call 55; refine HC.out.mono ?_; rintro e w1 ⟨rfl, rfl⟩)
  go_ret3
  refine ⟨none, 0, ?_, ?_, ?_⟩
  ·rfl
  ·exact Own.nil _ _ _ _
  ·exact Below.refl _ _

set_option maxHeartbeats 400000 in
theorem ref_GetStrings (l : List UInt8) (a : Option Addr) (n c : Nat) (w : World) (hs : Sl w 1 a n c (l.map B8)) (hlen : l.length ≤ 1000000000) :
  Calls Tryd.prog 38 #[.slice a n c] w (Gives3 9 1 (decSeq decBytes l).1.length ((decSeq decBytes l).1.map Value.string) (decSeq decBytes l).2.1 (decSeq decBytes l).2.2 w) := by
 have hn := hs.n_eq
 have HC := hide (ref_count l a n c 1 (by omega) (by omega) w hs (by omega))
 by_cases hE : cntErr l 1 = 0
 ·obtain ⟨A, N, e1, e2, e3, hA, hAN, hN⟩ := cnt_facts (by omega) hE
  simp at hAN
  rw [if_pos hE, e1, e2] at HC
  have HE := hide (fun k E (hk : k < N) (h0 : E ≠ 0) => @decSeq_err _ decBytes l A N k hE e1 e2 E hk h0)
  have HO := hide (fun xs B => @decSeq_ok _ decBytes l A N hE e1 e2 xs B)
  have hnl : l.length ≤ n := by omega
  have hnl2 : n ≤ l.length := by omega
  have HNL := hide hn
  obtain ⟨D, HD⟩ : ∃ D, Hid (D = decSeq decBytes l) := ⟨_, rfl⟩
  rw [← HD.out]
  clear e1 e2 e3 hE hn
  go_enter Tryd.func38, Tryd.ntmps38
  go_wp2_with (go_at_call 56; refine HC.out.mono ?_; rintro e w1 ⟨rfl, hb1⟩)
  go_loopg [6, 8, 9] N (fun g at_ x i w' => ∃ (k B : Nat) (a : Option Addr) (c : Nat) (xs : List ByteArray), k ≤ N ∧ g = N - k ∧ seqTo decBytes l A k = (xs, B, 0) ∧ B ≤ l.length ∧ at_ = .int .i64 B ∧ i = .int .i64 k ∧ x = .slice a xs.length c ∧ Own w' w.heap.size 9 1 a xs.length c (xs.map Value.string) ∧ Below w.heap.size w w')
  case atStart => exact ⟨0, A, none, 0, [], by omega, by omega, rfl, by omega, rfl, rfl, rfl, Own.nil _ _ _ _, hb1⟩
  case round =>
   obtain ⟨k, B, a2, c2, xs, hk, hg, hseq, hB, rfl, rfl, rfl, hown, hb⟩ := hrel
   have HG := hide hg
   have hxl : xs.length ≤ k := Nat.le_of_eq (seqTo_len hseq)
   have HS := hide hseq
   clear hg hseq
   by_cases hkN : k < N
   ·obtain ⟨r, HR⟩ : ∃ r, Hid (r = decBytes (l.drop B)) := ⟨_, rfl⟩
    have HF : Hid (∀ a' w', Sl w' 1 a' (n - B) (c - B) ((l.drop B).map B8) → Calls Tryd.prog 37 #[.slice a' (n - B) (c - B)] w' fun e w'' => e = .returned (RS r) ∧ Below w'.heap.size w' w'') := by
     intro a' w' h; rw [HR.out]; exact ref_GetBytes _ _ _ _ _ h (by simp; omega)
    have HU := hide (@decBytes_used (l.drop B))
    obtain ⟨r1, r2, r3⟩ := r
    by_cases hr : r3 = 0
    ·subst hr
     obtain ⟨u1, u2⟩ : 1 ≤ r2 ∧ r2 ≤ ((l.drop B).length : Int) := by
      have := HU.out; rw [← HR.out] at this; have h2 := this rfl; exact ⟨h2.1, h2.2⟩
     rw [List.length_drop] at u2
     have hst : seqTo decBytes l A (k + 1) = (xs ++ [r1], B + r2.toNat, 0) := by rw [seqTo_step HS.out (by rw [← HR.out]), ← HR.out]
     have HST := hide hst
     obtain ⟨U, rfl⟩ := Int.eq_ofNat_of_zero_le (a := r2) (by omega)
     clear hst
     go_wp2_with (first
      | (with_reducible refine cutlo_b 30 _ _ _ _ _ l rfl (hs.below hb) _ _ B rfl rfl (by omega) ?_; intro a3 hs3 hp3)
      | (go_at_call 37; refine (HF.out _ _ hs3).mono ?_; rintro e w2 ⟨rfl, hb2⟩)
      | (at_builtin; refine app_s rfl _ _ rfl w w.heap.size _ _ _ _ rfl (hown.below hb2) _ rfl (by omega) (Nat.le_trans hb.size hb2.size) (hb.trans (hb2.mono hb.size)) ?_; intro a' c' w' ho' hgr' hb'))
     go_roundg (N - (k + 1))
     case measure => have := HG.out; omega
     case rel =>
      refine ⟨k + 1, B + U, a', c', xs ++ [r1], by omega, rfl, by rw [HST.out]; simp, by omega, by go_num, by go_num, by rw [List.length_append]; rfl, ?_, hb'⟩
      rw [List.length_append, List.map_append]; exact ho'
    ·have hbn := neq_int hr
     have hst : seqTo decBytes l A (k + 1) = ([], 0, r3) := by rw [seqTo_stop HS.out (by rw [← HR.out]; exact hr), ← HR.out]
     have hD : D = ([], 0, r3) := by rw [HD.out]; exact HE.out k r3 hkN hr hst
     clear hst
     have HR3 := hide hr
     subst hD
     clear hr
     go_wp2_with (first
      | (with_reducible refine cutlo_b 30 _ _ _ _ _ l rfl (hs.below hb) _ _ B rfl rfl (by omega) ?_; intro a3 hs3 hp3)
      | (go_at_call 37; refine (HF.out _ _ hs3).mono ?_; rintro e w2 ⟨rfl, hb2⟩))
     go_ret3
     exact ⟨none, 0, rfl, Own.nil _ _ _ _, (hb.trans (hb2.mono hb.size))⟩
   ·obtain rfl : k = N := by omega
    have hD : D = (xs, (B : Int), 0) := by rw [HD.out]; exact HO.out xs B HS.out
    subst hD
    go_wp2
    go_ret3
    exact ⟨a2, c2, rfl, hown, hb⟩
 ·have hbn := neq_int hE
  obtain ⟨D, HD⟩ : ∃ D, Hid (D = decSeq decBytes l) := ⟨_, rfl⟩
  rw [← HD.out]
  have hD : D = ([], 0, cntErr l 1) := by rw [HD.out]; exact decSeq_cnt hE
  rw [if_neg hE] at HC
  clear hE HD hn
  generalize cntErr l 1 = E at *
  subst hD
  go_enter Tryd.func38, Tryd.ntmps38
  go_wp2_with (go_at_call 56; refine HC.out.mono ?_; rintro e w1 ⟨rfl, hb1⟩)
  go_ret3
  refine ⟨none, 0, ?_, ?_, ?_⟩
  ·rfl
  ·exact Own.nil _ _ _ _
  ·exact hb1

end Go.Proofs.YtfagjaabladgpaaDoor
end

section
namespace Go.Proofs.YtfagjaabladgpaaDoor
open Go.RowKit Go.Dx

end Go.Proofs.YtfagjaabladgpaaDoor
end

section
namespace Go.Proofs.YtfagjaabladgpaaDoor
open Go.RowKit Go.Dx

section
variable {w : World} {ops : Array Oper} {rest : List Oper} {act : Act} {Q : Exit → Act → World → Prop} {ty : TypeId} {pos : String} {after : Array Edge}
end
section
variable {w : World} {ops : Array Oper} {rest : List Oper} {o : Oper} {act : Act} {Q : Exit → Act → World → Prop}
end
end Go.Proofs.YtfagjaabladgpaaDoor
end

section
namespace Go.Proofs.YtfagjaabladgpaaDoor
open Go.RowKit Go.Dx

end Go.Proofs.YtfagjaabladgpaaDoor
end

section
namespace Go.Proofs.YtfagjaabladgpaaDoor
open Go.RowKit Go.Dx

end Go.Proofs.YtfagjaabladgpaaDoor
end

section
namespace Go.Proofs.YtfagjaabladgpaaDoor
open Go.RowKit Go.Dx

end Go.Proofs.YtfagjaabladgpaaDoor
end

section
namespace Go.Proofs.YtfagjaabladgpaaDoor
open Go.RowKit Go.Dx

end Go.Proofs.YtfagjaabladgpaaDoor
end

section
namespace Go.Proofs.YtfagjaabladgpaaDoor
open Go.RowKit Go.Dx

section
variable {w : World} {ops : Array Oper} {rest : List Oper} {act : Act} {Q : Exit → Act → World → Prop} {ty : TypeId} {pos : String} {after : Array Edge} {g : Option (Nat × Bool)}
theorem unguard {dst : Option Nat} {op : Op} (hw : Region.wanted { dst := dst, op := op, type := ty, pos := pos, after := after, guard := g } (yielded ops act.tmps) = true)
  (h : wpList Tryd.prog ops Q ({ dst := dst, op := op, type := ty, pos := pos, after := after, guard := none } :: rest) act w) :
  wpList Tryd.prog ops Q ({ dst := dst, op := op, type := ty, pos := pos, after := after, guard := g } :: rest) act w := by
 have h2 : Region.wanted { dst := dst, op := op, type := ty, pos := pos, after := after, guard := none } (yielded ops act.tmps) = true := rfl
 unfold wpList at h ⊢
 rw [if_pos h2] at h
 rw [if_pos hw]
 exact h
end
theorem L1 : #[Value.int .u8 130, .int .u8 1, .int .u8 0, .int .u8 9] = (List.map B8 [130, 1, 0, 9]).toArray := by rfl
theorem L2 : #[Value.int .u8 130, .int .u8 1] = (List.map B8 [130, 1]).toArray := by rfl
theorem L3 : #[Value.int .u8 129, .int .u8 0] = (List.map B8 [129, 0]).toArray := by rfl
theorem L4 : #[Value.int .u8 129, .int .u8 2, .int .u8 97, .int .u8 98, .int .u8 7] = (List.map B8 [129, 2, 97, 98, 7]).toArray := by rfl
theorem L5 : #[Value.int .u8 129, .int .u8 2, .int .u8 129, .int .u8 1, .int .u8 127] = (List.map B8 [129, 2, 129, 1, 127]).toArray := by rfl
theorem L6 : #[Value.int .u8 129, .int .u8 2, .int .u8 128, .int .u8 129, .int .u8 1, .int .u8 97, .int .u8 5] = (List.map B8 [129, 2, 128, 129, 1, 97, 5]).toArray := by rfl
theorem L7 : #[Value.string ⟨#[]⟩, .string ⟨#[97]⟩] = (List.map Value.string [⟨#[]⟩, ⟨#[97]⟩]).toArray := by rfl
theorem L8 : #[Value.int .u8 129, .int .u8 2, .int .u8 128, .int .u8 129, .int .u8 1, .int .u8 97] = (List.map B8 [129, 2, 128, 129, 1, 97]).toArray := by rfl
end Go.Proofs.YtfagjaabladgpaaDoor
end

section
namespace Go.Proofs.YtfagjaabladgpaaDoor
open Go.RowKit Go.Dx
section
variable {w : World} {ops : Array Oper} {rest : List Oper} {o : Oper} {act : Act} {Q : Exit → Act → World → Prop} {ty : TypeId} {pos : String} {after : Array Edge}
end
end Go.Proofs.YtfagjaabladgpaaDoor
end

section
namespace Go.Proofs.YtfagjaabladgpaaDoor
open Go.RowKit Go.Dx

end Go.Proofs.YtfagjaabladgpaaDoor
end

section
namespace Go.Proofs.YtfagjaabladgpaaDoor
open Go.RowKit Go.Dx

def fnv (k : Nat) : Value := .func (.func k) #[] #[]

theorem any_take_no {α : Type} {p : α → Bool} {l : List α} {k : Nat} {x : α} (h : l[k]? = some x) (h0 : (l.take k).any p = false) (hx : p x = false) : (l.take (k + 1)).any p = false := by
 rw [List.take_add_one, h, List.any_append, h0]; simp [hx]
theorem any_of_get {α : Type} {p : α → Bool} {l : List α} {k : Nat} {x : α} (h : l[k]? = some x) (hx : p x = true) : l.any p = true :=
 List.any_eq_true.2 ⟨x, List.mem_of_getElem? h, hx⟩

end Go.Proofs.YtfagjaabladgpaaDoor
end

section
/- Plain laws on dots and cells: no program in sight. -/
namespace Go.Proofs.YtfagjaabladgpaaDoor
open Go.RowKit Go.Dx

end Go.Proofs.YtfagjaabladgpaaDoor
end

section
/- Chapter 06: cells, indicator; the reference's Cells; word and Small. -/
namespace Go.Proofs.YtfagjaabladgpaaDoor
open Go.RowKit Go.Dx

def badC (c : UInt8) : Bool := !cellOk c
def noS (c : UInt8) : Bool := !isS c
theorem okCells_eq (l : List UInt8) : okCells l = !l.any badC := by
 unfold okCells
 rw [Bool.eq_iff_iff]; simp [List.all_eq_true, badC]
theorem small_eq (s : ByteArray) : small s = !(chars s).any noS := by
 unfold small
 rw [Bool.eq_iff_iff]; simp [List.all_eq_true, noS]
theorem badC_lo {c : UInt8} (h : c.toNat < 1) : badC c = true := by unfold badC cellOk; simp; omega
theorem badC_hi {c : UInt8} (h : 63 < c.toNat) : badC c = true := by unfold badC cellOk; simp; omega
theorem badC_no {c : UInt8} (h : 1 ≤ c.toNat) (h2 : c.toNat ≤ 63) : badC c = false := by unfold badC cellOk; simp; omega
theorem noS_lo {c : UInt8} (h : c.toNat < 97) : noS c = true := by unfold noS isS; simp; omega
theorem noS_hi {c : UInt8} (h : 122 < c.toNat) : noS c = true := by unfold noS isS; simp; omega
theorem noS_no {c : UInt8} (h : 97 ≤ c.toNat) (h2 : c.toNat ≤ 122) : noS c = false := by unfold noS isS; simp; omega

set_option maxHeartbeats 400000 in
theorem cells_1 (c : UInt8) (w : World) : Calls Tryd.prog 71 #[.int .u8 (c.toNat : Int)] w fun e w' => e = .returned (.bool (badC c)) ∧ w = w' := by
 by_cases h1 : c.toNat < 1
 ·have d1 : decide ((c.toNat : Int) < 1) = true := decide_eq_true (by omega)
  have HE := hide (badC_lo h1)
  clear h1
  go_enter Tryd.func71, Tryd.ntmps71
  go_wp2_with fail
  go_ret
  exact ⟨by rw [HE.out]; rfl, rfl⟩
 ·have d1 : decide ((c.toNat : Int) < 1) = false := decide_eq_false (by omega)
  by_cases h2 : 63 < c.toNat
  ·have d2 : decide (63 < (c.toNat : Int)) = true := decide_eq_true (by omega)
   have HE := hide (badC_hi h2)
   clear h1 h2
   go_enter Tryd.func71, Tryd.ntmps71
   go_wp2_with fail
   go_ret
   exact ⟨by rw [HE.out]; rfl, rfl⟩
  ·have d2 : decide (63 < (c.toNat : Int)) = false := decide_eq_false (by omega)
   have HE := hide (badC_no (show 1 ≤ c.toNat by omega) (by omega))
   clear h1 h2
   go_enter Tryd.func71, Tryd.ntmps71
   go_wp2_with fail
   go_ret
   exact ⟨by rw [HE.out]; rfl, rfl⟩

set_option maxHeartbeats 400000 in
theorem index_b (l : List UInt8) (a : Option Addr) (n c : Nat) (w : World) (hs : Sl w 1 a n c (l.map B8)) :
  Calls Tryd.prog 79 #[.slice a n c, fnv 71] w fun e w' => ∃ i : Int, e = .returned (.int .i64 i) ∧ decide (0 ≤ i) = l.any badC ∧ w = w' := by
 unfold fnv
 obtain rfl := hs.n_eq
 have hm1 := Nat.le_trans hs.le hs.cap
 unfold maxLen at hm1
 go_enter Tryd.func79, Tryd.ntmps79
 go_wp2_with fail
 go_loopg [8] l.length (fun g i w' => ∃ (k : Nat), k ≤ l.length ∧ g = l.length - k ∧ (l.take k).any badC = false ∧ i = .int .i64 k ∧ w = w')
 case atStart => exact ⟨0, by omega, by omega, rfl, rfl, rfl⟩
 case round =>
  obtain ⟨k, hk, hg, ht, rfl, rfl⟩ := hrel
  have HG := hide hg
  have HT := hide ht
  clear hg ht
  by_cases hkl : k < l.length
  ·obtain ⟨x, hx⟩ : ∃ x, l[k]? = some x := ⟨l[k], by simp [hkl]⟩
   have HH := hide hx
   clear hx
   have hc := cells_1 x w
   cases hq : badC x
   ·have HN := hide (any_take_no HH.out HT.out hq)
    rw [hq] at hc
    clear hq
    go_wp2_with (first
     | (with_reducible refine idx_b 14 _ _ _ _ _ _ rfl hs _ _ k rfl rfl _ HH.out ?_; intro b o hcell hbo)
     | (go_at_call 71; refine hc.mono ?_; rintro e w2 ⟨rfl, rfl⟩))
    go_roundg (l.length - (k + 1))
    case measure => have := HG.out; omega
    case rel => exact ⟨k + 1, by omega, rfl, HN.out, by go_num, rfl⟩
   ·have HN := hide (any_of_get HH.out hq)
    rw [hq] at hc
    clear hq
    go_wp2_with (first
     | (with_reducible refine idx_b 14 _ _ _ _ _ _ rfl hs _ _ k rfl rfl _ HH.out ?_; intro b o hcell hbo)
     | (go_at_call 71; refine hc.mono ?_; rintro e w2 ⟨rfl, rfl⟩))
    go_ret
    exact ⟨_, rfl, by rw [HN.out]; exact decide_eq_true (by omega), rfl⟩
  ·obtain rfl : k = l.length := by omega
   go_wp2
   go_ret
   have := HT.out
   rw [List.take_length] at this
   exact ⟨_, rfl, by rw [this]; rfl, rfl⟩
set_option maxHeartbeats 400000 in
theorem contains_b (l : List UInt8) (a : Option Addr) (n c : Nat) (w : World) (hs : Sl w 1 a n c (l.map B8)) :
  Calls Tryd.prog 70 #[.slice a n c, fnv 71] w fun e w' => e = .returned (.bool (l.any badC)) ∧ w = w' := by
 have hc := index_b l a n c w hs
 unfold fnv at hc ⊢
 go_enter Tryd.func70, Tryd.ntmps70
 go_wp2_with (go_at_call 79; refine hc.mono ?_; rintro e w2 ⟨i, rfl, hi, rfl⟩)
 go_ret
 exact ⟨by rw [← hi]; rfl, rfl⟩
set_option maxHeartbeats 400000 in
theorem tab_cells (l : List UInt8) (a : Option Addr) (n c : Nat) (w : World) (hs : Sl w 1 a n c (l.map B8)) :
  Calls Tryd.prog 57 #[.slice a n c] w fun e w' => e = .returned (.bool (okCells l)) ∧ w = w' := by
 have hc := contains_b l a n c w hs
 rw [okCells_eq]
 unfold fnv at hc
 go_enter Tryd.func57, Tryd.ntmps57
 go_wp2_with (go_at_call 70; refine hc.mono ?_; rintro e w2 ⟨rfl, rfl⟩)
 go_ret
 exact ⟨rfl, rfl⟩
set_option maxHeartbeats 400000 in
theorem tab_indicator (l : List UInt8) (a : Option Addr) (n c : Nat) (w : World) (hs : Sl w 1 a n c (l.map B8)) :
  Calls Tryd.prog 58 #[.slice a n c] w fun e w' => e = .returned (.bool (indic l)) ∧ w = w' := by
 have hc := tab_cells l a n c w hs
 have HN := hide hs.n_eq
 by_cases h1 : 1 ≤ n
 ·have d1 : decide (1 ≤ (n : Int)) = true := decide_eq_true (by omega)
  by_cases h2 : n ≤ 4
  ·have d2 : decide ((n : Int) ≤ 4) = true := decide_eq_true (by omega)
   have HE : Hid (indic l = okCells l) := hide (by unfold indic; rw [← HN.out]; simp [h1, h2])
   generalize okCells l = v at hc HE
   clear h1 h2
   go_enter Tryd.func58, Tryd.ntmps58
   go_wp2_with (go_at_call 57; refine hc.mono ?_; rintro e w2 ⟨rfl, rfl⟩)
   go_ret
   exact ⟨by rw [HE.out]; rfl, rfl⟩
  ·have d2 : decide ((n : Int) ≤ 4) = false := decide_eq_false (by omega)
   have HE : Hid (indic l = false) := hide (by unfold indic; rw [← HN.out]; simp [h2])
   clear h1 h2 hc
   go_enter Tryd.func58, Tryd.ntmps58
   go_wp2_with fail
   go_ret
   exact ⟨by rw [HE.out]; rfl, rfl⟩
 ·have d1 : decide (1 ≤ (n : Int)) = false := decide_eq_false (by omega)
  have HE : Hid (indic l = false) := hide (by unfold indic; rw [← HN.out]; simp [h1])
  clear h1 hc
  go_enter Tryd.func58, Tryd.ntmps58
  go_wp2_with fail
  go_ret
  exact ⟨by rw [HE.out]; rfl, rfl⟩

end Go.Proofs.YtfagjaabladgpaaDoor
end

section
/- Chapter 06: words, rules: plain laws on a rule's error; word and Small. -/
namespace Go.Dx
theorem ru_lo {r : Ru} (h : r.text.size < 1) : ruOk r = false := by unfold ruOk; rw [decide_eq_false (show ¬ 1 ≤ r.text.size by omega)]; rfl
theorem ru_hi {r : Ru} (h : 8 < r.text.size) : ruOk r = false := by unfold ruOk; rw [decide_eq_false (show ¬ r.text.size ≤ 8 by omega)]; simp
theorem ru_w0 {r : Ru} (h : r.whr < 0) : ruOk r = false := by unfold ruOk; rw [decide_eq_false (show ¬ 0 ≤ r.whr by omega)]; simp
theorem ru_w3 {r : Ru} (h : 3 < r.whr) : ruOk r = false := by unfold ruOk; rw [decide_eq_false (show ¬ r.whr ≤ 3 by omega)]; simp
theorem ru_ind {r : Ru} (h : indic r.cells = false) : ruOk r = false := by unfold ruOk; rw [h]; simp
theorem ru_rest {r : Ru} (h1 : ¬ r.text.size < 1) (h2 : ¬ 8 < r.text.size) (h3 : ¬ r.whr < 0) (h4 : ¬ 3 < r.whr) (h5 : indic r.cells = true) : ruOk r = (small r.text || oneMark r.text && decide (r.whr = 0)) := by
 unfold ruOk
 rw [h5, decide_eq_true (show 1 ≤ r.text.size by omega), decide_eq_true (show r.text.size ≤ 8 by omega), decide_eq_true (show 0 ≤ r.whr by omega), decide_eq_true (show r.whr ≤ 3 by omega)]
 rfl
theorem mark_n {s : ByteArray} (h : s.size ≠ 1) : oneMark s = false := by
 unfold oneMark
 have := size_chars s
 cases hc : chars s with
 | nil => rfl
 | cons c l =>
  cases l with
  | nil => rw [hc] at this; simp at this; exact absurd this h
  | cons d l => rfl
theorem chars_get {s : ByteArray} {k : Nat} (h : k < s.size) : (chars s)[k]? = some s[k] := by
 unfold chars
 rw [List.getElem?_eq_getElem (by rw [Array.length_toList]; exact h)]
 rfl
theorem mark_1 {s : ByteArray} (h : s.size = 1) : oneMark s = (isW (s[0]'(by omega)) && !isL (s[0]'(by omega)) && !isD (s[0]'(by omega))) := by
 have h2 := size_chars s
 have h3 := chars_get (s := s) (k := 0) (by omega)
 unfold oneMark
 cases hc : chars s with
 | nil => rw [hc] at h3; cases h3
 | cons c l =>
  rw [hc] at h2 h3
  cases l with
  | nil => cases h3; rfl
  | cons d l => simp at h2; omega
end Go.Dx
namespace Go.Proofs.YtfagjaabladgpaaDoor
open Go.RowKit Go.Dx
theorem blo (w : World) (o : Obj) : Below w.heap.size w (w.alloc o) := (Below.refl _ w).alloc (Nat.le_refl _) _

set_option maxHeartbeats 400000 in
theorem tab_word (s : ByteArray) (hsz : s.size ≤ 1000000) (w : World) : Calls Tryd.prog 64 #[.string s] w fun e w' => e = .returned (.bool (small s)) ∧ w = w' := by
 obtain ⟨r, HR⟩ : ∃ r, Hid (small s = r) := ⟨_, hide rfl⟩
 rw [HR.out]
 have hlen := size_chars s
 have HL := hide hlen
 clear hlen
 go_enter Tryd.func64, Tryd.ntmps64
 go_wp2_with fail
 go_loopg [6] s.size (fun g i w' => ∃ (k : Nat), k ≤ s.size ∧ g = s.size - k ∧ ((chars s).take k).any noS = false ∧ i = .int .i64 k ∧ w = w')
 case atStart => exact ⟨0, by omega, by omega, rfl, rfl, rfl⟩
 case round =>
  obtain ⟨k, hk, hg, ht, rfl, rfl⟩ := hrel
  have HG := hide hg
  have HT := hide ht
  clear hg ht
  by_cases hkl : k < s.size
  ·have HS := hide (chars_get hkl)
   by_cases h1 : (s[k]).toNat < 97
   ·have d1 : decide (((s[k]).toNat : Int) < 97) = true := decide_eq_true (by omega)
    have HE : Hid (r = false) := hide (by rw [← HR.out, small_eq, any_of_get HS.out (noS_lo h1)]; rfl)
    clear h1
    go_wp2_with fail
    go_ret
    exact ⟨by rw [HE.out]; rfl, rfl⟩
   ·have d1 : decide (((s[k]).toNat : Int) < 97) = false := decide_eq_false (by omega)
    by_cases h2 : 122 < (s[k]).toNat
    ·have d2 : decide (122 < ((s[k]).toNat : Int)) = true := decide_eq_true (by omega)
     have HE : Hid (r = false) := hide (by rw [← HR.out, small_eq, any_of_get HS.out (noS_hi h2)]; rfl)
     clear h1 h2
     go_wp2_with fail
     go_ret
     exact ⟨by rw [HE.out]; rfl, rfl⟩
    ·have d2 : decide (122 < ((s[k]).toNat : Int)) = false := decide_eq_false (by omega)
     have HN := hide (any_take_no HS.out HT.out (noS_no (show 97 ≤ (s[k]).toNat by omega) (by omega)))
     clear h1 h2
     go_wp2_with fail
     go_roundg (s.size - (k + 1))
     case measure => have := HG.out; omega
     case rel => exact ⟨k + 1, by omega, rfl, HN.out, by go_num, rfl⟩
  ·obtain rfl : k = s.size := by omega
   have HE : Hid (r = true) := hide (by
    have := HT.out
    rw [HL.out, List.take_length] at this
    rw [← HR.out, small_eq, this]; rfl)
   go_wp2
   go_ret
   exact ⟨by rw [HE.out]; rfl, rfl⟩
end Go.Proofs.YtfagjaabladgpaaDoor
end

section
/- Chapter 06: a rule is as it has to be: right, Right. -/
namespace Go.Proofs.YtfagjaabladgpaaDoor
open Go.RowKit Go.Dx

set_option maxHeartbeats 1000000 in
theorem tab_right (s : ByteArray) (x : Int) (l : List UInt8) (a : Option Addr) (n c : Nat) (hsz : s.size ≤ 1000000) (w : World) (hs : Sl w 1 a n c (l.map B8)) :
  Calls Tryd.prog 61 #[.agg #[.string s, .int .i64 x, .slice a n c]] w fun e w' => e = .returned (.bool (ruOk ⟨s, x, l⟩)) ∧ Below w.heap.size w w' := by
 obtain ⟨r, HR⟩ : ∃ r, Hid (ruOk ⟨s, x, l⟩ = r) := ⟨_, hide rfl⟩
 rw [HR.out]
 have hi := fun w' (hb : Below w.heap.size w w') => tab_indicator l a n c w' (hs.below hb)
 have hw := fun w' => tab_word s hsz w'
 by_cases h1 : s.size < 1
 ·have d1 : decide ((s.size : Int) < 1) = true := decide_eq_true (by omega)
  have HE : Hid (r = false) := hide (by rw [← HR.out]; exact ru_lo h1)
  clear h1 hi hw
  go_enter Tryd.func61, Tryd.ntmps61
  go_wp2_with fail
  go_ret
  exact ⟨by rw [HE.out]; rfl, blo w _⟩
 have d1 : decide ((s.size : Int) < 1) = false := decide_eq_false (by omega)
 by_cases h2 : 8 < s.size
 ·have d2 : decide (8 < (s.size : Int)) = true := decide_eq_true (by omega)
  have HE : Hid (r = false) := hide (by rw [← HR.out]; exact ru_hi h2)
  clear h1 h2 hi hw
  go_enter Tryd.func61, Tryd.ntmps61
  go_wp2_with fail
  go_ret
  exact ⟨by rw [HE.out]; rfl, blo w _⟩
 have d2 : decide (8 < (s.size : Int)) = false := decide_eq_false (by omega)
 by_cases h3 : x < 0
 ·have d3 : decide (x < 0) = true := decide_eq_true h3
  have HE : Hid (r = false) := hide (by rw [← HR.out]; exact ru_w0 h3)
  clear h1 h2 h3 hi hw
  go_enter Tryd.func61, Tryd.ntmps61
  go_wp2_with fail
  go_ret
  exact ⟨by rw [HE.out]; rfl, blo w _⟩
 have d3 : decide (x < 0) = false := decide_eq_false h3
 by_cases h4 : 3 < x
 ·have d4 : decide (3 < x) = true := decide_eq_true h4
  have HE : Hid (r = false) := hide (by rw [← HR.out]; exact ru_w3 h4)
  clear h1 h2 h3 h4 hi hw
  go_enter Tryd.func61, Tryd.ntmps61
  go_wp2_with fail
  go_ret
  exact ⟨by rw [HE.out]; rfl, blo w _⟩
 have d4 : decide (3 < x) = false := decide_eq_false h4
 cases h5 : indic l
 ·rw [h5] at hi
  have HE : Hid (r = false) := hide (by rw [← HR.out]; exact ru_ind h5)
  clear h1 h2 h3 h4 h5 hw
  go_enter Tryd.func61, Tryd.ntmps61
  go_wp2_with (first | (go_at_call 58; refine (hi _ (blo w _)).mono ?_; rintro e w2 ⟨rfl, rfl⟩))
  go_ret
  exact ⟨by rw [HE.out]; rfl, blo w _⟩
 rw [h5] at hi
 have hrest := ru_rest (r := ⟨s, x, l⟩) h1 h2 h3 h4 h5
 have h0 : 0 < s.size := by omega
 have HREST : Hid (r = (small s || oneMark s && decide (x = 0))) := hide (by rw [← HR.out]; exact hrest)
 clear h1 h2 h3 h4 h5 hrest
 cases h6 : small s
 case true =>
  rw [h6] at hw
  have HE : Hid (r = true) := hide (by rw [HREST.out, h6]; rfl)
  clear h6
  go_enter Tryd.func61, Tryd.ntmps61
  go_wp2_with (first | (go_at_call 58; refine (hi _ (blo w _)).mono ?_; rintro e w2 ⟨rfl, rfl⟩) | (go_at_call 64; refine (hw _).mono ?_; rintro e w2 ⟨rfl, rfl⟩))
  go_ret
  exact ⟨by rw [HE.out]; rfl, blo w _⟩
 rw [h6] at hw
 have HREST2 : Hid (r = (oneMark s && decide (x = 0))) := hide (by rw [HREST.out, h6]; rfl)
 clear h6
 by_cases h7 : s.size = 1
 case neg =>
  have d7 : ((s.size : Int) == 1) = false := beq_eq_false_iff_ne.2 (by omega)
  have HE : Hid (r = false) := hide (by rw [HREST2.out, mark_n h7]; rfl)
  clear h7
  go_enter Tryd.func61, Tryd.ntmps61
  go_wp2_with (first | (go_at_call 58; refine (hi _ (blo w _)).mono ?_; rintro e w2 ⟨rfl, rfl⟩) | (go_at_call 64; refine (hw _).mono ?_; rintro e w2 ⟨rfl, rfl⟩))
  go_ret
  exact ⟨by rw [HE.out]; rfl, blo w _⟩
 have d7 : ((s.size : Int) == 1) = true := beq_iff_eq.2 (by omega)
 have HREST3 : Hid (r = ((isW s[0] && !isL s[0] && !isD s[0]) && decide (x = 0))) := hide (by rw [HREST2.out, mark_1 h7])
 clear h7
 have h8 := fun w' => tab_written s[0] w'
 have h9 := fun w' => tab_letter s[0] w'
 have h10 := fun w' => tab_digit s[0] w'
 cases q8 : isW s[0]
 case false =>
  rw [q8] at h8
  have HE : Hid (r = false) := hide (by rw [HREST3.out, q8]; rfl)
  clear q8
  go_enter Tryd.func61, Tryd.ntmps61
  go_wp2_with (first | (go_at_call 58; refine (hi _ (blo w _)).mono ?_; rintro e w2 ⟨rfl, rfl⟩) | (go_at_call 64; refine (hw _).mono ?_; rintro e w2 ⟨rfl, rfl⟩) | (go_at_call 63; refine (h8 _).mono ?_; rintro e w2 ⟨rfl, rfl⟩))
  go_ret
  exact ⟨by rw [HE.out]; rfl, blo w _⟩
 rw [q8] at h8
 cases q9 : isL s[0]
 case true =>
  rw [q9] at h9
  have HE : Hid (r = false) := hide (by rw [HREST3.out, q8, q9]; rfl)
  clear q8 q9
  go_enter Tryd.func61, Tryd.ntmps61
  go_wp2_with (first | (go_at_call 58; refine (hi _ (blo w _)).mono ?_; rintro e w2 ⟨rfl, rfl⟩) | (go_at_call 64; refine (hw _).mono ?_; rintro e w2 ⟨rfl, rfl⟩) | (go_at_call 63; refine (h8 _).mono ?_; rintro e w2 ⟨rfl, rfl⟩) | (go_at_call 73; refine (h9 _).mono ?_; rintro e w2 ⟨rfl, rfl⟩))
  go_ret
  exact ⟨by rw [HE.out]; rfl, blo w _⟩
 rw [q9] at h9
 cases q10 : isD s[0]
 case true =>
  rw [q10] at h10
  have HE : Hid (r = false) := hide (by rw [HREST3.out, q8, q9, q10]; rfl)
  clear q8 q9 q10
  go_enter Tryd.func61, Tryd.ntmps61
  go_wp2_with (first | (go_at_call 58; refine (hi _ (blo w _)).mono ?_; rintro e w2 ⟨rfl, rfl⟩) | (go_at_call 64; refine (hw _).mono ?_; rintro e w2 ⟨rfl, rfl⟩) | (go_at_call 63; refine (h8 _).mono ?_; rintro e w2 ⟨rfl, rfl⟩) | (go_at_call 73; refine (h9 _).mono ?_; rintro e w2 ⟨rfl, rfl⟩) | (go_at_call 44; refine (h10 _).mono ?_; rintro e w2 ⟨rfl, rfl⟩))
  go_ret
  exact ⟨by rw [HE.out]; rfl, blo w _⟩
 rw [q10] at h10
 have HREST4 : Hid (r = decide (x = 0)) := hide (by rw [HREST3.out, q8, q9, q10]; simp)
 clear q8 q9 q10
 by_cases h11 : x = 0
 ·have d11 : (x == 0) = true := beq_iff_eq.2 h11
  have HE : Hid (r = true) := hide (by rw [HREST4.out]; exact decide_eq_true h11)
  clear h11
  go_enter Tryd.func61, Tryd.ntmps61
  go_wp2_with (first | (go_at_call 58; refine (hi _ (blo w _)).mono ?_; rintro e w2 ⟨rfl, rfl⟩) | (go_at_call 64; refine (hw _).mono ?_; rintro e w2 ⟨rfl, rfl⟩) | (go_at_call 63; refine (h8 _).mono ?_; rintro e w2 ⟨rfl, rfl⟩) | (go_at_call 73; refine (h9 _).mono ?_; rintro e w2 ⟨rfl, rfl⟩) | (go_at_call 44; refine (h10 _).mono ?_; rintro e w2 ⟨rfl, rfl⟩))
  go_ret
  exact ⟨by rw [HE.out]; rfl, blo w _⟩
 ·have d11 : (x == 0) = false := beq_eq_false_iff_ne.2 h11
  have HE : Hid (r = false) := hide (by rw [HREST4.out]; exact decide_eq_false h11)
  clear h11
  go_enter Tryd.func61, Tryd.ntmps61
  go_wp2_with (first | (go_at_call 58; refine (hi _ (blo w _)).mono ?_; rintro e w2 ⟨rfl, rfl⟩) | (go_at_call 64; refine (hw _).mono ?_; rintro e w2 ⟨rfl, rfl⟩) | (go_at_call 63; refine (h8 _).mono ?_; rintro e w2 ⟨rfl, rfl⟩) | (go_at_call 73; refine (h9 _).mono ?_; rintro e w2 ⟨rfl, rfl⟩) | (go_at_call 44; refine (h10 _).mono ?_; rintro e w2 ⟨rfl, rfl⟩))
  go_ret
  exact ⟨by rw [HE.out]; rfl, blo w _⟩
end Go.Proofs.YtfagjaabladgpaaDoor
end

section
/- Chapter 06: characters in a slice: sym, and whether all are valid. -/
namespace Go.Dx
open Go.RowKit
def badS (x : Sy) : Bool := !symOk x
theorem goodS_eq (l : List Sy) : goodS l = !l.any badS := by
 unfold goodS
 rw [Bool.eq_iff_iff]; simp [List.all_eq_true, badS]
theorem sy_cells {w : World} {a : Option Addr} {n c : Nat} {l : List Sy} (hs : Sl w 2 a n c (l.flatMap sc)) {k : Nat} {x : Sy} (hx : l[k]? = some x) :
  ∃ b o, a = some ⟨b, o, none⟩ ∧ b < w.heap.size ∧ w.cell? ⟨b, o + k * 2, none⟩ = some (.int .i64 x.lang) ∧ w.cell? ⟨b, o + k * 2 + 1, none⟩ = some (.int .u8 (x.c.toNat : Int)) := by
 have hk := (List.getElem?_eq_some_iff.1 hx).1
 obtain ⟨b, o, hab, hb, hc⟩ := hs.ex (by rw [flat_len sc_len]; omega)
 refine ⟨b, o, hab, hb, ?_, ?_⟩
 ·have := flat_get sc_len hx (j := 0) (by decide)
  exact hc (k * 2) _ this
 ·have := flat_get sc_len hx (j := 1) (by decide)
  exact hc (k * 2 + 1) _ this
end Go.Dx
namespace Go.Proofs.YtfagjaabladgpaaDoor
open Go.RowKit Go.Dx
theorem size_sym : (Tryd.prog.info? 83).map (·.size) = some 2 := by kernel_rfl
section
variable {w : World} {ops : Array Oper} {rest : List Oper} {act : Act} {Q : Exit → Act → World → Prop} {ty : TypeId} {pos : String} {after : Array Edge}
theorem idx_y (d : Nat) (x y : Operand) (a : Option Addr) (n c : Nat) (l : List Sy) (hx : act.eval x = .slice a n c) (hs : Sl w 2 a n c (l.flatMap sc)) (k : IntKind) (iv : Int) (i : Nat) (hy : act.eval y = .int k iv) (hiv : iv = (i : Int))
  (u : Sy) (hu : l[i]? = some u)
  (hK : ∀ b o, w.cell? ⟨b, o, none⟩ = some (.int .i64 u.lang) → w.cell? ⟨b, o + 1, none⟩ = some (.int .u8 (u.c.toNat : Int)) → b < w.heap.size → wpList Tryd.prog ops Q rest (act.put (some d) (.pointer (some ⟨b, o, none⟩))) w) :
  wpList Tryd.prog ops Q ({ dst := some d, op := .indexAddr 46 x y, type := ty, pos := pos, after := after, guard := none } :: rest) act w :=
 index_row d 46 x y 83 Tryd.underlying46 2 size_sym a n c _ hx hs k iv i hy hiv (by rw [hs.nf sc_len (by decide)]; exact (List.getElem?_eq_some_iff.1 hu).1) (by decide)
  (fun b o h hb _ => hK b o (h 0 _ (by decide) (flat_get sc_len hu (by decide))) (h 1 _ (by decide) (flat_get sc_len hu (by decide))) hb)
end
theorem symOk_no (g : Int) (c : UInt8) (h0 : g ≠ 0) (h1 : g ≠ 1) : symOk ⟨g, c⟩ = false := by unfold symOk; simp [h0, h1]
theorem symOk_yes (g : Int) (c : UInt8) (h0 : g = 0 ∨ g = 1) : symOk ⟨g, c⟩ = isW c := by unfold symOk; rcases h0 with h | h <;> simp [h]

set_option maxHeartbeats 400000 in
theorem tab_sym (x : Sy) (w : World) : Calls Tryd.prog 42 #[.agg #[.int .i64 x.lang, .int .u8 (x.c.toNat : Int)]] w fun e w' => e = .returned (.bool (symOk x)) ∧ Below w.heap.size w w' := by
 obtain ⟨g, c⟩ := x
 have hc := fun w' => tab_written c w'
 show Calls Tryd.prog 42 #[.agg #[.int .i64 g, .int .u8 (c.toNat : Int)]] w _
 by_cases h0 : g = 0
 ·subst h0
  have HE := hide (symOk_yes 0 c (.inl rfl))
  generalize isW c = v at hc HE
  go_enter Tryd.func42, Tryd.ntmps42
  go_wp2_with (go_at_call 63; refine (hc _).mono ?_; rintro e w2 ⟨rfl, rfl⟩)
  go_ret
  exact ⟨by rw [HE.out]; rfl, blo w _⟩
 have d0 : (g == 0) = false := beq_eq_false_iff_ne.2 h0
 by_cases h1 : g = 1
 ·subst h1
  have HE := hide (symOk_yes 1 c (.inr rfl))
  generalize isW c = v at hc HE
  clear h0
  go_enter Tryd.func42, Tryd.ntmps42
  go_wp2_with (go_at_call 63; refine (hc _).mono ?_; rintro e w2 ⟨rfl, rfl⟩)
  go_ret
  exact ⟨by rw [HE.out]; rfl, blo w _⟩
 have d1 : (g == 1) = false := beq_eq_false_iff_ne.2 h1
 have HE := hide (symOk_no g c h0 h1)
 clear h0 h1 hc
 go_enter Tryd.func42, Tryd.ntmps42
 go_wp2_with fail
 go_ret
 exact ⟨by rw [HE.out]; rfl, blo w _⟩

set_option maxHeartbeats 400000 in
theorem steps_1 (x : Sy) (w : World) : Calls Tryd.prog 41 #[.agg #[.int .i64 x.lang, .int .u8 (x.c.toNat : Int)]] w fun e w' => e = .returned (.bool (badS x)) ∧ Below w.heap.size w w' := by
 have hc := fun w' => tab_sym x w'
 unfold badS
 generalize symOk x = v at hc ⊢
 go_enter Tryd.func41, Tryd.ntmps41
 go_wp2_with (go_at_call 42; refine (hc _).mono ?_; rintro e w2 ⟨rfl, hb⟩)
 go_ret
 exact ⟨rfl, (blo w _).trans (hb.mono (blo w _).size)⟩

set_option maxHeartbeats 400000 in
theorem index_y (l : List Sy) (a : Option Addr) (n c : Nat) (w : World) (hs : Sl w 2 a n c (l.flatMap sc)) :
  Calls Tryd.prog 62 #[.slice a n c, fnv 41] w fun e w' => ∃ i : Int, e = .returned (.int .i64 i) ∧ decide (0 ≤ i) = l.any badS ∧ Below w.heap.size w w' := by
 unfold fnv
 obtain rfl := hs.nf sc_len (by decide)
 have hm1 := Nat.le_trans hs.le hs.cap
 unfold maxLen at hm1
 go_enter Tryd.func62, Tryd.ntmps62
 go_wp2_with fail
 go_loopg [8] l.length (fun g i w' => ∃ (k : Nat), k ≤ l.length ∧ g = l.length - k ∧ (l.take k).any badS = false ∧ i = .int .i64 k ∧ Below w.heap.size w w')
 case atStart => exact ⟨0, by omega, by omega, rfl, rfl, Below.refl _ _⟩
 case round =>
  obtain ⟨k, hk, hg, ht, rfl, hb⟩ := hrel
  have HG := hide hg
  have HT := hide ht
  clear hg ht
  by_cases hkl : k < l.length
  ·obtain ⟨x, hx⟩ : ∃ x, l[k]? = some x := ⟨l[k], by simp [hkl]⟩
   have HH := hide hx
   have hs1 := hs.below hb
   clear hx
   have hc := steps_1 x wr
   cases hq : badS x
   ·have HN := hide (any_take_no HH.out HT.out hq)
    rw [hq] at hc
    clear hq
    go_wp2_with (first
     | (with_reducible refine idx_y 14 _ _ _ _ _ _ rfl hs1 _ _ k rfl rfl _ HH.out ?_; intro b o hcell hcell2 hbo)
     | (go_at_call 41; refine hc.mono ?_; rintro e w2 ⟨rfl, hb2⟩))
    have hb3 := hb.trans (hb2.mono hb.size)
    go_roundg (l.length - (k + 1))
    case measure => have := HG.out; omega
    case rel => exact ⟨k + 1, by omega, rfl, HN.out, by go_num, hb3⟩
   ·have HN := hide (any_of_get HH.out hq)
    rw [hq] at hc
    clear hq
    go_wp2_with (first
     | (with_reducible refine idx_y 14 _ _ _ _ _ _ rfl hs1 _ _ k rfl rfl _ HH.out ?_; intro b o hcell hcell2 hbo)
     | (go_at_call 41; refine hc.mono ?_; rintro e w2 ⟨rfl, hb2⟩))
    go_ret
    exact ⟨_, rfl, by rw [HN.out]; exact decide_eq_true (by omega), hb.trans (hb2.mono hb.size)⟩
  ·obtain rfl : k = l.length := by omega
   go_wp2
   go_ret
   have := HT.out
   rw [List.take_length] at this
   exact ⟨_, rfl, by rw [this]; rfl, hb⟩
set_option maxHeartbeats 400000 in
theorem contains_y (l : List Sy) (a : Option Addr) (n c : Nat) (w : World) (hs : Sl w 2 a n c (l.flatMap sc)) :
  Calls Tryd.prog 40 #[.slice a n c, fnv 41] w fun e w' => e = .returned (.bool (!goodS l)) ∧ Below w.heap.size w w' := by
 have hc := index_y l a n c w hs
 rw [goodS_eq, Bool.not_not]
 unfold fnv at hc ⊢
 go_enter Tryd.func40, Tryd.ntmps40
 go_wp2_with (go_at_call 62; refine hc.mono ?_; rintro e w2 ⟨i, rfl, hi, hb⟩)
 go_ret
 exact ⟨by rw [← hi]; rfl, hb⟩

end Go.Proofs.YtfagjaabladgpaaDoor
end

section
/- Chapter 06: the rules of a language: whether all are as they have to be; a letter's own rule. -/
namespace Go.Dx
open Go.RowKit
def badR (r : Ru) : Bool := !ruOk r
theorem rules_eq (l : List Ru) : l.all ruOk = !l.any badR := by
 rw [Bool.eq_iff_iff]; simp [List.all_eq_true, badR]
theorem ru_cells {w : World} {a : Option Addr} {n c : Nat} {ps : List RH} (hs : Sl w 3 a n c (ps.flatMap rc)) {k : Nat} {p : RH} (hx : ps[k]? = some p) :
  ∃ b o, a = some ⟨b, o, none⟩ ∧ b < w.heap.size ∧ w.cell? ⟨b, o + k * 3, none⟩ = some (.string p.1.text) ∧ w.cell? ⟨b, o + k * 3 + 1, none⟩ = some (.int .i64 p.1.whr) ∧ w.cell? ⟨b, o + k * 3 + 2, none⟩ = some (.slice p.2.1 p.2.2.1 p.2.2.2) := by
 have hk := (List.getElem?_eq_some_iff.1 hx).1
 obtain ⟨b, o, hab, hb, hc⟩ := hs.ex (by rw [flat_len rc_len]; omega)
 refine ⟨b, o, hab, hb, ?_, ?_, ?_⟩
 ·exact hc (k * 3) _ (flat_get rc_len hx (j := 0) (by decide))
 ·exact hc (k * 3 + 1) _ (flat_get rc_len hx (j := 1) (by decide))
 ·exact hc (k * 3 + 2) _ (flat_get rc_len hx (j := 2) (by decide))
end Go.Dx
namespace Go.Proofs.YtfagjaabladgpaaDoor
open Go.RowKit Go.Dx
theorem size_rule : (Tryd.prog.info? 45).map (·.size) = some 3 := by kernel_rfl
section
variable {w : World} {ops : Array Oper} {rest : List Oper} {act : Act} {Q : Exit → Act → World → Prop} {ty : TypeId} {pos : String} {after : Array Edge}
theorem idx_r (d : Nat) (x y : Operand) (a : Option Addr) (n c : Nat) (ps : List RH) (hx : act.eval x = .slice a n c) (hs : Sl w 3 a n c (ps.flatMap rc)) (k : IntKind) (iv : Int) (i : Nat) (hy : act.eval y = .int k iv) (hiv : iv = (i : Int))
  (p : RH) (hu : ps[i]? = some p)
  (hK : ∀ b o, w.cell? ⟨b, o, none⟩ = some (.string p.1.text) → w.cell? ⟨b, o + 1, none⟩ = some (.int .i64 p.1.whr) → w.cell? ⟨b, o + 2, none⟩ = some (.slice p.2.1 p.2.2.1 p.2.2.2) → b < w.heap.size → wpList Tryd.prog ops Q rest (act.put (some d) (.pointer (some ⟨b, o, none⟩))) w) :
  wpList Tryd.prog ops Q ({ dst := some d, op := .indexAddr 24 x y, type := ty, pos := pos, after := after, guard := none } :: rest) act w :=
 index_row d 24 x y 45 Tryd.underlying24 3 size_rule a n c _ hx hs k iv i hy hiv (by rw [hs.nf rc_len (by decide)]; exact (List.getElem?_eq_some_iff.1 hu).1) (by decide)
  (fun b o h hb _ => hK b o (h 0 _ (by decide) (flat_get rc_len hu (by decide))) (h 1 _ (by decide) (flat_get rc_len hu (by decide))) (h 2 _ (by decide) (flat_get rc_len hu (by decide))) hb)
end
def rv (p : RH) : Value := .agg #[.string p.1.text, .int .i64 p.1.whr, .slice p.2.1 p.2.2.1 p.2.2.2]
set_option maxHeartbeats 400000 in
theorem valid_1 (p : RH) (w : World) (hs : Sl w 1 p.2.1 p.2.2.1 p.2.2.2 (p.1.cells.map B8)) (hsz : p.1.text.size ≤ 1000) : Calls Tryd.prog 60 #[rv p] w fun e w' => e = .returned (.bool (badR p.1)) ∧ Below w.heap.size w w' := by
 obtain ⟨⟨s, x, l⟩, a, n, c⟩ := p
 have hc := fun w' (hb : Below w.heap.size w w') => tab_right s x l a n c (Nat.le_trans hsz (by decide)) w' (hs.below hb)
 unfold badR rv
 show Calls Tryd.prog 60 #[.agg #[.string s, .int .i64 x, .slice a n c]] w fun e w' => e = .returned (.bool (!ruOk ⟨s, x, l⟩)) ∧ Below w.heap.size w w'
 generalize ruOk ⟨s, x, l⟩ = v at hc ⊢
 go_enter Tryd.func60, Tryd.ntmps60
 go_wp2_with (go_at_call 61; refine (hc _ (blo w _)).mono ?_; rintro e w2 ⟨rfl, hb⟩)
 go_ret
 exact ⟨rfl, (blo w _).trans (hb.mono (blo w _).size)⟩

set_option maxHeartbeats 400000 in
theorem index_r (ps : List RH) (a : Option Addr) (n c : Nat) (w : World) (hs : Rul w a n c ps) :
  Calls Tryd.prog 72 #[.slice a n c, fnv 60] w fun e w' => ∃ i : Int, e = .returned (.int .i64 i) ∧ decide (0 ≤ i) = (rus ps).any badR ∧ Below w.heap.size w w' := by
 unfold fnv
 obtain rfl := hs.n_eq
 have hm1 := Nat.le_trans hs.top.le hs.top.cap
 unfold maxLen at hm1
 have HA : Hid ((rus ps).any badR = ps.any (fun p => badR p.1)) := hide (by unfold rus; rw [List.any_map]; rfl)
 go_enter Tryd.func72, Tryd.ntmps72
 go_wp2_with fail
 go_loopg [8] ps.length (fun g i w' => ∃ (k : Nat), k ≤ ps.length ∧ g = ps.length - k ∧ (ps.take k).any (fun p => badR p.1) = false ∧ i = .int .i64 k ∧ Below w.heap.size w w')
 case atStart => exact ⟨0, by omega, by omega, rfl, rfl, Below.refl _ _⟩
 case round =>
  obtain ⟨k, hk, hg, ht, rfl, hb⟩ := hrel
  have HG := hide hg
  have HT := hide ht
  clear hg ht
  by_cases hkl : k < ps.length
  ·obtain ⟨x, hx⟩ : ∃ x, ps[k]? = some x := ⟨ps[k], by simp [hkl]⟩
   have HH := hide hx
   have hs1 := hs.below hb
   obtain ⟨hrow, hsz⟩ := hs1.row x (List.mem_of_getElem? hx)
   clear hx
   have hc := valid_1 x wr hrow hsz
   unfold rv at hc
   cases hq : badR x.1
   ·have HN := hide (any_take_no (p := fun p : RH => badR p.1) HH.out HT.out hq)
    rw [hq] at hc
    clear hq
    go_wp2_with (first
     | (with_reducible refine idx_r 14 _ _ _ _ _ _ rfl hs1.top _ _ k rfl rfl _ HH.out ?_; intro b o hcell hcell2 hcell3 hbo)
     | (go_at_call 60; refine hc.mono ?_; rintro e w2 ⟨rfl, hb2⟩))
    have hb3 := hb.trans (hb2.mono hb.size)
    go_roundg (ps.length - (k + 1))
    case measure => have := HG.out; omega
    case rel => exact ⟨k + 1, by omega, rfl, HN.out, by go_num, hb3⟩
   ·have HN := hide (any_of_get (p := fun p : RH => badR p.1) HH.out hq)
    rw [hq] at hc
    clear hq
    go_wp2_with (first
     | (with_reducible refine idx_r 14 _ _ _ _ _ _ rfl hs1.top _ _ k rfl rfl _ HH.out ?_; intro b o hcell hcell2 hcell3 hbo)
     | (go_at_call 60; refine hc.mono ?_; rintro e w2 ⟨rfl, hb2⟩))
    go_ret
    exact ⟨_, rfl, by rw [HA.out, HN.out]; exact decide_eq_true (by omega), hb.trans (hb2.mono hb.size)⟩
  ·obtain rfl : k = ps.length := by omega
   go_wp2
   go_ret
   have := HT.out
   rw [List.take_length] at this
   exact ⟨_, rfl, by rw [HA.out, this]; rfl, hb⟩
set_option maxHeartbeats 400000 in
theorem contains_r (ps : List RH) (a : Option Addr) (n c : Nat) (w : World) (hs : Rul w a n c ps) :
  Calls Tryd.prog 59 #[.slice a n c, fnv 60] w fun e w' => e = .returned (.bool (!(rus ps).all ruOk)) ∧ Below w.heap.size w w' := by
 have hc := index_r ps a n c w hs
 rw [rules_eq, Bool.not_not]
 unfold fnv at hc ⊢
 go_enter Tryd.func59, Tryd.ntmps59
 go_wp2_with (go_at_call 72; refine hc.mono ?_; rintro e w2 ⟨i, rfl, hi, hb⟩)
 go_ret
 exact ⟨by rw [← hi]; rfl, hb⟩

end Go.Proofs.YtfagjaabladgpaaDoor
end

section
/- A region that draws its order: a head of quiet operations (reads, and calls that keep a class of worlds), and a tail that waits for the whole head: walked once. No program in sight. -/
namespace Go.Dx
section
variable {P : Program} {ops : Array Oper} {md : Region.Mode} {C : World → Prop}

def headQ (P : Program) (md : Region.Mode) (ops : Array Oper) (C : World → Prop) (n : Nat) (L : Array Bool → Act → Prop) : Nat → Array Bool → Act → Prop
 | 0, listed, a => L listed a
 | f + 1, listed, a => Region.ready md ops listed ≠ [] ∧ ∀ i ∈ Region.ready md ops listed, i < n ∧ qOp P ops C i (headQ P md ops C n L f (listed.setIfInBounds i true)) a

theorem wpAny_of_headQ {n g : Nat} {L : Array Bool → Act → Prop} {Q' : Exit → Act → World → Prop} (hL : ∀ listed a w, C w → L listed a → wpAny P md ops Q' g listed a w) :
  ∀ (f : Nat) (listed : Array Bool) (a : Act) (w : World), C w → headQ P md ops C n L f listed a → wpAny P md ops Q' (f + g) listed a w
 | 0, listed, a, w, hw, h => by rw [Nat.zero_add]; exact hL _ _ _ hw h
 | f + 1, listed, a, w, hw, h => by
  rw [show f + 1 + g = (f + g) + 1 by omega]
  exact ⟨fun h0 => absurd h0 h.1, fun i hi => wpOp_of_qOp hw (fun a' w' hw' h' => wpAny_of_headQ hL f _ a' w' hw' h') (h.2 i hi).2⟩

theorem headQ_first {n i : Nat} {oi : Oper} {v : Value} {L : Array Bool → Act → Prop} (hi : ops[i]? = some oi) (hsel : ∀ (j : Nat) (o : Oper) cs b, ops[j]? = some o → o.op ≠ .select cs b)
  (hs : Region.sinkB md ops n = true) (hc : Region.chainB md ops n = true) (hn : n < ops.size) (hin : i < n)
  (hdone : ∀ listed a, L listed a → ∀ j ∈ Region.ready md ops listed, n ≤ j) :
  ∀ (f : Nat) (listed : Array Bool) (a : Act), HeadInv md ops n listed →
   (∀ j oj, ops[j]? = some oj → j ≠ i → listed.getD j true = false → (∀ e ∈ oj.after, Region.binds md e = true → e.on ≠ i) → oi.apart ops oj = true) →
   i ∈ Region.ready md ops listed → YieldsIn P ops C oi v a →
   headQ P md ops C n L f (listed.setIfInBounds i true) (a.put oi.dst v) → headQ P md ops C n L (f + 1) listed a := by
 intro f
 induction f with
 | zero =>
  intro listed a inv _ hr hy H
  have hun := (mem_ready.1 hr).1
  refine ⟨fun h => (by rw [h] at hr; cases hr), fun j hj => ?_⟩
  have hjn : j < n := by
   rcases Nat.lt_or_ge j n with h | h
   ·exact h
   ·exact absurd hj (tail_waits hs hc hn inv _ i rfl hin hun j h)
  refine ⟨hjn, ?_⟩
  by_cases hji : j = i
  ·subst hji; exact hy.qOp hi H
  ·have := hdone _ _ H j (ready_mono hj hji)
   omega
 | succ f ih =>
  intro listed a inv hfree hr hy H
  have hun := (mem_ready.1 hr).1
  refine ⟨fun h => (by rw [h] at hr; cases hr), fun j hj => ?_⟩
  have hjn : j < n := by
   rcases Nat.lt_or_ge j n with h | h
   ·exact h
   ·exact absurd hj (tail_waits hs hc hn inv _ i rfl hin hun j h)
  refine ⟨hjn, ?_⟩
  by_cases hji : j = i
  ·subst hji; exact hy.qOp hi H
  ·have h1 := (H.2 j (ready_mono hj hji)).2
   obtain ⟨hjun, oj, hoj, hall⟩ := mem_ready.1 hj
   have hnot : ∀ e ∈ oj.after, Region.binds md e = true → e.on ≠ i := fun e he hb heq => by
    have h1 := hall e he hb
    rw [heq, getD_both hun] at h1
    cases h1
   have h2 := qOp_put hoj (hfree j oj hoj hji hjun hnot) (fun cs b => hsel i oi cs b hi) (fun cs b => hsel j oj cs b hoj) hy h1
   have hfree' : ∀ k ok, ops[k]? = some ok → k ≠ i → (listed.setIfInBounds j true).getD k true = false →
     (∀ e ∈ ok.after, Region.binds md e = true → e.on ≠ i) → oi.apart ops ok = true := fun k ok hk hki hun hno => by
    refine hfree k ok hk hki ?_ hno
    by_cases hjk : j = k
    ·subst hjk; exact hjun
    ·rw [getD_set_ne true hjk] at hun; exact hun
   refine qOp_mono (fun a' h3 => ih (listed.setIfInBounds j true) a' (inv.set hj hjn) hfree' (ready_mono hr (Ne.symm hji)) h3.1 ?_) h2
   rw [Array.setIfInBounds_comm _ _ hji]
   exact h3.2

theorem headQ_lex {n g : Nat} {Lq : Act → Prop} (hsel : Region.noSelect ops = true) (hs : Region.sinkB md ops n = true) (hc : Region.chainB md ops n = true) (hn : n < ops.size) :
  ∀ (l : List Oper) (k : Nat) (listed : Array Bool) (a : Act), (∀ j, j < l.length → l[j]? = ops[k + j]?) → k + l.length = n → HeadInv md ops n listed →
  Region.lexHead md ops g l.length k listed = true → wpQuiet P ops C Lq l a →
  headQ P md ops C n (fun listed' a' => Region.seqB md ops g n listed' = true ∧ Lq a') l.length listed a
 | [], k, listed, a, _, hk, _, hB, h => by
  have : k = n := by simpa using hk
  subst this
  exact ⟨by simpa [Region.lexHead] using hB, h⟩
 | o :: l, k, listed, a, hl, hk, inv, hB, h => by
  have h0 : ops[k]? = some o := by simpa using (hl 0 (by simp)).symm
  simp only [List.length_cons, Region.lexHead, Bool.and_eq_true] at hB
  obtain ⟨⟨hr, hf⟩, hB'⟩ := hB
  have hkn : k < n := by simp only [List.length_cons] at hk; omega
  have hr' : k ∈ Region.ready md ops listed := by simpa using hr
  have hst : qOp P ops C k (wpQuiet P ops C Lq l) a := by unfold qOp; simp only [h0]; exact h
  obtain ⟨v, hy, hK⟩ := yieldsIn_of_qOp h0 hst
  exact headQ_first h0 (Region.noSelect_spec hsel) hs hc hn hkn (fun listed' a' hL => seqB_ready hL.1) l.length listed a inv (Region.free_spec h0 hf) hr' hy
   (headQ_lex hsel hs hc hn l (k + 1) _ _ (fun j hj => by have := hl (j + 1) (by simp; omega); simpa [Nat.add_assoc, Nat.add_comm 1 j] using this) (by simp only [List.length_cons] at hk; omega) (inv.set hr' hkn) hB' hK)

theorem wp_region_quiet_tail {id : Nat} {Q : Exit → Act → World → Prop} {a : Act} {w : World} {l : List Oper} (n : Nat) (hm : P.follows .mixedOrders = true) (hB : Region.lexTailB .any l.toArray n = true) (hC : C w.drew)
  (h : wpQuiet P l.toArray C (fun a' => ∀ w', C w' → wpList P l.toArray Q (l.drop n) a' w') (l.take n) a) : (Code.region id l.toArray true).wp P Q a w := by
 simp only [Region.lexTailB, Bool.and_eq_true, decide_eq_true_eq] at hB
 obtain ⟨⟨⟨⟨hsel, hn⟩, hs⟩, hc⟩, hlex⟩ := hB
 have hn' : n < l.length := by simpa using hn
 have htl : (l.take n).length = n := by simp; omega
 have hdl : (l.drop n).length = l.toArray.size - n := by simp
 have inv0 : HeadInv .any l.toArray n (Array.replicate l.toArray.size false) :=
  ⟨by simp, fun j oj _ hl => (by rw [getD_replicate_false] at hl; cases hl), fun t _ ht => getD_in (by simpa using ht) (getD_replicate_false _ _)⟩
 have H := headQ_lex (md := .any) (g := l.toArray.size - n) hsel hs hc hn (l.take n) 0 _ a (fun j hj => by
  have hj' : j < n := by rw [htl] at hj; exact hj
  simp [hj']) (by simpa using htl) inv0 (by rw [htl]; exact hlex) h
 refine wp_region_any hm ?_
 have := wpAny_of_headQ (Q' := Q) (g := l.toArray.size - n) (fun listed a' w' hw' hL => by
  have := wpAny_of_seq (md := .any) (Q' := Q) (l.drop n) n listed a' w' (fun j => by simp [List.getElem?_drop]) (by rw [hdl]; exact hL.1) (hL.2 w' hw')
  rwa [hdl] at this) _ _ _ _ hC H
 rw [htl, show n + (l.toArray.size - n) = l.toArray.size by omega] at this
 exact this
theorem wp_region_below_tail {id : Nat} {Q : Exit → Act → World → Prop} {a : Act} {w : World} {l : List Oper} (n : Nat) (hm : P.follows .mixedOrders = true) (hB : Region.lexTailB .any l.toArray n = true)
  (h : wpQuiet P l.toArray (fun w' => ∃ p : OnTop w, w' = p.v) (fun a' => ∀ w', (∃ p : OnTop w, w' = p.v) → wpList P l.toArray Q (l.drop n) a' w') (l.take n) a) : (Code.region id l.toArray true).wp P Q a w :=
 wp_region_quiet_tail (C := fun w' => ∃ p : OnTop w, w' = p.v) n hm hB ⟨⟨w.drewN 1, Still.below 1⟩, rfl⟩ h
end
end Go.Dx
end
