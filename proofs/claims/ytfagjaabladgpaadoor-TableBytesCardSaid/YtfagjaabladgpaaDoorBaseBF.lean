/- The contracts of the functions that the law reaches, joined into one text. -/
import Derived.Test.YtfagjaabladgpaaDoorBaseBE
import Derived.Deep.CutBlock
set_option linter.unusedVariables false
set_option linter.unusedSimpArgs false

section
/- Pages that a call builds by append: the slice of rows, and each row, owned. -/
namespace Go.Proofs.YtfagjaabladgpaaDoor
open Go.RowKit Go.Dx

theorem own_ne {w : World} {B B' : Nat} {e e' : TypeId} {sz sz' : Nat} {p q : Addr} {n n' c c' : Nat} {cs cs' : List Value} (h : Own w B e sz (some p) n c cs) (h' : Own w B' e' sz' (some q) n' c' cs') (he : e ≠ e') : p.block ≠ q.block := by
 intro hb
 rcases h.2 with ⟨h1, _⟩ | ⟨g, cap, cur, h1, _, h2, _⟩
 ·cases h1
 ·rcases h'.2 with ⟨k1, _⟩ | ⟨g', cap', cur', k1, _, k2, _⟩
  ·cases k1
  ·injection h1 with h1
   injection k1 with k1
   injection h1 with h1
   injection k1 with k1
   subst h1 k1
   have e : g = g' := hb
   rw [e, k2] at h2
   injection h2 with h2
   injection h2 with _ h2
   exact he h2.symm
structure OPage (w : World) (B : Nat) (a : Option Addr) (c : Nat) (hs : List Hd) (p : List (List UInt8)) : Prop where
 top : Own w B 23 1 a p.length c (hs.map hv)
 len : hs.length = p.length
 row : ∀ (i : Nat) (h : Hd) (r : List UInt8), hs[i]? = some h → p[i]? = some r → Own w B 5 1 h.1 h.2.1 h.2.2 (r.map B8)
theorem OPage.mono {w : World} {B B' : Nat} {a : Option Addr} {c : Nat} {hs : List Hd} {p : List (List UInt8)} (h : OPage w B a c hs p) (hB : B' ≤ B) : OPage w B' a c hs p :=
 ⟨h.top.mono hB, h.len, fun i x r h1 h2 => (h.row i x r h1 h2).mono hB⟩
section
variable {w : World} {ops : Array Oper} {rest : List Oper} {o : Oper} {act : Act} {Q : Exit → Act → World → Prop}
end
end Go.Proofs.YtfagjaabladgpaaDoor
end

section
/- '[]byte(s)': the block that is made holds bytes. Pages whose rows are made so. -/
namespace Go.Proofs.YtfagjaabladgpaaDoor
open Go.RowKit Go.Dx
def Kind (w : World) (a : Option Addr) : Prop := ∀ q, a = some q → ∃ C z, w.heap[q.block]? = some (.cells C 5 z)
theorem Kind.below {w w' : World} {a : Option Addr} (h : Kind w a) (hb : Below w.heap.size w w') : Kind w' a := fun q hq => by
 obtain ⟨C, z, hc⟩ := h q hq
 exact ⟨C, z, by rw [hb.block q.block (Array.getElem?_eq_some_iff.1 hc).1]; exact hc⟩
theorem to_kind {w : World} {ops : Array Oper} {rest : List Oper} {act : Act} {Q : Exit → Act → World → Prop} {ty : TypeId} {pos : String} {after : Array Edge} (d : Nat) (x : Operand) (s : ByteArray) (hx : act.eval x = .string s) (hm : s.size ≤ maxLen)
  (hK : ∀ a c w', Sl w' 1 a s.size c (s.data.toList.map B8) → Kind w' a → Below w.heap.size w w' → wpList Tryd.prog ops Q rest (act.put (some d) (.slice a s.size c)) w') :
  wpList Tryd.prog ops Q ({ dst := some d, op := .convert 9 23 x, type := ty, pos := pos, after := after, guard := none } :: rest) act w := by
 refine wpList_plain rfl fun K hK' => ?_
 have hrun := run_bytes_of_string (P := Tryd.prog) w 9 23 5 s Tryd.underlying9 Tryd.underlying23 Tryd.underlying5
 have hge := grownCap_ge w s.size 0 5
 have hcm := grownCap_le_maxLen w s.size 0 5 hm
 unfold Oper.wp
 simp only [execOp, hx, Sem.run_bind, hrun, Result.andThen, Sem.run_pure]
 refine hK' _ _ (hK _ _ _ ⟨?_, hge, hcm, (fun h => by cases h), ?_⟩ (fun q hq => by cases hq; exact ⟨_, _, heap_alloc_new w.drew _⟩) ((Below.refl _ _).drew.alloc (Nat.le_refl _) _))
 ·rw [List.length_map, Array.length_toList, Nat.mul_one]; rfl
 ·intro p hp j u hj
  cases hp
  rw [Addr.add_lit, Nat.zero_add, cell_of_row _ w.heap.size j (bytesRow s (grownCap w s.size 0 5)) 5 _ (heap_alloc_new w.drew _)]
  have hj2 : j < s.size := by
   have := (List.getElem?_eq_some_iff.1 hj).1
   rw [List.length_map, Array.length_toList] at this
   exact this
  unfold bytesRow
  rw [Array.getElem?_append_left (by rw [Array.size_map]; exact hj2)]
  rw [← hj]
  simp
theorem kind_ne {w : World} {B : Nat} {e : TypeId} {sz : Nat} {t q : Addr} {n c : Nat} {cs : List Value} (h : Own w B e sz (some t) n c cs) {C : Array Value} {z : Nat × Nat} {e' : TypeId} (hq : w.heap[q.block]? = some (.cells C e' z)) (he : e ≠ e') : q.block ≠ t.block := by
 intro hb
 rcases h.2 with ⟨h1, _⟩ | ⟨g, cap, cur, h1, _, h2, _⟩
 ·cases h1
 ·injection h1 with h1
  injection h1 with h1
  subst h1
  rw [hb] at hq
  rw [hq] at h2
  injection h2 with h2
  injection h2 with _ h2
  exact he h2.symm

section
variable {w : World} {ops : Array Oper} {rest : List Oper} {o : Oper} {act : Act} {Q : Exit → Act → World → Prop}
end
end Go.Proofs.YtfagjaabladgpaaDoor
end

section
/- Chapter 06: rules made of strings, and table.rule. -/
namespace Go.Dx
open Go.RowKit
theorem decRu_e1 {l : List UInt8} {s : ByteArray} {n e : Int} (h : decBytes l = (s, n, e)) (he : e ≠ 0) : decRu l = (ru0, 0, e) := by
 unfold decRu; rw [thenD_fst (by rw [h]; exact he), h]
theorem decRu_e2 {l : List UInt8} {s : ByteArray} {n : Nat} {v k e : Int} (h : decBytes l = (s, (n : Int), 0)) (h2 : decInt (l.drop n) = (v, k, e)) (he : e ≠ 0) : decRu l = (ru0, 0, e) := by
 have hd : l.drop (decBytes l).2.1.toNat = l.drop n := by rw [h]; rfl
 have h3 : thenD decInt decBytes (fun w c => (w, c)) (0, ⟨#[]⟩) (l.drop n) = ((0, ⟨#[]⟩), 0, e) := by rw [thenD_fst (by rw [h2]; exact he), h2]
 unfold decRu; rw [thenD_snd (by rw [h]) (by rw [hd, h3]; exact he), hd, h3]
theorem decRu_e3 {l : List UInt8} {s c : ByteArray} {n k : Nat} {v j e : Int} (h : decBytes l = (s, (n : Int), 0)) (h2 : decInt (l.drop n) = (v, (k : Int), 0)) (h3 : decBytes (l.drop (n + k)) = (c, j, e)) (he : e ≠ 0) : decRu l = (ru0, 0, e) := by
 have hd : l.drop (decBytes l).2.1.toNat = l.drop n := by rw [h]; rfl
 have hd2 : (l.drop n).drop (decInt (l.drop n)).2.1.toNat = l.drop (n + k) := by rw [h2, List.drop_drop]; rfl
 have h4 : thenD decInt decBytes (fun w c => (w, c)) (0, ⟨#[]⟩) (l.drop n) = ((0, ⟨#[]⟩), 0, e) := by rw [thenD_snd (by rw [h2]) (by rw [hd2, h3]; exact he), hd2, h3]
 unfold decRu; rw [thenD_snd (by rw [h]) (by rw [hd, h4]; exact he), hd, h4]
theorem decRu_ok {l : List UInt8} {s c : ByteArray} {n k j : Nat} {v : Int} (h : decBytes l = (s, (n : Int), 0)) (h2 : decInt (l.drop n) = (v, (k : Int), 0)) (h3 : decBytes (l.drop (n + k)) = (c, (j : Int), 0)) :
  decRu l = (⟨s, v, c.data.toList⟩, ((n + k + j : Nat) : Int), 0) := by
 have hd : l.drop (decBytes l).2.1.toNat = l.drop n := by rw [h]; rfl
 have hd2 : (l.drop n).drop (decInt (l.drop n)).2.1.toNat = l.drop (n + k) := by rw [h2, List.drop_drop]; rfl
 have h4 : thenD decInt decBytes (fun w c => (w, c)) (0, ⟨#[]⟩) (l.drop n) = ((v, c), ((k + j : Nat) : Int), 0) := by
  rw [thenD_ok (by rw [h2]) (by rw [hd2, h3]), hd2, h3, h2]; simp
 unfold decRu
 rw [thenD_ok (by rw [h]) (by rw [hd, h4]), hd, h4, h]
 simp only [Prod.mk.injEq, true_and, and_true]
 omega
theorem decB_cases (l : List UInt8) : (∃ (s : ByteArray) (n e : Int), decBytes l = (s, n, e) ∧ e ≠ 0) ∨ ∃ (s : ByteArray) (n : Nat), decBytes l = (s, (n : Int), 0) ∧ 1 ≤ n ∧ n ≤ l.length := by
 obtain ⟨r, hr⟩ : ∃ r, decBytes l = r := ⟨_, rfl⟩
 obtain ⟨s, n, e⟩ := r
 by_cases he : e = 0
 ·subst he
  have h := decBytes_used (l := l) (by rw [hr])
  rw [hr] at h
  obtain ⟨N, rfl⟩ := Int.eq_ofNat_of_zero_le (a := n) (by have := h.1; simp at this; omega)
  exact .inr ⟨s, N, hr, by have := h.1; simp at this; omega, by have := h.2; simp at this; omega⟩
 ·exact .inl ⟨s, n, e, hr, he⟩
theorem decI_cases (l : List UInt8) : (∃ (v n e : Int), decInt l = (v, n, e) ∧ e ≠ 0) ∨ ∃ (v : Int) (n : Nat), decInt l = (v, (n : Int), 0) ∧ 1 ≤ n ∧ n ≤ l.length ∧ -9223372036854775808 ≤ v ∧ v ≤ 9223372036854775807 := by
 obtain ⟨r, hr⟩ : ∃ r, decInt l = r := ⟨_, rfl⟩
 obtain ⟨v, n, e⟩ := r
 by_cases he : e = 0
 ·subst he
  have h := decInt_used (l := l) (by rw [hr])
  rw [hr] at h
  obtain ⟨N, rfl⟩ := Int.eq_ofNat_of_zero_le (a := n) (by have := h.1; simp at this; omega)
  exact .inr ⟨v, N, hr, by have := h.1; simp at this; omega, by have := h.2.1; simp at this; omega, h.2.2.1, h.2.2.2⟩
 ·exact .inl ⟨v, n, e, hr, he⟩
theorem decRu_cases (l : List UInt8) : (∃ e : Int, decRu l = (ru0, 0, e) ∧ e ≠ 0) ∨ ∃ (r : Ru) (n : Nat), decRu l = (r, (n : Int), 0) ∧ 1 ≤ n ∧ n ≤ l.length ∧ -9223372036854775808 ≤ r.whr ∧ r.whr ≤ 9223372036854775807 := by
 rcases decB_cases l with ⟨s, n, e, h1, he⟩ | ⟨s, n, h1, hn1, hn2⟩
 ·exact .inl ⟨e, decRu_e1 h1 he, he⟩
 rcases decI_cases (l.drop n) with ⟨v, k, e, h2, he⟩ | ⟨v, k, h2, hk1, hk2, hv1, hv2⟩
 ·exact .inl ⟨e, decRu_e2 h1 h2 he, he⟩
 rcases decB_cases (l.drop (n + k)) with ⟨c, j, e, h3, he⟩ | ⟨c, j, h3, hj1, hj2⟩
 ·exact .inl ⟨e, decRu_e3 h1 h2 h3 he, he⟩
 ·rw [List.length_drop] at hk2 hj2
  exact .inr ⟨_, n + k + j, decRu_ok h1 h2 h3, by omega, by omega, hv1, hv2⟩
section
variable {P : Program} {w : World}
theorem results_c3 {fn : Func} {tmps : Array Value} {t t1 t2 : Tmp} {ty e : TypeId} {g : Nat} {cs : List Value} {v1 v2 : Value} (hr : fn.results = #[.cell t ty, .tmp t1, .tmp t2]) (ht : tmps.getD t undef = .pointer (some ⟨g, 0, none⟩)) (h1 : tmps.getD t1 undef = v1) (h2 : tmps.getD t2 undef = v2) (hag : IsAgg P ty) (hsz : (P.info? ty).map (·.size) = some cs.length)
  (hb : Box w g e cs) : (results fn tmps).run P w = .ok (.tuple #[.agg cs.toArray, v1, v2]) w := by
 have hl := run_loadVar_box (P := P) (off := 0) hag hsz hb (fun j u hj => by rw [Nat.zero_add]; exact hj)
 have hta : tmps[t1]?.getD undef = v1 := by rw [← h1]; simp
 have ht2 : tmps[t]?.getD undef = .pointer (some ⟨g, 0, none⟩) := by rw [← ht]; simp
 have ht3 : tmps[t2]?.getD undef = v2 := by rw [← h2]; simp
 simp only [results, hr]
 simp [hta, ht2, ht3, asAddr, hl]
end
end Go.Dx
namespace Go.Proofs.YtfagjaabladgpaaDoor
open Go.RowKit Go.Dx
theorem Kind.none (w : World) : Kind w none := fun q h => by cases h
theorem Kind.grown {w w' : World} {row : Option Nat} {a : Option Addr} (h : Kind w a) (hg : w.grownBy w' row) (hne : ∀ q, a = some q → some q.block ≠ row) : Kind w' a := fun q hq => by
 obtain ⟨C, z, hc⟩ := h q hq
 exact ⟨C, z, by rw [hg.block q.block (Array.getElem?_eq_some_iff.1 hc).1 (hne q hq)]; exact hc⟩
structure KRu (w : World) (B : Nat) (a : Option Addr) (c : Nat) (ps : List RH) : Prop where
 top : Own w B 45 3 a ps.length c (ps.flatMap rc)
 row : ∀ p ∈ ps, Sl w 1 p.2.1 p.2.2.1 p.2.2.2 (p.1.cells.map B8) ∧ Kind w p.2.1
theorem KRu.nil (w : World) (B : Nat) : KRu w B none 0 [] := ⟨Own.nil _ _ _ _, fun p hp => by cases hp⟩
theorem KRu.below {w w' : World} {B : Nat} {a : Option Addr} {c : Nat} {ps : List RH} (h : KRu w B a c ps) (hb : Below w.heap.size w w') : KRu w' B a c ps :=
 ⟨h.top.below hb, fun p hp => ⟨(h.row p hp).1.below hb, (h.row p hp).2.below hb⟩⟩
theorem KRu.kept {w w' : World} {B g : Nat} {a : Option Addr} {c : Nat} {ps : List RH} (h : KRu w B a c ps) (hg : w.grownBy w' (some g)) {T : TypeId} {cs : List Value} (hx : Box w g T cs) (h1 : 45 ≠ T) (h2 : 5 ≠ T) : KRu w' B a c ps := by
 have hrow : ∀ p ∈ ps, ∀ q, p.2.1 = some q → some q.block ≠ some g := fun p hp q hq e => by
  obtain ⟨C, z, hc⟩ := (h.row p hp).2 q hq
  injection e with e
  rw [e] at hc
  unfold Box at hx
  rw [hx] at hc
  injection hc with hc
  injection hc with _ hc
  exact h2 hc.symm
 refine ⟨h.top.kept hg (fun p hp e => ?_), fun p hp => ⟨(h.row p hp).1.grown hg (hrow p hp), (h.row p hp).2.grown hg (hrow p hp)⟩⟩
 have ho := h.top
 rw [hp] at ho
 injection e with e
 exact kind_ne (C := cs.toArray) (z := (0, 0)) (e' := T) (q := ⟨g, 0, none⟩) ho hx h1 e.symm
theorem KRu.push {w w' : World} {B : Nat} {a a' : Option Addr} {c c' : Nat} {ps : List RH} {p : RH} (h : KRu w B a c ps) (hx : Sl w 1 p.2.1 p.2.2.1 p.2.2.2 (p.1.cells.map B8)) (hk : Kind w p.2.1)
  (ht : Own w' B 45 3 a' (ps.length + 1) c' (ps.flatMap rc ++ rc p)) (hg : w.grownBy w' (a.map (·.block))) : KRu w' B a' c' (ps ++ [p]) := by
 have key : ∀ q : RH, Sl w 1 q.2.1 q.2.2.1 q.2.2.2 (q.1.cells.map B8) → Kind w q.2.1 → Sl w' 1 q.2.1 q.2.2.1 q.2.2.2 (q.1.cells.map B8) ∧ Kind w' q.2.1 := by
  intro q hq hkq
  have hne : ∀ r, q.2.1 = some r → some r.block ≠ a.map (·.block) := by
   intro r hr e
   cases ha : a with
   | none => rw [ha] at e; cases e
   | some t =>
    obtain ⟨C, z, hc⟩ := hkq r hr
    have ho := h.top
    rw [ha] at ho e
    exact kind_ne ho hc (by decide) (by simpa using e)
  exact ⟨hq.grown hg hne, hkq.grown hg hne⟩
 refine ⟨by rw [List.length_append, List.flatMap_append, List.flatMap_singleton]; exact ht, ?_⟩
 intro q hq
 rcases List.mem_append.1 hq with hq | hq
 ·exact key q (h.row q hq).1 (h.row q hq).2
 ·rw [List.mem_singleton] at hq; subst hq; exact key _ hx hk
theorem KRu.rue {w : World} {B : Nat} {a : Option Addr} {c : Nat} {ps : List RH} (h : KRu w B a c ps) : RuE w a ps.length c ps := ⟨h.top.sl, fun p hp => (h.row p hp).1⟩
section
variable {w : World} {ops : Array Oper} {rest : List Oper} {o : Oper} {act : Act} {Q : Exit → Act → World → Prop}
theorem app_kr (hg : o.guard = none) (s x : Operand) (hop : o.op = Op.call { callee := Callee.builtin Builtin.append, args := #[s, x], argTypes := #[24, 24] })
  (B : Nat) (a : Option Addr) (c : Nat) (ps : List RH) (hs : act.eval s = .slice a ps.length c) (hown : KRu w B a c ps)
  (p : RH) (hp : Sl w 1 p.2.1 p.2.2.1 p.2.2.2 (p.1.cells.map B8)) (hk : Kind w p.2.1) (a2 : Option Addr) (c2 : Nat) (hx : act.eval x = .slice a2 1 c2) (hy : Sl w 3 a2 1 c2 (rc p))
  (hn : ps.length ≤ 1000000000) (hB : B ≤ w.heap.size)
  (hK : ∀ a' c' w', KRu w' B a' c' (ps ++ [p]) → Below B w w' → w.grownBy w' (a.map (·.block)) → wpList Tryd.prog ops Q rest (act.put o.dst (.slice a' (ps.length + 1) c')) w') :
  wpList Tryd.prog ops Q (o :: rest) act w := by
 refine append_own hg s x 24 hop 45 zeroRule 3 48 Tryd.underlying24 info_rule rfl w B a _ c _ hs hown.top a2 1 c2 (rc p) hx hy (rc_one p) (by omega) (by unfold maxLen; omega) hB (Below.refl _ _) ?_
 intro a' c' w' ho hgr hb
 exact hK a' c' w' (hown.push hp hk ho hgr) hb hgr
theorem app_kr1 (hg : o.guard = none) (s x : Operand) (hop : o.op = Op.call { callee := Callee.builtin Builtin.append, args := #[s, x], argTypes := #[24, 24] })
  (B : Nat) (a : Option Addr) (c : Nat) (ps : List RH) (hs : act.eval s = .slice a ps.length c) (hown : KRu w B a c ps)
  (p : RH) (hp : Sl w 1 p.2.1 p.2.2.1 p.2.2.2 (p.1.cells.map B8)) (hk : Kind w p.2.1) (hx : act.eval x = .slice (some ⟨w.heap.size, 0, none⟩) 1 1)
  (hn : ps.length ≤ 1000000000) (hB : B ≤ w.heap.size)
  (hK : ∀ a' c' w', KRu w' B a' c' (ps ++ [p]) → Below B w w' → w.grownBy w' (a.map (·.block)) → wpList Tryd.prog ops Q rest (act.put o.dst (.slice a' (ps.length + 1) c')) w') :
  wpList Tryd.prog ops Q (o :: rest) act (w.alloc (.cells (rc p).toArray 45)) := by
 refine append_lit hg s x 24 hop 45 zeroRule 3 48 Tryd.underlying24 info_rule rfl w B a _ c _ hs hown.top 1 (rc p) hx rfl (rc_one p) (by omega) (by unfold maxLen; omega) hB (Below.refl _ _) ?_
 intro a' c' w' ho hgr hb
 exact hK a' c' w' (hown.push hp hk ho hgr) hb hgr
end
theorem isAgg_rule : IsAgg Tryd.prog 45 := .inr ⟨_, Tryd.underlying45⟩
theorem size_rule3 (x y z : Value) : (Tryd.prog.info? 45).map (·.size) = some [x, y, z].length := by kernel_rfl
def GivesRu (r : Ru × Int × Int) (w : World) (e : Ending) (w' : World) : Prop :=
 ∃ h : Option Addr × Nat × Nat, e = .returned (.tuple #[.agg (rc (r.1, h)).toArray, .int .i64 r.2.1, .int .i64 r.2.2]) ∧ Sl w' 1 h.1 h.2.1 h.2.2 (r.1.cells.map B8) ∧ Kind w' h.1 ∧ Below w.heap.size w w'
set_option maxRecDepth 100000 in
set_option maxHeartbeats 1000000 in
theorem tab_rule (l : List UInt8) (a : Option Addr) (n c : Nat) (w : World) (hs : Sl w 1 a n c (l.map B8)) (hlen : l.length ≤ 1000000000) :
  Calls Tryd.prog 34 #[.slice a n c] w (GivesRu (decRu l) w) := by
 have hnl : l.length ≤ n := Nat.le_of_eq hs.n_eq.symm
 have hb0 := blo w (.cells #[.string ⟨#[]⟩, .int .i64 0, .slice none 0 0] 45)
 have x0 := Box.new w 45 #[.string ⟨#[]⟩, .int .i64 0, .slice none 0 0]
 have hs0 := hs.below hb0
 have hG1 := hide (wire_GetBytes l a n c (w.alloc (.cells #[.string ⟨#[]⟩, .int .i64 0, .slice none 0 0] 45)) hs0)
 obtain ⟨D, HD⟩ : ∃ D, Hid (D = decRu l) := ⟨_, rfl⟩
 rw [← HD.out]
 go_enter Tryd.func34, Tryd.ntmps34
 rcases decB_cases l with ⟨s, k1, e1, h1, he⟩ | ⟨s, n1, h1, hn1, hn2⟩
 ·have hD := HD.out.trans (decRu_e1 h1 he)
  have hne := neq_int he
  clear HD
  subst hD
  rw [h1] at hG1
  clear h1 hnl
  go_wp2_with (first
   | (go_at_call 54; refine hG1.out.mono ?_; rintro e w5 ⟨rfl, rfl⟩; refine hold ?_))
  refine hide ?_
  clear hG1
  generalize w.alloc (.cells #[.string ⟨#[]⟩, .int .i64 0, .slice none 0 0] 45) = w2 at *
  go_wp2_with (with_reducible refine store_all 45 _ _ 45 _ _ [.string ⟨#[]⟩, .int .i64 0, .slice none 0 0] _ (size_rule3 _ _ _) x0 rfl rfl rfl (Eq.refl 3) (by simp [Value.oneCell']) ?_; intro w7 hx7 hg7 hs7)
  refine bodyPost_ret (results_c3 rfl rfl rfl rfl isAgg_rule (size_rule3 _ _ _) hx7) rfl ⟨(none, 0, 0), rfl, Sl.empty _ _, Kind.none _, hb0.grown hg7 hb0.size (fun k hk => by cases hk; exact Nat.le_refl _)⟩
 ·rw [h1] at hG1
  have hn9 : n1 ≤ n := by omega
  have HC2 := hide (fun (a' : Option Addr) (w' : World) (h : Sl w' 1 a' (n - n1) (c - n1) ((l.drop n1).map B8)) => wire_GetInt _ a' _ _ w' h)
  go_wp2_with (first
   | (go_at_call 54; refine hG1.out.mono ?_; rintro e w5 ⟨rfl, rfl⟩; refine hold ?_))
  refine hide ?_
  clear hG1
  generalize w.alloc (.cells #[.string ⟨#[]⟩, .int .i64 0, .slice none 0 0] 45) = w2 at *
  rcases decI_cases (l.drop n1) with ⟨v, k2, e2, h2, he⟩ | ⟨v, n2, h2, hk1, hk2, hv1, hv2⟩
  ·have hD := HD.out.trans (decRu_e2 h1 h2 he)
   have hne := neq_int he
   clear HD
   subst hD
   rw [h2] at HC2
   clear h1 h2 hnl
   go_wp2_with (first
    | (with_reducible refine cutlo_b 25 _ _ _ _ _ l rfl hs0 _ _ n1 rfl rfl hn9 ?_; intro a3 hs3 hp3)
    | (go_at_call 33; refine (HC2.out _ _ hs3).mono ?_; rintro e w5 ⟨rfl, rfl⟩; refine hold ?_))
   refine hide ?_
   clear hs3 hp3
   go_wp2_with (with_reducible refine store_all 45 _ _ 45 _ _ [.string ⟨#[]⟩, .int .i64 0, .slice none 0 0] _ (size_rule3 _ _ _) x0 rfl rfl rfl (Eq.refl 3) (by simp [Value.oneCell']) ?_; intro w7 hx7 hg7 hs7)
   refine bodyPost_ret (results_c3 rfl rfl rfl rfl isAgg_rule (size_rule3 _ _ _) hx7) rfl ⟨(none, 0, 0), rfl, Sl.empty _ _, Kind.none _, hb0.grown hg7 hb0.size (fun k hk => by cases hk; exact Nat.le_refl _)⟩
  ·rw [h2] at HC2
   rw [List.length_drop] at hk2
   have hn10 : n1 + n2 ≤ n := by omega
   have HC3 := hide (fun (a' : Option Addr) (w' : World) (h : Sl w' 1 a' (n - (n1 + n2)) (c - (n1 + n2)) ((l.drop (n1 + n2)).map B8)) => wire_GetBytes _ a' _ _ w' h)
   go_wp2_with (first
    | (with_reducible refine cutlo_b 25 _ _ _ _ _ l rfl hs0 _ _ n1 rfl rfl hn9 ?_; intro a3 hs3 hp3)
    | (go_at_call 33; refine (HC2.out _ _ hs3).mono ?_; rintro e w5 ⟨rfl, rfl⟩; refine hold ?_))
   refine hide ?_
   clear hs3 hp3
   rcases decB_cases (l.drop (n1 + n2)) with ⟨s3, k3, e3, h3, he⟩ | ⟨s3, n3, h3, hj1, hj2⟩
   ·have hD := HD.out.trans (decRu_e3 h1 h2 h3 he)
    have hne := neq_int he
    clear HD
    subst hD
    rw [h3] at HC3
    clear h1 h2 h3 hnl
    go_wp2_with (first
     | (with_reducible refine cutlo_b 39 _ _ _ _ _ l rfl hs0 _ _ (n1 + n2) rfl (by go_num) hn10 ?_; intro a3 hs3 hp3)
     | (go_at_call 54; refine (HC3.out _ _ hs3).mono ?_; rintro e w5 ⟨rfl, rfl⟩; refine hold ?_))
    refine hide ?_
    clear hs3 hp3
    go_wp2_with (with_reducible refine store_all 45 _ _ 45 _ _ [.string ⟨#[]⟩, .int .i64 0, .slice none 0 0] _ (size_rule3 _ _ _) x0 rfl rfl rfl (Eq.refl 3) (by simp [Value.oneCell']) ?_; intro w7 hx7 hg7 hs7)
    refine bodyPost_ret (results_c3 rfl rfl rfl rfl isAgg_rule (size_rule3 _ _ _) hx7) rfl ⟨(none, 0, 0), rfl, Sl.empty _ _, Kind.none _, hb0.grown hg7 hb0.size (fun k hk => by cases hk; exact Nat.le_refl _)⟩
   ·have hD := HD.out.trans (decRu_ok h1 h2 h3)
    clear HD
    subst hD
    rw [h3] at HC3
    rw [List.length_drop] at hj2
    have hm3 : s3.size ≤ maxLen := by
     have := decBytes_short (l.drop (n1 + n2))
     rw [h3, List.length_drop] at this
     simp only at this
     unfold maxLen
     omega
    clear h1 h2 h3 hnl
    go_wp2_with (first
     | (with_reducible refine cutlo_b 39 _ _ _ _ _ l rfl hs0 _ _ (n1 + n2) rfl (by go_num) hn10 ?_; intro a3 hs3 hp3)
     | (go_at_call 54; refine (HC3.out _ _ hs3).mono ?_; rintro e w5 ⟨rfl, rfl⟩; refine hold ?_))
    refine hide ?_
    clear hs3 hp3
    go_wp2_with (with_reducible refine to_kind 51 _ s3 rfl hm3 ?_; intro a5 c5 w5 hs5 hk5 hb5; refine hold ?_)
    refine hide ?_
    have x5 := x0.under hb5
    have hb05 := hb0.trans (hb5.mono hb0.size)
    have hlt := x0.lt
    clear x0 hb5 hs0
    go_wp2_with (with_reducible refine store_all 45 _ _ 45 _ _ [.string s, .int .i64 v, .slice a5 s3.size c5] _ (size_rule3 _ _ _) x5 rfl rfl rfl (Eq.refl 3) (by simp [Value.oneCell']) ?_; intro w7 hx7 hg7 hs7)
    have hne7 : ∀ q, a5 = some q → some q.block ≠ some w.heap.size := fun q hq e => by
     obtain ⟨C, z, hc⟩ := hk5 q hq
     injection e with e
     rw [e] at hc
     unfold Box at x5
     rw [x5] at hc
     injection hc with hc
     injection hc with _ hc
     exact absurd hc (by decide)
    refine bodyPost_ret (results_c3 rfl rfl rfl rfl isAgg_rule (size_rule3 _ _ _) hx7) rfl ⟨(a5, s3.size, c5), ?_, ?_, hk5.grown hg7 hne7, hb05.grown hg7 hb05.size (fun k hk => by cases hk; exact Nat.le_refl _)⟩
    ·simp [rc, hdv]
    ·have e : s3.data.toList.length = s3.size := by simp
     exact hs5.grown hg7 hne7
end Go.Proofs.YtfagjaabladgpaaDoor
end

section
/- Chapter 06, plain: what decoding tables returns, step by step; what stands while tables are read. -/
namespace Go.Dx
open Go.RowKit
theorem manyD_e1 {b : List UInt8} {v j e : Int} (h : decInt b = (v, j, e)) (he : e ≠ 0) : manyD decRu b = ([], 0, e) := by
 unfold manyD; rw [if_pos (by rw [h]; exact he), h]
theorem manyD_e2 {b : List UInt8} {v j : Int} (h : decInt b = (v, j, 0)) (hv : v < 0) : manyD decRu b = ([], 0, 2) := by
 unfold manyD; rw [if_neg (by rw [h]; simp), if_pos (by rw [h]; exact hv)]
theorem manyD_e3 {b : List UInt8} {N j : Nat} {xs : List Ru} {B : Nat} {e : Int} (h : decInt b = ((N : Int), (j : Int), 0)) (hs : seqTo decRu b j N = (xs, B, e)) (he : e ≠ 0) : manyD decRu b = ([], 0, e) := by
 have e1 : (decInt b).2.1.toNat = j := by rw [h]; rfl
 have e2 : (decInt b).1.toNat = N := by rw [h]; rfl
 unfold manyD
 rw [e1, e2, hs, if_neg (by rw [h]; simp), if_neg (by rw [h]; simp), if_pos he]
theorem manyD_ok {b : List UInt8} {N j : Nat} {xs : List Ru} {B : Nat} (h : decInt b = ((N : Int), (j : Int), 0)) (hs : seqTo decRu b j N = (xs, B, 0)) : manyD decRu b = (xs, (B : Int), 0) := by
 have e1 : (decInt b).2.1.toNat = j := by rw [h]; rfl
 have e2 : (decInt b).1.toNat = N := by rw [h]; rfl
 unfold manyD
 rw [e1, e2, hs, if_neg (by rw [h]; simp), if_neg (by rw [h]; simp), if_neg (by simp)]
theorem seqTo_m {α : Type} {f : List UInt8 → α × Int × Int} {l : List UInt8} {A k : Nat} {xs : List α} {B : Nat} {x : α} {n : Nat} (h : seqTo f l A k = (xs, B, 0)) (he : f (l.drop B) = (x, (n : Int), 0)) :
  seqTo f l A (k + 1) = (xs ++ [x], B + n, 0) := by
 rw [seqTo_step h (by rw [he]), he]; rfl
theorem seqTo_m' {α : Type} {f : List UInt8 → α × Int × Int} {l : List UInt8} {A k : Nat} {xs : List α} {B : Nat} {x : α} {n e : Int} (h : seqTo f l A k = (xs, B, 0)) (he : f (l.drop B) = (x, n, e)) (h0 : e ≠ 0) {m : Nat} (hm : k < m) :
  seqTo f l A m = ([], 0, e) := by
 have h1 : seqTo f l A (k + 1) = ([], 0, e) := by rw [seqTo_stop h (by rw [he]; exact h0), he]
 obtain ⟨q, rfl⟩ : ∃ q, m = (k + 1) + q := ⟨m - (k + 1), by omega⟩
 rw [seqTo_err (by rw [h1]; exact h0), h1]
def RdK (l : List UInt8) (k : Nat) (X : List (List Ru)) (P : Nat) : Prop := seqTo (manyD decRu) l 0 k = (X, P, 0)
theorem RdK.zero (l : List UInt8) : RdK l 0 [] 0 := rfl
theorem RdK.len {l : List UInt8} {k : Nat} {X : List (List Ru)} {P : Nat} (h : RdK l k X P) : X.length = k := seqTo_len h
theorem decTa_E {l : List UInt8} {E : Int} (h : seqTo (manyD decRu) l 0 2 = ([], 0, E)) (hE : E ≠ 0) : decTa l = (ta0, 0, E) := by
 obtain ⟨r, hr⟩ : ∃ r, manyD decRu l = r := ⟨_, rfl⟩
 obtain ⟨x, n, e⟩ := r
 by_cases he : e = 0
 ·subst he
  have h1 : seqTo (manyD decRu) l 0 1 = ([] ++ [x], 0 + n.toNat, 0) := by
   have := seqTo_step (f := manyD decRu) (l := l) (A := 0) (k := 0) (xs := []) (B := 0) rfl (by rw [List.drop_zero, hr])
   rw [List.drop_zero, hr] at this
   exact this
  rw [Nat.zero_add] at h1
  have hd : l.drop (manyD decRu l).2.1.toNat = l.drop n.toNat := by rw [hr]
  have h3 : (manyD decRu (l.drop n.toNat)).2.2 = E := by
   by_cases h4 : (manyD decRu (l.drop n.toNat)).2.2 = 0
   ·have h5 := seqTo_step h1 h4
    rw [h5] at h
    injection h with _ h
    injection h with _ h
    exact absurd h.symm hE
   ·have h5 := seqTo_stop h1 h4
    rw [h5] at h
    injection h with _ h
    injection h with _ h
  have h4 : thenD (manyD decRu) decFive (fun y l => (y, l)) ([], []) (l.drop n.toNat) = (([], []), 0, E) := by rw [thenD_fst (by rw [h3]; exact hE), h3]
  unfold decTa; rw [thenD_snd (by rw [hr]) (by rw [hd, h4]; exact hE), hd, h4]
 ·have h1 : seqTo (manyD decRu) l 0 2 = ([], 0, e) := seqTo_m' (f := manyD decRu) (k := 0) (xs := []) (B := 0) rfl (by rw [List.drop_zero]; exact hr) he (by decide)
  rw [h1] at h
  injection h with _ h
  injection h with _ h
  subst h
  unfold decTa; rw [thenD_fst (by rw [hr]; exact he), hr]
theorem RdK.split {l : List UInt8} {X : List (List Ru)} {P : Nat} (h : RdK l 2 X P) : ∃ (x y : List Ru) (n m : Nat), X = [x, y] ∧ P = n + m ∧ manyD decRu l = (x, (n : Int), 0) ∧ manyD decRu (l.drop n) = (y, (m : Int), 0) := by
 unfold RdK at h
 have nn : ∀ b : List UInt8, 0 ≤ (manyD decRu b).2.1 := fun b => by
  unfold manyD
  split
  ·exact Int.le_refl _
  ·split
   ·exact Int.le_refl _
   ·split
    ·exact Int.le_refl _
    ·exact Int.natCast_nonneg _
 obtain ⟨r, hr⟩ : ∃ r, manyD decRu l = r := ⟨_, rfl⟩
 obtain ⟨x, n, e⟩ := r
 obtain ⟨N, rfl⟩ := Int.eq_ofNat_of_zero_le (a := n) (by have := nn l; rw [hr] at this; exact this)
 by_cases he : e = 0
 ·subst he
  have h1 : seqTo (manyD decRu) l 0 1 = ([] ++ [x], 0 + N, 0) := seqTo_m (f := manyD decRu) (k := 0) (xs := []) (B := 0) rfl (by rw [List.drop_zero]; exact hr)
  rw [Nat.zero_add] at h1
  obtain ⟨r2, hr2⟩ : ∃ r, manyD decRu (l.drop N) = r := ⟨_, rfl⟩
  obtain ⟨y, m, e2⟩ := r2
  obtain ⟨M, rfl⟩ := Int.eq_ofNat_of_zero_le (a := m) (by have := nn (l.drop N); rw [hr2] at this; exact this)
  by_cases he2 : e2 = 0
  ·subst he2
   have h2 := seqTo_m h1 hr2
   rw [h2] at h
   injection h with ha hb
   injection hb with hb _
   exact ⟨x, y, N, M, ha.symm, hb.symm, hr, hr2⟩
  ·have h2 := seqTo_m' h1 hr2 he2 (m := 2) (by decide)
   rw [h2] at h
   injection h with _ h
   injection h with _ h
   exact absurd h he2
 ·have h1 : seqTo (manyD decRu) l 0 2 = ([], 0, e) := seqTo_m' (f := manyD decRu) (k := 0) (xs := []) (B := 0) rfl (by rw [List.drop_zero]; exact hr) he (by decide)
  rw [h1] at h
  injection h with _ h
  injection h with _ h
  exact absurd h he
theorem dec_fail_int {l : List UInt8} {k : Nat} {X : List (List Ru)} {P : Nat} (hX : RdK l k X P) (hk : k < 2) {v j e : Int} (h : decInt (l.drop P) = (v, j, e)) (he : e ≠ 0) : decTa l = (ta0, 0, e) :=
 decTa_E (seqTo_m' hX (manyD_e1 h he) he hk) he
theorem dec_fail_neg {l : List UInt8} {k : Nat} {X : List (List Ru)} {P : Nat} (hX : RdK l k X P) (hk : k < 2) {v j : Int} (h : decInt (l.drop P) = (v, j, 0)) (hv : v < 0) : decTa l = (ta0, 0, 2) :=
 decTa_E (seqTo_m' hX (manyD_e2 h hv) (by decide) hk) (by decide)
def RdR (l : List UInt8) (P j i : Nat) (xs : List Ru) (B : Nat) : Prop := seqTo decRu (l.drop P) j i = (xs, B, 0)
theorem RdR.len {l : List UInt8} {P j i : Nat} {xs : List Ru} {B : Nat} (h : RdR l P j i xs B) : xs.length = i := seqTo_len h
theorem RdR.step {l : List UInt8} {P j i : Nat} {xs : List Ru} {B : Nat} (h : RdR l P j i xs B) {r : Ru} {n : Nat} (hr : decRu (l.drop (P + B)) = (r, (n : Int), 0)) : RdR l P j (i + 1) (xs ++ [r]) (B + n) :=
 seqTo_m h (by rw [List.drop_drop]; exact hr)
theorem dec_fail_rule {l : List UInt8} {k : Nat} {X : List (List Ru)} {P : Nat} (hX : RdK l k X P) (hk : k < 2) {N j i : Nat} (h : decInt (l.drop P) = ((N : Int), (j : Int), 0)) {xs : List Ru} {B : Nat} (hS : RdR l P j i xs B) (hi : i < N)
  {r : Ru} {z e : Int} (hr : decRu (l.drop (P + B)) = (r, z, e)) (he : e ≠ 0) : decTa l = (ta0, 0, e) :=
 decTa_E (seqTo_m' hX (manyD_e3 h (seqTo_m' hS (by rw [List.drop_drop]; exact hr) he hi) he) he hk) he
theorem RdK.step {l : List UInt8} {k : Nat} {X : List (List Ru)} {P : Nat} (hX : RdK l k X P) {N j : Nat} (h : decInt (l.drop P) = ((N : Int), (j : Int), 0)) {xs : List Ru} {B : Nat} (hS : RdR l P j N xs B) : RdK l (k + 1) (X ++ [xs]) (P + B) :=
 seqTo_m hX (manyD_ok h hS)
theorem dec_fail_five {l : List UInt8} {X : List (List Ru)} {P : Nat} (hX : RdK l 2 X P) {ss : List ByteArray} {j e : Int} (h : decSeq decBytes (l.drop P) = (ss, j, e)) (he : e ≠ 0) : decTa l = (ta0, 0, e) := by
 obtain ⟨x, y, n, m, rfl, rfl, h1, h2⟩ := hX.split
 rw [← List.drop_drop] at h
 have h5 : decFive ((l.drop n).drop m) = ([], 0, e) := by unfold decFive; rw [if_pos (by rw [h]; exact he), h]
 have hd : l.drop (manyD decRu l).2.1.toNat = l.drop n := by rw [h1]; rfl
 have hd2 : (l.drop n).drop (manyD decRu (l.drop n)).2.1.toNat = (l.drop n).drop m := by rw [h2]; rfl
 have h4 : thenD (manyD decRu) decFive (fun y l => (y, l)) ([], []) (l.drop n) = (([], []), 0, e) := by rw [thenD_snd (by rw [h2]) (by rw [hd2, h5]; exact he), hd2, h5]
 unfold decTa; rw [thenD_snd (by rw [h1]) (by rw [hd, h4]; exact he), hd, h4]
theorem dec_fail_len {l : List UInt8} {X : List (List Ru)} {P : Nat} (hX : RdK l 2 X P) {ss : List ByteArray} {j : Int} (h : decSeq decBytes (l.drop P) = (ss, j, 0)) (hl : ss.length ≠ 5) : decTa l = (ta0, 0, 2) := by
 obtain ⟨x, y, n, m, rfl, rfl, h1, h2⟩ := hX.split
 rw [← List.drop_drop] at h
 have h5 : decFive ((l.drop n).drop m) = ([], 0, 2) := by unfold decFive; rw [if_neg (by rw [h]; simp), if_pos (by rw [h]; exact hl)]
 have hd : l.drop (manyD decRu l).2.1.toNat = l.drop n := by rw [h1]; rfl
 have hd2 : (l.drop n).drop (manyD decRu (l.drop n)).2.1.toNat = (l.drop n).drop m := by rw [h2]; rfl
 have h4 : thenD (manyD decRu) decFive (fun y l => (y, l)) ([], []) (l.drop n) = (([], []), 0, 2) := by rw [thenD_snd (by rw [h2]) (by rw [hd2, h5]; decide), hd2, h5]
 unfold decTa; rw [thenD_snd (by rw [h1]) (by rw [hd, h4]; decide), hd, h4]
theorem dec_yes6 {l : List UInt8} {X : List (List Ru)} {P : Nat} (hX : RdK l 2 X P) {ss : List ByteArray} {j : Nat} (h : decSeq decBytes (l.drop P) = (ss, (j : Int), 0)) (hl : ss.length = 5) : decTa l = (five X ss, ((P + j : Nat) : Int), 0) := by
 obtain ⟨x, y, n, m, rfl, rfl, h1, h2⟩ := hX.split
 rw [← List.drop_drop] at h
 have h5 : decFive ((l.drop n).drop m) = (ss, (j : Int), 0) := by unfold decFive; rw [if_neg (by rw [h]; simp), if_neg (by rw [h]; simp [hl]), h]
 have hd : l.drop (manyD decRu l).2.1.toNat = l.drop n := by rw [h1]; rfl
 have hd2 : (l.drop n).drop (manyD decRu (l.drop n)).2.1.toNat = (l.drop n).drop m := by rw [h2]; rfl
 have h4 : thenD (manyD decRu) decFive (fun y l => (y, l)) ([], []) (l.drop n) = ((y, ss), ((m + j : Nat) : Int), 0) := by rw [thenD_ok (by rw [h2]) (by rw [hd2, h5]), hd2, h5, h2]; simp
 unfold decTa
 rw [thenD_ok (by rw [h1]) (by rw [hd, h4]), hd, h4, h1]
 simp only [Prod.mk.injEq, true_and, and_true]
 omega
theorem decS_cases (l : List UInt8) : (∃ (ss : List ByteArray) (n e : Int), decSeq decBytes l = (ss, n, e) ∧ e ≠ 0) ∨ ∃ (ss : List ByteArray) (n : Nat), decSeq decBytes l = (ss, (n : Int), 0) ∧ n ≤ l.length ∧ ss.length ≤ l.length ∧ ∀ s ∈ ss, s.size ≤ l.length := by
 obtain ⟨r, hr⟩ : ∃ r, decSeq decBytes l = r := ⟨_, rfl⟩
 obtain ⟨ss, n, e⟩ := r
 by_cases he : e = 0
 ·subst he
  have h2 := decStrs_short l
  rw [hr] at h2
  obtain ⟨h3, h4, _, h5⟩ := decSeq_canon canon_bytes (l := l) (by rw [hr])
  rw [hr] at h3 h4 h5
  obtain ⟨N, rfl⟩ := Int.eq_ofNat_of_zero_le (a := n) h3
  exact .inr ⟨ss, N, hr, by simp at h4; omega, h5, h2.2.2⟩
 ·exact .inl ⟨ss, n, e, hr, he⟩
end Go.Dx
end

section
/- Chapter 06: the reference's Decode. -/
namespace Go.Dx
open Go.RowKit
theorem grown_then {w0 w w' : World} {row : Option Nat} (h : w0.grownBy w row) (hb : Below w0.heap.size w w') : w0.grownBy w' row :=
 ⟨hb.os.trans h.os, hb.tape.trans h.tape, hb.output.trans h.output, Nat.le_trans h.size hb.size, fun k hk hr => (hb.block k hk).trans (h.block k hk hr)⟩
end Go.Dx
namespace Go.Proofs.YtfagjaabladgpaaDoor
open Go.RowKit Go.Dx
theorem size_alloc_2 (w : World) (o : Obj) : (w.alloc o).heap.size = w.heap.size + 1 := by simp
theorem size_tabs7 : (Tryd.prog.info? 29).map (·.size) = some 7 := by kernel_rfl
theorem size_T7 (a b c d e f g : Value) : (Tryd.prog.info? 29).map (·.size) = some [a, b, c, d, e, f, g].length := by kernel_rfl
theorem isAgg_T7 : IsAgg Tryd.prog 29 := .inr ⟨_, Tryd.underlying29⟩
theorem size_rules1 : (Tryd.prog.info? 24).map (·.size) = some 1 := by kernel_rfl
theorem size_bytes1 : (Tryd.prog.info? 23).map (·.size) = some 1 := by kernel_rfl
def GivesTa (r : Ta × Int × Int) (w : World) (e : Ending) (w' : World) : Prop :=
 ∃ H : TH, e = .returned (.tuple #[H.v, .int .i64 r.2.1, .int .i64 r.2.2]) ∧ TaE w' H r.1 ∧ Below w.heap.size w w'
def H0T : TH := ⟨(none, 0, 0), (none, 0, 0), [], [], (none, 0, 0), (none, 0, 0), (none, 0, 0), (none, 0, 0), (none, 0, 0)⟩
theorem RuE.zero (w : World) : RuE w none 0 0 [] := ⟨Sl.empty _ _, fun p hp => by cases hp⟩
theorem TaE.zero (w : World) : TaE w H0T ta0 := ⟨RuE.zero _, RuE.zero _, rfl, rfl, Sl.empty _ _, Sl.empty _ _, Sl.empty _ _, Sl.empty _ _, Sl.empty _ _⟩
def LgS (w : World) (k : Nat) (X : List (List Ru)) (v : Nat → Value) : Prop :=
 ∀ i, i < 2 → (i < k → ∃ (a : Option Addr) (c : Nat) (ps : List RH), v i = .slice a ps.length c ∧ KRu w 0 a c ps ∧ X[i]? = some (rus ps)) ∧ (k ≤ i → v i = .slice none 0 0)
theorem LgS.zero (w : World) : LgS w 0 [] (fun _ => .slice none 0 0) := fun i _ => ⟨fun h => absurd h (Nat.not_lt_zero _), fun _ => rfl⟩
theorem LgS.below {w w' : World} {k : Nat} {X : List (List Ru)} {v : Nat → Value} (h : LgS w k X v) (hb : Below w.heap.size w w') : LgS w' k X v := fun i hi =>
 ⟨fun hk => by obtain ⟨a, c, ps, h1, h2, h3⟩ := (h i hi).1 hk; exact ⟨a, c, ps, h1, h2.below hb, h3⟩, (h i hi).2⟩
theorem LgS.kept {w w' : World} {k g : Nat} {X : List (List Ru)} {v : Nat → Value} (h : LgS w k X v) (hg : w.grownBy w' (some g)) {cs : List Value} (hx : Box w g 29 cs) : LgS w' k X v := fun i hi =>
 ⟨fun hk => by obtain ⟨a, c, ps, h1, h2, h3⟩ := (h i hi).1 hk; exact ⟨a, c, ps, h1, h2.kept hg hx (by decide) (by decide), h3⟩, (h i hi).2⟩
theorem LgS.step {w : World} {k : Nat} {X : List (List Ru)} {v : Nat → Value} (h : LgS w k X v) (hX : X.length = k) {B : Nat} {a : Option Addr} {c : Nat} {ps : List RH} (hk : KRu w B a c ps) : LgS w (k + 1) (X ++ [rus ps]) (fun i => if i = k then .slice a ps.length c else v i) := fun i hi => by
 refine ⟨fun h1 => ?_, fun h1 => ?_⟩
 ·by_cases he : i = k
  ·subst he
   exact ⟨a, c, ps, by simp, ⟨hk.top.mono (Nat.zero_le _), hk.row⟩, by rw [List.getElem?_append_right (by omega), hX]; simp⟩
  ·obtain ⟨a', c', ps', h2, h3, h4⟩ := (h i hi).1 (by omega)
   exact ⟨a', c', ps', by simp only [if_neg he]; exact h2, h3, by rw [List.getElem?_append_left (by omega)]; exact h4⟩
 ·have hne : ¬ i = k := by omega
  show (if i = k then Value.slice a ps.length c else v i) = _
  rw [if_neg hne]
  exact (h i hi).2 (by omega)
theorem set_two {k : Nat} (hk : k < 2) (v : Nat → Value) (s : Value) : ([v 0, v 1, .slice none 0 0, .slice none 0 0, .slice none 0 0, .slice none 0 0, .slice none 0 0] : List Value).set k s = [if 0 = k then s else v 0, if 1 = k then s else v 1, .slice none 0 0, .slice none 0 0, .slice none 0 0, .slice none 0 0, .slice none 0 0] := by
 rcases k with _ | _ | k
 ·rfl
 ·rfl
 ·omega
theorem five_of {ss : List ByteArray} (h : ss.length = 5) : ∃ s0 s1 s2 s3 s4, ss = [s0, s1, s2, s3, s4] := by
 match ss, h with
 | [a, b, c, d, e], _ => exact ⟨a, b, c, d, e, rfl⟩
def SK (w : World) (h : Option Addr × Nat × Nat) (l : List UInt8) : Prop := Sl w 1 h.1 h.2.1 h.2.2 (l.map B8) ∧ Kind w h.1
theorem SK.kept {w w' : World} {g : Nat} {h : Option Addr × Nat × Nat} {l : List UInt8} (hs : SK w h l) (hg : w.grownBy w' (some g)) {cs : List Value} (hx : Box w g 29 cs) : SK w' h l := by
 have hne : ∀ q, h.1 = some q → some q.block ≠ some g := fun q hq e => by
  obtain ⟨C, z, hc⟩ := hs.2 q hq
  injection e with e
  rw [e] at hc
  unfold Box at hx
  rw [hx] at hc
  injection hc with hc
  injection hc with _ hc
  exact absurd hc (by decide)
 exact ⟨hs.1.grown hg hne, hs.2.grown hg hne⟩
theorem SK.below {w w' : World} {h : Option Addr × Nat × Nat} {l : List UInt8} (hs : SK w h l) (hb : Below w.heap.size w w') : SK w' h l := ⟨hs.1.below hb, hs.2.below hb⟩
theorem own_keptT {w w' : World} {B g : Nat} {e : TypeId} {sz : Nat} {a : Option Addr} {n c : Nat} {us cs : List Value} (h : Own w B e sz a n c us) (hg : w.grownBy w' (some g)) (hx : Box w g 29 cs) (he : e ≠ 29) : Own w' B e sz a n c us :=
 h.kept hg (fun p hp e1 => by
  rw [hp] at h
  injection e1 with e1
  exact kind_ne (C := cs.toArray) (z := (0, 0)) (e' := 29) (q := ⟨g, 0, none⟩) h hx he e1.symm)
set_option maxRecDepth 100000 in
set_option maxHeartbeats 2000000 in
theorem ref6_Decode (l : List UInt8) (a : Option Addr) (n c : Nat) (w : World) (hs : Sl w 1 a n c (l.map B8)) (hlen : l.length ≤ 100000000) :
  Calls Tryd.prog 15 #[.slice a n c] w (GivesTa (decTa l) w) := by
 have hnl : l.length ≤ n := Nat.le_of_eq hs.n_eq.symm
 have hnl2 : n ≤ l.length := Nat.le_of_eq hs.n_eq
 have HS := hide hs
 obtain ⟨D, HD⟩ : ∃ D, Hid (D = decTa l) := ⟨_, rfl⟩
 rw [← HD.out]
 have hb0 := (blo w (.cells #[.slice none 0 0, .slice none 0 0, .slice none 0 0, .slice none 0 0, .slice none 0 0, .slice none 0 0, .slice none 0 0] 29)).trans ((blo (w.alloc (.cells #[.slice none 0 0, .slice none 0 0, .slice none 0 0, .slice none 0 0, .slice none 0 0, .slice none 0 0, .slice none 0 0] 29)) (.cells #[.slice none 0 0, .slice none 0 0, .slice none 0 0, .slice none 0 0, .slice none 0 0, .slice none 0 0, .slice none 0 0] 29)).mono (blo w (.cells #[.slice none 0 0, .slice none 0 0, .slice none 0 0, .slice none 0 0, .slice none 0 0, .slice none 0 0, .slice none 0 0] 29)).size)
 have xR := (Box.new w 29 #[.slice none 0 0, .slice none 0 0, .slice none 0 0, .slice none 0 0, .slice none 0 0, .slice none 0 0, .slice none 0 0]).alloc (.cells #[.slice none 0 0, .slice none 0 0, .slice none 0 0, .slice none 0 0, .slice none 0 0, .slice none 0 0, .slice none 0 0] 29)
 have xT := Box.new (w.alloc (.cells #[.slice none 0 0, .slice none 0 0, .slice none 0 0, .slice none 0 0, .slice none 0 0, .slice none 0 0, .slice none 0 0] 29)) 29 #[.slice none 0 0, .slice none 0 0, .slice none 0 0, .slice none 0 0, .slice none 0 0, .slice none 0 0, .slice none 0 0]
 have ez : (w.alloc (.cells #[.slice none 0 0, .slice none 0 0, .slice none 0 0, .slice none 0 0, .slice none 0 0, .slice none 0 0, .slice none 0 0] 29)).heap.size = w.heap.size + 1 := size_alloc_2 _ _
 rw [ez] at xT
 clear ez hs
 go_enter Tryd.func15, Tryd.ntmps15
 go_upto_region 2 with fail
 generalize (w.alloc (.cells #[.slice none 0 0, .slice none 0 0, .slice none 0 0, .slice none 0 0, .slice none 0 0, .slice none 0 0, .slice none 0 0] 29)).alloc (.cells #[.slice none 0 0, .slice none 0 0, .slice none 0 0, .slice none 0 0, .slice none 0 0, .slice none 0 0, .slice none 0 0] 29) = w2 at *
 obtain ⟨gR, hgR⟩ : ∃ gR, Hid (w.heap.size = gR) := ⟨_, hide rfl⟩
 obtain ⟨gT, hgT⟩ : ∃ gT, Hid (gR + 1 = gT) := ⟨_, hide rfl⟩
 rw [hgR.out] at xR xT hb0 ⊢
 rw [hgT.out] at xT ⊢
 have hRT : gR ≠ gT := by have := hgT.out; omega
 have hRT1 : gR ≤ gT := by have := hgT.out; omega
 have HSR : Hid (∀ w', Below gR w w' → Sl w' 1 a n c (l.map B8)) := hide (fun w' h => HS.out.below (by rw [hgR.out]; exact h))
 have hLg := LgS.zero w2
 go_wp2_with fail
 go_loopg [6, 7] 2 (fun gh v6 v7 w' => ∃ (k P : Nat) (X : List (List Ru)) (v : Nat → Value), k ≤ 2 ∧ gh = 2 - k ∧ v6 = .int .i64 (P : Int) ∧ v7 = .int .i64 (k : Int) ∧ P ≤ l.length ∧ Hid (RdK l k X P) ∧ LgS w' k X v ∧ Box w' gT 29 [v 0, v 1, .slice none 0 0, .slice none 0 0, .slice none 0 0, .slice none 0 0, .slice none 0 0] ∧ Box w' gR 29 [.slice none 0 0, .slice none 0 0, .slice none 0 0, .slice none 0 0, .slice none 0 0, .slice none 0 0, .slice none 0 0] ∧ Below gR w w')
 case atStart => exact ⟨0, 0, [], fun _ => .slice none 0 0, Nat.zero_le _, rfl, rfl, rfl, Nat.zero_le _, hide (RdK.zero l), hLg, xT, xR, hb0⟩
 case round =>
  clear xT xR hb0 hLg
  obtain ⟨k, P, X, v, hk, rfl, rfl, rfl, hP, HX, hLg, xT, xR, hb⟩ := hrel
  obtain ⟨wo, rfl⟩ : ∃ wo : World, wo = wr := ⟨_, rfl⟩
  have hBw : gR ≤ wo.heap.size := Nat.le_of_lt xR.lt
  have hsl := HSR.out _ hb
  by_cases hk2 : k < 2
  ·have d0 : decide ((k : Int) < 2) = true := decide_eq_true (by omega)
   have d0n : decide (k < 2) = true := decide_eq_true hk2
   have hC := hide (fun (a' : Option Addr) (w' : World) (h : Sl w' 1 a' (n - P) (c - P) ((l.drop P).map B8)) => ref_GetInt (l.drop P) a' _ _ w' h)
   have hPn : P ≤ n := by omega
   rcases decI_cases (l.drop P) with ⟨z, j, E, hI, hE⟩ | ⟨z, j, hI, hj1, hj2, hz1, hz2⟩
   ·have hD := HD.out.trans (dec_fail_int HX.out hk2 hI hE)
    have hne := neq_int hE
    rw [hI] at hC
    have HD2 := hide hD
    clear hI hD HD
    go_wp2_with (first
     | (with_reducible refine cutlo_b 31 _ _ _ _ _ l rfl hsl _ _ P rfl rfl hPn ?_; intro a3 hs3 hp3)
     | (go_at_call 36; refine (hC.out _ _ hs3).mono ?_; rintro e w5 ⟨rfl, hb5⟩; refine hold ?_))
    refine hide ?_
    have xR5 := xR.under hb5
    have hb5w := hb.trans (hb5.mono hBw)
    have hBw5 : gR ≤ w5.heap.size := Nat.le_trans hBw hb5.size
    clear hs3 hp3 xR hb
    have hD := HD2.out
    clear HD2 hC hLg xT hsl
    subst hD
    go_wp2_with (with_reducible refine store_all 29 _ _ 29 _ _ [.slice none 0 0, .slice none 0 0, .slice none 0 0, .slice none 0 0, .slice none 0 0, .slice none 0 0, .slice none 0 0] _ (size_T7 _ _ _ _ _ _ _) xR5 rfl rfl rfl (Eq.refl 7) (by simp [Value.oneCell']) ?_; intro w7 hx7 hg7 hs7)
    refine bodyPost_ret (results_c3 rfl rfl rfl rfl isAgg_T7 (size_T7 _ _ _ _ _ _ _) hx7) rfl ⟨H0T, rfl, TaE.zero _, by rw [hgR.out]; exact hb5w.grown hg7 hBw5 (fun k hk => by cases hk; exact Nat.le_refl _)⟩
   ·rw [hI] at hC
    rw [List.length_drop] at hj2
    have HI := hide hI
    clear hI
    by_cases hz : z < 0
    ·have hD := HD.out.trans (dec_fail_neg HX.out hk2 HI.out hz)
     have hdz : decide (z < 0) = true := decide_eq_true hz
     have HD2 := hide hD
     clear hD HD
     go_wp2_with (first
      | (with_reducible refine cutlo_b 31 _ _ _ _ _ l rfl hsl _ _ P rfl rfl hPn ?_; intro a3 hs3 hp3)
      | (go_at_call 36; refine (hC.out _ _ hs3).mono ?_; rintro e w5 ⟨rfl, hb5⟩; refine hold ?_))
     refine hide ?_
     have xR5 := xR.under hb5
     have hb5w := hb.trans (hb5.mono hBw)
     have hBw5 : gR ≤ w5.heap.size := Nat.le_trans hBw hb5.size
     clear hs3 hp3 xR hb
     have hD := HD2.out
     clear HD2 hC hLg xT hsl
     subst hD
     go_wp2_with (with_reducible refine store_all 29 _ _ 29 _ _ [.slice none 0 0, .slice none 0 0, .slice none 0 0, .slice none 0 0, .slice none 0 0, .slice none 0 0, .slice none 0 0] _ (size_T7 _ _ _ _ _ _ _) xR5 rfl rfl rfl (Eq.refl 7) (by simp [Value.oneCell']) ?_; intro w7 hx7 hg7 hs7)
     refine bodyPost_ret (results_c3 rfl rfl rfl rfl isAgg_T7 (size_T7 _ _ _ _ _ _ _) hx7) rfl ⟨H0T, rfl, TaE.zero _, by rw [hgR.out]; exact hb5w.grown hg7 hBw5 (fun k hk => by cases hk; exact Nat.le_refl _)⟩
    ·have hdz : decide (z < 0) = false := decide_eq_false hz
     obtain ⟨N, rfl⟩ := Int.eq_ofNat_of_zero_le (a := z) (by omega)
     go_wp2_with (first
      | (with_reducible refine cutlo_b 31 _ _ _ _ _ l rfl hsl _ _ P rfl rfl hPn ?_; intro a3 hs3 hp3)
      | (go_at_call 36; refine (hC.out _ _ hs3).mono ?_; rintro e w5 ⟨rfl, hb5⟩; refine hold ?_))
     refine hide ?_
     have xR5 := xR.under hb5
     have hb5w := hb.trans (hb5.mono hBw)
     have hBw5 : gR ≤ w5.heap.size := Nat.le_trans hBw hb5.size
     clear hs3 hp3 xR hb
     have hLg5 := hLg.below hb5
     have xT5 := xT.under hb5
     clear hC hLg xT hsl
     have hR0 : RdR l P j 0 (rus []) j := rfl
     have HR0 := hide hR0
     have xT5' : Box w5 gT 29 (([v 0, v 1, .slice none 0 0, .slice none 0 0, .slice none 0 0, .slice none 0 0, .slice none 0 0] : List Value).set k (.slice none ([] : List RH).length 0)) := by
      rw [set_two hk2]
      have e := (hLg5 k hk2).2 (Nat.le_refl _)
      rcases k with _ | _ | k
      ·have e : v 0 = .slice none 0 0 := e
       rw [e] at xT5
       simpa using xT5
      ·have e : v 1 = .slice none 0 0 := e
       rw [e] at xT5
       simpa using xT5
      ·omega
     have hg5 := World.grownBy.refl w5 (some gT)
     have hkr := KRu.nil w5 w5.heap.size
     have hgT5 := xT5.lt
     clear hR0
     go_wp2_with fail
     go_loopg [6, 11] N (fun gh v6 v11 w' => ∃ (i B : Nat) (a' : Option Addr) (c' : Nat) (ps : List RH), i ≤ N ∧ gh = N - i ∧ v6 = .int .i64 ((P : Int) + (B : Int)) ∧ v11 = .int .i64 (i : Int) ∧ P + B ≤ l.length ∧ i ≤ B ∧ Hid (RdR l P j i (rus ps) B) ∧ KRu w' w5.heap.size a' c' ps ∧ Box w' gT 29 (([v 0, v 1, .slice none 0 0, .slice none 0 0, .slice none 0 0, .slice none 0 0, .slice none 0 0] : List Value).set k (.slice a' ps.length c')) ∧ w5.grownBy w' (some gT))
     case atStart => exact ⟨0, j, none, 0, [], Nat.zero_le _, rfl, rfl, rfl, by omega, Nat.zero_le _, HR0, hkr, xT5', hg5⟩
     case round =>
      clear hkr xT5' hg5 HR0
      obtain ⟨i, B, a', c', ps, hi, rfl, rfl, rfl, hPB, hiB, HR, hKr, xTr, hgr⟩ := hrel
      have hxRr := xR5.grown hgr (fun e => hRT (by injection e))
      have hbr : Below gR w wr := hb5w.grown hgr hBw5 (fun k hk => by cases hk; exact hRT1)
      have hslr := HSR.out _ hbr
      have hBr : gR ≤ wr.heap.size := Nat.le_of_lt hxRr.lt
      have hPBn : P + B ≤ n := by omega
      have hpl : ps.length = i := by have := HR.out.len; unfold rus at this; rw [List.length_map] at this; exact this
      have hpl9 : ps.length ≤ 100000000 := by omega
      have HPL := hide hpl
      clear hpl
      by_cases hiN : i < N
      ·have d1 : decide ((i : Int) < (N : Int)) = true := decide_eq_true (by omega)
       have d1n : decide (i < N) = true := decide_eq_true hiN
       have hC1 := hide (fun (a' : Option Addr) (w' : World) (h : Sl w' 1 a' (n - (P + B)) (c - (P + B)) ((l.drop (P + B)).map B8)) => ref_GetBytes (l.drop (P + B)) a' _ _ w' h (by rw [List.length_drop]; omega))
       rcases decB_cases (l.drop (P + B)) with ⟨s1, z1, e1, h1, he⟩ | ⟨s1, n1, h1, hn1, hn1'⟩
       ·rw [h1] at hC1
        have hD := HD.out.trans (dec_fail_rule HX.out hk2 HI.out HR.out hiN (decRu_e1 h1 he) he)
        have hne := neq_int he
        have HD2 := hide hD
        clear hD HD
        go_wp2_with (first
         | (with_reducible refine cutlo_b 54 _ _ _ _ _ l rfl hslr _ _ (P + B) rfl (by go_num) hPBn ?_; intro a3 hs3 hp3)
         | (go_at_call 37; refine (hC1.out _ _ hs3).mono ?_; rintro e w6 ⟨rfl, hc6⟩; refine hold ?_))
        refine hide ?_
        have xR6 := hxRr.under hc6
        have hb6 := hbr.trans (hc6.mono hBr)
        have hB6 : gR ≤ w6.heap.size := Nat.le_trans hBr hc6.size
        have kr6 := hKr.below hc6
        have xT6 := xTr.under hc6
        have gr6 := grown_then hgr (hc6.mono hgr.size)
        have hsl6 := HSR.out _ hb6
        clear hs3 hp3 hC1 hc6 hxRr hbr hBr hKr xTr hgr
        have hD := HD2.out
        clear HD2 kr6 xT6 gr6 hsl6
        subst hD
        go_wp2_with (with_reducible refine store_all 29 _ _ 29 _ _ [.slice none 0 0, .slice none 0 0, .slice none 0 0, .slice none 0 0, .slice none 0 0, .slice none 0 0, .slice none 0 0] _ (size_T7 _ _ _ _ _ _ _) xR6 rfl rfl rfl (Eq.refl 7) (by simp [Value.oneCell']) ?_; intro w7 hx7 hg7 hs7)
        refine bodyPost_ret (results_c3 rfl rfl rfl rfl isAgg_T7 (size_T7 _ _ _ _ _ _ _) hx7) rfl ⟨H0T, rfl, TaE.zero _, by rw [hgR.out]; exact hb6.grown hg7 hB6 (fun k hk => by cases hk; exact Nat.le_refl _)⟩
       ·rw [h1] at hC1
        rw [List.length_drop] at hn1'
        have H1 := hide h1
        clear h1
        go_wp2_with (first
         | (with_reducible refine cutlo_b 54 _ _ _ _ _ l rfl hslr _ _ (P + B) rfl (by go_num) hPBn ?_; intro a3 hs3 hp3)
         | (go_at_call 37; refine (hC1.out _ _ hs3).mono ?_; rintro e w6 ⟨rfl, hc6⟩; refine hold ?_))
        refine hide ?_
        have xR6 := hxRr.under hc6
        have hb6 := hbr.trans (hc6.mono hBr)
        have hB6 : gR ≤ w6.heap.size := Nat.le_trans hBr hc6.size
        have kr6 := hKr.below hc6
        have xT6 := xTr.under hc6
        have gr6 := grown_then hgr (hc6.mono hgr.size)
        have hsl6 := HSR.out _ hb6
        clear hs3 hp3 hC1 hc6 hxRr hbr hBr hKr xTr hgr
        have hn2n : P + B + n1 ≤ n := by omega
        have hC2 := hide (fun (a' : Option Addr) (w' : World) (h : Sl w' 1 a' (n - (P + B + n1)) (c - (P + B + n1)) ((l.drop (P + B + n1)).map B8)) => ref_GetInt (l.drop (P + B + n1)) a' _ _ w' h)
        rcases decI_cases (l.drop (P + B + n1)) with ⟨v2, z2, e2, h2, he⟩ | ⟨v2, n2, h2, hn2, hn2', hv1, hv2⟩
        ·rw [h2] at hC2
         have hD := HD.out.trans (dec_fail_rule HX.out hk2 HI.out HR.out hiN (decRu_e2 H1.out (by rw [List.drop_drop]; exact h2) he) he)
         have hne := neq_int he
         have HD2 := hide hD
         clear hD HD
         go_wp2_with (first
          | (with_reducible refine cutlo_b 68 _ _ _ _ _ l rfl hsl6 _ _ (P + B + n1) rfl (by go_num) hn2n ?_; intro a3 hs3 hp3)
          | (go_at_call 36; refine (hC2.out _ _ hs3).mono ?_; rintro e w7 ⟨rfl, hc7⟩; refine hold ?_))
         refine hide ?_
         have xR7 := xR6.under hc7
         have hb7 := hb6.trans (hc7.mono hB6)
         have hB7 : gR ≤ w7.heap.size := Nat.le_trans hB6 hc7.size
         have kr7 := kr6.below hc7
         have xT7 := xT6.under hc7
         have gr7 := grown_then gr6 (hc7.mono gr6.size)
         have hsl7 := HSR.out _ hb7
         clear hs3 hp3 hC2 hc7 xR6 hb6 hB6 kr6 xT6 gr6
         have hD := HD2.out
         clear HD2 kr7 xT7 gr7 hsl7
         subst hD
         go_wp2_with (with_reducible refine store_all 29 _ _ 29 _ _ [.slice none 0 0, .slice none 0 0, .slice none 0 0, .slice none 0 0, .slice none 0 0, .slice none 0 0, .slice none 0 0] _ (size_T7 _ _ _ _ _ _ _) xR7 rfl rfl rfl (Eq.refl 7) (by simp [Value.oneCell']) ?_; intro w7 hx7 hg7 hs7)
         refine bodyPost_ret (results_c3 rfl rfl rfl rfl isAgg_T7 (size_T7 _ _ _ _ _ _ _) hx7) rfl ⟨H0T, rfl, TaE.zero _, by rw [hgR.out]; exact hb7.grown hg7 hB7 (fun k hk => by cases hk; exact Nat.le_refl _)⟩
        ·rw [h2] at hC2
         rw [List.length_drop] at hn2'
         have H2 := hide h2
         clear h2
         go_wp2_with (first
          | (with_reducible refine cutlo_b 68 _ _ _ _ _ l rfl hsl6 _ _ (P + B + n1) rfl (by go_num) hn2n ?_; intro a3 hs3 hp3)
          | (go_at_call 36; refine (hC2.out _ _ hs3).mono ?_; rintro e w7 ⟨rfl, hc7⟩; refine hold ?_))
         refine hide ?_
         have xR7 := xR6.under hc7
         have hb7 := hb6.trans (hc7.mono hB6)
         have hB7 : gR ≤ w7.heap.size := Nat.le_trans hB6 hc7.size
         have kr7 := kr6.below hc7
         have xT7 := xT6.under hc7
         have gr7 := grown_then gr6 (hc7.mono gr6.size)
         have hsl7 := HSR.out _ hb7
         clear hs3 hp3 hC2 hc7 xR6 hb6 hB6 kr6 xT6 gr6
         have hn3n : P + B + n1 + n2 ≤ n := by omega
         have hC3 := hide (fun (a' : Option Addr) (w' : World) (h : Sl w' 1 a' (n - (P + B + n1 + n2)) (c - (P + B + n1 + n2)) ((l.drop (P + B + n1 + n2)).map B8)) => ref_GetBytes (l.drop (P + B + n1 + n2)) a' _ _ w' h (by rw [List.length_drop]; omega))
         rcases decB_cases (l.drop (P + B + n1 + n2)) with ⟨s3, z3, e3, h3, he⟩ | ⟨s3, n3, h3, hn3, hn3'⟩
         ·rw [h3] at hC3
          have hD := HD.out.trans (dec_fail_rule HX.out hk2 HI.out HR.out hiN (decRu_e3 H1.out (by rw [List.drop_drop]; exact H2.out) (by rw [List.drop_drop, ← Nat.add_assoc]; exact h3) he) he)
          have hne := neq_int he
          have HD2 := hide hD
          clear hD HD
          go_wp2_with (first
           | (with_reducible refine cutlo_b 84 _ _ _ _ _ l rfl hsl7 _ _ (P + B + n1 + n2) rfl (by go_num) hn3n ?_; intro a3 hs3 hp3)
           | (go_at_call 37; refine (hC3.out _ _ hs3).mono ?_; rintro e w8 ⟨rfl, hc8⟩; refine hold ?_))
          refine hide ?_
          have xR8 := xR7.under hc8
          have hb8 := hb7.trans (hc8.mono hB7)
          have hB8 : gR ≤ w8.heap.size := Nat.le_trans hB7 hc8.size
          have kr8 := kr7.below hc8
          have xT8 := xT7.under hc8
          have gr8 := grown_then gr7 (hc8.mono gr7.size)
          have hsl8 := HSR.out _ hb8
          clear hs3 hp3 hC3 hc8 xR7 hb7 hB7 kr7 xT7 gr7
          have hD := HD2.out
          clear HD2 kr8 xT8 gr8 hsl8
          subst hD
          go_wp2_with (with_reducible refine store_all 29 _ _ 29 _ _ [.slice none 0 0, .slice none 0 0, .slice none 0 0, .slice none 0 0, .slice none 0 0, .slice none 0 0, .slice none 0 0] _ (size_T7 _ _ _ _ _ _ _) xR8 rfl rfl rfl (Eq.refl 7) (by simp [Value.oneCell']) ?_; intro w7 hx7 hg7 hs7)
          refine bodyPost_ret (results_c3 rfl rfl rfl rfl isAgg_T7 (size_T7 _ _ _ _ _ _ _) hx7) rfl ⟨H0T, rfl, TaE.zero _, by rw [hgR.out]; exact hb8.grown hg7 hB8 (fun k hk => by cases hk; exact Nat.le_refl _)⟩
         ·rw [h3] at hC3
          rw [List.length_drop] at hn3'
          have hm3 : s3.size ≤ maxLen := by
           have := decBytes_short (l.drop (P + B + n1 + n2))
           rw [h3, List.length_drop] at this
           simp only at this
           unfold maxLen
           omega
          have H3 := hide h3
          clear h3
          go_wp2_with (first
           | (with_reducible refine cutlo_b 84 _ _ _ _ _ l rfl hsl7 _ _ (P + B + n1 + n2) rfl (by go_num) hn3n ?_; intro a3 hs3 hp3)
           | (go_at_call 37; refine (hC3.out _ _ hs3).mono ?_; rintro e w8 ⟨rfl, hc8⟩; refine hold ?_))
          refine hide ?_
          have xR8 := xR7.under hc8
          have hb8 := hb7.trans (hc8.mono hB7)
          have hB8 : gR ≤ w8.heap.size := Nat.le_trans hB7 hc8.size
          have kr8 := kr7.below hc8
          have xT8 := xT7.under hc8
          have gr8 := grown_then gr7 (hc8.mono gr7.size)
          have hsl8 := HSR.out _ hb8
          clear hs3 hp3 hC3 hc8 xR7 hb7 hB7 kr7 xT7 gr7
          have HNX := hide (HR.out.step (decRu_ok H1.out (by rw [List.drop_drop]; exact H2.out) (by rw [List.drop_drop, ← Nat.add_assoc]; exact H3.out)))
          have hin : ps.length ≤ 1000000000 := by omega
          clear H1 H2 H3 hsl8
          have hLgn : Hid (([v 0, v 1, .slice none 0 0, .slice none 0 0, .slice none 0 0, .slice none 0 0, .slice none 0 0] : List Value).length = 7) := hide rfl
          obtain ⟨L7, hL7⟩ : ∃ L7, Hid (([v 0, v 1, .slice none 0 0, .slice none 0 0, .slice none 0 0, .slice none 0 0, .slice none 0 0] : List Value).set k (.slice a' ps.length c') = L7) := ⟨_, hide rfl⟩
          have hgetL : L7[k]? = some (.slice a' ps.length c') := by rw [← hL7.out, List.getElem?_set_self (by rw [hLgn.out]; omega)]
          rw [hL7.out] at xT8
          have cK := xT8.at_ hgetL
          go_wp2_with (first
           | (with_reducible refine index_arrF 96 27 _ _ 26 2 Tryd.underlying27 size_tab6 gT 0 rfl _ _ k rfl rfl hk2 ?_; rw [Nat.zero_add])
           | (with_reducible refine to_kind 102 _ s3 rfl hm3 ?_; intro a5 c5 w9 hs9 hk9 hb9; refine hold ?_))
          refine hide ?_
          have xR9 := xR8.under hb9
          have hbw9 := hb8.trans (hb9.mono hB8)
          have hB9 : gR ≤ w9.heap.size := Nat.le_trans hB8 hb9.size
          have kr9 := kr8.below hb9
          have xT9 := xT8.under hb9
          have gr9 := grown_then gr8 (hb9.mono gr8.size)
          have hBS := gr9.size
          have hR5 : gR < w5.heap.size := by have := hgT5; omega
          clear xR8 hb8 hB8 kr8 xT8 gr8 hb9 cK
          go_wp2_with (at_builtin; refine app_kr1 rfl _ _ rfl w5.heap.size a' c' ps rfl kr9 (⟨s1, v2, s3.data.toList⟩, (a5, s3.size, c5)) hs9 hk9 rfl hin hBS ?_; intro a10 c10 w10 kr10 hb10 gr10; refine hold ?_)
          refine hide ?_
          have xR10 := xR9.below hb10 hR5
          have xT10 := xT9.below hb10 hgT5
          have hbw10 := hbw9.trans (hb10.mono (Nat.le_of_lt hR5))
          have hB10 : gR ≤ w10.heap.size := Nat.le_trans hB9 hb10.size
          have g10 := grown_then gr9 hb10
          have hkL : k < L7.length := by rw [← hL7.out, List.length_set, hLgn.out]; omega
          clear xR9 hbw9 hB9 kr9 xT9 gr9 hb10 gr10 hs9 hk9 hgetL
          go_wp2_with (first
           | (with_reducible refine index_arrF 107 27 _ _ 26 2 Tryd.underlying27 size_tab6 gT 0 rfl _ _ k rfl rfl hk2 ?_; rw [Nat.zero_add])
           | (with_reducible refine store_cell 24 _ _ 29 gT k L7 (.slice a10 (ps.length + 1) c10) size_rules1 xT10 rfl rfl rfl rfl hkL ?_; intro w11 xT11 hg11 hs11; refine hold ?_))
          refine hide ?_
          have kr11 := kr10.kept hg11 xT10 (by decide) (by decide)
          have g11 := grown_trans g10 hg11
          have xT12 : Box w11 gT 29 (([v 0, v 1, .slice none 0 0, .slice none 0 0, .slice none 0 0, .slice none 0 0, .slice none 0 0] : List Value).set k (.slice a10 (ps ++ [((⟨s1, v2, s3.data.toList⟩ : Ru), (a5, s3.size, c5))]).length c10)) := by
           rw [← hL7.out, List.set_set] at xT11
           rw [List.length_append]
           exact xT11
          have HNX2 : Hid (RdR l P j (i + 1) (rus (ps ++ [((⟨s1, v2, s3.data.toList⟩ : Ru), (a5, s3.size, c5))])) (B + (n1 + n2 + n3))) := by
           have h := HNX.out
           unfold rus at h ⊢
           rw [List.map_append]
           exact h
          clear xR10 xT10 hbw10 hB10 g10 hg11 xT11 kr10 hs11 HNX
          go_wp2_with fail
          go_roundg (N - (i + 1))
          case measure => omega
          case rel => exact ⟨i + 1, B + (n1 + n2 + n3), a10, c10, _, by omega, rfl, by go_num, by go_num, by omega, by omega, HNX2, kr11, xT12, g11⟩
      ·obtain rfl : i = N := by omega
       have d1 : decide ((i : Int) < (i : Int)) = false := by simp
       have HK2 := hide (HX.out.step HI.out HR.out)
       have hLgr := (hLg5.kept hgr xT5).step HX.out.len hKr
       rw [set_two hk2] at xTr
       clear hslr hKr HR
       go_wp2_with fail
       go_roundg (2 - (k + 1))
       case measure => omega
       case rel => exact ⟨k + 1, P + B, _, _, by omega, rfl, by go_num, by go_num, hPB, HK2, hLgr, xTr, hxRr, hbr⟩
  ·obtain rfl : k = 2 := by omega
   have d0 : decide (((2 : Nat) : Int) < 2) = false := by decide
   have hPn : P ≤ n := by omega
   have hC := hide (fun (a' : Option Addr) (w' : World) (h : Sl w' 1 a' (n - P) (c - P) ((l.drop P).map B8)) => ref_GetStrings (l.drop P) a' _ _ w' h (by rw [List.length_drop]; omega))
   rcases decS_cases (l.drop P) with ⟨ss, z, e1, h1, he⟩ | ⟨ss, j, h1, hj, hsl1, hsl2⟩
   ·have hD := HD.out.trans (dec_fail_five HX.out h1 he)
    have hne := neq_int he
    have HD2 := hide hD
    rw [h1] at hC
    clear hD HD h1
    go_wp2_with (first
     | (with_reducible refine cutlo_b 119 _ _ _ _ _ l rfl hsl _ _ P rfl rfl hPn ?_; intro a3 hs3 hp3)
     | (go_at_call 38; refine (hC.out _ _ hs3).mono ?_; rintro e w5 ⟨a5, c5, rfl, hO5, hb5⟩; refine hold ?_))
    refine hide ?_
    have xR5 := xR.under hb5
    have hb5w := hb.trans (hb5.mono hBw)
    have hBw5 : gR ≤ w5.heap.size := Nat.le_trans hBw hb5.size
    have hLg5 := hLg.below hb5
    have xT5 := xT.under hb5
    clear hs3 hp3 xR hb hC hLg xT hb5 hsl
    have hD := HD2.out
    clear HD2 hLg5 hO5 xT5
    subst hD
    go_wp2_with (with_reducible refine store_all 29 _ _ 29 _ _ [.slice none 0 0, .slice none 0 0, .slice none 0 0, .slice none 0 0, .slice none 0 0, .slice none 0 0, .slice none 0 0] _ (size_T7 _ _ _ _ _ _ _) xR5 rfl rfl rfl (Eq.refl 7) (by simp [Value.oneCell']) ?_; intro w7 hx7 hg7 hs7)
    refine bodyPost_ret (results_c3 rfl rfl rfl rfl isAgg_T7 (size_T7 _ _ _ _ _ _ _) hx7) rfl ⟨H0T, rfl, TaE.zero _, by rw [hgR.out]; exact hb5w.grown hg7 hBw5 (fun k hk => by cases hk; exact Nat.le_refl _)⟩
   ·rw [h1] at hC
    have H1 := hide h1
    clear h1
    have hS2 := hide hsl2
    rw [List.length_drop] at hj
    clear hsl2
    obtain ⟨ns, hns⟩ : ∃ ns, ss.length = ns := ⟨_, rfl⟩
    have HNS := hide hns
    rw [hns] at hC
    clear hns
    go_wp2_with (first
     | (with_reducible refine cutlo_b 119 _ _ _ _ _ l rfl hsl _ _ P rfl rfl hPn ?_; intro a3 hs3 hp3)
     | (go_at_call 38; refine (hC.out _ _ hs3).mono ?_; rintro e w5 ⟨a5, c5, rfl, hO5, hb5⟩; refine hold ?_))
    refine hide ?_
    have xR5 := xR.under hb5
    have hb5w := hb.trans (hb5.mono hBw)
    have hBw5 : gR ≤ w5.heap.size := Nat.le_trans hBw hb5.size
    have hLg5 := hLg.below hb5
    have xT5 := xT.under hb5
    clear hs3 hp3 xR hb hC hLg xT hb5 hsl
    by_cases h5 : ns = 5
    ·subst h5
     have hD := HD.out.trans (dec_yes6 HX.out H1.out HNS.out)
     have HD2 := hide hD
     clear hD HD
     obtain ⟨s0, s1, s2, s3, s4, hss⟩ := five_of HNS.out
     subst hss
     have hm0 : s0.size ≤ maxLen := Nat.le_trans (hS2.out s0 (by simp)) (by rw [List.length_drop]; unfold maxLen; omega)
     have hm1 : s1.size ≤ maxLen := Nat.le_trans (hS2.out s1 (by simp)) (by rw [List.length_drop]; unfold maxLen; omega)
     have hm2 : s2.size ≤ maxLen := Nat.le_trans (hS2.out s2 (by simp)) (by rw [List.length_drop]; unfold maxLen; omega)
     have hm3 : s3.size ≤ maxLen := Nat.le_trans (hS2.out s3 (by simp)) (by rw [List.length_drop]; unfold maxLen; omega)
     have hm4 : s4.size ≤ maxLen := Nat.le_trans (hS2.out s4 (by simp)) (by rw [List.length_drop]; unfold maxLen; omega)
     clear hS2 hsl1
     obtain ⟨ra0, rc0, ps0, e0, hk0, hX0⟩ := (hLg5 0 (by decide)).1 (by decide)
     obtain ⟨ra1, rc1, ps1, e1, hk1, hX1⟩ := (hLg5 1 (by decide)).1 (by decide)
     rw [e0, e1] at xT5
     have HX0 := hide hX0
     have HX1 := hide hX1
     clear e0 e1 hX0 hX1 hLg5
     have hS0 := hO5.sl
     go_wp2_with (first
      | (with_reducible refine idx_s 133 _ _ a5 5 c5 [s0, s1, s2, s3, s4] rfl hS0 _ _ 0 rfl rfl s0 rfl ?_; intro bi oi hci hli)
      | (with_reducible refine to_kind 135 _ s0 rfl hm0 ?_; intro a10 c10 wp0 hsp0 hkp0 hcp0; refine hold ?_))
     refine hide ?_
     have xRp0 := xR5.under hcp0
     have xTp0 := xT5.under hcp0
     have hbp0 := hb5w.trans (hcp0.mono hBw5)
     have hBp0 : gR ≤ wp0.heap.size := Nat.le_trans hBw5 hcp0.size
     have hOp0 := hO5.below hcp0
     have k0p0 := hk0.below hcp0
     have k1p0 := hk1.below hcp0
     have skp0_0 : SK wp0 (a10, s0.size, c10) s0.data.toList := ⟨hsp0, hkp0⟩
     clear hci hli xR5 xT5 hb5w hBw5 hO5 hk0 hk1 hS0 hcp0 hsp0 hkp0 
     have hl0 : 2 < ([.slice ra0 ps0.length rc0, .slice ra1 ps1.length rc1, .slice none 0 0, .slice none 0 0, .slice none 0 0, .slice none 0 0, .slice none 0 0] : List Value).length := by simp
     go_wp2_with (with_reducible refine store_cell 23 _ _ 29 gT 2 [.slice ra0 ps0.length rc0, .slice ra1 ps1.length rc1, .slice none 0 0, .slice none 0 0, .slice none 0 0, .slice none 0 0, .slice none 0 0] (.slice a10 s0.size c10) size_bytes1 xTp0 rfl rfl rfl rfl hl0 ?_; intro wq0 xTq0 hgq0 hzq0; refine hold ?_)
     refine hide ?_
     have xTq0 : Box wq0 gT 29 [.slice ra0 ps0.length rc0, .slice ra1 ps1.length rc1, .slice a10 s0.size c10, .slice none 0 0, .slice none 0 0, .slice none 0 0, .slice none 0 0] := xTq0
     have xRq0 := xRp0.grown hgq0 (fun e => hRT (by injection e))
     have hbq0 := hbp0.grown hgq0 hBp0 (fun k hk => by cases hk; exact hRT1)
     have hBq0 : gR ≤ wq0.heap.size := Nat.le_trans hBp0 hgq0.size
     have hOq0 := own_keptT hOp0 hgq0 xTp0 (by decide)
     have k0q0 := k0p0.kept hgq0 xTp0 (by decide) (by decide)
     have k1q0 := k1p0.kept hgq0 xTp0 (by decide) (by decide)
     have skq0_0 := skp0_0.kept hgq0 xTp0
     clear xTp0 xRp0 hbp0 hBp0 hOp0 k0p0 k1p0 hgq0 hzq0 hl0 skp0_0
     have hS1 := hOq0.sl
     go_wp2_with (first
      | (with_reducible refine idx_s 138 _ _ a5 5 c5 [s0, s1, s2, s3, s4] rfl hS1 _ _ 1 rfl rfl s1 rfl ?_; intro bi oi hci hli)
      | (with_reducible refine to_kind 140 _ s1 rfl hm1 ?_; intro a11 c11 wp1 hsp1 hkp1 hcp1; refine hold ?_))
     refine hide ?_
     have xRp1 := xRq0.under hcp1
     have xTp1 := xTq0.under hcp1
     have hbp1 := hbq0.trans (hcp1.mono hBq0)
     have hBp1 : gR ≤ wp1.heap.size := Nat.le_trans hBq0 hcp1.size
     have hOp1 := hOq0.below hcp1
     have k0p1 := k0q0.below hcp1
     have k1p1 := k1q0.below hcp1
     have skp1_1 : SK wp1 (a11, s1.size, c11) s1.data.toList := ⟨hsp1, hkp1⟩
     have skp1_0 := skq0_0.below hcp1
     clear hci hli xRq0 xTq0 hbq0 hBq0 hOq0 k0q0 k1q0 hS1 hcp1 hsp1 hkp1 skq0_0
     have hl1 : 3 < ([.slice ra0 ps0.length rc0, .slice ra1 ps1.length rc1, .slice a10 s0.size c10, .slice none 0 0, .slice none 0 0, .slice none 0 0, .slice none 0 0] : List Value).length := by simp
     go_wp2_with (with_reducible refine store_cell 23 _ _ 29 gT 3 [.slice ra0 ps0.length rc0, .slice ra1 ps1.length rc1, .slice a10 s0.size c10, .slice none 0 0, .slice none 0 0, .slice none 0 0, .slice none 0 0] (.slice a11 s1.size c11) size_bytes1 xTp1 rfl rfl rfl rfl hl1 ?_; intro wq1 xTq1 hgq1 hzq1; refine hold ?_)
     refine hide ?_
     have xTq1 : Box wq1 gT 29 [.slice ra0 ps0.length rc0, .slice ra1 ps1.length rc1, .slice a10 s0.size c10, .slice a11 s1.size c11, .slice none 0 0, .slice none 0 0, .slice none 0 0] := xTq1
     have xRq1 := xRp1.grown hgq1 (fun e => hRT (by injection e))
     have hbq1 := hbp1.grown hgq1 hBp1 (fun k hk => by cases hk; exact hRT1)
     have hBq1 : gR ≤ wq1.heap.size := Nat.le_trans hBp1 hgq1.size
     have hOq1 := own_keptT hOp1 hgq1 xTp1 (by decide)
     have k0q1 := k0p1.kept hgq1 xTp1 (by decide) (by decide)
     have k1q1 := k1p1.kept hgq1 xTp1 (by decide) (by decide)
     have skq1_0 := skp1_0.kept hgq1 xTp1
     have skq1_1 := skp1_1.kept hgq1 xTp1
     clear xTp1 xRp1 hbp1 hBp1 hOp1 k0p1 k1p1 hgq1 hzq1 hl1 skp1_0 skp1_1
     have hS2 := hOq1.sl
     go_wp2_with (first
      | (with_reducible refine idx_s 143 _ _ a5 5 c5 [s0, s1, s2, s3, s4] rfl hS2 _ _ 2 rfl rfl s2 rfl ?_; intro bi oi hci hli)
      | (with_reducible refine to_kind 145 _ s2 rfl hm2 ?_; intro a12 c12 wp2 hsp2 hkp2 hcp2; refine hold ?_))
     refine hide ?_
     have xRp2 := xRq1.under hcp2
     have xTp2 := xTq1.under hcp2
     have hbp2 := hbq1.trans (hcp2.mono hBq1)
     have hBp2 : gR ≤ wp2.heap.size := Nat.le_trans hBq1 hcp2.size
     have hOp2 := hOq1.below hcp2
     have k0p2 := k0q1.below hcp2
     have k1p2 := k1q1.below hcp2
     have skp2_2 : SK wp2 (a12, s2.size, c12) s2.data.toList := ⟨hsp2, hkp2⟩
     have skp2_0 := skq1_0.below hcp2
     have skp2_1 := skq1_1.below hcp2
     clear hci hli xRq1 xTq1 hbq1 hBq1 hOq1 k0q1 k1q1 hS2 hcp2 hsp2 hkp2 skq1_0 skq1_1
     have hl2 : 4 < ([.slice ra0 ps0.length rc0, .slice ra1 ps1.length rc1, .slice a10 s0.size c10, .slice a11 s1.size c11, .slice none 0 0, .slice none 0 0, .slice none 0 0] : List Value).length := by simp
     go_wp2_with (with_reducible refine store_cell 23 _ _ 29 gT 4 [.slice ra0 ps0.length rc0, .slice ra1 ps1.length rc1, .slice a10 s0.size c10, .slice a11 s1.size c11, .slice none 0 0, .slice none 0 0, .slice none 0 0] (.slice a12 s2.size c12) size_bytes1 xTp2 rfl rfl rfl rfl hl2 ?_; intro wq2 xTq2 hgq2 hzq2; refine hold ?_)
     refine hide ?_
     have xTq2 : Box wq2 gT 29 [.slice ra0 ps0.length rc0, .slice ra1 ps1.length rc1, .slice a10 s0.size c10, .slice a11 s1.size c11, .slice a12 s2.size c12, .slice none 0 0, .slice none 0 0] := xTq2
     have xRq2 := xRp2.grown hgq2 (fun e => hRT (by injection e))
     have hbq2 := hbp2.grown hgq2 hBp2 (fun k hk => by cases hk; exact hRT1)
     have hBq2 : gR ≤ wq2.heap.size := Nat.le_trans hBp2 hgq2.size
     have hOq2 := own_keptT hOp2 hgq2 xTp2 (by decide)
     have k0q2 := k0p2.kept hgq2 xTp2 (by decide) (by decide)
     have k1q2 := k1p2.kept hgq2 xTp2 (by decide) (by decide)
     have skq2_0 := skp2_0.kept hgq2 xTp2
     have skq2_1 := skp2_1.kept hgq2 xTp2
     have skq2_2 := skp2_2.kept hgq2 xTp2
     clear xTp2 xRp2 hbp2 hBp2 hOp2 k0p2 k1p2 hgq2 hzq2 hl2 skp2_0 skp2_1 skp2_2
     have hS3 := hOq2.sl
     go_wp2_with (first
      | (with_reducible refine idx_s 148 _ _ a5 5 c5 [s0, s1, s2, s3, s4] rfl hS3 _ _ 3 rfl rfl s3 rfl ?_; intro bi oi hci hli)
      | (with_reducible refine to_kind 150 _ s3 rfl hm3 ?_; intro a13 c13 wp3 hsp3 hkp3 hcp3; refine hold ?_))
     refine hide ?_
     have xRp3 := xRq2.under hcp3
     have xTp3 := xTq2.under hcp3
     have hbp3 := hbq2.trans (hcp3.mono hBq2)
     have hBp3 : gR ≤ wp3.heap.size := Nat.le_trans hBq2 hcp3.size
     have hOp3 := hOq2.below hcp3
     have k0p3 := k0q2.below hcp3
     have k1p3 := k1q2.below hcp3
     have skp3_3 : SK wp3 (a13, s3.size, c13) s3.data.toList := ⟨hsp3, hkp3⟩
     have skp3_0 := skq2_0.below hcp3
     have skp3_1 := skq2_1.below hcp3
     have skp3_2 := skq2_2.below hcp3
     clear hci hli xRq2 xTq2 hbq2 hBq2 hOq2 k0q2 k1q2 hS3 hcp3 hsp3 hkp3 skq2_0 skq2_1 skq2_2
     have hl3 : 5 < ([.slice ra0 ps0.length rc0, .slice ra1 ps1.length rc1, .slice a10 s0.size c10, .slice a11 s1.size c11, .slice a12 s2.size c12, .slice none 0 0, .slice none 0 0] : List Value).length := by simp
     go_wp2_with (with_reducible refine store_cell 23 _ _ 29 gT 5 [.slice ra0 ps0.length rc0, .slice ra1 ps1.length rc1, .slice a10 s0.size c10, .slice a11 s1.size c11, .slice a12 s2.size c12, .slice none 0 0, .slice none 0 0] (.slice a13 s3.size c13) size_bytes1 xTp3 rfl rfl rfl rfl hl3 ?_; intro wq3 xTq3 hgq3 hzq3; refine hold ?_)
     refine hide ?_
     have xTq3 : Box wq3 gT 29 [.slice ra0 ps0.length rc0, .slice ra1 ps1.length rc1, .slice a10 s0.size c10, .slice a11 s1.size c11, .slice a12 s2.size c12, .slice a13 s3.size c13, .slice none 0 0] := xTq3
     have xRq3 := xRp3.grown hgq3 (fun e => hRT (by injection e))
     have hbq3 := hbp3.grown hgq3 hBp3 (fun k hk => by cases hk; exact hRT1)
     have hBq3 : gR ≤ wq3.heap.size := Nat.le_trans hBp3 hgq3.size
     have hOq3 := own_keptT hOp3 hgq3 xTp3 (by decide)
     have k0q3 := k0p3.kept hgq3 xTp3 (by decide) (by decide)
     have k1q3 := k1p3.kept hgq3 xTp3 (by decide) (by decide)
     have skq3_0 := skp3_0.kept hgq3 xTp3
     have skq3_1 := skp3_1.kept hgq3 xTp3
     have skq3_2 := skp3_2.kept hgq3 xTp3
     have skq3_3 := skp3_3.kept hgq3 xTp3
     clear xTp3 xRp3 hbp3 hBp3 hOp3 k0p3 k1p3 hgq3 hzq3 hl3 skp3_0 skp3_1 skp3_2 skp3_3
     have hS4 := hOq3.sl
     go_wp2_with (first
      | (with_reducible refine idx_s 153 _ _ a5 5 c5 [s0, s1, s2, s3, s4] rfl hS4 _ _ 4 rfl rfl s4 rfl ?_; intro bi oi hci hli)
      | (with_reducible refine to_kind 155 _ s4 rfl hm4 ?_; intro a14 c14 wp4 hsp4 hkp4 hcp4; refine hold ?_))
     refine hide ?_
     have xRp4 := xRq3.under hcp4
     have xTp4 := xTq3.under hcp4
     have hbp4 := hbq3.trans (hcp4.mono hBq3)
     have hBp4 : gR ≤ wp4.heap.size := Nat.le_trans hBq3 hcp4.size
     have hOp4 := hOq3.below hcp4
     have k0p4 := k0q3.below hcp4
     have k1p4 := k1q3.below hcp4
     have skp4_4 : SK wp4 (a14, s4.size, c14) s4.data.toList := ⟨hsp4, hkp4⟩
     have skp4_0 := skq3_0.below hcp4
     have skp4_1 := skq3_1.below hcp4
     have skp4_2 := skq3_2.below hcp4
     have skp4_3 := skq3_3.below hcp4
     clear hci hli xRq3 xTq3 hbq3 hBq3 hOq3 k0q3 k1q3 hS4 hcp4 hsp4 hkp4 skq3_0 skq3_1 skq3_2 skq3_3
     have hl4 : 6 < ([.slice ra0 ps0.length rc0, .slice ra1 ps1.length rc1, .slice a10 s0.size c10, .slice a11 s1.size c11, .slice a12 s2.size c12, .slice a13 s3.size c13, .slice none 0 0] : List Value).length := by simp
     go_wp2_with (with_reducible refine store_cell 23 _ _ 29 gT 6 [.slice ra0 ps0.length rc0, .slice ra1 ps1.length rc1, .slice a10 s0.size c10, .slice a11 s1.size c11, .slice a12 s2.size c12, .slice a13 s3.size c13, .slice none 0 0] (.slice a14 s4.size c14) size_bytes1 xTp4 rfl rfl rfl rfl hl4 ?_; intro wq4 xTq4 hgq4 hzq4; refine hold ?_)
     refine hide ?_
     have xTq4 : Box wq4 gT 29 [.slice ra0 ps0.length rc0, .slice ra1 ps1.length rc1, .slice a10 s0.size c10, .slice a11 s1.size c11, .slice a12 s2.size c12, .slice a13 s3.size c13, .slice a14 s4.size c14] := xTq4
     have xRq4 := xRp4.grown hgq4 (fun e => hRT (by injection e))
     have hbq4 := hbp4.grown hgq4 hBp4 (fun k hk => by cases hk; exact hRT1)
     have hBq4 : gR ≤ wq4.heap.size := Nat.le_trans hBp4 hgq4.size
     have hOq4 := own_keptT hOp4 hgq4 xTp4 (by decide)
     have k0q4 := k0p4.kept hgq4 xTp4 (by decide) (by decide)
     have k1q4 := k1p4.kept hgq4 xTp4 (by decide) (by decide)
     have skq4_0 := skp4_0.kept hgq4 xTp4
     have skq4_1 := skp4_1.kept hgq4 xTp4
     have skq4_2 := skp4_2.kept hgq4 xTp4
     have skq4_3 := skp4_3.kept hgq4 xTp4
     have skq4_4 := skp4_4.kept hgq4 xTp4
     clear xTp4 xRp4 hbp4 hBp4 hOp4 k0p4 k1p4 hgq4 hzq4 hl4 skp4_0 skp4_1 skp4_2 skp4_3 skp4_4
     have hD := HD2.out
     clear HD2
     subst hD
     go_wp2_with (first
      | (with_reducible refine load_struct 157 29 _ 7 size_tabs7 _ Tryd.underlying29 ⟨gT, 0, none⟩ rfl [.slice ra0 ps0.length rc0, .slice ra1 ps1.length rc1, .slice a10 s0.size c10, .slice a11 s1.size c11, .slice a12 s2.size c12, .slice a13 s3.size c13, .slice a14 s4.size c14] rfl (fun j u hj => by rw [Addr.add_lit, Nat.zero_add]; exact xTq4.at_ hj) ?_)
      | (with_reducible refine store_all 29 _ _ 29 _ _ [.slice ra0 ps0.length rc0, .slice ra1 ps1.length rc1, .slice a10 s0.size c10, .slice a11 s1.size c11, .slice a12 s2.size c12, .slice a13 s3.size c13, .slice a14 s4.size c14] _ (size_T7 _ _ _ _ _ _ _) xRq4 rfl rfl rfl (Eq.refl 7) (by simp [Value.oneCell']) ?_; intro w7 hx7 hg7 hs7))
     have kk0 := k0q4.kept hg7 xRq4 (by decide) (by decide)
     have kk1 := k1q4.kept hg7 xRq4 (by decide) (by decide)
     refine bodyPost_ret (results_c3 rfl rfl rfl rfl isAgg_T7 (size_T7 _ _ _ _ _ _ _) hx7) rfl ⟨⟨(ra0, ps0.length, rc0), (ra1, ps1.length, rc1), ps0, ps1, (a10, s0.size, c10), (a11, s1.size, c11), (a12, s2.size, c12), (a13, s3.size, c13), (a14, s4.size, c14)⟩, ?_, ?_, by rw [hgR.out]; exact hbq4.grown hg7 hBq4 (fun k hk => by cases hk; exact Nat.le_refl _)⟩
     ·rw [show (((P + j : Nat)) : Int) = (P : Int) + (j : Int) from Int.natCast_add P j]
      rfl
     ·refine ⟨kk0.rue, kk1.rue, ?_, ?_, (skq4_0.kept hg7 xRq4).1, (skq4_1.kept hg7 xRq4).1, (skq4_2.kept hg7 xRq4).1, (skq4_3.kept hg7 xRq4).1, (skq4_4.kept hg7 xRq4).1⟩
      ·show rus ps0 = X.getD 0 []
       rw [List.getD_eq_getElem?_getD, HX0.out]; rfl
      ·show rus ps1 = X.getD 1 []
       rw [List.getD_eq_getElem?_getD, HX1.out]; rfl
    ·have hD := HD.out.trans (dec_fail_len HX.out H1.out (by rw [HNS.out]; exact h5))
     have hne5 : ((ns : Int) != 5) = true := by simp; omega
     have HD2 := hide hD
     clear hD HD
     have hD := HD2.out
     clear HD2 hLg5 hO5 xT5
     subst hD
     go_wp2_with (with_reducible refine store_all 29 _ _ 29 _ _ [.slice none 0 0, .slice none 0 0, .slice none 0 0, .slice none 0 0, .slice none 0 0, .slice none 0 0, .slice none 0 0] _ (size_T7 _ _ _ _ _ _ _) xR5 rfl rfl rfl (Eq.refl 7) (by simp [Value.oneCell']) ?_; intro w7 hx7 hg7 hs7)
     refine bodyPost_ret (results_c3 rfl rfl rfl rfl isAgg_T7 (size_T7 _ _ _ _ _ _ _) hx7) rfl ⟨H0T, rfl, TaE.zero _, by rw [hgR.out]; exact hb5w.grown hg7 hBw5 (fun k hk => by cases hk; exact Nat.le_refl _)⟩
end Go.Proofs.YtfagjaabladgpaaDoor
end

section
/- Chapter 06: table.Decode. -/
namespace Go.Dx
open Go.RowKit
set_option maxRecDepth 100000 in
theorem decInt_E {l : List UInt8} (h : (decInt l).2.2 ≠ 0) : decInt l = (0, 0, (decInt l).2.2) := by
 have key : ∀ (b : Bool) (k : Nat) (t : List UInt8), (decK b k t).2.2 ≠ 0 → decK b k t = (0, 0, (decK b k t).2.2) := fun b k t h => by
  by_cases h8 : 8 < k
  ·rw [decK_8 h8]
  by_cases hl : t.length < k
  ·rw [decK_more h8 hl]
  by_cases hz : 0 < k ∧ flp b (t.getD 0 0) = 0
  ·rw [decK_zero h8 hl hz.1 hz.2]
  by_cases hb : 9223372036854775808 ≤ val ((t.take k).map (flp b))
  ·rw [decK_form h8 hl hb]
  ·exfalso
   exact h (by unfold decK; rw [if_neg h8, if_neg hl, if_neg hz, if_neg hb])
 cases l with
 | nil => rfl
 | cons x t => exact key _ _ _ h
theorem own_someF {w : World} {B : Nat} {e : TypeId} {sz : Nat} {a : Option Addr} {n c : Nat} {cs : List Value} (h : Own w B e sz a n c cs) (h0 : 0 < cs.length) : ∃ g, a = some ⟨g, 0, none⟩ ∧ B ≤ g ∧ g < w.heap.size ∧ ∀ j u, cs[j]? = some u → w.cell? ⟨g, j, none⟩ = some u := by
 have hs := h.sl
 rcases h.2 with ⟨h1, h2⟩ | ⟨g, cap, cur, h1, hbg, hg, hr⟩
 ·have := h.1; rw [h2] at this; simp at this; rw [this] at h0; simp at h0
 ·injection h1 with h1 _ _
  subst h1
  refine ⟨g, rfl, hbg, (Array.getElem?_eq_some_iff.1 hg).1, fun j u hj => ?_⟩
  have := hs.cell _ rfl j u hj
  rwa [Addr.add_lit, Nat.zero_add] at this
end Go.Dx
namespace Go.Proofs.YtfagjaabladgpaaDoor
open Go.RowKit Go.Dx
def GD (w7 : World) (B5 gU n : Nat) (ps : List RH) (p : RH) : Nat → List Value → World → Prop
 | 0, _, w => Below w7.heap.size w7 w
 | _ + 1, vs, w => (∃ a' c', vs = [.slice a' n c'] ∧ KRu w B5 a' c' (ps ++ [p])) ∧ Below B5 w7 w ∧ w7.heap.size ≤ w.heap.size ∧ Box w gU 45 (rc p)
theorem GD.mono {w7 : World} {B5 gU n : Nat} {ps : List RH} {p : RH} (h5 : B5 ≤ w7.heap.size) : ∀ (j : Nat) (vs : List Value) (w w' : World), Below w.heap.size w w' → GD w7 B5 gU n ps p j vs w → GD w7 B5 gU n ps p j vs w'
 | 0, _, w, w', hb, h => Below.trans h (hb.mono (Below.size h))
 | _ + 1, vs, w, w', hb, ⟨⟨a', c', h1, h2⟩, h3, h4, h6⟩ => ⟨⟨a', c', h1, h2.below hb⟩, h3.trans (hb.mono (Nat.le_trans h5 h4)), Nat.le_trans h4 hb.size, h6.under hb⟩
theorem GD.size {w7 : World} {B5 gU n : Nat} {ps : List RH} {p : RH} {j : Nat} {vs : List Value} {w : World} (h : GD w7 B5 gU n ps p j vs w) : w7.heap.size ≤ w.heap.size := by
 cases j with
 | zero => exact Below.size h
 | succ j => exact h.2.2.1
theorem GD.boxU {w7 : World} {B5 gU n : Nat} {ps : List RH} {p : RH} {j : Nat} {vs : List Value} {w : World} (h : GD w7 B5 gU n ps p j vs w) (hx : Box w7 gU 45 (rc p)) : Box w gU 45 (rc p) := by
 cases j with
 | zero => exact hx.under h
 | succ j => exact h.2.2.2
theorem GD.boxT {w7 : World} {B5 gU n : Nat} {ps : List RH} {p : RH} {j : Nat} {vs : List Value} {w : World} (h : GD w7 B5 gU n ps p j vs w) {g : Nat} {T : TypeId} {cs : List Value} (hx : Box w7 g T cs) (hg : g < B5) : Box w g T cs := by
 cases j with
 | zero => exact hx.under h
 | succ j => exact hx.below h.2.1 hg
def SB (w : World) (B : Nat) (h : Option Addr × Nat × Nat) (l : List UInt8) : Prop := Sl w 1 h.1 h.2.1 h.2.2 (l.map B8) ∧ ∀ q, h.1 = some q → B ≤ q.block
theorem SB.grown {w w' : World} {B g : Nat} {h : Option Addr × Nat × Nat} {l : List UInt8} (hs : SB w B h l) (hg : w.grownBy w' (some g)) (hB : g < B) : SB w' B h l :=
 ⟨hs.1.grown hg (fun q hq e => by have := hs.2 q hq; injection e with e; omega), hs.2⟩
def G5 (w5 : World) (gT : Nat) (r0 r1 : Value) (s0 s1 s2 s3 : List UInt8) (m : Nat) (_ : List Value) (w : World) : Prop :=
 w5.grownBy w (some gT) ∧ ∃ h0 h1 h2 h3 h4 : Option Addr × Nat × Nat, Box w gT 29 [r0, r1, hdv h0, hdv h1, hdv h2, hdv h3, hdv h4] ∧ (1 ≤ m → SB w w5.heap.size h0 s0) ∧ (2 ≤ m → SB w w5.heap.size h1 s1) ∧ (3 ≤ m → SB w w5.heap.size h2 s2) ∧ (4 ≤ m → SB w w5.heap.size h3 s3)
theorem G5.mono {w5 : World} {gT : Nat} {r0 r1 : Value} {s0 s1 s2 s3 : List UInt8} (h5 : gT < w5.heap.size) : ∀ (j : Nat) (vs : List Value) (w w' : World), Below w.heap.size w w' → G5 w5 gT r0 r1 s0 s1 s2 s3 j vs w → G5 w5 gT r0 r1 s0 s1 s2 s3 j vs w' :=
 fun j vs w w' hb ⟨h1, a, b, c, d, e, hx, q0, q1, q2, q3⟩ =>
  have hg := grown_of_below hb (some gT)
  ⟨grown_then h1 (hb.mono h1.size), a, b, c, d, e, hx.under hb, fun h => (q0 h).grown hg h5, fun h => (q1 h).grown hg h5, fun h => (q2 h).grown hg h5, fun h => (q3 h).grown hg h5⟩
theorem hold_storeF {P : Program} {w : World} {ops : Array Oper} {rest : List Oper} {act : Act} {Q : Exit → Act → World → Prop} {dst : Option Tmp} {t ty : TypeId} {x y : Operand} {pos : String} {after : Array Edge} {g : Option (Nat × Bool)}
  (h : Hid (wpList P ops Q ({ dst := dst, op := .store t x y, type := ty, pos := pos, after := after, guard := g } :: rest) act w)) : wpList P ops Q ({ dst := dst, op := .store t x y, type := ty, pos := pos, after := after, guard := g } :: rest) act w := h
theorem kind_far {w : World} {g : Nat} {a : Option Addr} (h : Kind w a) {T : TypeId} {cs : List Value} (hx : Box w g T cs) (hT : 5 ≠ T) : ∀ q, a = some q → some q.block ≠ some g := fun q hq e => by
 obtain ⟨C, z, hc⟩ := h q hq
 injection e with e
 rw [e] at hc
 unfold Box at hx
 rw [hx] at hc
 injection hc with hc
 injection hc with _ hc
 exact hT hc.symm
theorem to_kb {w : World} {ops : Array Oper} {rest : List Oper} {act : Act} {Q : Exit → Act → World → Prop} {ty : TypeId} {pos : String} {after : Array Edge} (d : Nat) (x : Operand) (s : ByteArray) (B : Nat) (hB : B ≤ w.heap.size) (hx : act.eval x = .string s) (hm : s.size ≤ maxLen)
  (hK : ∀ h w', SB w' B h s.data.toList → Below w.heap.size w w' → wpList Tryd.prog ops Q rest (act.put (some d) (hdv h)) w') :
  wpList Tryd.prog ops Q ({ dst := some d, op := .convert 9 23 x, type := ty, pos := pos, after := after, guard := none } :: rest) act w :=
 to_bytes d x s hx hm (fun a c w' h1 h2 h3 => hK (a, s.size, c) w' ⟨h1, fun q hq => Nat.le_trans hB (h3 q hq)⟩ h2)
set_option maxRecDepth 100000 in
set_option maxHeartbeats 2000000 in
theorem tab_Decode (l : List UInt8) (a : Option Addr) (n c : Nat) (w : World) (hs : Sl w 1 a n c (l.map B8)) (hlen : l.length ≤ 100000000) :
  Calls Tryd.prog 14 #[.slice a n c] w (GivesTa (decTa l) w) := by
 have hnl : l.length ≤ n := Nat.le_of_eq hs.n_eq.symm
 have hnl2 : n ≤ l.length := Nat.le_of_eq hs.n_eq
 have HS := hide hs
 obtain ⟨D, HD⟩ : ∃ D, Hid (D = decTa l) := ⟨_, rfl⟩
 rw [← HD.out]
 have hb0 := (blo w (.cells #[.slice none 0 0, .slice none 0 0, .slice none 0 0, .slice none 0 0, .slice none 0 0, .slice none 0 0, .slice none 0 0] 29)).trans ((blo (w.alloc (.cells #[.slice none 0 0, .slice none 0 0, .slice none 0 0, .slice none 0 0, .slice none 0 0, .slice none 0 0, .slice none 0 0] 29)) (.cells #[.slice none 0 0, .slice none 0 0, .slice none 0 0, .slice none 0 0, .slice none 0 0, .slice none 0 0, .slice none 0 0] 29)).mono (blo w (.cells #[.slice none 0 0, .slice none 0 0, .slice none 0 0, .slice none 0 0, .slice none 0 0, .slice none 0 0, .slice none 0 0] 29)).size)
 have xR := (Box.new w 29 #[.slice none 0 0, .slice none 0 0, .slice none 0 0, .slice none 0 0, .slice none 0 0, .slice none 0 0, .slice none 0 0]).alloc (.cells #[.slice none 0 0, .slice none 0 0, .slice none 0 0, .slice none 0 0, .slice none 0 0, .slice none 0 0, .slice none 0 0] 29)
 have xT := Box.new (w.alloc (.cells #[.slice none 0 0, .slice none 0 0, .slice none 0 0, .slice none 0 0, .slice none 0 0, .slice none 0 0, .slice none 0 0] 29)) 29 #[.slice none 0 0, .slice none 0 0, .slice none 0 0, .slice none 0 0, .slice none 0 0, .slice none 0 0, .slice none 0 0]
 have ez : (w.alloc (.cells #[.slice none 0 0, .slice none 0 0, .slice none 0 0, .slice none 0 0, .slice none 0 0, .slice none 0 0, .slice none 0 0] 29)).heap.size = w.heap.size + 1 := size_alloc_2 _ _
 rw [ez] at xT
 clear ez hs
 go_enter Tryd.func14, Tryd.ntmps14
 go_upto_region 2 with fail
 generalize (w.alloc (.cells #[.slice none 0 0, .slice none 0 0, .slice none 0 0, .slice none 0 0, .slice none 0 0, .slice none 0 0, .slice none 0 0] 29)).alloc (.cells #[.slice none 0 0, .slice none 0 0, .slice none 0 0, .slice none 0 0, .slice none 0 0, .slice none 0 0, .slice none 0 0] 29) = w2 at *
 obtain ⟨gR, hgR⟩ : ∃ gR, Hid (w.heap.size = gR) := ⟨_, hide rfl⟩
 obtain ⟨gT, hgT⟩ : ∃ gT, Hid (gR + 1 = gT) := ⟨_, hide rfl⟩
 rw [hgR.out] at xR xT hb0 ⊢
 rw [hgT.out] at xT ⊢
 have hRT : gR ≠ gT := by have := hgT.out; omega
 have hRT1 : gR ≤ gT := by have := hgT.out; omega
 have HSR : Hid (∀ w', Below gR w w' → Sl w' 1 a n c (l.map B8)) := hide (fun w' h => HS.out.below (by rw [hgR.out]; exact h))
 have hLg := LgS.zero w2
 go_wp2_with fail
 go_loopg [6, 15] 2 (fun gh v6 v15 w' => ∃ (k P : Nat) (X : List (List Ru)) (v : Nat → Value), k ≤ 2 ∧ gh = 2 - k ∧ v6 = .int .i64 (P : Int) ∧ v15 = .int .i64 (k : Int) ∧ P ≤ l.length ∧ Hid (RdK l k X P) ∧ LgS w' k X v ∧ Box w' gT 29 [v 0, v 1, .slice none 0 0, .slice none 0 0, .slice none 0 0, .slice none 0 0, .slice none 0 0] ∧ Box w' gR 29 [.slice none 0 0, .slice none 0 0, .slice none 0 0, .slice none 0 0, .slice none 0 0, .slice none 0 0, .slice none 0 0] ∧ Below gR w w')
 case atStart => exact ⟨0, 0, [], fun _ => .slice none 0 0, Nat.zero_le _, rfl, rfl, rfl, Nat.zero_le _, hide (RdK.zero l), hLg, xT, xR, hb0⟩
 case round =>
  clear xT xR hb0 hLg
  obtain ⟨k, P, X, v, hk, rfl, rfl, rfl, hP, HX, hLg, xT, xR, hb⟩ := hrel
  obtain ⟨wo, rfl⟩ : ∃ wo : World, wo = wr := ⟨_, rfl⟩
  have hBw : gR ≤ wo.heap.size := Nat.le_of_lt xR.lt
  have hsl := HSR.out _ hb
  have hPn : P ≤ n := by omega
  by_cases hk2 : k < 2
  ·have d0 : decide ((k : Int) < 2) = true := decide_eq_true (by omega)
   have d0n : decide (k < 2) = true := decide_eq_true hk2
   have hC := hide (fun (a' : Option Addr) (w' : World) (h : Sl w' 1 a' (n - P) (c - P) ((l.drop P).map B8)) => wire_GetInt (l.drop P) a' _ _ w' h)
   obtain ⟨z, j, E, hI, hj2, hz1, hz2, hj0⟩ : ∃ (z : Int) (j : Nat) (E : Int), decInt (l.drop P) = (z, (j : Int), E) ∧ P + j ≤ l.length ∧ -9223372036854775808 ≤ z ∧ z ≤ 9223372036854775807 ∧ (E = 0 → 1 ≤ j) := by
    rcases decI_cases (l.drop P) with ⟨z, j, E, hI, hE⟩ | ⟨z, j, hI, hj1, hj2, hz1, hz2⟩
    ·have h := decInt_E (l := l.drop P) (by rw [hI]; exact hE)
     rw [hI] at h
     exact ⟨0, 0, E, by rw [hI, h]; rfl, by omega, by decide, by decide, fun h => absurd h hE⟩
    ·rw [List.length_drop] at hj2
     exact ⟨z, j, 0, hI, by omega, hz1, hz2, fun _ => hj1⟩
   obtain ⟨E2, hE2⟩ : ∃ E2 : Int, Hid (E2 = if E = 0 ∧ z < 0 then 2 else E) := ⟨_, hide rfl⟩
   have HF : Hid (E2 ≠ 0 → decTa l = (ta0, 0, E2)) := hide (fun h => by
    rw [hE2.out] at h ⊢
    by_cases h1 : E = 0 ∧ z < 0
    ·rw [if_pos h1]
     obtain ⟨rfl, hz⟩ := h1
     exact dec_fail_neg HX.out hk2 hI hz
    ·rw [if_neg h1] at h ⊢
     exact dec_fail_int HX.out hk2 hI h)
   have HI : Hid (E2 = 0 → decInt (l.drop P) = ((z.toNat : Int), (j : Int), 0)) := hide (fun h => by
    rw [hE2.out] at h
    by_cases h1 : E = 0 ∧ z < 0
    ·rw [if_pos h1] at h; cases h
    ·rw [if_neg h1] at h
     subst h
     rw [hI, Int.toNat_of_nonneg (by omega)])
   have HZ : Hid (E2 = 0 → z = (z.toNat : Int)) := hide (fun h => by
    rw [hE2.out] at h
    by_cases h1 : E = 0 ∧ z < 0
    ·rw [if_pos h1] at h; cases h
    ·rw [if_neg h1] at h
     rw [Int.toNat_of_nonneg (by omega)])
   rw [hI] at hC
   clear hI
   go_wp2_with (first
    | (with_reducible refine cutlo_b 21 _ _ _ _ _ l rfl hsl _ _ P rfl rfl hPn ?_; intro a3 hs3 hp3)
    | (go_at_call 33; refine (hC.out _ _ hs3).mono ?_; rintro e w5 ⟨rfl, rfl⟩; refine hold ?_))
   refine hide ?_
   clear hs3 hp3
   clear hC
   obtain ⟨T, hT⟩ : ∃ T : Bool, Hid (T = decide (E = 0 ∧ z < 0)) := ⟨_, hide rfl⟩
   go_upto_region 7 with fail
   go_cut [31] from 26 to 30 (fun v w' => wo = w' ∧ v = .bool T)
   case first =>
    by_cases hE : E = 0
    ·subst hE
     have e2 : T = decide (z < 0) := by rw [hT.out]; simp
     have e2 := hide e2
     clear hE2 HF HI HZ hj0 hT
     go_wp2_with fail
     go_meet
     exact ⟨rfl, by rw [e2.out]⟩
    ·have e0 : (E == 0) = false := by simp [hE]
     have e2 : T = false := by rw [hT.out]; simp [hE]
     have e2 := hide e2
     clear hE2 HF HI HZ hE hj0 hT
     go_wp2_with fail
     go_meet
     exact ⟨rfl, by rw [e2.out]⟩
   case rest =>
   obtain ⟨rfl, rfl⟩ := hcut
   go_upto_if 31 with fail
   go_cut [10] (fun v w' => wo = w' ∧ v = .int .i64 E2)
   case first =>
    have e2 : E2 = if T = true then 2 else E := by rw [hE2.out, hT.out]; by_cases h : E = 0 ∧ z < 0 <;> simp [h]
    clear hE2 HF HI HZ hj0 hT
    cases T
    ·have e2 := hide e2
     go_wp2_with fail
     go_meet
     exact ⟨rfl, by rw [e2.out]; rfl⟩
    ·have e2 := hide e2
     go_wp2_with fail
     go_meet
     exact ⟨rfl, by rw [e2.out]; rfl⟩
   case rest =>
    obtain ⟨rfl, rfl⟩ := hcut
    have hE2' := hT
    clear hE2' hT hE2
    have xT5' : Box wo gT 29 (([v 0, v 1, .slice none 0 0, .slice none 0 0, .slice none 0 0, .slice none 0 0, .slice none 0 0] : List Value).set k (.slice none ([] : List RH).length 0)) := by
     rw [set_two hk2]
     have e := (hLg k hk2).2 (Nat.le_refl _)
     rcases k with _ | _ | k
     ·have e : v 0 = .slice none 0 0 := e
      have x := xT
      rw [e] at x
      simpa using x
     ·have e : v 1 = .slice none 0 0 := e
      have x := xT
      rw [e] at x
      simpa using x
     ·omega
    have hg5 := World.grownBy.refl wo (some gT)
    have hkr := KRu.nil wo wo.heap.size
    have hgT5 := xT.lt
    have hgR5 := xR.lt
    have HK0 : Hid (E2 = 0 → z = (z.toNat : Int) - ((0 : Nat) : Int) ∧ 0 ≤ z.toNat ∧ 0 ≤ j ∧ RdR l P j 0 (rus []) j) := hide (fun h => ⟨by have := HZ.out h; omega, Nat.zero_le _, Nat.zero_le _, rfl⟩)
    have HK1 : Hid (E2 = 0 → E2 = 0) := hide id
    have HRN : Hid (∀ i : Nat, ([] : List RH).length = i → True) := hide (fun _ _ => trivial)
    clear HRN
    go_wp2_with fail
    go_loopg [6, 8, 9, 10] z.toNat (fun gh v6 v8 v9 v10 w' => ∃ (i B : Nat) (zz kk F : Int) (a1 : Option Addr) (c1 : Nat) (ps : List RH), gh = z.toNat - i ∧ v6 = .int .i64 ((P : Int) + (B : Int)) ∧ v8 = .int .i64 zz ∧ v9 = .int .i64 kk ∧ v10 = .int .i64 F ∧ P + B ≤ l.length ∧ Hid (F = 0 → E2 = 0) ∧ Hid (F = 0 → zz = (z.toNat : Int) - (i : Int) ∧ i ≤ z.toNat ∧ i ≤ B ∧ RdR l P j i (rus ps) B) ∧ Hid (F ≠ 0 → decTa l = (ta0, 0, F)) ∧ Hid (ps.length = i ∧ (F = 0 → i ≤ B)) ∧ KRu w' wo.heap.size a1 c1 ps ∧ Box w' gT 29 (([v 0, v 1, .slice none 0 0, .slice none 0 0, .slice none 0 0, .slice none 0 0, .slice none 0 0] : List Value).set k (.slice a1 ps.length c1)) ∧ wo.grownBy w' (some gT))
    case atStart => exact ⟨0, j, z, j, E2, none, 0, [], rfl, by go_num, rfl, rfl, rfl, hj2, HK1, HK0, HF, hide ⟨rfl, fun _ => Nat.zero_le _⟩, hkr, xT5', hg5⟩
    case round =>
     clear hkr xT5' hg5 HK0 HK1 HF hj0
     obtain ⟨i, B, zz, kk, F, a1, c1, ps, rfl, rfl, rfl, rfl, rfl, hPB, HE, HR, HF, HPL, hKr, xTr, hgr⟩ := hrel
     have xRr := xR.grown hgr (fun e => hRT (by injection e))
     have hbr : Below gR w wr := hb.grown hgr hBw (fun k hk => by cases hk; exact hRT1)
     have hslr := HSR.out _ hbr
     have hBr : gR ≤ wr.heap.size := Nat.le_of_lt xRr.lt
     have hPBn : P + B ≤ n := by omega
     have HPBl := hide hPB
     by_cases hF : F = 0
     ·subst hF
      obtain ⟨hzz, hiN, hiB, hRd⟩ := HR.out rfl
      have HRd := hide hRd
      clear HR HF hRd
      obtain ⟨M, hM⟩ : ∃ M : Nat, zz = (M : Int) := ⟨z.toNat - i, by omega⟩
      subst hM
      have hM1 : M + i ≤ z.toNat := by omega
      have hM2 : z.toNat ≤ M + i := by omega
      have hM3 : M ≤ 9223372036854775807 := by omega
      by_cases hM0 : 0 < M
      ·have dz : decide (0 < (M : Int)) = true := decide_eq_true (by omega)
       have dzn : decide (0 < M) = true := decide_eq_true hM0
       have hin : ps.length ≤ 1000000000 := by have := HPL.out.1; omega
       obtain ⟨ru, U, E', hr, hU, hU1⟩ : ∃ (ru : Ru) (U : Nat) (E' : Int), decRu (l.drop (P + B)) = (ru, (U : Int), E') ∧ P + (B + U) ≤ l.length ∧ (E' = 0 → 1 ≤ U) := by
        rcases decRu_cases (l.drop (P + B)) with ⟨e, h, he⟩ | ⟨r, m, h, h1, h2, _, _⟩
        ·exact ⟨_, 0, e, by rw [h]; rfl, by omega, fun h => absurd h he⟩
        ·rw [List.length_drop] at h2
         exact ⟨r, m, 0, h, by omega, fun _ => h1⟩
       have HST0 : Hid (E' = 0 → E2 = 0) := hide (fun _ => HE.out rfl)
       have HST1 : Hid (∀ hh, E' = 0 → ((M : Int) - 1) = (z.toNat : Int) - ((i + 1 : Nat) : Int) ∧ i + 1 ≤ z.toNat ∧ i + 1 ≤ B + U ∧ RdR l P j (i + 1) (rus (ps ++ [((ru, hh) : RH)])) (B + U)) := hide (fun hh h => by
        subst h
        have h2 := HRd.out.step hr
        have h3 := hU1 rfl
        refine ⟨by omega, by omega, by omega, ?_⟩
        unfold rus at h2 ⊢
        rw [List.map_append]
        exact h2)
       have HST2 : Hid (E' ≠ 0 → decTa l = (ta0, 0, E')) := hide (fun h => dec_fail_rule HX.out hk2 (HI.out (HE.out rfl)) HRd.out (by omega) hr h)
       have HST3 : Hid (∀ hh, (ps ++ [((ru, hh) : RH)]).length = i + 1 ∧ (E' = 0 → i + 1 ≤ B + U)) := hide (fun hh => ⟨by rw [List.length_append, HPL.out.1]; rfl, fun h => by have := hU1 h; omega⟩)
       have hCr := hide (fun (a' : Option Addr) (w' : World) (h : Sl w' 1 a' (n - (P + B)) (c - (P + B)) ((l.drop (P + B)).map B8)) => tab_rule (l.drop (P + B)) a' _ _ w' h (by rw [List.length_drop]; omega))
       rw [hr] at hCr
       clear hr hU1 HRd hzz
       have hbA := blo wr (.cells #[.string ⟨#[]⟩, .int .i64 0, .slice none 0 0] 45)
       have xUA : Box (wr.alloc (.cells #[.string ⟨#[]⟩, .int .i64 0, .slice none 0 0] 45)) wr.heap.size 45 [.string ⟨#[]⟩, .int .i64 0, .slice none 0 0] := Box.new wr 45 #[.string ⟨#[]⟩, .int .i64 0, .slice none 0 0]
       have HNE : Hid (∀ b, wr.heap.size ≤ b → some b ≠ a1.map (·.block)) := hide (fun b hb => own_map hKr.top hb)
       have hslA := hslr.below hbA
       go_upto_region 13 with fail
       generalize wr.alloc (.cells #[.string ⟨#[]⟩, .int .i64 0, .slice none 0 0] 45) = wA at *
       obtain ⟨gU, hgU⟩ : ∃ gU, Hid (wr.heap.size = gU) := ⟨_, hide rfl⟩
       have hgU1 : wr.heap.size ≤ gU := Nat.le_of_eq hgU.out
       rw [hgU.out] at xUA ⊢
       go_wp2_with (first
        | (with_reducible refine cutlo_b 46 _ _ _ _ _ l rfl hslA _ _ (P + B) rfl (by go_num) hPBn ?_; intro a3 hs3 hp3)
        | (go_at_call 34; refine (hCr.out _ _ hs3).mono ?_; rintro e w6 ⟨hh, rfl, hp6, hkd6, hb6⟩; refine hold ?_))
       refine hide ?_
       have xU6 := xUA.under hb6
       have hbA6 := hbA.trans (hb6.mono hbA.size)
       clear hs3 hp3 hCr xUA hb6 hslA hbA
       have hzr : (Tryd.prog.info? 45).map (·.size) = some (rc (ru, hh)).length := size_rule
       have hzl : (rc (ru, hh)).length = ([.string ⟨#[]⟩, .int .i64 0, .slice none 0 0] : List Value).length := rfl
       have hzc : (Value.agg (rc (ru, hh)).toArray).cells = (rc (ru, hh)).toArray := rfl
       go_wp2_with (with_reducible refine hold_storeF ?_)
       refine hide ?_
       refine store_all 45 _ _ 45 gU _ (rc (ru, hh)) (.agg (rc (ru, hh)).toArray) hzr xU6 (by rfl) (by rfl) hzc hzl (rc_one _) ?_
       intro w7 xU7 hg7 hs7
       clear hzr hzl hzc
       have hb7 : Below wr.heap.size wr w7 := hbA6.grown hg7 hbA6.size (fun k hk => by cases hk; exact hgU1)
       have hne7 := kind_far hkd6 xU6 (by decide)
       have hp7 := hp6.grown hg7 hne7
       have hkd7 := hkd6.grown hg7 hne7
       have kr7 := hKr.below hb7
       have xT7 := xTr.under hb7
       have xR7 := xRr.under hb7
       have hgr7 := grown_then hgr (hb7.mono hgr.size)
       have hbw7 := hbr.trans (hb7.mono hBr)
       have HB5 : Hid (wo.heap.size ≤ w7.heap.size) := hide hgr7.size
       have HGU : Hid (wr.heap.size ≤ w7.heap.size) := hide hb7.size
       have HGU2 : Hid (wr.heap.size = gU) := hgU
       obtain ⟨L7, hL7⟩ : ∃ L7, Hid (([v 0, v 1, .slice none 0 0, .slice none 0 0, .slice none 0 0, .slice none 0 0, .slice none 0 0] : List Value).set k (.slice a1 ps.length c1) = L7) := ⟨_, hide rfl⟩
       have hLgn : Hid (([v 0, v 1, .slice none 0 0, .slice none 0 0, .slice none 0 0, .slice none 0 0, .slice none 0 0] : List Value).length = 7) := hide rfl
       have HgetL : Hid (L7[k]? = some (.slice a1 ps.length c1)) := hide (by rw [← hL7.out, List.getElem?_set_self (by rw [hLgn.out]; omega)])
       have hkL : k < L7.length := by rw [← hL7.out, List.length_set, hLgn.out]; omega
       rw [hL7.out] at xT7
       have HST1 := hide (HST1.out hh)
       clear hKr xTr xRr hgr hbr hslr hp6 hkd6 xU6 hbA6 hg7 hs7 hb7 hne7 hbw7 hgU hgU1
       go_wp2_with fail
       refine wp_region_chain4 12 (fun w w' => w.grownBy w' (a1.map (·.block))) (GD w7 wo.heap.size gU (ps.length + 1) ps (ru, hh)) [⟨8, 59, [], fun _ _ => True⟩] [⟨0, 51, [51], fun vs _ => vs = [.int .i64 (k : Int)]⟩, ⟨1, 52, [52], fun vs _ => vs = [.int .i64 (k : Int)]⟩, ⟨2, 53, [53], fun vs _ => vs = [.pointer (some ⟨gT, 0, none⟩)]⟩, ⟨3, 54, [54], fun vs _ => vs = [.pointer (some ⟨gT, k, none⟩)]⟩, ⟨4, 55, [55], fun vs _ => vs = [.pointer (some ⟨gT, k, none⟩)]⟩, ⟨5, 56, [56], fun vs _ => vs = [.slice a1 ps.length c1]⟩, ⟨6, 57, [57], fun vs _ => vs = [.agg (rc (ru, hh)).toArray]⟩, ⟨7, 58, [58], fun vs w' => ∃ b, vs = [.slice (some ⟨b, 0, none⟩) 1 1] ∧ w7.heap.size ≤ b ∧ Sl w' 3 (some ⟨b, 0, none⟩) 1 1 (rc (ru, hh))⟩, ⟨9, 60, [60], fun vs _ => vs = [.pointer (some ⟨gT, 0, none⟩)]⟩, ⟨10, 61, [61], fun vs _ => vs = [.pointer (some ⟨gT, k, none⟩)]⟩, ⟨11, 62, [62], fun vs _ => vs = [.pointer (some ⟨gT, k, none⟩)]⟩] (by kernel_rfl) (by kernel_rfl) ?_ (fun _ _ h => grown_of_below h _) (GD.mono HB5.out) ?_ ?_ ?_ ?_
       ·exact (Still.below 1 : Below w7.heap.size w7 (w7.drewN 1))
       ·simp only [All]
        refine ⟨(fun _ _ _ _ h => h), (fun _ _ _ _ h => h), (fun _ _ _ _ h => h), (fun _ _ _ _ h => h), (fun _ _ _ _ h => h), (fun _ _ _ _ h => h), (fun _ _ _ _ h => h), (fun vs w1 w2 hr ⟨b, h1, h0, h2⟩ => ⟨b, h1, h0, h2.grown hr (fun q hq => by cases hq; exact HNE.out b (Nat.le_trans HGU.out h0))⟩), (fun _ _ _ _ h => h), (fun _ _ _ _ h => h), (fun _ _ _ _ h => h), trivial⟩
       ·intro m c hc o ho a w' hG hfr hdep
        rcases m with _ | m
        ·cases hc
         obtain rfl := oj ho
         have hb : Below w7.heap.size w7 w' := hG
         have g56 : a.tmps[56]?.getD undef = .slice a1 ps.length c1 := by simpa using hdep 5 _ rfl (by kernel_rfl)
         obtain ⟨b2, g58, hb2, hs2⟩ := hdep 7 _ rfl (by kernel_rfl)
         simp at g58
         clear hfr hdep hG
         have hkw := kr7.below hb
         have hpw := hp7.below hb
         have hkkw := hkd7.below hb
         have hBw2 : wo.heap.size ≤ w'.heap.size := Nat.le_trans HB5.out hb.size
         have hxU := xU7.under hb
         refine app_kr rfl _ _ rfl wo.heap.size a1 c1 ps (by show a.tmps.getD 56 undef = _; simpa using g56) hkw (ru, hh) hpw hkkw (some ⟨b2, 0, none⟩) 1 (by show a.tmps.getD 58 undef = _; simpa using g58) hs2 hin hBw2 ?_
         intro a9 c9 w9 kr9 hb9 hgr9
         have q1 := hxU.grown hgr9 (HNE.out gU (Nat.le_of_eq HGU2.out))
         have q2 := (hb.mono HB5.out).trans hb9
         have q3 := Nat.le_trans hb.size hgr9.size
         go_wp2
         exact ⟨rfl, _, rfl, hgr9, ⟨a9, c9, rfl, kr9⟩, q2, q3, q1⟩
        ·cases hc
       ·simp only [All]
        refine ⟨?_, ?_, ?_, ?_, ?_, ?_, ?_, ?_, ?_, ?_, ?_, trivial⟩
        ·intro o ho a' w' hfr hdep hst; obtain rfl := oj ho
         have g7 : a'.tmps[7]?.getD undef = .int .i64 (k : Int) := by simpa using hfr 7 (by kernel_rfl)
         clear ho hfr hdep hst; go_wp2_with fail; exact ⟨rfl, _, rfl, br, rfl⟩
        ·intro o ho a' w' hfr hdep hst; obtain rfl := oj ho
         have g7 : a'.tmps[7]?.getD undef = .int .i64 (k : Int) := by simpa using hfr 7 (by kernel_rfl)
         clear ho hfr hdep hst; go_wp2_with fail; exact ⟨rfl, _, rfl, br, rfl⟩
        ·intro o ho a' w' hfr hdep hst; obtain rfl := oj ho
         have g5 : a'.tmps[5]?.getD undef = .pointer (some ⟨gT, 0, none⟩) := by simpa using hfr 5 (by kernel_rfl)
         clear ho hfr hdep hst; go_wp2_with fail; exact ⟨rfl, _, rfl, br, rfl⟩
        ·intro o ho a' w' hfr hdep hst; obtain rfl := oj ho
         have g53 : a'.tmps[53]?.getD undef = .pointer (some ⟨gT, 0, none⟩) := by simpa using hdep 2 _ rfl (by kernel_rfl)
         have g52 : a'.tmps[52]?.getD undef = .int .i64 (k : Int) := by simpa using hdep 1 _ rfl (by kernel_rfl)
         clear ho hfr hdep hst; refine index_arrF 54 27 _ _ 26 2 Tryd.underlying27 size_tab6 gT 0 (by show a'.tmps.getD 53 undef = _; simpa using g53) _ _ k (by show a'.tmps.getD 52 undef = _; simpa using g52) rfl hk2 ?_
         rw [Nat.zero_add]
         go_wp2_with fail; exact ⟨rfl, _, rfl, br, rfl⟩
        ·intro o ho a' w' hfr hdep hst; obtain rfl := oj ho
         have g54 : a'.tmps[54]?.getD undef = .pointer (some ⟨gT, k, none⟩) := by simpa using hdep 3 _ rfl (by kernel_rfl)
         clear ho hfr hdep hst; go_wp2_with fail; exact ⟨rfl, _, rfl, br, rfl⟩
        ·intro o ho a' w' hfr hdep hst; obtain rfl := oj ho
         have g55 : a'.tmps[55]?.getD undef = .pointer (some ⟨gT, k, none⟩) := by simpa using hdep 4 _ rfl (by kernel_rfl)
         obtain ⟨j, _, _, hG⟩ := hst
         clear ho hfr hdep; have hcl := (hG.boxT xT7 hgT5).at_ HgetL.out
         clear hG
         go_wp2_with fail; exact ⟨rfl, _, rfl, br, rfl⟩
        ·intro o ho a' w' hfr hdep hst; obtain rfl := oj ho
         have g11 : a'.tmps[11]?.getD undef = .pointer (some ⟨gU, 0, none⟩) := by simpa using hfr 11 (by kernel_rfl)
         obtain ⟨j, _, _, hG⟩ := hst
         clear ho hfr hdep; have hxU := hG.boxU xU7
         clear hG
         refine load_struct 57 45 _ 3 size_rule _ Tryd.underlying45 ⟨gU, 0, none⟩ (by show a'.tmps.getD 11 undef = _; simpa using g11) (rc (ru, hh)) rfl (fun j u hj => by rw [Addr.add_lit, Nat.zero_add]; exact hxU.at_ hj) ?_
         go_wp2_with fail; exact ⟨rfl, _, rfl, br, rfl⟩
        ·intro o ho a' w' hfr hdep hst; obtain rfl := oj ho
         have g57 : a'.tmps[57]?.getD undef = .agg (rc (ru, hh)).toArray := by simpa using hdep 6 _ rfl (by kernel_rfl)
         obtain ⟨j, _, _, hG⟩ := hst
         clear ho hfr hdep; have hsz := hG.size
         clear hG
         unfold rc at g57
         go_wp2_with fail
         exact ⟨rfl, _, rfl, blo _ _, _, rfl, hsz, Sl.fresh _ _ 3 1 (rc (ru, hh)) rfl (by decide)⟩
        ·intro o ho a' w' hfr hdep hst; obtain rfl := oj ho
         have g5 : a'.tmps[5]?.getD undef = .pointer (some ⟨gT, 0, none⟩) := by simpa using hfr 5 (by kernel_rfl)
         clear ho hfr hdep hst; go_wp2_with fail; exact ⟨rfl, _, rfl, br, rfl⟩
        ·intro o ho a' w' hfr hdep hst; obtain rfl := oj ho
         have g60 : a'.tmps[60]?.getD undef = .pointer (some ⟨gT, 0, none⟩) := by simpa using hdep 8 _ rfl (by kernel_rfl)
         have g51 : a'.tmps[51]?.getD undef = .int .i64 (k : Int) := by simpa using hdep 0 _ rfl (by kernel_rfl)
         clear ho hfr hdep hst; refine index_arrF 61 27 _ _ 26 2 Tryd.underlying27 size_tab6 gT 0 (by show a'.tmps.getD 60 undef = _; simpa using g60) _ _ k (by show a'.tmps.getD 51 undef = _; simpa using g51) rfl hk2 ?_
         rw [Nat.zero_add]
         go_wp2_with fail; exact ⟨rfl, _, rfl, br, rfl⟩
        ·intro o ho a' w' hfr hdep hst; obtain rfl := oj ho
         have g61 : a'.tmps[61]?.getD undef = .pointer (some ⟨gT, k, none⟩) := by simpa using hdep 9 _ rfl (by kernel_rfl)
         clear ho hfr hdep hst; go_wp2_with fail; exact ⟨rfl, _, rfl, br, rfl⟩
       ·intro gg w9 hG hp
        have p62 : gg 62 = .pointer (some ⟨gT, k, none⟩) := by have h := hp 10 _ rfl; simpa using h
        obtain ⟨⟨a9, c9, p59, kr9⟩, hb9, hsz9, hxU9⟩ := hG
        have p59 : gg 59 = .slice a9 (ps.length + 1) c9 := by simpa using p59
        clear hp hxU9
        simp only [List.drop_succ_cons, List.drop_zero, List.map_cons, List.map_nil, List.cons_append, List.nil_append, putAll, Act.put, List.setIfInBounds_toArray, List.set_cons_succ, List.set_cons_zero, p59, p62]
        clear p59 p62
        have xT9 := xT7.below hb9 hgT5
        have xR9 := xR7.below hb9 hgR5
        have g79 := grown_then hgr7 hb9
        clear kr7 hp7 hkd7 xU7 xT7 xR7 hb9 hgr7
        go_wp2_with (with_reducible refine store_cell 24 _ _ 29 gT k L7 (.slice a9 (ps.length + 1) c9) size_rules1 xT9 rfl rfl rfl rfl hkL ?_; intro w11 xT11 hg11 hs11; refine hold ?_)
        refine hide ?_
        have kr11 := kr9.kept hg11 xT9 (by decide) (by decide)
        have g11 := grown_trans g79 hg11
        have xT12 : Box w11 gT 29 (([v 0, v 1, .slice none 0 0, .slice none 0 0, .slice none 0 0, .slice none 0 0, .slice none 0 0] : List Value).set k (.slice a9 (ps ++ [(ru, hh)]).length c9)) := by
         rw [← hL7.out, List.set_set] at xT11
         rw [List.length_append]
         exact xT11
        clear xT9 xR9 g79 hg11 xT11 kr9 hs11 hsz9
        go_wp2_with fail
        go_roundg (z.toNat - (i + 1))
        case measure => omega
        case rel => exact ⟨i + 1, B + U, _, _, _, a9, c9, _, rfl, by go_num, rfl, rfl, rfl, by omega, HST0, HST1, HST2, hide (HST3.out hh), kr11, xT12, g11⟩
      ·have hi0 : M = 0 := by omega
       subst hi0
       have hiN2 : i = z.toNat := by omega
       have hE20 := HE.out rfl
       have HK2 := hide (HX.out.step (HI.out hE20) (by have := HRd.out; rw [hiN2] at this; exact this))
       have hLgr := (hLg.kept hgr xT).step HX.out.len hKr
       rw [set_two hk2] at xTr
       have dz0 : decide ((0 : Int) < ((0 : Nat) : Int)) = false := by decide
       have hPB2 := HPBl.out
       clear hslr hKr hzz hiN2
       go_wp2_with fail
       go_roundg (2 - (k + 1))
       case measure => omega
       case rel => exact ⟨k + 1, P + B, _, _, by omega, rfl, by go_num, by go_num, hPB2, HK2, hLgr, xTr, xRr, hbr⟩
     ·have hD := HD.out.trans (HF.out hF)
      have hne := neq_int hF
      have hneq : (F == 0) = false := by simp [hF]
      have HD2 := hide hD
      clear hD HD HR HF HE hKr xTr hslr hF
      have hD := HD2.out
      clear HD2
      subst hD
      by_cases hzz : 0 < zz
      ·have dz : decide (0 < zz) = true := decide_eq_true hzz
       go_wp2_with (with_reducible refine store_all 29 _ _ 29 _ _ [.slice none 0 0, .slice none 0 0, .slice none 0 0, .slice none 0 0, .slice none 0 0, .slice none 0 0, .slice none 0 0] _ (size_T7 _ _ _ _ _ _ _) xRr rfl rfl rfl (Eq.refl 7) (by simp [Value.oneCell']) ?_; intro w7 hx7 hg7 hs7)
       refine bodyPost_ret (results_c3 rfl rfl rfl rfl isAgg_T7 (size_T7 _ _ _ _ _ _ _) hx7) rfl ⟨H0T, rfl, TaE.zero _, by rw [hgR.out]; exact hbr.grown hg7 hBr (fun k hk => by cases hk; exact Nat.le_refl _)⟩
      ·have dz : decide (0 < zz) = false := decide_eq_false hzz
       go_wp2_with (with_reducible refine store_all 29 _ _ 29 _ _ [.slice none 0 0, .slice none 0 0, .slice none 0 0, .slice none 0 0, .slice none 0 0, .slice none 0 0, .slice none 0 0] _ (size_T7 _ _ _ _ _ _ _) xRr rfl rfl rfl (Eq.refl 7) (by simp [Value.oneCell']) ?_; intro w7 hx7 hg7 hs7)
       refine bodyPost_ret (results_c3 rfl rfl rfl rfl isAgg_T7 (size_T7 _ _ _ _ _ _ _) hx7) rfl ⟨H0T, rfl, TaE.zero _, by rw [hgR.out]; exact hbr.grown hg7 hBr (fun k hk => by cases hk; exact Nat.le_refl _)⟩
  ·obtain rfl : k = 2 := by omega
   have d0 : decide (((2 : Nat) : Int) < 2) = false := by decide
   have hC := hide (fun (a' : Option Addr) (w' : World) (h : Sl w' 1 a' (n - P) (c - P) ((l.drop P).map B8)) => wire_GetStrings (l.drop P) a' _ _ w' h (by rw [List.length_drop]; omega))
   rcases decS_cases (l.drop P) with ⟨ss, z, e1, h1, he⟩ | ⟨ss, j, h1, hj, hsl1, hsl2⟩
   ·have hD := HD.out.trans (dec_fail_five HX.out h1 he)
    have hne := neq_int he
    have hneq : (e1 == 0) = false := by simp [he]
    have HD2 := hide hD
    rw [h1] at hC
    clear hD HD h1
    go_wp2_with (first
     | (with_reducible refine cutlo_b 74 _ _ _ _ _ l rfl hsl _ _ P rfl rfl hPn ?_; intro a3 hs3 hp3)
     | (go_at_call 35; refine (hC.out _ _ hs3).mono ?_; rintro e w5 ⟨a5, c5, rfl, hO5, hb5⟩; refine hold ?_))
    refine hide ?_
    have xR5 := xR.under hb5
    have hb5w := hb.trans (hb5.mono hBw)
    have hBw5 : gR ≤ w5.heap.size := Nat.le_trans hBw hb5.size
    have hLg5 := hLg.below hb5
    have xT5 := xT.under hb5
    clear hs3 hp3 xR hb hC hLg xT hb5 hsl
    have hD := HD2.out
    clear HD2 hLg5 hO5 xT5
    subst hD
    go_wp2_with (with_reducible refine store_all 29 _ _ 29 _ _ [.slice none 0 0, .slice none 0 0, .slice none 0 0, .slice none 0 0, .slice none 0 0, .slice none 0 0, .slice none 0 0] _ (size_T7 _ _ _ _ _ _ _) xR5 rfl rfl rfl (Eq.refl 7) (by simp [Value.oneCell']) ?_; intro w7 hx7 hg7 hs7)
    refine bodyPost_ret (results_c3 rfl rfl rfl rfl isAgg_T7 (size_T7 _ _ _ _ _ _ _) hx7) rfl ⟨H0T, rfl, TaE.zero _, by rw [hgR.out]; exact hb5w.grown hg7 hBw5 (fun k hk => by cases hk; exact Nat.le_refl _)⟩
   ·rw [h1] at hC
    have H1 := hide h1
    clear h1
    have hS2 := hide hsl2
    rw [List.length_drop] at hj
    clear hsl2
    obtain ⟨ns, hns⟩ : ∃ ns, ss.length = ns := ⟨_, rfl⟩
    have HNS := hide hns
    rw [hns] at hC
    clear hns
    have hgTo := xT.lt
    go_wp2_with (first
     | (with_reducible refine cutlo_b 74 _ _ _ _ _ l rfl hsl _ _ P rfl rfl hPn ?_; intro a3 hs3 hp3)
     | (go_at_call 35; refine (hC.out _ _ hs3).mono ?_; rintro e w5 ⟨a5, c5, rfl, hO5, hb5⟩; refine hold ?_))
    refine hide ?_
    have xR5 := xR.under hb5
    have hb5w := hb.trans (hb5.mono hBw)
    have hBw5 : gR ≤ w5.heap.size := Nat.le_trans hBw hb5.size
    have hLg5 := hLg.below hb5
    have xT5 := xT.under hb5
    clear hs3 hp3 xR hb hC hLg xT hb5 hsl
    by_cases h5 : ns = 5
    ·subst h5
     have hD := HD.out.trans (dec_yes6 HX.out H1.out HNS.out)
     have HD2 := hide hD
     clear hD HD
     obtain ⟨s0, s1, s2, s3, s4, hss⟩ := five_of HNS.out
     subst hss
     have hm0 : s0.size ≤ maxLen := Nat.le_trans (hS2.out s0 (by simp)) (by rw [List.length_drop]; unfold maxLen; omega)
     have hm1 : s1.size ≤ maxLen := Nat.le_trans (hS2.out s1 (by simp)) (by rw [List.length_drop]; unfold maxLen; omega)
     have hm2 : s2.size ≤ maxLen := Nat.le_trans (hS2.out s2 (by simp)) (by rw [List.length_drop]; unfold maxLen; omega)
     have hm3 : s3.size ≤ maxLen := Nat.le_trans (hS2.out s3 (by simp)) (by rw [List.length_drop]; unfold maxLen; omega)
     have hm4 : s4.size ≤ maxLen := Nat.le_trans (hS2.out s4 (by simp)) (by rw [List.length_drop]; unfold maxLen; omega)
     clear hS2 hsl1
     obtain ⟨ra0, rc0, ps0, e0, hk0, hX0⟩ := (hLg5 0 (by decide)).1 (by decide)
     obtain ⟨ra1, rc1, ps1, e1, hk1, hX1⟩ := (hLg5 1 (by decide)).1 (by decide)
     rw [e0, e1] at xT5
     have HX0 := hide hX0
     have HX1 := hide hX1
     clear e0 e1 hX0 hX1 hLg5
     obtain ⟨bS, rfl, hbS, hbS2, hcS⟩ := own_someF hO5 (by simp)
     have hST : bS ≠ gT := by omega
     have hgT5 := xT5.lt
     clear hO5 hbS hbS2
     go_wp2_with fail
     refine wp_region_chain4 29 (fun w w' => w.grownBy w' (some gT)) (G5 w5 gT (.slice ra0 ps0.length rc0) (.slice ra1 ps1.length rc1) s0.data.toList s1.data.toList s2.data.toList s3.data.toList) [⟨21, 1000, [0], fun _ _ => True⟩, ⟨23, 1001, [0], fun _ _ => True⟩, ⟨25, 1002, [0], fun _ _ => True⟩, ⟨27, 1003, [0], fun _ _ => True⟩] [⟨0, 90, [90], fun vs _ => vs = [.slice (some ⟨bS, 0, none⟩) 5 c5]⟩, ⟨1, 91, [91], fun vs _ => vs = [.pointer (some ⟨bS, 0, none⟩)]⟩, ⟨2, 92, [92], fun vs _ => vs = [.string s0]⟩, ⟨3, 93, [93], fun vs w' => ∃ h : Option Addr × Nat × Nat, vs = [hdv h] ∧ SB w' w5.heap.size h s0.data.toList⟩, ⟨4, 94, [94], fun vs _ => vs = [.slice (some ⟨bS, 0, none⟩) 5 c5]⟩, ⟨5, 95, [95], fun vs _ => vs = [.pointer (some ⟨bS, 1, none⟩)]⟩, ⟨6, 96, [96], fun vs _ => vs = [.string s1]⟩, ⟨7, 97, [97], fun vs w' => ∃ h : Option Addr × Nat × Nat, vs = [hdv h] ∧ SB w' w5.heap.size h s1.data.toList⟩, ⟨8, 98, [98], fun vs _ => vs = [.slice (some ⟨bS, 0, none⟩) 5 c5]⟩, ⟨9, 99, [99], fun vs _ => vs = [.pointer (some ⟨bS, 2, none⟩)]⟩, ⟨10, 100, [100], fun vs _ => vs = [.string s2]⟩, ⟨11, 101, [101], fun vs w' => ∃ h : Option Addr × Nat × Nat, vs = [hdv h] ∧ SB w' w5.heap.size h s2.data.toList⟩, ⟨12, 102, [102], fun vs _ => vs = [.slice (some ⟨bS, 0, none⟩) 5 c5]⟩, ⟨13, 103, [103], fun vs _ => vs = [.pointer (some ⟨bS, 3, none⟩)]⟩, ⟨14, 104, [104], fun vs _ => vs = [.string s3]⟩, ⟨15, 105, [105], fun vs w' => ∃ h : Option Addr × Nat × Nat, vs = [hdv h] ∧ SB w' w5.heap.size h s3.data.toList⟩, ⟨16, 106, [106], fun vs _ => vs = [.slice (some ⟨bS, 0, none⟩) 5 c5]⟩, ⟨17, 107, [107], fun vs _ => vs = [.pointer (some ⟨bS, 4, none⟩)]⟩, ⟨18, 108, [108], fun vs _ => vs = [.string s4]⟩, ⟨19, 109, [109], fun vs w' => ∃ h : Option Addr × Nat × Nat, vs = [hdv h] ∧ SB w' w5.heap.size h s4.data.toList⟩, ⟨20, 110, [110], fun vs _ => vs = [.pointer (some ⟨gT, 2, none⟩)]⟩, ⟨22, 111, [111], fun vs _ => vs = [.pointer (some ⟨gT, 3, none⟩)]⟩, ⟨24, 112, [112], fun vs _ => vs = [.pointer (some ⟨gT, 4, none⟩)]⟩, ⟨26, 113, [113], fun vs _ => vs = [.pointer (some ⟨gT, 5, none⟩)]⟩, ⟨28, 114, [114], fun vs _ => vs = [.pointer (some ⟨gT, 6, none⟩)]⟩] (by kernel_rfl) (by kernel_rfl) ?_ (fun _ _ h => grown_of_below h _) (G5.mono hgT5) ?_ ?_ ?_ ?_
     ·exact ⟨grown_of_below (Still.below 1 : Below w5.heap.size w5 (w5.drewN 1)) _, (none, 0, 0), (none, 0, 0), (none, 0, 0), (none, 0, 0), (none, 0, 0), xT5.drewN 1, fun h => absurd h (by decide), fun h => absurd h (by decide), fun h => absurd h (by decide), fun h => absurd h (by decide)⟩
     ·simp only [All]
      refine ⟨(fun _ _ _ _ h => h), (fun _ _ _ _ h => h), (fun _ _ _ _ h => h), (fun vs w1 w2 hr ⟨h, h1, h2⟩ => ⟨h, h1, h2.grown hr hgT5⟩), (fun _ _ _ _ h => h), (fun _ _ _ _ h => h), (fun _ _ _ _ h => h), (fun vs w1 w2 hr ⟨h, h1, h2⟩ => ⟨h, h1, h2.grown hr hgT5⟩), (fun _ _ _ _ h => h), (fun _ _ _ _ h => h), (fun _ _ _ _ h => h), (fun vs w1 w2 hr ⟨h, h1, h2⟩ => ⟨h, h1, h2.grown hr hgT5⟩), (fun _ _ _ _ h => h), (fun _ _ _ _ h => h), (fun _ _ _ _ h => h), (fun vs w1 w2 hr ⟨h, h1, h2⟩ => ⟨h, h1, h2.grown hr hgT5⟩), (fun _ _ _ _ h => h), (fun _ _ _ _ h => h), (fun _ _ _ _ h => h), (fun vs w1 w2 hr ⟨h, h1, h2⟩ => ⟨h, h1, h2.grown hr hgT5⟩), (fun _ _ _ _ h => h), (fun _ _ _ _ h => h), (fun _ _ _ _ h => h), (fun _ _ _ _ h => h), (fun _ _ _ _ h => h), trivial⟩
     ·intro m c hc o ho a w' hG hfr hdep
      rcases m with _ | _ | _ | _ | m
      ·cases hc
       obtain rfl := oj ho
       obtain ⟨hg0, h0, h1, h2, h3, h4, hx, q0, q1, q2, q3⟩ := hG
       obtain ⟨hn, g93, hsb⟩ := hdep 3 _ rfl (by kernel_rfl)
       simp at g93
       have g110 : a.tmps[110]?.getD undef = .pointer (some ⟨gT, 2, none⟩) := by simpa using hdep 20 _ rfl (by kernel_rfl)
       clear hfr hdep
       refine store_cell 23 _ _ 29 gT 2 [.slice ra0 ps0.length rc0, .slice ra1 ps1.length rc1, hdv h0, hdv h1, hdv h2, hdv h3, hdv h4] (hdv hn) size_bytes1 hx (by show a.tmps.getD 110 undef = _; simpa using g110) (by show a.tmps.getD 93 undef = _; simpa using g93) rfl rfl (by simp) ?_
       intro w9 hx9 hg9 hs9
       go_wp2
       exact ⟨rfl, .bool true, rfl, hg9, grown_trans hg0 hg9, hn, h1, h2, h3, h4, hx9, fun h => hsb.grown hg9 hgT5, fun h => absurd h (by omega), fun h => absurd h (by omega), fun h => absurd h (by omega)⟩
      ·cases hc
       obtain rfl := oj ho
       obtain ⟨hg0, h0, h1, h2, h3, h4, hx, q0, q1, q2, q3⟩ := hG
       obtain ⟨hn, g97, hsb⟩ := hdep 7 _ rfl (by kernel_rfl)
       simp at g97
       have g111 : a.tmps[111]?.getD undef = .pointer (some ⟨gT, 3, none⟩) := by simpa using hdep 21 _ rfl (by kernel_rfl)
       clear hfr hdep
       refine store_cell 23 _ _ 29 gT 3 [.slice ra0 ps0.length rc0, .slice ra1 ps1.length rc1, hdv h0, hdv h1, hdv h2, hdv h3, hdv h4] (hdv hn) size_bytes1 hx (by show a.tmps.getD 111 undef = _; simpa using g111) (by show a.tmps.getD 97 undef = _; simpa using g97) rfl rfl (by simp) ?_
       intro w9 hx9 hg9 hs9
       go_wp2
       exact ⟨rfl, .bool true, rfl, hg9, grown_trans hg0 hg9, h0, hn, h2, h3, h4, hx9, fun h => (q0 (by omega)).grown hg9 hgT5, fun h => hsb.grown hg9 hgT5, fun h => absurd h (by omega), fun h => absurd h (by omega)⟩
      ·cases hc
       obtain rfl := oj ho
       obtain ⟨hg0, h0, h1, h2, h3, h4, hx, q0, q1, q2, q3⟩ := hG
       obtain ⟨hn, g101, hsb⟩ := hdep 11 _ rfl (by kernel_rfl)
       simp at g101
       have g112 : a.tmps[112]?.getD undef = .pointer (some ⟨gT, 4, none⟩) := by simpa using hdep 22 _ rfl (by kernel_rfl)
       clear hfr hdep
       refine store_cell 23 _ _ 29 gT 4 [.slice ra0 ps0.length rc0, .slice ra1 ps1.length rc1, hdv h0, hdv h1, hdv h2, hdv h3, hdv h4] (hdv hn) size_bytes1 hx (by show a.tmps.getD 112 undef = _; simpa using g112) (by show a.tmps.getD 101 undef = _; simpa using g101) rfl rfl (by simp) ?_
       intro w9 hx9 hg9 hs9
       go_wp2
       exact ⟨rfl, .bool true, rfl, hg9, grown_trans hg0 hg9, h0, h1, hn, h3, h4, hx9, fun h => (q0 (by omega)).grown hg9 hgT5, fun h => (q1 (by omega)).grown hg9 hgT5, fun h => hsb.grown hg9 hgT5, fun h => absurd h (by omega)⟩
      ·cases hc
       obtain rfl := oj ho
       obtain ⟨hg0, h0, h1, h2, h3, h4, hx, q0, q1, q2, q3⟩ := hG
       obtain ⟨hn, g105, hsb⟩ := hdep 15 _ rfl (by kernel_rfl)
       simp at g105
       have g113 : a.tmps[113]?.getD undef = .pointer (some ⟨gT, 5, none⟩) := by simpa using hdep 23 _ rfl (by kernel_rfl)
       clear hfr hdep
       refine store_cell 23 _ _ 29 gT 5 [.slice ra0 ps0.length rc0, .slice ra1 ps1.length rc1, hdv h0, hdv h1, hdv h2, hdv h3, hdv h4] (hdv hn) size_bytes1 hx (by show a.tmps.getD 113 undef = _; simpa using g113) (by show a.tmps.getD 105 undef = _; simpa using g105) rfl rfl (by simp) ?_
       intro w9 hx9 hg9 hs9
       go_wp2
       exact ⟨rfl, .bool true, rfl, hg9, grown_trans hg0 hg9, h0, h1, h2, hn, h4, hx9, fun h => (q0 (by omega)).grown hg9 hgT5, fun h => (q1 (by omega)).grown hg9 hgT5, fun h => (q2 (by omega)).grown hg9 hgT5, fun h => hsb.grown hg9 hgT5⟩
      ·cases hc
     ·simp only [All]
      refine ⟨?_, ?_, ?_, ?_, ?_, ?_, ?_, ?_, ?_, ?_, ?_, ?_, ?_, ?_, ?_, ?_, ?_, ?_, ?_, ?_, ?_, ?_, ?_, ?_, ?_, trivial⟩
      ·intro o ho a' w' hfr hdep hst; obtain rfl := oj ho
       have g12 : a'.tmps[12]?.getD undef = .slice (some ⟨bS, 0, none⟩) 5 c5 := by simpa using hfr 12 (by kernel_rfl)
       clear ho hfr hdep hst; go_wp2_with fail; exact ⟨rfl, _, rfl, br, rfl⟩
      ·intro o ho a' w' hfr hdep hst; obtain rfl := oj ho
       have g90 : a'.tmps[90]?.getD undef = .slice (some ⟨bS, 0, none⟩) 5 c5 := by simpa using hdep 0 _ rfl (by kernel_rfl)
       clear ho hfr hdep hst; refine index_rowF 91 57 _ _ 9 Tryd.underlying57 1 size_str bS 0 5 c5 (by show a'.tmps.getD 90 undef = _; simpa using g90) _ _ 0 rfl rfl (by decide) ?_
       go_wp2_with fail; exact ⟨rfl, _, rfl, br, rfl⟩
      ·intro o ho a' w' hfr hdep hst; obtain rfl := oj ho
       have g91 : a'.tmps[91]?.getD undef = .pointer (some ⟨bS, 0, none⟩) := by simpa using hdep 1 _ rfl (by kernel_rfl)
       obtain ⟨j, _, _, hG⟩ := hst
       clear ho hfr hdep; have hcl := hG.1.cell (hcS 0 _ rfl) (fun e => hST (by injection e))
       clear hG
       go_wp2_with fail; exact ⟨rfl, _, rfl, br, rfl⟩
      ·intro o ho a' w' hfr hdep hst; obtain rfl := oj ho
       have g92 : a'.tmps[92]?.getD undef = .string s0 := by simpa using hdep 2 _ rfl (by kernel_rfl)
       obtain ⟨j, _, _, hG⟩ := hst
       clear ho hfr hdep; have hsz := hG.1.size
       clear hG
       refine to_kb 93 _ s0 w5.heap.size hsz (by show a'.tmps.getD 92 undef = _; simpa using g92) hm0 ?_
       intro h w2 hsb hb2
       go_wp2_with fail
       exact ⟨rfl, _, rfl, hb2, h, rfl, hsb⟩
      ·intro o ho a' w' hfr hdep hst; obtain rfl := oj ho
       have g12 : a'.tmps[12]?.getD undef = .slice (some ⟨bS, 0, none⟩) 5 c5 := by simpa using hfr 12 (by kernel_rfl)
       clear ho hfr hdep hst; go_wp2_with fail; exact ⟨rfl, _, rfl, br, rfl⟩
      ·intro o ho a' w' hfr hdep hst; obtain rfl := oj ho
       have g94 : a'.tmps[94]?.getD undef = .slice (some ⟨bS, 0, none⟩) 5 c5 := by simpa using hdep 4 _ rfl (by kernel_rfl)
       clear ho hfr hdep hst; refine index_rowF 95 57 _ _ 9 Tryd.underlying57 1 size_str bS 0 5 c5 (by show a'.tmps.getD 94 undef = _; simpa using g94) _ _ 1 rfl rfl (by decide) ?_
       go_wp2_with fail; exact ⟨rfl, _, rfl, br, rfl⟩
      ·intro o ho a' w' hfr hdep hst; obtain rfl := oj ho
       have g95 : a'.tmps[95]?.getD undef = .pointer (some ⟨bS, 1, none⟩) := by simpa using hdep 5 _ rfl (by kernel_rfl)
       obtain ⟨j, _, _, hG⟩ := hst
       clear ho hfr hdep; have hcl := hG.1.cell (hcS 1 _ rfl) (fun e => hST (by injection e))
       clear hG
       go_wp2_with fail; exact ⟨rfl, _, rfl, br, rfl⟩
      ·intro o ho a' w' hfr hdep hst; obtain rfl := oj ho
       have g96 : a'.tmps[96]?.getD undef = .string s1 := by simpa using hdep 6 _ rfl (by kernel_rfl)
       obtain ⟨j, _, _, hG⟩ := hst
       clear ho hfr hdep; have hsz := hG.1.size
       clear hG
       refine to_kb 97 _ s1 w5.heap.size hsz (by show a'.tmps.getD 96 undef = _; simpa using g96) hm1 ?_
       intro h w2 hsb hb2
       go_wp2_with fail
       exact ⟨rfl, _, rfl, hb2, h, rfl, hsb⟩
      ·intro o ho a' w' hfr hdep hst; obtain rfl := oj ho
       have g12 : a'.tmps[12]?.getD undef = .slice (some ⟨bS, 0, none⟩) 5 c5 := by simpa using hfr 12 (by kernel_rfl)
       clear ho hfr hdep hst; go_wp2_with fail; exact ⟨rfl, _, rfl, br, rfl⟩
      ·intro o ho a' w' hfr hdep hst; obtain rfl := oj ho
       have g98 : a'.tmps[98]?.getD undef = .slice (some ⟨bS, 0, none⟩) 5 c5 := by simpa using hdep 8 _ rfl (by kernel_rfl)
       clear ho hfr hdep hst; refine index_rowF 99 57 _ _ 9 Tryd.underlying57 1 size_str bS 0 5 c5 (by show a'.tmps.getD 98 undef = _; simpa using g98) _ _ 2 rfl rfl (by decide) ?_
       go_wp2_with fail; exact ⟨rfl, _, rfl, br, rfl⟩
      ·intro o ho a' w' hfr hdep hst; obtain rfl := oj ho
       have g99 : a'.tmps[99]?.getD undef = .pointer (some ⟨bS, 2, none⟩) := by simpa using hdep 9 _ rfl (by kernel_rfl)
       obtain ⟨j, _, _, hG⟩ := hst
       clear ho hfr hdep; have hcl := hG.1.cell (hcS 2 _ rfl) (fun e => hST (by injection e))
       clear hG
       go_wp2_with fail; exact ⟨rfl, _, rfl, br, rfl⟩
      ·intro o ho a' w' hfr hdep hst; obtain rfl := oj ho
       have g100 : a'.tmps[100]?.getD undef = .string s2 := by simpa using hdep 10 _ rfl (by kernel_rfl)
       obtain ⟨j, _, _, hG⟩ := hst
       clear ho hfr hdep; have hsz := hG.1.size
       clear hG
       refine to_kb 101 _ s2 w5.heap.size hsz (by show a'.tmps.getD 100 undef = _; simpa using g100) hm2 ?_
       intro h w2 hsb hb2
       go_wp2_with fail
       exact ⟨rfl, _, rfl, hb2, h, rfl, hsb⟩
      ·intro o ho a' w' hfr hdep hst; obtain rfl := oj ho
       have g12 : a'.tmps[12]?.getD undef = .slice (some ⟨bS, 0, none⟩) 5 c5 := by simpa using hfr 12 (by kernel_rfl)
       clear ho hfr hdep hst; go_wp2_with fail; exact ⟨rfl, _, rfl, br, rfl⟩
      ·intro o ho a' w' hfr hdep hst; obtain rfl := oj ho
       have g102 : a'.tmps[102]?.getD undef = .slice (some ⟨bS, 0, none⟩) 5 c5 := by simpa using hdep 12 _ rfl (by kernel_rfl)
       clear ho hfr hdep hst; refine index_rowF 103 57 _ _ 9 Tryd.underlying57 1 size_str bS 0 5 c5 (by show a'.tmps.getD 102 undef = _; simpa using g102) _ _ 3 rfl rfl (by decide) ?_
       go_wp2_with fail; exact ⟨rfl, _, rfl, br, rfl⟩
      ·intro o ho a' w' hfr hdep hst; obtain rfl := oj ho
       have g103 : a'.tmps[103]?.getD undef = .pointer (some ⟨bS, 3, none⟩) := by simpa using hdep 13 _ rfl (by kernel_rfl)
       obtain ⟨j, _, _, hG⟩ := hst
       clear ho hfr hdep; have hcl := hG.1.cell (hcS 3 _ rfl) (fun e => hST (by injection e))
       clear hG
       go_wp2_with fail; exact ⟨rfl, _, rfl, br, rfl⟩
      ·intro o ho a' w' hfr hdep hst; obtain rfl := oj ho
       have g104 : a'.tmps[104]?.getD undef = .string s3 := by simpa using hdep 14 _ rfl (by kernel_rfl)
       obtain ⟨j, _, _, hG⟩ := hst
       clear ho hfr hdep; have hsz := hG.1.size
       clear hG
       refine to_kb 105 _ s3 w5.heap.size hsz (by show a'.tmps.getD 104 undef = _; simpa using g104) hm3 ?_
       intro h w2 hsb hb2
       go_wp2_with fail
       exact ⟨rfl, _, rfl, hb2, h, rfl, hsb⟩
      ·intro o ho a' w' hfr hdep hst; obtain rfl := oj ho
       have g12 : a'.tmps[12]?.getD undef = .slice (some ⟨bS, 0, none⟩) 5 c5 := by simpa using hfr 12 (by kernel_rfl)
       clear ho hfr hdep hst; go_wp2_with fail; exact ⟨rfl, _, rfl, br, rfl⟩
      ·intro o ho a' w' hfr hdep hst; obtain rfl := oj ho
       have g106 : a'.tmps[106]?.getD undef = .slice (some ⟨bS, 0, none⟩) 5 c5 := by simpa using hdep 16 _ rfl (by kernel_rfl)
       clear ho hfr hdep hst; refine index_rowF 107 57 _ _ 9 Tryd.underlying57 1 size_str bS 0 5 c5 (by show a'.tmps.getD 106 undef = _; simpa using g106) _ _ 4 rfl rfl (by decide) ?_
       go_wp2_with fail; exact ⟨rfl, _, rfl, br, rfl⟩
      ·intro o ho a' w' hfr hdep hst; obtain rfl := oj ho
       have g107 : a'.tmps[107]?.getD undef = .pointer (some ⟨bS, 4, none⟩) := by simpa using hdep 17 _ rfl (by kernel_rfl)
       obtain ⟨j, _, _, hG⟩ := hst
       clear ho hfr hdep; have hcl := hG.1.cell (hcS 4 _ rfl) (fun e => hST (by injection e))
       clear hG
       go_wp2_with fail; exact ⟨rfl, _, rfl, br, rfl⟩
      ·intro o ho a' w' hfr hdep hst; obtain rfl := oj ho
       have g108 : a'.tmps[108]?.getD undef = .string s4 := by simpa using hdep 18 _ rfl (by kernel_rfl)
       obtain ⟨j, _, _, hG⟩ := hst
       clear ho hfr hdep; have hsz := hG.1.size
       clear hG
       refine to_kb 109 _ s4 w5.heap.size hsz (by show a'.tmps.getD 108 undef = _; simpa using g108) hm4 ?_
       intro h w2 hsb hb2
       go_wp2_with fail
       exact ⟨rfl, _, rfl, hb2, h, rfl, hsb⟩
      ·intro o ho a' w' hfr hdep hst; obtain rfl := oj ho
       have g5 : a'.tmps[5]?.getD undef = .pointer (some ⟨gT, 0, none⟩) := by simpa using hfr 5 (by kernel_rfl)
       clear ho hfr hdep hst; go_wp2_with fail; exact ⟨rfl, _, rfl, br, rfl⟩
      ·intro o ho a' w' hfr hdep hst; obtain rfl := oj ho
       have g5 : a'.tmps[5]?.getD undef = .pointer (some ⟨gT, 0, none⟩) := by simpa using hfr 5 (by kernel_rfl)
       clear ho hfr hdep hst; go_wp2_with fail; exact ⟨rfl, _, rfl, br, rfl⟩
      ·intro o ho a' w' hfr hdep hst; obtain rfl := oj ho
       have g5 : a'.tmps[5]?.getD undef = .pointer (some ⟨gT, 0, none⟩) := by simpa using hfr 5 (by kernel_rfl)
       clear ho hfr hdep hst; go_wp2_with fail; exact ⟨rfl, _, rfl, br, rfl⟩
      ·intro o ho a' w' hfr hdep hst; obtain rfl := oj ho
       have g5 : a'.tmps[5]?.getD undef = .pointer (some ⟨gT, 0, none⟩) := by simpa using hfr 5 (by kernel_rfl)
       clear ho hfr hdep hst; go_wp2_with fail; exact ⟨rfl, _, rfl, br, rfl⟩
      ·intro o ho a' w' hfr hdep hst; obtain rfl := oj ho
       have g5 : a'.tmps[5]?.getD undef = .pointer (some ⟨gT, 0, none⟩) := by simpa using hfr 5 (by kernel_rfl)
       clear ho hfr hdep hst; go_wp2_with fail; exact ⟨rfl, _, rfl, br, rfl⟩
     ·intro gg w9 hG hp
      have p114 : gg 114 = .pointer (some ⟨gT, 6, none⟩) := by have h := hp 24 _ rfl; simpa using h
      obtain ⟨hn, p109, hsb⟩ := hp 19 _ rfl
      have p109 : gg 109 = hdv hn := by simpa using p109
      obtain ⟨hg0, h0, h1, h2, h3, h4, hx, q0, q1, q2, q3⟩ := hG
      have q0 := q0 (by decide)
      have q1 := q1 (by decide)
      have q2 := q2 (by decide)
      have q3 := q3 (by decide)
      clear hp
      simp only [List.drop_succ_cons, List.drop_zero, List.map_cons, List.map_nil, List.cons_append, List.nil_append, putAll, Act.put, List.setIfInBounds_toArray, List.set_cons_succ, List.set_cons_zero, p109, p114]
      clear p109 p114
      have xR9 := xR5.grown hg0 (fun e => hRT (by injection e))
      have hb9 := hb5w.grown hg0 hBw5 (fun k hk => by cases hk; exact hRT1)
      have hB9 : gR ≤ w9.heap.size := Nat.le_trans hBw5 hg0.size
      have k0 := hk0.kept hg0 xT5 (by decide) (by decide)
      have k1 := hk1.kept hg0 xT5 (by decide) (by decide)
      have hRs : gR < w5.heap.size := xR5.lt
      clear xR5 hb5w hBw5 hk0 hk1 xT5 hcS
      have hl9 : 6 < ([.slice ra0 ps0.length rc0, .slice ra1 ps1.length rc1, hdv h0, hdv h1, hdv h2, hdv h3, hdv h4] : List Value).length := by simp
      go_wp2_with (with_reducible refine hold_storeF ?_)
      refine hide ?_
      refine store_cell 23 _ _ 29 gT 6 [.slice ra0 ps0.length rc0, .slice ra1 ps1.length rc1, hdv h0, hdv h1, hdv h2, hdv h3, hdv h4] (hdv hn) size_bytes1 hx (by rfl) (by rfl) rfl rfl hl9 ?_
      intro w11 xT11 hg11 hs11
      have xT11 : Box w11 gT 29 [.slice ra0 ps0.length rc0, .slice ra1 ps1.length rc1, hdv h0, hdv h1, hdv h2, hdv h3, hdv hn] := xT11
      have xR11 := xR9.grown hg11 (fun e => hRT (by injection e))
      have hb11 := hb9.grown hg11 hB9 (fun k hk => by cases hk; exact hRT1)
      have hB11 : gR ≤ w11.heap.size := Nat.le_trans hB9 hg11.size
      have k02 := k0.kept hg11 hx (by decide) (by decide)
      have k12 := k1.kept hg11 hx (by decide) (by decide)
      have r0 := q0.grown hg11 hgT5
      have r1 := q1.grown hg11 hgT5
      have r2 := q2.grown hg11 hgT5
      have r3 := q3.grown hg11 hgT5
      have r4 := hsb.grown hg11 hgT5
      clear xR9 hb9 hB9 k0 k1 hg11 hs11 hx q0 q1 q2 q3 hsb hl9 hg0
      have hD := HD2.out
      clear HD2
      subst hD
      go_wp2_with (first
       | (with_reducible refine load_struct 115 29 _ 7 size_tabs7 _ Tryd.underlying29 ⟨gT, 0, none⟩ rfl [.slice ra0 ps0.length rc0, .slice ra1 ps1.length rc1, hdv h0, hdv h1, hdv h2, hdv h3, hdv hn] rfl (fun j u hj => by rw [Addr.add_lit, Nat.zero_add]; exact xT11.at_ hj) ?_)
       | (with_reducible refine hold_storeF ?_))
      refine hide ?_
      have hzr : (Tryd.prog.info? 29).map (·.size) = some ([.slice ra0 ps0.length rc0, .slice ra1 ps1.length rc1, hdv h0, hdv h1, hdv h2, hdv h3, hdv hn] : List Value).length := size_tabs7
      refine store_all 29 _ _ 29 gR _ [.slice ra0 ps0.length rc0, .slice ra1 ps1.length rc1, hdv h0, hdv h1, hdv h2, hdv h3, hdv hn] (.agg ([.slice ra0 ps0.length rc0, .slice ra1 ps1.length rc1, hdv h0, hdv h1, hdv h2, hdv h3, hdv hn] : List Value).toArray) hzr xR11 (by rfl) (by rfl) rfl (Eq.refl 7) (by simp [Value.oneCell', hdv]) ?_
      intro w7 hx7 hg7 hs7
      have kk0 := k02.kept hg7 xR11 (by decide) (by decide)
      have kk1 := k12.kept hg7 xR11 (by decide) (by decide)
      go_wp2_with fail
      refine bodyPost_ret (results_c3 rfl rfl rfl rfl isAgg_T7 (size_T7 _ _ _ _ _ _ _) hx7) rfl ⟨⟨(ra0, ps0.length, rc0), (ra1, ps1.length, rc1), ps0, ps1, h0, h1, h2, h3, hn⟩, ?_, ?_, by rw [hgR.out]; exact hb11.grown hg7 hB11 (fun k hk => by cases hk; exact Nat.le_refl _)⟩
      ·rw [show (((P + j : Nat)) : Int) = (P : Int) + (j : Int) from Int.natCast_add P j]
       rfl
      ·refine ⟨kk0.rue, kk1.rue, ?_, ?_, (r0.grown hg7 hRs).1, (r1.grown hg7 hRs).1, (r2.grown hg7 hRs).1, (r3.grown hg7 hRs).1, (r4.grown hg7 hRs).1⟩
       ·show rus ps0 = X.getD 0 []
        rw [List.getD_eq_getElem?_getD, HX0.out]; rfl
       ·show rus ps1 = X.getD 1 []
        rw [List.getD_eq_getElem?_getD, HX1.out]; rfl
    ·have hD := HD.out.trans (dec_fail_len HX.out H1.out (by rw [HNS.out]; exact h5))
     have hne5 : ((ns : Int) != 5) = true := by simp; omega
     have HD2 := hide hD
     clear hD HD
     have hD := HD2.out
     clear HD2 hLg5 hO5 xT5
     subst hD
     go_wp2_with (with_reducible refine store_all 29 _ _ 29 _ _ [.slice none 0 0, .slice none 0 0, .slice none 0 0, .slice none 0 0, .slice none 0 0, .slice none 0 0, .slice none 0 0] _ (size_T7 _ _ _ _ _ _ _) xR5 rfl rfl rfl (Eq.refl 7) (by simp [Value.oneCell']) ?_; intro w7 hx7 hg7 hs7)
     refine bodyPost_ret (results_c3 rfl rfl rfl rfl isAgg_T7 (size_T7 _ _ _ _ _ _ _) hx7) rfl ⟨H0T, rfl, TaE.zero _, by rw [hgR.out]; exact hb5w.grown hg7 hBw5 (fun k hk => by cases hk; exact Nat.le_refl _)⟩
end Go.Proofs.YtfagjaabladgpaaDoor
end

section
/- Chapter 06: the tables that the reference makes. -/
namespace Go.Dx
open Go.RowKit
def GAp (wr wo : World) (TR U : TypeId) (n : Nat) (ps : List RH) (ru : Ru) : Nat → List Value → World → Prop
 | 0, _, w => Below wr.heap.size wr w
 | _ + 1, vs, w => (∃ a' c', vs = [.slice a' n c'] ∧ ∃ h, ORu w TR U wo.heap.size a' c' (ps ++ [(ru, h)])) ∧ Below wo.heap.size wo w ∧ wr.heap.size ≤ w.heap.size
section
variable {wr wo w w' : World} {TR U : TypeId} {n : Nat} {ps : List RH} {ru : Ru}
theorem GAp.mono : ∀ (j : Nat) (vs : List Value) (w w' : World), Below w.heap.size w w' → GAp wr wo TR U n ps ru j vs w → GAp wr wo TR U n ps ru j vs w'
 | 0, _, w, w', hb, h => Below.trans h (hb.mono (Below.size h))
 | _ + 1, vs, w, w', hb, ⟨⟨a', c', h1, b, h2⟩, h3, h4⟩ => ⟨⟨a', c', h1, b, h2.below hb⟩, h3.trans (hb.mono h3.size), Nat.le_trans h4 hb.size⟩
theorem GAp.size {j : Nat} {vs : List Value} (h : GAp wr wo TR U n ps ru j vs w) : wr.heap.size ≤ w.heap.size := by
 cases j with
 | zero => exact Below.size h
 | succ j => exact h.2.2
end
theorem wrap_in (x : Int) : -9223372036854775808 ≤ wrap64 x ∧ wrap64 x ≤ 9223372036854775807 := by unfold wrap64; omega
theorem marks_at : ∀ (i : Nat) (c : UInt8), i < 6 → marks6[i]? = some c → chars ((⟨#[32, 46, 44, 63, 39, 45]⟩ : ByteArray).extract i (i + 1)) = [c] := by
 intro i c hi
 rcases i with _ | _ | _ | _ | _ | _ | i
 ·intro h; cases h; decide
 ·intro h; cases h; decide
 ·intro h; cases h; decide
 ·intro h; cases h; decide
 ·intro h; cases h; decide
 ·intro h; cases h; decide
 ·omega
def GDg (wr w5 : World) (TT U : TypeId) (g1 : Nat) (us : List Value) (n : Nat) (ds : List UInt8) : Nat → List Value → World → Prop
 | 0, _, w => Below wr.heap.size wr w
 | _ + 1, vs, w => (∃ a' c', vs = [.slice a' n c'] ∧ Own w w5.heap.size U 1 a' n c' (ds.map B8)) ∧ Box w g1 TT us ∧ w5.grownBy w (some g1) ∧ wr.heap.size ≤ w.heap.size
section
variable {wr w5 w : World} {TT U : TypeId} {g1 : Nat} {us : List Value} {n : Nat} {ds : List UInt8}
theorem GDg.mono : ∀ (j : Nat) (vs : List Value) (w w' : World), Below w.heap.size w w' → GDg wr w5 TT U g1 us n ds j vs w → GDg wr w5 TT U g1 us n ds j vs w'
 | 0, _, w, w', hb, h => Below.trans h (hb.mono (Below.size h))
 | _ + 1, vs, w, w', hb, ⟨⟨a', c', h1, h2⟩, h3, h5, h6⟩ => ⟨⟨a', c', h1, h2.below hb⟩, h3.under hb, grown_below h5 (hb.mono h5.size), Nat.le_trans h6 hb.size⟩
theorem GDg.box {j : Nat} {vs : List Value} (h : GDg wr w5 TT U g1 us n ds j vs w) (hB : Box wr g1 TT us) : Box w g1 TT us := by
 cases j with
 | zero => exact hB.under h
 | succ j => exact h.2.1
theorem GDg.size {j : Nat} {vs : List Value} (h : GDg wr w5 TT U g1 us n ds j vs w) : wr.heap.size ≤ w.heap.size := by
 cases j with
 | zero => exact Below.size h
 | succ j => exact h.2.2.2
end
def texts12 : List ByteArray := [⟨#[116, 104]⟩, ⟨#[101, 114]⟩, ⟨#[116, 104, 101]⟩, ⟨#[105, 110, 103]⟩, ⟨#[97, 110, 100]⟩, ⟨#[97, 110]⟩, ⟨#[115, 116]⟩, ⟨#[105, 110]⟩, ⟨#[111, 117]⟩, ⟨#[116, 105, 111, 110]⟩, ⟨#[98, 101]⟩, ⟨#[98, 117, 116]⟩]
theorem texts12_ok : ∀ s ∈ texts12, (decide (1 ≤ s.size) && decide (s.size ≤ 8) && small s) = true := by decide
theorem contr_ok {s : ByteArray} (hs : s ∈ texts12) {wh : Int} (h0 : 0 ≤ wh) (h3 : wh ≤ 3) {cs : List UInt8} (hc : indic cs = true) : ruOk ⟨s, wh, cs⟩ = true := by
 have := texts12_ok s hs
 unfold ruOk
 simp only [Bool.and_eq_true, decide_eq_true_eq] at this ⊢
 simp [this.1.1, this.1.2, this.2, h0, h3, hc]
end Go.Dx
namespace Go.Proofs.YtfagjaabladgpaaDoor
open Go.RowKit Go.Dx
theorem size_tab : (Tryd.prog.info? 26).map (·.size) = some 1 := by kernel_rfl
theorem size_tab1 (v : Value) : (Tryd.prog.info? 26).map (·.size) = some ([v] : List Value).length := size_tab
theorem size_ru3 (v0 v1 v2 : Value) : (Tryd.prog.info? 45).map (·.size) = some ([v0, v1, v2] : List Value).length := size_rule
theorem around_ex (m : Nat) (x v : Int) (w : World) (hv : (m : Int) = v) (h0 : -9223372036854775808 ≤ x ∧ x ≤ 9223372036854775807) (hm : 1 ≤ m) (hm2 : m ≤ 1000000000) :
  Calls Tryd.prog 12 #[.int .i64 x, .int .i64 v] w fun e w' => ∃ r : Nat, r < m ∧ e = .returned (.int .i64 (r : Int)) ∧ w = w' := by
 obtain ⟨r, hr, h⟩ := around_any x v m w hv h0.1 h0.2 hm hm2
 exact (h w).mono (fun e w' ⟨h1, h2⟩ => ⟨r, hr, h1, h2⟩)
theorem cell_ex (n : Int) (h0 : -9223372036854775808 ≤ n) (h1 : n ≤ 9223372036854775807) (k : Nat) (x : Int) (hx : (k : Int) = x) (hk : k ≤ 100) (w : World) :
  Calls Tryd.prog 21 #[.int .i64 n, .int .i64 x] w fun e w' => ∃ v : UInt8, cellOk v = true ∧ e = .returned (.int .u8 (v.toNat : Int)) ∧ Below w.heap.size w w' := by
 subst hx
 obtain ⟨v, hv, h⟩ := ref_cell n h0 h1 k hk
 exact (h w).mono (fun e w' ⟨h1, h2⟩ => ⟨v, hv, h1, h2⟩)
def RB (wr w : World) (g : Nat) (s : ByteArray) (r : Int) : Prop := ∃ (cs : List UInt8) (a : Option Addr) (m c : Nat), indic cs = true ∧ Box w g 45 [.string s, .int .i64 r, .slice a m c] ∧ Own w 0 5 1 a m c (cs.map B8) ∧ Below wr.heap.size wr w
theorem RB.set {wr w w' : World} {g : Nat} {s : ByteArray} {r : Int} {a : Option Addr} {m c : Nat} {old : List Value} {cs : List UInt8} (hx : Box w g 45 old) (ho : Own w 0 5 1 a m c (cs.map B8)) (hc : indic cs = true)
  (hb : Below wr.heap.size wr w) (hg : wr.heap.size ≤ g) (hgr : w.grownBy w' (some g)) (hx' : Box w' g 45 [.string s, .int .i64 r, .slice a m c]) : RB wr w' g s r := by
 refine ⟨cs, a, m, c, hc, hx', ho.kept hgr fun q hq => ?_, hb.grown hgr hb.size (fun q hq => by cases hq; exact hg)⟩
 rw [hq] at ho
 have := box_far hx ho (by decide)
 simpa using this
def RG (w : World) (B : Nat) (v : Value) : Prop := ∃ L L', Raw L ∧ OnceOf L L' ∧ RO w B v L'
theorem UB.nil (w : World) : UB w (.slice none 0 0) [] := ⟨none, 0, 0, rfl, Own.nil _ _ _ _⟩
structure TW (w0 w : World) (B g1 g0 : Nat) (v0 v1 : Value) (vs : List Value) (ls : List (List UInt8)) : Prop where
 box : Box w g1 29 (v0 :: v1 :: vs)
 out : Box w g0 29 [.slice none 0 0, .slice none 0 0, .slice none 0 0, .slice none 0 0, .slice none 0 0, .slice none 0 0, .slice none 0 0]
 l0 : RG w B v0
 l1 : RG w B v1
 len : vs.length = 5
 row : ∀ (j : Nat) (v : Value) (l : List UInt8), vs[j]? = some v → ls[j]? = some l → UB w v l
 bel : Below B w0 w
theorem UB8 {w w' : World} {g B n c : Nat} {a : Option Addr} {us cs : List Value} (hx : Box w g 29 us) (h2 : Own w B 5 1 a n c cs) (hg : w.grownBy w' (some g)) : Own w' B 5 1 a n c cs := by
 refine h2.kept hg fun q hq => ?_
 rw [hq] at h2
 have := box_far hx h2 (by decide)
 simpa using this

end Go.Proofs.YtfagjaabladgpaaDoor
end

section
/- Chapter 06: the characters that the reference makes of numbers. -/
namespace Go.Dx
open Go.RowKit
def theS : List UInt8 := [116, 104, 101, 114, 105, 110, 103, 97, 110, 100, 115, 116, 111, 117, 98, 99, 97, 102, 120]
def digS : List UInt8 := [48, 49, 50, 51, 52, 53, 54, 55, 56, 57]
def words7 : List ByteArray := [⟨#[116, 104, 101]⟩, ⟨#[97, 110, 100]⟩, ⟨#[105, 110, 103]⟩, ⟨#[116, 105, 111, 110]⟩, ⟨#[98, 117, 116]⟩, ⟨#[98, 101]⟩, ⟨#[115, 116]⟩]
def charF (n : Nat) : UInt8 :=
 if n / 12 = 12 ∨ n / 12 = 13 then digS.getD (n % 10) 0 else if n / 12 = 14 then marks6.getD (n % 6) 0 else if n / 12 = 15 ∨ n / 12 = 16 then 32
 else if n / 12 = 17 then theS.getD (n % 19) 0 - 32 else theS.getD (n % 19) 0
def plainC (c : UInt8) : Bool := isW c && (isL c || isD c || isM c)
theorem charF_plain : ∀ n, n < 240 → plainC (charF n) = true := by decide +kernel
theorem words7_plain : ∀ s ∈ words7, (chars s).all plainC = true := by decide +kernel
theorem plain_sy {g : Nat} (hg : g ≤ 1) {c : UInt8} (hc : plainC c = true) : plainSy ⟨(g : Int), c⟩ = true := by
 unfold plainC at hc
 unfold plainSy symOk
 simp only [Bool.and_eq_true] at hc ⊢
 refine ⟨⟨?_, hc.1⟩, hc.2⟩
 rcases g with _ | _ | g
 ·rfl
 ·rfl
 ·omega
theorem words7_len : ∀ s ∈ words7, s.size ≤ 4 := by decide
def outW (o : List Sy) (g : Nat) (w : List UInt8) : List Sy := o ++ (w.take (24 - o.length)).map fun c => ⟨(g : Int), c⟩
def langS (g n : Nat) : Nat := if n / 12 = 19 then 1 - g else g
def stepS (o : List Sy) (g n : Nat) : List Sy :=
 if n / 12 = 18 then outW (o ++ [⟨(langS g n : Int), charF n⟩]) (langS g n) (chars (words7.getD (n % 7) ⟨#[]⟩)) else o ++ [⟨(langS g n : Int), charF n⟩]
def symsS (f : Int → Nat) : List Int → List Sy → Nat → List Sy
 | [], o, _ => o
 | x :: xs, o, g => if o.length < 24 then symsS f xs (stepS o g (f x)) (langS g (f x)) else o
theorem langS_le {g n : Nat} (hg : g ≤ 1) : langS g n ≤ 1 := by unfold langS; split <;> omega
theorem outW_len {o : List Sy} {g : Nat} {w : List UInt8} (ho : o.length ≤ 24) : (outW o g w).length ≤ 24 := by
 unfold outW; rw [List.length_append, List.length_map, List.length_take]; omega
theorem stepS_len {o : List Sy} {g n : Nat} (ho : o.length < 24) : (stepS o g n).length ≤ 24 := by
 unfold stepS
 split
 ·exact outW_len (by rw [List.length_append]; simp; omega)
 ·rw [List.length_append]; simp; omega
theorem stepS_plain {o : List Sy} {g n : Nat} (hg : g ≤ 1) (hn : n < 240) (ho : ∀ x ∈ o, plainSy x = true) : ∀ x ∈ stepS o g n, plainSy x = true := by
 have h1 : ∀ x ∈ o ++ [(⟨(langS g n : Int), charF n⟩ : Sy)], plainSy x = true := by
  intro x hx
  rcases List.mem_append.1 hx with hx | hx
  ·exact ho x hx
  ·rw [List.mem_singleton] at hx; subst hx; exact plain_sy (langS_le hg) (charF_plain n hn)
 unfold stepS
 split
 ·intro x hx
  unfold outW at hx
  rcases List.mem_append.1 hx with hx | hx
  ·exact h1 x hx
  ·obtain ⟨c, hc, rfl⟩ := List.mem_map.1 hx
   have hm : words7.getD (n % 7) ⟨#[]⟩ ∈ words7 := by
    have : n % 7 < words7.length := Nat.mod_lt _ (by decide)
    rw [List.getD_eq_getElem?_getD, List.getElem?_eq_getElem this]
    exact List.getElem_mem _
   have := words7_plain _ hm
   rw [List.all_eq_true] at this
   exact plain_sy (langS_le hg) (this c (List.mem_of_mem_take hc))
 ·exact h1
theorem symsS_ok {f : Int → Nat} (hf : ∀ x, f x < 240) : ∀ (l : List Int) (o : List Sy) (g : Nat), g ≤ 1 → o.length ≤ 24 → (∀ x ∈ o, plainSy x = true) → (∀ x ∈ symsS f l o g, plainSy x = true) ∧ (symsS f l o g).length ≤ 24
 | [], o, g, _, h2, h3 => ⟨h3, h2⟩
 | x :: xs, o, g, h1, h2, h3 => by
  unfold symsS
  split
  ·rename_i h
   exact symsS_ok hf xs _ _ (langS_le h1) (stepS_len h) (stepS_plain h1 (hf x) h3)
  ·exact ⟨h3, h2⟩
theorem symsS_drop {f : Int → Nat} {l : List Int} {i : Nat} {x : Int} (hx : l[i]? = some x) {o : List Sy} {g : Nat} (ho : o.length < 24) : symsS f (l.drop i) o g = symsS f (l.drop (i + 1)) (stepS o g (f x)) (langS g (f x)) := by
 rw [List.drop_eq_getElem_cons (List.getElem?_eq_some_iff.1 hx).1, (List.getElem?_eq_some_iff.1 hx).2]
 show (if o.length < 24 then _ else _) = _
 rw [if_pos ho]
theorem symsS_full {f : Int → Nat} {l : List Int} {o : List Sy} {g : Nat} (ho : 24 ≤ o.length) : symsS f l o g = o := by
 cases l with
 | nil => rfl
 | cons x xs => show (if o.length < 24 then _ else _) = _; rw [if_neg (by omega)]
section ops
variable {P : Program} {w : World} {ops : Array Oper} {rest : List Oper} {act : Act} {Q : Exit → Act → World → Prop} {ty : TypeId} {pos : String} {after : Array Edge}
theorem idx_str (d : Nat) (t : TypeId) (ht : P.underlying t = some .string) (x y : Operand) (s : ByteArray) (r : Nat) (c : UInt8) (hx : act.eval x = .string s) (hy : act.eval y = .int .i64 (r : Int)) (hc : (chars s)[r]? = some c)
  (hK : wpList P ops Q rest (act.put (some d) (.int .u8 (c.toNat : Int))) w) :
  wpList P ops Q ({ dst := some d, op := .index t x y, type := ty, pos := pos, after := after, guard := none } :: rest) act w := by
 have hr : r < s.size := by rw [size_chars]; exact (List.getElem?_eq_some_iff.1 hc).1
 have he : s[r]'hr = c := by
  have := chars_get hr
  rw [hc] at this
  exact (Option.some.inj this).symm
 refine val_at rfl (.int .u8 (c.toNat : Int)) ?_ hK
 have hrun := run_index_string (P := P) (w := w) t s .i64 (r : Int) ht
 simp [execOp, hx, hy, hrun, hr, he, Result.andThen]
end ops
end Go.Dx
end

section
/- Chapter 06: the reference's Syms. -/
namespace Go.Dx
open Go.RowKit
theorem cF_d {m : Nat} (h : m / 12 = 12 ∨ m / 12 = 13) : (chars ⟨#[48, 49, 50, 51, 52, 53, 54, 55, 56, 57]⟩)[m % 10]? = some (charF m) := by
 unfold charF
 rw [if_pos h, show chars ⟨#[48, 49, 50, 51, 52, 53, 54, 55, 56, 57]⟩ = digS from rfl, List.getD_eq_getElem?_getD, List.getElem?_eq_getElem (show m % 10 < digS.length from Nat.mod_lt _ (by decide))]
 rfl
theorem cF_m {m : Nat} (h : m / 12 = 14) : (chars ⟨#[32, 46, 44, 63, 39, 45]⟩)[m % 6]? = some (charF m) := by
 unfold charF
 rw [if_neg (by omega), if_pos h, show chars ⟨#[32, 46, 44, 63, 39, 45]⟩ = marks6 from rfl, List.getD_eq_getElem?_getD, List.getElem?_eq_getElem (show m % 6 < marks6.length from Nat.mod_lt _ (by decide))]
 rfl
theorem cF_b {m : Nat} (h : m / 12 = 15 ∨ m / 12 = 16) : charF m = 32 := by
 unfold charF
 rw [if_neg (by omega), if_neg (by omega), if_pos h]
theorem theS_low : ∀ c ∈ theS, 97 ≤ c.toNat := by decide
theorem cF_c {m : Nat} (h : m / 12 = 17) {c : UInt8} (hc : theS[m % 19]? = some c) : (c.toNat : Int) - 32 = ((charF m).toNat : Int) ∧ 97 ≤ c.toNat := by
 have h97 := theS_low c (List.mem_of_getElem? hc)
 refine ⟨?_, h97⟩
 unfold charF
 rw [if_neg (by omega), if_neg (by omega), if_neg (by omega), if_pos h, List.getD_eq_getElem?_getD, hc]
 show _ = (((c - 32).toNat : Nat) : Int)
 rw [UInt8.toNat_sub_of_le _ _ (by rw [UInt8.le_iff_toNat_le]; show 32 ≤ c.toNat; omega)]
 show _ = ((c.toNat - 32 : Nat) : Int)
 omega
theorem cF_e {m : Nat} (h : m / 12 ≠ 12 ∧ m / 12 ≠ 13 ∧ m / 12 ≠ 14 ∧ m / 12 ≠ 15 ∧ m / 12 ≠ 16 ∧ m / 12 ≠ 17) {c : UInt8} (hc : theS[m % 19]? = some c) : charF m = c := by
 unfold charF
 rw [if_neg (by omega), if_neg (by omega), if_neg (by omega), if_neg (by omega), List.getD_eq_getElem?_getD, hc]
 rfl
theorem theS_get (m : Nat) : ∃ c, theS[m % 19]? = some c := ⟨_, List.getElem?_eq_getElem (show m % 19 < theS.length from Nat.mod_lt _ (by decide))⟩
def wordK (S : List Sy) (g : Nat) (w : List UInt8) (k : Nat) : List Sy := S ++ (w.take k).map fun c => ⟨(g : Int), c⟩
theorem wordK_zero (S : List Sy) (g : Nat) (w : List UInt8) : wordK S g w 0 = S := by unfold wordK; simp
theorem wordK_step {S : List Sy} {g : Nat} {w : List UInt8} {k : Nat} {c : UInt8} (hc : w[k]? = some c) : wordK S g w (k + 1) = wordK S g w k ++ [⟨(g : Int), c⟩] := by
 unfold wordK
 rw [take_succ_get hc, List.map_append, List.append_assoc]
 rfl
theorem wordK_out {S : List Sy} {g : Nat} {w : List UInt8} {k : Nat} (hS : S.length + k ≤ 24) (h : k = w.length ∨ S.length + k = 24) : wordK S g w k = outW S g w := by
 unfold wordK outW
 rcases h with h | h
 ·rw [List.take_of_length_le (by omega), List.take_of_length_le (by omega)]
 ·rw [show 24 - S.length = k by omega]
theorem wordK_len {S : List Sy} {g : Nat} {w : List UInt8} {k : Nat} (hk : k ≤ w.length) : (wordK S g w k).length = S.length + k := by
 unfold wordK
 rw [List.length_append, List.length_map, List.length_take]; omega
end Go.Dx
namespace Go.Proofs.YtfagjaabladgpaaDoor
open Go.RowKit Go.Dx
def symsL (l : List Int) : List Sy := symsS (fun x => aroundF x 240) l [] 0
theorem symsL_ok (l : List Int) : (∀ x ∈ symsL l, plainSy x = true) ∧ (symsL l).length ≤ 24 := symsS_ok (fun x => aroundF_lt (by decide)) l [] 0 (by decide) (by decide) (fun x h => by simp at h)
set_option maxRecDepth 100000 in
set_option maxHeartbeats 4000000 in
theorem ref_Syms (l : List Int) (hl64 : ∀ x ∈ l, -9223372036854775808 ≤ x ∧ x ≤ 9223372036854775807) (a : Option Addr) (n c : Nat) (w : World) (hs : Sl w 1 a n c (l.map I64)) :
  Calls Tryd.prog 16 #[.slice a n c] w fun e w' => ∃ a' c', e = .returned (.slice a' (symsL l).length c') ∧ Own w' w.heap.size 83 2 a' (symsL l).length c' ((symsL l).flatMap sc) ∧ Below w.heap.size w w' := by
 obtain ⟨R, HR⟩ : ∃ R, Hid (symsL l = R) := ⟨_, hide rfl⟩
 rw [HR.out]
 have hnl : l.length = n := by exact hs.n_eq.symm
 have hm1 := Nat.le_trans hs.le hs.cap
 unfold maxLen at hm1
 have HNL := hide hnl
 clear hnl
 have HL64 := hide hl64
 clear hl64
 go_enter Tryd.func16, Tryd.ntmps16
 go_wp2_with fail
 go_loopg [3, 4, 5] n (fun gh o g v w' => ∃ (i : Nat) (S : List Sy) (g0 : Nat) (ao : Option Addr) (co : Nat), i ≤ n ∧ gh = n - i ∧ o = .slice ao S.length co ∧ g = .int .i64 (g0 : Int) ∧ v = .int .i64 (i : Int) ∧ g0 ≤ 1 ∧ S.length ≤ 24 ∧ Hid (symsS (fun x => aroundF x 240) (l.drop i) S g0 = R) ∧ Own w' w.heap.size 83 2 ao S.length co (S.flatMap sc) ∧ Below w.heap.size w w')
 case atStart => exact ⟨0, [], 0, none, 0, by omega, by omega, rfl, rfl, rfl, by omega, by simp, hide HR.out, Own.nil _ _ _ _, Below.refl _ _⟩
 case round =>
  obtain ⟨i, S, g0, ao, co, hi, hgi, rfl, rfl, rfl, hg1, hS24, HD, hO, hb⟩ := hrel
  have HGI := hide hgi
  clear hgi
  by_cases hil : i < n
  ·by_cases hSl : S.length < 24
   ·obtain ⟨wo, rfl⟩ : ∃ wo : World, wo = wr := ⟨_, rfl⟩
    obtain ⟨x, hx⟩ : ∃ x, l[i]? = some x := ⟨_, List.getElem?_eq_getElem (show i < l.length by rw [HNL.out]; exact hil)⟩
    have hx64 := HL64.out x (List.mem_of_getElem? hx)
    have hA := fun w => ref_Around x 240 240 w rfl hx64.1 hx64.2 (by decide) (by decide)
    have hm240 : aroundF x 240 < 240 := aroundF_lt (by decide)
    have HDS := symsS_drop (f := fun x => aroundF x 240) hx hSl (g := g0)
    obtain ⟨m, HM⟩ : ∃ m, Hid (aroundF x 240 = m) := ⟨_, hide rfl⟩
    rw [HM.out] at hA hm240 HDS
    have HD2 : Hid (symsS (fun x => aroundF x 240) (l.drop (i + 1)) (stepS S g0 m) (langS g0 m) = R) := hide (by rw [← HDS]; exact HD.out)
    have HSL24 := hide (stepS_len (g := g0) (n := m) hSl)
    have HG1 := hide (langS_le (n := m) hg1)
    have HXI := hide hx
    have hsl := hs.below hb
    have d1 : decide (i < n) = true := decide_eq_true hil
    have d1' : decide ((i : Int) < (n : Int)) = true := decide_eq_true (by omega)
    have d2 : decide (S.length < 24) = true := decide_eq_true hSl
    have d2' : decide ((S.length : Int) < 24) = true := decide_eq_true (by omega)
    obtain ⟨q, hq⟩ : ∃ q, q = m / 12 := ⟨_, rfl⟩
    have hq1 : (m : Int) / 12 = (q : Int) := by omega
    have hq2 : (m : Int).tdiv 12 = (q : Int) := by rw [Int.tdiv_eq_ediv_of_nonneg (by omega)]; exact hq1
    have HQ := hide hq
    clear hx hx64 HDS hq
    go_upto_if 29 with (first
     | (with_reducible refine idx_i 24 _ _ _ _ _ _ rfl hsl _ _ i rfl rfl _ HXI.out ?_; intro b o hcell hbo)
     | (go_at_call_of 12 (Value.int IntKind.i64 240); refine (hA _).mono ?_; rintro e w2 ⟨rfl, rfl⟩))
    go_cut [4] from 30 to 31 (fun v w' => v = .int .i64 ((langS g0 m : Nat) : Int) ∧ wo = w')
    case first =>
     by_cases h19 : q = 19
     ·have e0 : langS g0 m = 1 - g0 := by unfold langS; rw [if_pos (by rw [← HQ.out]; exact h19)]
      have e1 : (1 : Int) - (g0 : Int) = ((langS g0 m : Nat) : Int) := by rw [e0]; omega
      have HE1 := hide e1
      clear e0 e1
      subst h19
      go_wp2_with fail
      go_meet
      exact ⟨by rw [← HE1.out], rfl⟩
     ·have e0 : langS g0 m = g0 := by unfold langS; rw [if_neg (by rw [← HQ.out]; exact h19)]
      have dq : ((q : Int) == 19) = false := by simp; omega
      have dq2 : decide ((q : Int) = 19) = false := by simp; omega
      go_wp2_with fail
      go_meet
      exact ⟨by rw [e0], rfl⟩
    case rest =>
     obtain ⟨rfl, rfl⟩ := hcut
     clear hcell hbo hA hsl
     obtain ⟨g1, hg1'⟩ : ∃ g1, Hid (langS g0 m = g1) := ⟨_, hide rfl⟩
     rw [hg1'.out] at HD2 HG1 ⊢
     obtain ⟨c0, hc0⟩ := theS_get m
     have HC0 := hide hc0
     obtain ⟨r19, hr19⟩ : ∃ r, r = m % 19 := ⟨_, rfl⟩
     have hr1 : (m : Int) % 19 = (r19 : Int) := by omega
     have hr2 : (m : Int).tmod 19 = (r19 : Int) := by rw [Int.tmod_eq_emod_of_nonneg (by omega)]; exact hr1
     have HC00 := hide hc0
     rw [← hr19] at HC0
     have hg0 : ∀ (h : r19 < (⟨#[116, 104, 101, 114, 105, 110, 103, 97, 110, 100, 115, 116, 111, 117, 98, 99, 97, 102, 120]⟩ : ByteArray).size), (⟨#[116, 104, 101, 114, 105, 110, 103, 97, 110, 100, 115, 116, 111, 117, 98, 99, 97, 102, 120]⟩ : ByteArray)[r19]'h = c0 := fun h => by
      have h1 := chars_get h
      rw [show chars (⟨#[116, 104, 101, 114, 105, 110, 103, 97, 110, 100, 115, 116, 111, 117, 98, 99, 97, 102, 120]⟩ : ByteArray) = theS from rfl, HC0.out] at h1
      exact (Option.some.inj h1).symm
     clear hc0 hr19
     go_upto_block 2 with (with_reducible refine idx_str 34 _ Tryd.underlying9 _ _ ⟨#[116, 104, 101, 114, 105, 110, 103, 97, 110, 100, 115, 116, 111, 117, 98, 99, 97, 102, 120]⟩ r19 c0 rfl rfl HC0.out ?_)
     go_cut [7] from 37 to 54 (fun c w' => c = .int .u8 ((charF m).toNat : Int) ∧ wo = w')
     case first =>
      have hcase : q = 12 ∨ q = 13 ∨ q = 14 ∨ q = 15 ∨ q = 16 ∨ q = 17 ∨ (q ≠ 12 ∧ q ≠ 13 ∧ q ≠ 14 ∧ q ≠ 15 ∧ q ≠ 16 ∧ q ≠ 17) := by omega
      rcases hcase with h | h | h | h | h | h | h
      ·have HC := hide (cF_d (m := m) (by rw [← HQ.out]; omega))
       obtain ⟨r, hr⟩ : ∃ r, r = m % 10 := ⟨_, rfl⟩
       have hr1' : (m : Int) % 10 = (r : Int) := by omega
       have hr2' : (m : Int).tmod 10 = (r : Int) := by rw [Int.tmod_eq_emod_of_nonneg (by omega)]; exact hr1'
       rw [← hr] at HC
       clear hr
       subst h
       go_wp2_with (with_reducible refine idx_str 42 _ Tryd.underlying9 _ _ ⟨#[48, 49, 50, 51, 52, 53, 54, 55, 56, 57]⟩ r (charF m) rfl rfl HC.out ?_)
       go_meet
       exact ⟨rfl, rfl⟩
      ·have HC := hide (cF_d (m := m) (by rw [← HQ.out]; omega))
       obtain ⟨r, hr⟩ : ∃ r, r = m % 10 := ⟨_, rfl⟩
       have hr1' : (m : Int) % 10 = (r : Int) := by omega
       have hr2' : (m : Int).tmod 10 = (r : Int) := by rw [Int.tmod_eq_emod_of_nonneg (by omega)]; exact hr1'
       rw [← hr] at HC
       clear hr
       subst h
       go_wp2_with (with_reducible refine idx_str 42 _ Tryd.underlying9 _ _ ⟨#[48, 49, 50, 51, 52, 53, 54, 55, 56, 57]⟩ r (charF m) rfl rfl HC.out ?_)
       go_meet
       exact ⟨rfl, rfl⟩
      ·have HC := hide (cF_m (m := m) (by rw [← HQ.out]; omega))
       obtain ⟨r, hr⟩ : ∃ r, r = m % 6 := ⟨_, rfl⟩
       have hr1' : (m : Int) % 6 = (r : Int) := by omega
       have hr2' : (m : Int).tmod 6 = (r : Int) := by rw [Int.tmod_eq_emod_of_nonneg (by omega)]; exact hr1'
       rw [← hr] at HC
       clear hr
       subst h
       go_wp2_with (with_reducible refine idx_str 47 _ Tryd.underlying9 _ _ ⟨#[32, 46, 44, 63, 39, 45]⟩ r (charF m) rfl rfl HC.out ?_)
       go_meet
       exact ⟨rfl, rfl⟩
      ·have HC := hide (cF_b (m := m) (by rw [← HQ.out]; omega))
       subst h
       go_wp2_with fail
       go_meet
       exact ⟨by rw [HC.out]; rfl, rfl⟩
      ·have HC := hide (cF_b (m := m) (by rw [← HQ.out]; omega))
       subst h
       go_wp2_with fail
       go_meet
       exact ⟨by rw [HC.out]; rfl, rfl⟩
      ·obtain ⟨c1, hc1⟩ := theS_get m
       have HC : Hid (charF m = charF m) := hide rfl
       have hcc := cF_c (m := m) (by rw [← HQ.out]; omega) HC00.out
       have hc97 := hcc.2
       have hce := hcc.1
       have HCE := hide hce
       clear hcc hce hc1
       have hce := HCE.out
       subst h
       go_wp2_with fail
       go_meet
       exact ⟨by rw [← HCE.out]; exact congrArg (Value.int .u8) (by have := c0.toNat_lt; omega), rfl⟩
      ·obtain ⟨h1, h2, h3, h4, h5, h6⟩ := h
       have HC := hide (cF_e (m := m) (by rw [← HQ.out]; exact ⟨h1, h2, h3, h4, h5, h6⟩) HC00.out)
       have e1 : ((q : Int) == 12) = false := by simp; omega
       have e2 : ((q : Int) == 13) = false := by simp; omega
       have e3 : ((q : Int) == 14) = false := by simp; omega
       have e4 : ((q : Int) == 15) = false := by simp; omega
       have e5 : ((q : Int) == 16) = false := by simp; omega
       have e6 : ((q : Int) == 17) = false := by simp; omega
       have f1 : decide ((q : Int) = 12) = false := by simp; omega
       have f2 : decide ((q : Int) = 13) = false := by simp; omega
       have f3 : decide ((q : Int) = 14) = false := by simp; omega
       have f4 : decide ((q : Int) = 15) = false := by simp; omega
       have f5 : decide ((q : Int) = 16) = false := by simp; omega
       have f6 : decide ((q : Int) = 17) = false := by simp; omega
       go_wp2_with fail
       go_meet
       exact ⟨by rw [HC.out], rfl⟩
     case rest =>
      obtain ⟨rfl, rfl⟩ := hcut
      obtain ⟨ch, hch⟩ : ∃ ch, Hid (charF m = ch) := ⟨_, hide rfl⟩
      rw [hch.out]
      go_upto_if 64 with (at_builtin; refine app_sy rfl _ _ rfl w w.heap.size ao S.length co _ rfl hO ⟨(g1 : Int), ch⟩ rfl (by omega) hb.size hb ?_; intro a1 c1 w1 hO1 _ hb1)
      obtain ⟨S1, hS1⟩ : ∃ S1, Hid (S ++ [(⟨(g1 : Int), ch⟩ : Sy)] = S1) := ⟨_, hide rfl⟩
      have hO1 : Own w1 w.heap.size 83 2 a1 S1.length c1 (S1.flatMap sc) := by
       rw [← hS1.out, List.length_append, List.flatMap_append, List.flatMap_singleton]; exact hO1
      have hS1l : S1.length = S.length + 1 := by rw [← hS1.out, List.length_append]; rfl
      rw [← hS1l]
      have hS124 : S1.length ≤ 24 := by omega
      clear hS1l hg0
      have hg1'' := HG1.out
      by_cases h18 : q = 18
      ·obtain ⟨wd, hwd⟩ : ∃ wd, words7[m % 7]? = some wd := ⟨_, List.getElem?_eq_getElem (show m % 7 < words7.length from Nat.mod_lt _ (by decide))⟩
       have HST : Hid (stepS S g0 m = outW S1 g1 (chars wd)) := hide (by
        unfold stepS
        rw [if_pos (by rw [← HQ.out]; exact h18), hg1'.out, hch.out, hS1.out, List.getD_eq_getElem?_getD, hwd]; rfl)
       obtain ⟨r, hr⟩ : ∃ r, r = m % 7 := ⟨_, rfl⟩
       have hr1' : (m : Int) % 7 = (r : Int) := by omega
       have hr2' : (m : Int).tmod 7 = (r : Int) := by rw [Int.tmod_eq_emod_of_nonneg (by omega)]; exact hr1'
       have hr7 : r < 7 := by omega
       rw [← hr] at hwd
       obtain ⟨w3, hw3⟩ : ∃ w3, w3 = w1.alloc (.cells (words7.map Value.string).toArray 9) := ⟨_, rfl⟩
       have hcl : w3.cell? ⟨w1.heap.size, r, none⟩ = some (.string wd) := by
        have := (Sl.fresh w1 9 1 7 (words7.map Value.string) rfl (by decide)).cell ⟨w1.heap.size, 0, none⟩ rfl r (.string wd) (by rw [List.getElem?_map, hwd]; rfl)
        rw [hw3]
        simpa [Addr.add_lit] using this
       have hO3 : Own w3 w.heap.size 83 2 a1 S1.length c1 (S1.flatMap sc) := by rw [hw3]; exact hO1.alloc _
       have hb3 : Below w.heap.size w w3 := by rw [hw3]; exact hb1.trans ((blo w1 _).mono hb1.size)
       have hwsz : wd.size ≤ 4 := words7_len wd (List.mem_of_getElem? hwd)
       rw [show w1.alloc (.cells #[.string ⟨#[116, 104, 101]⟩, .string ⟨#[97, 110, 100]⟩, .string ⟨#[105, 110, 103]⟩, .string ⟨#[116, 105, 111, 110]⟩, .string ⟨#[98, 117, 116]⟩, .string ⟨#[98, 101]⟩, .string ⟨#[115, 116]⟩] 9) = w3 from hw3.symm]
       subst h18
       clear hr hw3 hO1 hb1 hwd
       go_wp2_with fail
       go_loopg [3, 10] wd.size (fun gh o v w' => ∃ (k : Nat) (ak : Option Addr) (ck : Nat), k ≤ wd.size ∧ gh = wd.size - k ∧ S1.length + k ≤ 24 ∧ o = .slice ak (S1.length + k) ck ∧ v = .int .i64 (k : Int) ∧ Own w' w.heap.size 83 2 ak (S1.length + k) ck ((wordK S1 g1 (chars wd) k).flatMap sc) ∧ Below w.heap.size w w')
       case atStart => exact ⟨0, a1, c1, by omega, by omega, by omega, rfl, rfl, by rw [wordK_zero]; exact hO3, hb3⟩
       case round =>
        clear hO3 hb3 hcl
        obtain ⟨k, ak, ck, hk, hgk, hk24, rfl, rfl, hOk, hbk⟩ := hrel
        have HGK := hide hgk
        clear hgk
        have hfin : (k = wd.size ∨ S1.length + k = 24) → Hid (symsS (fun x => aroundF x 240) (l.drop (i + 1)) (wordK S1 g1 (chars wd) k) g1 = R) ∧ Hid ((wordK S1 g1 (chars wd) k).length = S1.length + k) := fun h => by
         refine ⟨hide ?_, hide (wordK_len (by rw [← size_chars]; exact hk))⟩
         rw [wordK_out hk24 (by rw [← size_chars]; exact h), ← HST.out]; exact HD2.out
        have HFIN := hide hfin
        clear hfin
        by_cases hkl : k < wd.size
        ·have e1 : decide (k < wd.size) = true := decide_eq_true hkl
         have e1' : decide ((k : Int) < (wd.size : Int)) = true := decide_eq_true (by omega)
         by_cases hkS : S1.length + k < 24
         ·have e2 : decide (S1.length + k < 24) = true := decide_eq_true hkS
          have e2' : decide ((S1.length : Int) + (k : Int) < 24) = true := decide_eq_true (by omega)
          have HWS := hide (wordK_step (S := S1) (g := g1) (chars_get hkl))
          go_wp2_with (at_builtin; refine app_sy rfl _ _ rfl w w.heap.size ak (S1.length + k) ck _ rfl hOk ⟨(g1 : Int), wd[k]⟩ rfl (by omega) hbk.size hbk ?_; intro a9 c9 w9 hO9 _ hb9)
          go_roundg (wd.size - (k + 1))
          case measure => have := HGK.out; omega
          case rel => exact ⟨k + 1, a9, c9, by omega, rfl, by omega, rfl, by go_num, by rw [HWS.out, List.flatMap_append, List.flatMap_singleton]; exact hO9, hb9⟩
         ·obtain ⟨f1, f2⟩ := HFIN.out (.inr (by omega))
          have e2 : decide (S1.length + k < 24) = false := decide_eq_false hkS
          have e2' : decide ((S1.length : Int) + (k : Int) < 24) = false := decide_eq_false (by omega)
          go_wp2_with fail
          go_roundg (n - (i + 1))
          case measure => have := HGI.out; omega
          case rel => exact ⟨i + 1, wordK S1 g1 (chars wd) k, g1, ak, ck, by omega, rfl, by rw [f2.out], rfl, by go_num, hg1'', by rw [f2.out]; exact hk24, f1, by rw [f2.out]; exact hOk, hbk⟩
        ·obtain rfl : k = wd.size := by omega
         obtain ⟨f1, f2⟩ := HFIN.out (.inl rfl)
         go_wp2_with fail
         go_roundg (n - (i + 1))
         case measure => have := HGI.out; omega
         case rel => exact ⟨i + 1, wordK S1 g1 (chars wd) wd.size, g1, ak, ck, by omega, rfl, by rw [f2.out], rfl, by go_num, hg1'', by rw [f2.out]; exact hk24, f1, by rw [f2.out]; exact hOk, hbk⟩
      ·have hst : Hid (S1 = stepS S g0 m) := hide (by
        unfold stepS
        rw [if_neg (by rw [← HQ.out]; exact h18), hg1'.out, hch.out]; exact hS1.out.symm)
       have HD3 : Hid (symsS (fun x => aroundF x 240) (l.drop (i + 1)) S1 g1 = R) := hide (by rw [hst.out]; exact HD2.out)
       have e1 : ((q : Int) == 18) = false := by simp; omega
       have e2 : decide ((q : Int) = 18) = false := by simp; omega
       have al := blo w1 (.cells (words7.map Value.string).toArray 9)
       have hO2 := hO1.below al
       have hb2 := hb1.trans (al.mono hb1.size)
       go_wp2_with fail
       go_roundg (n - (i + 1))
       case measure => have := HGI.out; omega
       case rel => exact ⟨i + 1, S1, g1, a1, c1, by omega, rfl, rfl, rfl, by go_num, hg1'', hS124, HD3, hO2, hb2⟩
   ·have hS : S.length = 24 := by omega
    have hfin := HD.out
    rw [symsS_full (by omega)] at hfin
    have d1 : decide (i < n) = true := decide_eq_true hil
    have d1' : decide ((i : Int) < (n : Int)) = true := decide_eq_true (by omega)
    have d2 : decide (S.length < 24) = false := decide_eq_false hSl
    have d2' : decide ((S.length : Int) < 24) = false := decide_eq_false (by omega)
    have HF := hide hfin
    clear hfin hS
    go_wp2_with fail
    go_ret
    rw [← HF.out]
    exact ⟨ao, co, rfl, hO, hb⟩
  ·obtain rfl : i = n := by omega
   have hfin := HD.out
   rw [List.drop_of_length_le (by rw [HNL.out]; exact Nat.le_refl _)] at hfin
   have HF : Hid (S = R) := hide hfin
   clear hfin
   go_wp2_with fail
   go_ret
   rw [← HF.out]
   exact ⟨ao, co, rfl, hO, hb⟩
end Go.Proofs.YtfagjaabladgpaaDoor
end

section
/- Chapter 06: what every law of the chapter takes, in one text. -/
namespace Go.Dx
open Go.RowKit
def FStn (n : Nat) (L : List Stp) (vs : List Value) (w : World) : Prop := ∃ a c ps, vs = [.slice a n c] ∧ Stl w a n c ps L
theorem FStn.below {n : Nat} {l : List Stp} {vs : List Value} {w w' : World} (h : FStn n l vs w) (hb : Below w.heap.size w w') : FStn n l vs w' := by obtain ⟨a, c, ps, h1, h2⟩ := h; exact ⟨a, c, ps, h1, h2.below hb⟩
theorem st_get {ps : List SH} {L : List Stp} (h : ps.map (·.1) = L) {k : Nat} {st : Stp} (hk : L[k]? = some st) : ∃ p, ps[k]? = some p ∧ p.1 = st := by
 rw [← h, List.getElem?_map] at hk
 cases hp : ps[k]? with
 | none => rw [hp] at hk; cases hk
 | some p => rw [hp] at hk; exact ⟨p, rfl, by simpa using hk⟩
end Go.Dx
namespace Go.Proofs.YtfagjaabladgpaaDoor
open Go.RowKit Go.Dx
theorem steps_of (H : TH) (t : Ta) (s : St) (l : List Sy) (i : Int) {L : List Stp} (hL : stepsL t s l i = L) (a : Option Addr) (n c : Nat) (hll : l.length ≤ 1000000) (w : World) (hT : TaIs w H t) (hs : Sl w 2 a n c (l.flatMap sc)) :
  Calls Tryd.prog 19 #[H.v, sv s, .slice a n c, .int .i64 i] w (StepsR L w) := by
 have := tab_Steps H t s l a n c i hll w hT hs
 rw [hL] at this
 exact this
end Go.Proofs.YtfagjaabladgpaaDoor
end
