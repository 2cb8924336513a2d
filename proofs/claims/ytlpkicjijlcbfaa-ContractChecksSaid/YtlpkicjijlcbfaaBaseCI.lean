/- The contracts of the functions that the law reaches, joined into one text. -/
import Derived.Test.YtlpkicjijlcbfaaBaseCH
import Derived.Deep.CutBlock
set_option linter.unusedVariables false
set_option linter.unusedSimpArgs false

section
/- Chapter 08: a certificate with one thing changed (Spoilt). -/
namespace Go.Dx
open Go.RowKit
structure CBd (C : List UInt8) (K : List Int) (A : Nums) (M : Nat) : Prop where
 c : C.length ≤ M
 k : K.length ≤ M
 a : A.length ≤ M
 r8 : ∀ r ∈ A, r.length ≤ 8
 bd : ∀ r ∈ A, ∀ v ∈ r, -1 ≤ v ∧ v ≤ 1000000
theorem list_of {P : Nat → Int → Prop} : ∀ n, (∀ j, j < n → ∃ v, P j v) → ∃ r : List Int, r.length = n ∧ ∀ j v, r[j]? = some v → P j v
 | 0, _ => ⟨[], rfl, fun j v h => by simp at h⟩
 | n + 1, h => by
  obtain ⟨r, h1, h2⟩ := list_of n (fun j hj => h j (by omega))
  obtain ⟨v, hv⟩ := h n (Nat.lt_succ_self n)
  refine ⟨r ++ [v], by simp [h1], fun j u hj => ?_⟩
  by_cases hl : j < r.length
  ·rw [List.getElem?_append_left hl] at hj
   exact h2 j u hj
  ·have h3 := (List.getElem?_eq_some_iff.1 hj).1
   rw [List.length_append, List.length_singleton] at h3
   obtain rfl : j = r.length := by omega
   rw [List.getElem?_append_right (Nat.le_refl _), Nat.sub_self] at hj
   injection hj with hj
   subst hj
   rw [h1]
   exact hv
def RowG (w : World) (ti : TypeId) (B : Nat) (h : Option Addr × Nat × Nat) : Prop :=
 h = (none, 0, 0) ∨ ∃ g cur, h.1 = some ⟨g, 0, none⟩ ∧ B ≤ g ∧ Box w g ti cur ∧ h.2.1 ≤ cur.length ∧ h.2.2 = cur.length ∧ cur.length ≤ maxLen ∧ h.2.1 ≤ 8 ∧ ∀ j, j < h.2.1 → ∃ v, cur[j]? = some (I64 v) ∧ -1 ≤ v ∧ v ≤ 1000000
theorem RowG.below {w w' : World} {ti : TypeId} {B : Nat} {x : Option Addr × Nat × Nat} (h : RowG w ti B x) (hb : Below w.heap.size w w') : RowG w' ti B x := by
 rcases h with h | ⟨g, cur, h1, h2, h3, h4⟩
 ·exact .inl h
 ·exact .inr ⟨g, cur, h1, h2, h3.under hb, h4⟩
theorem RowG.grown {w w' : World} {ti : TypeId} {B : Nat} {x : Option Addr × Nat × Nat} {row : Option Nat} (h : RowG w ti B x) (hg : w.grownBy w' row) (hr : ∀ k, B ≤ k → (∃ cur, Box w k ti cur) → some k ≠ row) : RowG w' ti B x := by
 rcases h with h | ⟨g, cur, h1, h2, h3, h4⟩
 ·exact .inl h
 ·exact .inr ⟨g, cur, h1, h2, h3.grown hg (hr g h2 ⟨cur, h3⟩), h4⟩
theorem RowG.low {w w' : World} {ti : TypeId} {B k : Nat} {x : Option Addr × Nat × Nat} (h : RowG w ti B x) (hg : w.grownBy w' (some k)) (hk : k < B) : RowG w' ti B x := h.grown hg (fun q hq _ e => by injection e with e; omega)
theorem RowG.own {w w' : World} {ti te : TypeId} {B B' sz n c : Nat} {a : Option Addr} {cs : List Value} {x : Option Addr × Nat × Nat} (h : RowG w ti B x) (ho : Own w B' te sz a n c cs) (hne : te ≠ ti) (hg : w.grownBy w' (a.map (·.block))) : RowG w' ti B x :=
 h.grown hg (fun k _ ⟨cur, hx⟩ => own_box ho hx hne)
theorem RowG.put {w w' : World} {ti : TypeId} {B g i : Nat} {x : Option Addr × Nat × Nat} {cur0 : List Value} {v : Int} (h : RowG w ti B x) (h0 : Box w g ti cur0) (h1 : Box w' g ti (cur0.set i (I64 v))) (hg : w.grownBy w' (some g)) (hv : -1 ≤ v ∧ v ≤ 1000000) : RowG w' ti B x := by
 rcases h with h | ⟨g', cur, k1, k2, k3, k4, k5, k6, k7, k8⟩
 ·exact .inl h
 ·by_cases e : g' = g
  ·subst e
   have e2 : cur = cur0 := by
    unfold Box at h0 k3
    rw [h0] at k3
    injection k3 with k3
    injection k3 with k3
    have := congrArg Array.toList k3
    simpa using this.symm
   subst e2
   refine .inr ⟨g', _, k1, k2, h1, by rw [List.length_set]; exact k4, by rw [List.length_set]; exact k5, by rw [List.length_set]; exact k6, k7, fun j hj => ?_⟩
   by_cases ej : i = j
   ·subst ej
    exact ⟨v, by rw [List.getElem?_set_self (by omega)], hv⟩
   ·rw [List.getElem?_set_ne ej]
    exact k8 j hj
  ·exact .inr ⟨g', cur, k1, k2, k3.grown hg (fun h => by injection h with h; exact e h), k4, k5, k6, k7, k8⟩
theorem RowG.cut {w : World} {ti : TypeId} {B m : Nat} {x : Option Addr × Nat × Nat} (h : RowG w ti B x) (hm : m ≤ x.2.1) : RowG w ti B (x.1, m, x.2.2) := by
 rcases h with h | ⟨g', cur, k1, k2, k3, k4, k5, k6, k7, k8⟩
 ·subst h
  obtain rfl : m = 0 := Nat.le_zero.1 hm
  exact .inl rfl
 ·exact .inr ⟨g', cur, k1, k2, k3, Nat.le_trans hm k4, k5, k6, Nat.le_trans hm k7, fun j hj => k8 j (Nat.lt_of_lt_of_le hj hm)⟩
theorem RowG.sl {w : World} {ti : TypeId} {B : Nat} {x : Option Addr × Nat × Nat} (h : RowG w ti B x) : ∃ r : List Int, Sl w 1 x.1 x.2.1 x.2.2 (r.map I64) ∧ r.length ≤ 8 ∧ ∀ v ∈ r, -1 ≤ v ∧ v ≤ 1000000 := by
 rcases h with h | ⟨g, cur, k1, k2, k3, k4, k5, k6, k7, k8⟩
 ·subst h
  exact ⟨[], Sl.empty _ _, by decide, fun v hv => by cases hv⟩
 ·obtain ⟨r, h1, h2⟩ := list_of (P := fun j v => cur[j]? = some (I64 v) ∧ -1 ≤ v ∧ v ≤ 1000000) x.2.1 k8
  refine ⟨r, ⟨by rw [List.length_map, h1, Nat.mul_one], by rw [k5]; exact k4, by rw [k5]; exact k6, fun e => (by rw [k1] at e; cases e), fun p hp j u hj => ?_⟩, by rw [h1]; exact k7, fun v hv => ?_⟩
  ·rw [k1] at hp
   injection hp with hp
   subst hp
   rw [List.getElem?_map] at hj
   cases hrj : r[j]? with
   | none => rw [hrj] at hj; cases hj
   | some v =>
    rw [hrj] at hj
    injection hj with hj
    subst hj
    rw [Addr.add_lit, Nat.zero_add]
    exact k3.at_ (h2 j v hrj).1
  ·obtain ⟨j, hj⟩ := List.getElem?_of_mem hv
   exact (h2 j v hj).2
theorem own_parts {w : World} {B : Nat} {e : TypeId} {a : Option Addr} {n c : Nat} {cs : List Value} (h : Own w B e 1 a n c cs) (h0 : a ≠ none) : ∃ g cur, a = some ⟨g, 0, none⟩ ∧ B ≤ g ∧ Box w g e cur ∧ n ≤ cur.length ∧ c = cur.length ∧ cur.length ≤ maxLen ∧ cur.take n = cs := by
 rcases h.2 with ⟨h1, _⟩ | ⟨g, cap, cur, h1, h2, h3, h4, h5, h6, h7⟩
 ·injection h1 with h1
  exact absurd h1 h0
 ·injection h1 with h1 h8 h9
  refine ⟨g, cur.toList, h1, h2, by unfold Box; rw [Array.toArray_toList]; exact h3, by rw [Array.length_toList, h6]; omega, by rw [Array.length_toList, h6, Nat.mul_one]; exact h9, by rw [Array.length_toList, h6, Nat.mul_one]; exact h5, by rw [Nat.mul_one] at h7; exact h7⟩
theorem own_of {w : World} {B g n : Nat} {e : TypeId} {cur : List Value} (hB : B ≤ g) (h : Box w g e cur) (hn : n ≤ cur.length) (hm : cur.length ≤ maxLen) : Own w B e 1 (some ⟨g, 0, none⟩) n cur.length (cur.take n) :=
 ⟨by rw [List.length_take]; omega, .inr ⟨g, cur.length, cur.toArray, rfl, hB, h, hn, hm, by simp, by simp⟩⟩
theorem RowG.of_own {w : World} {B : Nat} {ti : TypeId} {a : Option Addr} {n c : Nat} {r : List Int} (h : Own w B ti 1 a n c (r.map I64)) (h8 : r.length ≤ 8) (hr : ∀ v ∈ r, -1 ≤ v ∧ v ≤ 1000000) : RowG w ti B (a, n, c) := by
 have hn : n = r.length := h.sl.n_eq
 cases a with
 | none =>
  left
  have h1 := h.sl.nil rfl
  have h2 := h.sl.le
  rw [h1, show n = 0 by omega]
 | some p =>
  obtain ⟨g, cur, k1, k2, k3, k4, k5, k6, k7⟩ := own_parts h (by simp)
  refine .inr ⟨g, cur, k1, k2, k3, k4, k5, k6, by show n ≤ 8; omega, fun j hj => ?_⟩
  have hj : j < n := hj
  obtain ⟨v, hv⟩ : ∃ v, r[j]? = some v := ⟨_, List.getElem?_eq_getElem (by omega)⟩
  refine ⟨v, ?_, hr v (List.mem_of_getElem? hv)⟩
  have h1 : (cur.take n)[j]? = some (I64 v) := by rw [k7, List.getElem?_map, hv]; rfl
  rw [List.getElem?_take_of_lt hj] at h1
  exact h1
theorem rows_ng {w : World} {ti : TypeId} {B : Nat} {a : Option Addr} {n c : Nat} : ∀ {ks : List (Option Addr × Nat × Nat)}, (∀ h ∈ ks, RowG w ti B h) → ∃ A : Nums, A.length = ks.length ∧ (∀ r ∈ A, r.length ≤ 8) ∧ (∀ r ∈ A, ∀ v ∈ r, -1 ≤ v ∧ v ≤ 1000000) ∧ ∀ (i : Nat) (h : Option Addr × Nat × Nat) (r : List Int), ks[i]? = some h → A[i]? = some r → Sl w 1 h.1 h.2.1 h.2.2 (r.map I64)
 | [], _ => ⟨[], rfl, fun r h => (by cases h), fun r h => (by cases h), fun i h r hi => (by simp at hi)⟩
 | x :: ks, h => by
  obtain ⟨A, h1, h2, h3, h4⟩ := rows_ng (a := a) (n := n) (c := c) (fun y hy => h y (List.mem_cons_of_mem _ hy))
  obtain ⟨r, k1, k2, k3⟩ := (h x List.mem_cons_self).sl
  refine ⟨r :: A, by simp [h1], fun q hq => ?_, fun q hq => ?_, fun i y q hi hq => ?_⟩
  ·rcases List.mem_cons.1 hq with rfl | hq
   ·exact k2
   ·exact h2 q hq
  ·rcases List.mem_cons.1 hq with rfl | hq
   ·exact k3
   ·exact h3 q hq
  ·cases i with
   | zero =>
    simp only [List.getElem?_cons_zero, Option.some.injEq] at hi hq
    subst hi; subst hq
    exact k1
   | succ i =>
    simp only [List.getElem?_cons_succ] at hi hq
    exact h4 i y q hi hq
def OutS (w : World) (rc ti tb tl : TypeId) (B B2 gO M : Nat) : Prop := ∃ (o1 : Option Addr) (k1 x1 : Nat) (o2 : Option Addr) (k2 x2 : Nat) (o3 : Option Addr) (k3 x3 : Nat) (C : List UInt8) (K : List Int) (ks : List (Option Addr × Nat × Nat)),
 Box w gO rc [.slice o1 k1 x1, .slice o2 k2 x2, .slice o3 k3 x3] ∧ Own w B tb 1 o1 k1 x1 (C.map B8) ∧ Own w B ti 1 o2 k2 x2 (K.map I64) ∧ Own w B2 tl 1 o3 k3 x3 (ks.map hdv) ∧ (∀ h ∈ ks, RowG w ti B2 h) ∧ C.length ≤ M + 1 ∧ K.length ≤ M + 1 ∧ ks.length ≤ M
end Go.Dx

namespace Go.Proofs.Ytlpkicjijlcbfaa
open Go.RowKit Go.Dx Go.Al
theorem size_hdd : (Try.prog.info? 37).map (·.size) = some 1 := by kernel_rfl
set_option maxRecDepth 100000 in
set_option maxHeartbeats 16000000 in
theorem ref8_Spoilt (C : List UInt8) (K : List Int) (A : Nums) (v : Value) (at_ how by_ : Int) (M : Nat) (w : World) (hc : Ce w v C K A) (hB : CBd C K A M) (hM : M ≤ 900000)
  (hat : -9223372036854775808 ≤ at_ ∧ at_ ≤ 9223372036854775807) (hho : -9223372036854775808 ≤ how ∧ how ≤ 9223372036854775807) (hby : -9223372036854775808 ≤ by_ ∧ by_ ≤ 9223372036854775807) :
  Calls Try.prog 30 #[v, .int .i64 at_, .int .i64 how, .int .i64 by_] w fun e w' => ∃ v' C' K' A', e = .returned v' ∧ Ce w' v' C' K' A' ∧ CBd C' K' A' (M + 1) ∧ Below w.heap.size w w' := by
 obtain ⟨a1, n1, c1, a2, n2, c2, a3, n3, c3, hs, rfl, hC, hK, hA⟩ := hc
 have HAT := hide hat
 have HHO := hide hho
 have HBY := hide hby
 have HBD := hide hB
 clear hat hho hby hB
 have hn1 : n1 = C.length := hC.n_eq
 have hn2 : n2 = K.length := hK.n_eq
 have hn3 : n3 = A.length := hA.n_eq
 have hm1 : n1 ≤ 900000 := by have := HBD.out.c; omega
 have hm2 : n2 ≤ 900000 := by have := HBD.out.k; omega
 have hm3 : n3 ≤ 900000 := by have := HBD.out.a; omega
 have HN1 := hide hn1
 have HN2 := hide hn2
 have HN3 := hide hn3
 clear hn1 hn2 hn3
 have Y1 := (Box.new w 43 #[.slice a1 n1 c1, .slice a2 n2 c2, .slice a3 n3 c3]).alloc (.cells #[.slice none 0 0, .slice none 0 0, .slice none 0 0] 43)
 have Y2 := Box.new (w.alloc (.cells #[.slice a1 n1 c1, .slice a2 n2 c2, .slice a3 n3 c3] 43)) 43 #[.slice none 0 0, .slice none 0 0, .slice none 0 0]
 have hba := ((Below.refl w.heap.size w).alloc (Nat.le_refl _) (.cells #[.slice a1 n1 c1, .slice a2 n2 c2, .slice a3 n3 c3] 43)).alloc (by simp) (.cells #[.slice none 0 0, .slice none 0 0, .slice none 0 0] 43)
 simp only [World.size_alloc] at Y2
 go_enter Try.func30, Try.ntmps30
 go_upto_region 1 with fail
 generalize (w.alloc (.cells _ 43)).alloc (.cells _ 43) = w2 at *
 have hC2 := hC.below hba
 have hK2 := hK.below hba
 have hA2 := hA.below hba
 have Y1 : Box w2 w.heap.size 43 [.slice a1 n1 c1, .slice a2 n2 c2, .slice a3 n3 c3] := Y1
 have Y2 : Box w2 (w.heap.size + 1) 43 [.slice none 0 0, .slice none 0 0, .slice none 0 0] := Y2
 obtain ⟨g4, hg4⟩ : ∃ g, Hid (w.heap.size = g) := ⟨_, hide rfl⟩
 obtain ⟨g8, hg8⟩ : ∃ g, Hid (w.heap.size + 1 = g) := ⟨_, hide rfl⟩
 obtain ⟨B, hBB⟩ : ∃ B, Hid (w2.heap.size = B) := ⟨_, hide rfl⟩
 rw [hg8.out] at Y2 ⊢
 rw [hg4.out] at Y1 ⊢
 have h4B : g4 < B := by rw [← hBB.out]; exact Y1.lt
 have h8B : g8 < B := by rw [← hBB.out]; exact Y2.lt
 have hwB : w.heap.size ≤ B := by rw [← hBB.out]; exact hba.size
 have hw8 : w.heap.size ≤ g8 := by have := hg8.out; omega
 have HBA := hide hba
 clear hC hK hA
 refine wp_region_free 14 [⟨0, 13, [13], fun vs _ => vs = [.pointer (some ⟨g4, 0, none⟩)]⟩, ⟨1, 14, [14], fun vs _ => vs = [.slice a1 n1 c1]⟩, ⟨2, 15, [15], fun vs _ => vs = [.pointer (some ⟨g4, 0, none⟩)]⟩, ⟨3, 16, [16], fun vs _ => vs = [.slice a1 n1 c1]⟩, ⟨4, 17, [17], fun vs _ => vs = [.int .i64 (n1 : Int)]⟩, ⟨5, 18, [18], fun vs w => ∃ a c, vs = [.slice a n1 c] ∧ Go.Dx.Own w B 5 1 a n1 c (C.map B8)⟩, ⟨6, 19, [19], fun vs _ => vs = [.pointer (some ⟨g4, 1, none⟩)]⟩, ⟨7, 20, [20], fun vs _ => vs = [.slice a2 n2 c2]⟩, ⟨8, 21, [21], fun vs _ => vs = [.pointer (some ⟨g4, 1, none⟩)]⟩, ⟨9, 22, [22], fun vs _ => vs = [.slice a2 n2 c2]⟩, ⟨10, 23, [23], fun vs _ => vs = [.int .i64 (n2 : Int)]⟩, ⟨11, 24, [24], fun vs w => ∃ a c, vs = [.slice a n2 c] ∧ Go.Dx.Own w B 3 1 a n2 c (K.map I64)⟩, ⟨12, 25, [25], fun vs w => ∃ o1 x1 o2 x2, vs = [.agg #[.slice o1 n1 x1, .slice o2 n2 x2, .slice none 0 0]] ∧ Go.Dx.Own w B 5 1 o1 n1 x1 (C.map B8) ∧ Go.Dx.Own w B 3 1 o2 n2 x2 (K.map I64)⟩, ⟨13, 9, [9], fun vs w => ∃ g, vs = [.pointer (some ⟨g, 0, none⟩)] ∧ B ≤ g ∧ Box w g 43 [.slice none 0 0, .slice none 0 0, .slice none 0 0]⟩] (by kernel_rfl) (by kernel_rfl) ?_ ?_ ?_
 ·simp only [All]
  refine ⟨fun _ _ _ _ h => h, fun _ _ _ _ h => h, fun _ _ _ _ h => h, fun _ _ _ _ h => h, fun _ _ _ _ h => h, ?_, fun _ _ _ _ h => h, fun _ _ _ _ h => h, fun _ _ _ _ h => h, fun _ _ _ _ h => h, fun _ _ _ _ h => h, ?_, ?_, ?_, trivial⟩
  ·exact fun vs w1 w2 hb ⟨a, c, h1, h2⟩ => ⟨a, c, h1, h2.below hb⟩
  ·exact fun vs w1 w2 hb ⟨a, c, h1, h2⟩ => ⟨a, c, h1, h2.below hb⟩
  ·exact fun vs w1 w2 hb ⟨a, c, a2, c2, h1, h2, h3⟩ => ⟨a, c, a2, c2, h1, h2.below hb, h3.below hb⟩
  ·exact fun vs w1 w2 hb ⟨g, h1, h2, h3⟩ => ⟨g, h1, h2, h3.under hb⟩
 ·simp only [All]
  refine ⟨?_, ?_, ?_, ?_, ?_, ?_, ?_, ?_, ?_, ?_, ?_, ?_, ?_, ?_, trivial⟩
  ·intro o ho a' w' hb hfr hdep; obtain rfl := oj ho
   have g4 : a'.tmps[4]?.getD undef = .pointer (some ⟨g4, 0, none⟩) := by simpa using hfr 4 (by kernel_rfl)
   clear ho hfr hdep; go_wp2_with fail; exact ⟨rfl, _, rfl, br, rfl⟩
  ·intro o ho a' w' hb hfr hdep; obtain rfl := oj ho
   have g13 : a'.tmps[13]?.getD undef = .pointer (some ⟨g4, 0, none⟩) := by simpa using hdep 0 _ rfl (by kernel_rfl)
   clear ho hfr hdep; have hcl := (Y1.under hb).at_ (j := 0) rfl
   go_wp2_with fail; exact ⟨rfl, _, rfl, br, rfl⟩
  ·intro o ho a' w' hb hfr hdep; obtain rfl := oj ho
   have g4 : a'.tmps[4]?.getD undef = .pointer (some ⟨g4, 0, none⟩) := by simpa using hfr 4 (by kernel_rfl)
   clear ho hfr hdep; go_wp2_with fail; exact ⟨rfl, _, rfl, br, rfl⟩
  ·intro o ho a' w' hb hfr hdep; obtain rfl := oj ho
   have g15 : a'.tmps[15]?.getD undef = .pointer (some ⟨g4, 0, none⟩) := by simpa using hdep 2 _ rfl (by kernel_rfl)
   clear ho hfr hdep; have hcl := (Y1.under hb).at_ (j := 0) rfl
   go_wp2_with fail; exact ⟨rfl, _, rfl, br, rfl⟩
  ·intro o ho a' w' hb hfr hdep; obtain rfl := oj ho
   have g16 : a'.tmps[16]?.getD undef = .slice a1 n1 c1 := by simpa using hdep 3 _ rfl (by kernel_rfl)
   clear ho hfr hdep; go_wp2_with fail; exact ⟨rfl, _, rfl, br, rfl⟩
  ·intro o ho a' w' hb hfr hdep; obtain rfl := oj ho
   have g14 : a'.tmps[14]?.getD undef = .slice a1 n1 c1 := by simpa using hdep 1 _ rfl (by kernel_rfl)
   have g17 : a'.tmps[17]?.getD undef = .int .i64 (n1 : Int) := by simpa using hdep 4 _ rfl (by kernel_rfl)
   clear ho hfr hdep; have hfw := ref_Few C n1 a1 n1 c1 w' (hC2.below hb) (by omega)
   unfold Gives at hfw
   rw [List.take_of_length_le (by have := HN1.out; omega), ← HN1.out] at hfw
   have hf := hide hfw
   clear hfw
   have hsz := hb.size
   go_wp2_with (go_at_call 65; refine hf.out.mono ?_; rintro e w3 ⟨a, c, rfl, hO, h3⟩)
   exact ⟨rfl, _, rfl, h3, a, c, rfl, hO.mono (by rw [← hBB.out]; exact hsz)⟩
  ·intro o ho a' w' hb hfr hdep; obtain rfl := oj ho
   have g4 : a'.tmps[4]?.getD undef = .pointer (some ⟨g4, 0, none⟩) := by simpa using hfr 4 (by kernel_rfl)
   clear ho hfr hdep; go_wp2_with fail; exact ⟨rfl, _, rfl, br, rfl⟩
  ·intro o ho a' w' hb hfr hdep; obtain rfl := oj ho
   have g19 : a'.tmps[19]?.getD undef = .pointer (some ⟨g4, 1, none⟩) := by simpa using hdep 6 _ rfl (by kernel_rfl)
   clear ho hfr hdep; have hcl := (Y1.under hb).at_ (j := 1) rfl
   go_wp2_with fail; exact ⟨rfl, _, rfl, br, rfl⟩
  ·intro o ho a' w' hb hfr hdep; obtain rfl := oj ho
   have g4 : a'.tmps[4]?.getD undef = .pointer (some ⟨g4, 0, none⟩) := by simpa using hfr 4 (by kernel_rfl)
   clear ho hfr hdep; go_wp2_with fail; exact ⟨rfl, _, rfl, br, rfl⟩
  ·intro o ho a' w' hb hfr hdep; obtain rfl := oj ho
   have g21 : a'.tmps[21]?.getD undef = .pointer (some ⟨g4, 1, none⟩) := by simpa using hdep 8 _ rfl (by kernel_rfl)
   clear ho hfr hdep; have hcl := (Y1.under hb).at_ (j := 1) rfl
   go_wp2_with fail; exact ⟨rfl, _, rfl, br, rfl⟩
  ·intro o ho a' w' hb hfr hdep; obtain rfl := oj ho
   have g22 : a'.tmps[22]?.getD undef = .slice a2 n2 c2 := by simpa using hdep 9 _ rfl (by kernel_rfl)
   clear ho hfr hdep; go_wp2_with fail; exact ⟨rfl, _, rfl, br, rfl⟩
  ·intro o ho a' w' hb hfr hdep; obtain rfl := oj ho
   have g20 : a'.tmps[20]?.getD undef = .slice a2 n2 c2 := by simpa using hdep 7 _ rfl (by kernel_rfl)
   have g23 : a'.tmps[23]?.getD undef = .int .i64 (n2 : Int) := by simpa using hdep 10 _ rfl (by kernel_rfl)
   clear ho hfr hdep; have hfw := ref_TakeI K n2 a2 n2 c2 w' (hK2.below hb) (by omega)
   rw [List.take_of_length_le (by have := HN2.out; omega), ← HN2.out] at hfw
   have hf := hide hfw
   clear hfw
   have hsz := hb.size
   go_wp2_with (go_at_call 22; refine hf.out.mono ?_; rintro e w3 ⟨a, c, rfl, hO, h3⟩)
   exact ⟨rfl, _, rfl, h3, a, c, rfl, hO.mono (by rw [← hBB.out]; exact hsz)⟩
  ·intro o ho a' w' hb hfr hdep; obtain rfl := oj ho
   obtain ⟨o1, x1, g18, O1⟩ := hdep 5 _ rfl (by kernel_rfl)
   simp at g18
   obtain ⟨o2, x2, g24, O2⟩ := hdep 11 _ rfl (by kernel_rfl)
   simp at g24
   clear ho hfr hdep; go_wp2_with fail; exact ⟨rfl, _, rfl, br, o1, x1, o2, x2, rfl, O1, O2⟩
  ·intro o ho a' w' hb hfr hdep; obtain rfl := oj ho
   clear ho hfr hdep; have hsz := hb.size
   have hBw : B ≤ w'.heap.size := by rw [← hBB.out]; exact hsz
   have hnw := Box.new w' 43 #[.slice none 0 0, .slice none 0 0, .slice none 0 0]
   go_wp2_with fail
   exact ⟨rfl, _, rfl, blo _ _, _, rfl, hBw, hnw⟩
 ·intro gg w4 hbl hp'
  obtain ⟨o1, x1, o2, x2, e25, hO14, hO24⟩ := hp' 12 _ rfl
  obtain ⟨gO, e9, hBO, hN4⟩ := hp' 13 _ rfl
  clear hp'
  simp at e25 e9
  simp only [List.drop_succ_cons, List.drop_zero, List.map_cons, List.map_nil, putAll, Act.put, List.setIfInBounds_toArray, List.set_cons_succ, List.set_cons_zero, List.cons_append, List.nil_append, e25, e9]
  clear e25 e9
  have Y14 := Y1.under hbl
  have Y24 := Y2.under hbl
  have hb24 := hba.trans (hbl.mono hba.size)
  have hBw4 : B ≤ w4.heap.size := by rw [← hBB.out]; exact hbl.size
  clear Y1 Y2 hC2 hK2 hba
  go_wp2_with (with_reducible refine hold_store ?_)
  refine hide ?_
  refine store_all 43 _ _ 43 gO [.slice none 0 0, .slice none 0 0, .slice none 0 0] [.slice o1 n1 x1, .slice o2 n2 x2, .slice none 0 0] (.agg #[.slice o1 n1 x1, .slice o2 n2 x2, .slice none 0 0]) size_rcert hN4 rfl rfl rfl rfl (by simp [Value.oneCell']) ?_; intro w5 HO5 gb5 zb5
  obtain ⟨B2, hB2e⟩ : ∃ g, Hid (w5.heap.size = g) := ⟨_, hide rfl⟩
  have hgB : gO < B2 := by rw [← hB2e.out]; exact HO5.lt
  have hb45 : Below gO w4 w5 := (Below.refl _ _).grown gb5 (by have := hN4.lt; omega) (fun q hq => by cases hq; exact Nat.le_refl _)
  have hO15 := hO14.kept gb5 (fun p hp e => own_box hO14 hN4 (by decide) (by rw [hp]; exact e.symm))
  have hO25 := hO24.kept gb5 (fun p hp e => own_box hO24 hN4 (by decide) (by rw [hp]; exact e.symm))
  have HY4 := hide (Y14.grown gb5 (by intro e; injection e with e; omega))
  have HY8 := hide (Y24.grown gb5 (by intro e; injection e with e; omega))
  have HA2 := hide hA2
  have HB2 : Hid (Below B w2 w5) := hide (by rw [← hBB.out]; exact hbl.trans (hb45.mono (by rw [hBB.out]; exact hBO)))
  have hb25 := hb24.trans (hb45.mono (Nat.le_trans hwB hBO))
  have h2lt : Hid (∀ q, o2 = some q → q.block < B2) := hide (fun q hq => by
   subst hq
   have h1 := hO24.base.2
   have h2 := gb5.size
   have h3 := hB2e.out
   omega)
  have HB25 := hide hb25
  have hO35 : Go.Dx.Own w5 B2 22 1 none 0 0 (([] : List (Option Addr × Nat × Nat)).map hdv) := Go.Dx.Own.nil _ _ _ _
  clear Y14 Y24 hA2 hbl hb24 hb45 hO14 hO24 hBw4 hb25 gb5 zb5 hN4
  have hb55 : Below B w5 w5 := Below.refl _ _
  have hB2w : B2 ≤ w5.heap.size := by rw [hB2e.out]; exact Nat.le_refl _
  go_wp2_with fail
  go_loopg [10] n3 (fun gh v10 w' => ∃ (i : Nat) (o3 : Option Addr) (x3 : Nat) (ks : List (Option Addr × Nat × Nat)), i ≤ n3 ∧ gh = n3 - i ∧ v10 = .int .i64 (i : Int) ∧ ks.length = i ∧ Box w' gO 43 [.slice o1 n1 x1, .slice o2 n2 x2, .slice o3 i x3] ∧ Go.Dx.Own w' B 5 1 o1 n1 x1 (C.map B8) ∧ Go.Dx.Own w' B 3 1 o2 n2 x2 (K.map I64) ∧ Go.Dx.Own w' B2 22 1 o3 i x3 (ks.map hdv) ∧ Hid (∀ h ∈ ks, RowG w' 3 B2 h) ∧ Below gO w5 w' ∧ B2 ≤ w'.heap.size)
  case atStart => exact ⟨0, none, 0, [], Nat.zero_le _, rfl, rfl, rfl, HO5, hO15, hO25, hO35, hide (fun h hh => by cases hh), Below.refl _ _, hB2w⟩
  case round =>
   clear HO5 hO15 hO25 hO35 hb55 hB2w
   obtain ⟨i, o3, x3, ks, hi, hgh, rfl, hkl, hO, hO1, hO2, hO3, hrg, hb, hBw⟩ := hrel
   have HGH := hide hgh
   have HKL := hide hkl
   clear hgh hkl
   have hbB : Below B w5 wr := ⟨hb.os, hb.tape, hb.output, hb.size, fun k hk => hb.block k (by omega)⟩
   have Y4r : Box wr g4 43 [.slice a1 n1 c1, .slice a2 n2 c2, .slice a3 n3 c3] := HY4.out.below hbB h4B
   have q4 : wr.cell? ⟨g4, 2, none⟩ = some (.slice a3 n3 c3) := Y4r.at_ rfl
   by_cases hin : i < n3
   ·have d0 : decide ((i : Int) < (n3 : Int)) = true := decide_eq_true (by omega)
    have hAr := HA2.out.below (show Below w2.heap.size w2 wr by rw [hBB.out]; exact HB2.out.trans hbB)
    obtain ⟨r, hr⟩ : ∃ r, A[i]? = some r := ⟨_, List.getElem?_eq_getElem (by have := HN3.out; omega)⟩
    obtain ⟨⟨y1, y2, y3⟩, hx⟩ : ∃ h, hs[i]? = some h := ⟨_, List.getElem?_eq_getElem (by rw [hAr.len]; have := HN3.out; omega)⟩
    have hrow := hAr.row i _ r hx hr
    have hr8 := HBD.out.r8 r (List.mem_of_getElem? hr)
    have hrb := HBD.out.bd r (List.mem_of_getElem? hr)
    have HR8 := hide hr8
    have HRB := hide hrb
    have hy2 : y2 = r.length := hrow.n_eq
    have HYN := hide hy2
    have hux : Hid ((hs.map hdv)[i]? = some (.slice y1 y2 y3)) := hide (by rw [List.getElem?_map, hx]; rfl)
    have hy28 : y2 ≤ 8 := by omega
    have htx := hAr.top
    clear hr hx hr8 hrb hy2 hAr
    go_wp2_with fail
    refine wp_region_free 15 [⟨0, 33, [33], fun vs _ => vs = [.pointer (some ⟨gO, 2, none⟩)]⟩, ⟨1, 34, [34], fun vs _ => vs = [.slice o3 i x3]⟩, ⟨2, 35, [35], fun vs _ => vs = [.pointer (some ⟨g4, 2, none⟩)]⟩, ⟨3, 36, [36], fun vs _ => vs = [.slice a3 n3 c3]⟩, ⟨4, 37, [37], fun vs _ => vs = [.int .i64 (i : Int)]⟩, ⟨5, 38, [38], PtL (.slice y1 y2 y3)⟩, ⟨6, 39, [39], fun vs _ => vs = [.slice y1 y2 y3]⟩, ⟨7, 40, [40], fun vs _ => vs = [.pointer (some ⟨g4, 2, none⟩)]⟩, ⟨8, 41, [41], fun vs _ => vs = [.slice a3 n3 c3]⟩, ⟨9, 42, [42], fun vs _ => vs = [.int .i64 (i : Int)]⟩, ⟨10, 43, [43], PtL (.slice y1 y2 y3)⟩, ⟨11, 44, [44], fun vs _ => vs = [.slice y1 y2 y3]⟩, ⟨12, 45, [45], fun vs _ => vs = [.int .i64 (y2 : Int)]⟩, ⟨13, 46, [46], fun vs w => ∃ a c, vs = [.slice a y2 c] ∧ Go.Dx.Own w B2 3 1 a y2 c (r.map I64)⟩, ⟨14, 47, [47], fun vs w => ∃ g a c, vs = [.slice (some ⟨g, 0, none⟩) 1 1] ∧ Box w g 22 [.slice a y2 c] ∧ Go.Dx.Own w B2 3 1 a y2 c (r.map I64)⟩] (by kernel_rfl) (by kernel_rfl) ?_ ?_ ?_
    ·simp only [All]
     refine ⟨fun _ _ _ _ h => h, fun _ _ _ _ h => h, fun _ _ _ _ h => h, fun _ _ _ _ h => h, fun _ _ _ _ h => h, ?_, fun _ _ _ _ h => h, fun _ _ _ _ h => h, fun _ _ _ _ h => h, fun _ _ _ _ h => h, ?_, fun _ _ _ _ h => h, fun _ _ _ _ h => h, ?_, ?_, trivial⟩
     ·rintro vs w1 w2 hb ⟨b, o, h1, h2⟩
      exact ⟨b, o, h1, cell_blw8 h2 hb⟩
     ·rintro vs w1 w2 hb ⟨b, o, h1, h2⟩
      exact ⟨b, o, h1, cell_blw8 h2 hb⟩
     ·exact fun vs w1 w2 hb ⟨a, c, h1, h2⟩ => ⟨a, c, h1, h2.below hb⟩
     ·exact fun vs w1 w2 hb ⟨g, a, c, h1, h2, h3⟩ => ⟨g, a, c, h1, h2.under hb, h3.below hb⟩
    ·simp only [All]
     refine ⟨?_, ?_, ?_, ?_, ?_, ?_, ?_, ?_, ?_, ?_, ?_, ?_, ?_, ?_, ?_, trivial⟩
     ·intro o ho a' w' hb hfr hdep; obtain rfl := oj ho
      have g9 : a'.tmps[9]?.getD undef = .pointer (some ⟨gO, 0, none⟩) := by simpa using hfr 9 (by kernel_rfl)
      clear ho hfr hdep; go_wp2_with fail; exact ⟨rfl, _, rfl, br, rfl⟩
     ·intro o ho a' w' hb hfr hdep; obtain rfl := oj ho
      have g33 : a'.tmps[33]?.getD undef = .pointer (some ⟨gO, 2, none⟩) := by simpa using hdep 0 _ rfl (by kernel_rfl)
      clear ho hfr hdep; have hcl := (hO.under hb).at_ (j := 2) rfl
      go_wp2_with fail; exact ⟨rfl, _, rfl, br, rfl⟩
     ·intro o ho a' w' hb hfr hdep; obtain rfl := oj ho
      have g4 : a'.tmps[4]?.getD undef = .pointer (some ⟨g4, 0, none⟩) := by simpa using hfr 4 (by kernel_rfl)
      clear ho hfr hdep; go_wp2_with fail; exact ⟨rfl, _, rfl, br, rfl⟩
     ·intro o ho a' w' hb hfr hdep; obtain rfl := oj ho
      have g35 : a'.tmps[35]?.getD undef = .pointer (some ⟨g4, 2, none⟩) := by simpa using hdep 2 _ rfl (by kernel_rfl)
      clear ho hfr hdep; have hcl := (Y4r.under hb).at_ (j := 2) rfl
      go_wp2_with fail; exact ⟨rfl, _, rfl, br, rfl⟩
     ·intro o ho a' w' hb hfr hdep; obtain rfl := oj ho
      have g10 : a'.tmps[10]?.getD undef = .int .i64 (i : Int) := by simpa using hfr 10 (by kernel_rfl)
      clear ho hfr hdep; go_wp2_with fail; exact ⟨rfl, _, rfl, br, rfl⟩
     ·intro o ho a' w' hb hfr hdep; obtain rfl := oj ho
      have g36 : a'.tmps[36]?.getD undef = .slice a3 n3 c3 := by simpa using hdep 3 _ rfl (by kernel_rfl)
      have g37 : a'.tmps[37]?.getD undef = .int .i64 (i : Int) := by simpa using hdep 4 _ rfl (by kernel_rfl)
      clear ho hfr hdep; refine idx_ii 38 _ _ a3 n3 c3 _ (by show a'.tmps.getD 36 undef = _; simpa using g36) (htx.below hb) .i64 _ i (by show a'.tmps.getD 37 undef = _; simpa using g37) rfl _ hux.out ?_
      intro b o hcell hbo
      exact ⟨rfl, _, rfl, br, b, o, rfl, hcell⟩
     ·intro o ho a' w' hb hfr hdep; obtain rfl := oj ho
      obtain ⟨b38, o38, g38, c38⟩ := hdep 5 _ rfl (by kernel_rfl)
      simp at g38
      clear ho hfr hdep; have hcl := c38
      go_wp2_with fail; exact ⟨rfl, _, rfl, br, rfl⟩
     ·intro o ho a' w' hb hfr hdep; obtain rfl := oj ho
      have g4 : a'.tmps[4]?.getD undef = .pointer (some ⟨g4, 0, none⟩) := by simpa using hfr 4 (by kernel_rfl)
      clear ho hfr hdep; go_wp2_with fail; exact ⟨rfl, _, rfl, br, rfl⟩
     ·intro o ho a' w' hb hfr hdep; obtain rfl := oj ho
      have g40 : a'.tmps[40]?.getD undef = .pointer (some ⟨g4, 2, none⟩) := by simpa using hdep 7 _ rfl (by kernel_rfl)
      clear ho hfr hdep; have hcl := (Y4r.under hb).at_ (j := 2) rfl
      go_wp2_with fail; exact ⟨rfl, _, rfl, br, rfl⟩
     ·intro o ho a' w' hb hfr hdep; obtain rfl := oj ho
      have g10 : a'.tmps[10]?.getD undef = .int .i64 (i : Int) := by simpa using hfr 10 (by kernel_rfl)
      clear ho hfr hdep; go_wp2_with fail; exact ⟨rfl, _, rfl, br, rfl⟩
     ·intro o ho a' w' hb hfr hdep; obtain rfl := oj ho
      have g41 : a'.tmps[41]?.getD undef = .slice a3 n3 c3 := by simpa using hdep 8 _ rfl (by kernel_rfl)
      have g42 : a'.tmps[42]?.getD undef = .int .i64 (i : Int) := by simpa using hdep 9 _ rfl (by kernel_rfl)
      clear ho hfr hdep; refine idx_ii 43 _ _ a3 n3 c3 _ (by show a'.tmps.getD 41 undef = _; simpa using g41) (htx.below hb) .i64 _ i (by show a'.tmps.getD 42 undef = _; simpa using g42) rfl _ hux.out ?_
      intro b o hcell hbo
      exact ⟨rfl, _, rfl, br, b, o, rfl, hcell⟩
     ·intro o ho a' w' hb hfr hdep; obtain rfl := oj ho
      obtain ⟨b43, o43, g43, c43⟩ := hdep 10 _ rfl (by kernel_rfl)
      simp at g43
      clear ho hfr hdep; have hcl := c43
      go_wp2_with fail; exact ⟨rfl, _, rfl, br, rfl⟩
     ·intro o ho a' w' hb hfr hdep; obtain rfl := oj ho
      have g44 : a'.tmps[44]?.getD undef = .slice y1 y2 y3 := by simpa using hdep 11 _ rfl (by kernel_rfl)
      clear ho hfr hdep; go_wp2_with fail; exact ⟨rfl, _, rfl, br, rfl⟩
     ·intro o ho a' w' hb hfr hdep; obtain rfl := oj ho
      have g39 : a'.tmps[39]?.getD undef = .slice y1 y2 y3 := by simpa using hdep 6 _ rfl (by kernel_rfl)
      have g45 : a'.tmps[45]?.getD undef = .int .i64 (y2 : Int) := by simpa using hdep 12 _ rfl (by kernel_rfl)
      clear ho hfr hdep; have hfw := ref_TakeI r y2 y1 y2 y3 w' (hrow.below hb) (by omega)
      rw [List.take_of_length_le (by have := HYN.out; omega), ← HYN.out] at hfw
      have hf := hide hfw
      clear hfw
      have hsz := hb.size
      go_wp2_with (go_at_call 22; refine hf.out.mono ?_; rintro e w3 ⟨a, c, rfl, hOt, h3⟩)
      exact ⟨rfl, _, rfl, h3, a, c, rfl, hOt.mono (Nat.le_trans hBw hsz)⟩
     ·intro o ho a' w' hb hfr hdep; obtain rfl := oj ho
      obtain ⟨ra, rc, g46, R46⟩ := hdep 13 _ rfl (by kernel_rfl)
      simp at g46
      clear ho hfr hdep; have hnw := Box.new w' 22 #[.slice ra y2 rc]
      have hRn := R46.below (blo w' (.cells #[.slice ra y2 rc] 22))
      go_wp2_with fail
      first | exact ⟨rfl, _, rfl, blo _ _, _, _, _, rfl, hnw, hRn⟩ | exact ⟨rfl, _, rfl, blo _ _, _, rfl, _, _, hnw, hRn⟩
    ·intro gg w6 hbl hp'
     have p34 := hp' 1 _ rfl
     obtain ⟨gq, ra, rc, p46, hq, hR⟩ := hp' 14 _ rfl
     clear hp'
     simp at p34 p46
     simp only [List.drop_succ_cons, List.drop_zero, List.map_cons, List.map_nil, putAll, Act.put, List.setIfInBounds_toArray, List.set_cons_succ, List.set_cons_zero, List.cons_append, List.nil_append, p34, p46]
     clear p34 p46
     have hO6 := hO.under hbl
     have hO16 := hO1.below hbl
     have hO26 := hO2.below hbl
     have hO36 := hO3.below hbl
     have hb6 := hb.trans (hbl.mono (by omega))
     have hB6 : B2 ≤ w6.heap.size := Nat.le_trans hBw hbl.size
     have hrg6 : Hid (∀ h ∈ ks, RowG w6 3 B2 h) := hide (fun h hh => (hrg.out h hh).below hbl)
     clear hO hO1 hO2 hO3 hb hBw hrg hbB Y4r htx hrow hbl
     have hl : Sl w6 1 (some ⟨gq, 0, none⟩) 1 1 [.slice ra y2 rc] := hq.sl 0 1 1 1 [.slice ra y2 rc] rfl (Nat.le_refl _) (by decide) (fun j u hj => by rw [Nat.zero_add]; exact hj)
     clear hq
     go_wp2_with (at_builtin; refine app_row rfl _ _ rfl w6 B2 o3 i x3 _ rfl hO36 (.slice ra y2 rc) rfl (some ⟨gq, 0, none⟩) 1 rfl hl (by omega) hB6 (Below.refl _ _) ?_; intro a9 c9 w9 hO39 gb9 hb9; refine hold ?_)
     refine hide ?_
     have hO9 := hO6.grown gb9 (own_lt hO36 hgB)
     have hO19 := hO16.kept gb9 (fun p hp => by subst hp; exact far_map hO16 hO36 (by decide))
     have hO29 := hO26.kept gb9 (fun p hp => by subst hp; exact far_map hO26 hO36 (by decide))
     have hR9 : RowG w9 3 B2 (ra, y2, rc) := (RowG.of_own hR HR8.out HRB.out).own hO36 (by decide) gb9
     have hrg9 : Hid (∀ h ∈ ks, RowG w9 3 B2 h) := hide (fun h hh => (hrg6.out h hh).own hO36 (by decide) gb9)
     have hb59 := hb6.grown gb9 (by omega) (fun q hq => by have := own_ge hO36 q hq; omega)
     have hB9 : B2 ≤ w9.heap.size := Nat.le_trans hB6 gb9.size
     have hO39 : Go.Dx.Own w9 B2 22 1 a9 (i + 1) c9 ((ks ++ [(ra, y2, rc)]).map hdv) := by rw [List.map_append]; exact hO39
     clear hO6 hO16 hO26 hO36 hR hl hB6 hb6 hrg6 gb9 hb9
     go_wp2_with (with_reducible refine hold_store ?_)
     refine hide ?_
     refine store_cell 37 _ _ 43 gO 2 _ (.slice a9 (i + 1) c9) size_hdd hO9 rfl rfl rfl rfl (by simp) ?_; intro w10 hO10 gb10 zb10
     have hO10 : Box w10 gO 43 [.slice o1 n1 x1, .slice o2 n2 x2, .slice a9 (i + 1) c9] := hO10
     have hO110 := hO19.kept gb10 (fun p hp e => own_box hO19 hO9 (by decide) (by rw [hp]; exact e.symm))
     have hO210 := hO29.kept gb10 (fun p hp e => own_box hO29 hO9 (by decide) (by rw [hp]; exact e.symm))
     have hO310 := hO39.keptK gb10 hgB
     have hrg10 : Hid (∀ h ∈ ks ++ [(ra, y2, rc)], RowG w10 3 B2 h) := hide (fun h hh => by
      rcases List.mem_append.1 hh with hh | hh
      ·exact (hrg9.out h hh).low gb10 hgB
      ·rw [List.mem_singleton] at hh
       subst hh
       exact hR9.low gb10 hgB)
     have hb510 := hb59.grown gb10 (by omega) (fun q hq => by cases hq; exact Nat.le_refl _)
     have hB10 : B2 ≤ w10.heap.size := Nat.le_trans hB9 gb10.size
     have hkl2 : (ks ++ [(ra, y2, rc)]).length = i + 1 := by rw [List.length_append, HKL.out]; rfl
     have HKL2 := hide hkl2
     clear hkl2 hO9 hO19 hO29 hO39 hR9 hrg9 hb59 hB9 gb10 zb10
     go_wp2_with fail
     go_roundg (n3 - (i + 1))
     case measure => have := HGH.out; omega
     case rel => exact ⟨i + 1, a9, c9, ks ++ [(ra, y2, rc)], by omega, rfl, by go_num, HKL2.out, hO10, hO110, hO210, hO310, hrg10, hb510, hB10⟩
   ·obtain rfl : i = n3 := by omega
    have d0 : decide ((i : Int) < (i : Int)) = false := by simp
    obtain ⟨w6, rfl⟩ : ∃ z : World, z = wr := ⟨_, rfl⟩
    obtain ⟨r, hr⟩ : ∃ r, Hid (aroundF how 6 = r) := ⟨_, hide rfl⟩
    have hr6 : r < 6 := by rw [← hr.out]; exact aroundF_lt (by decide)
    have hru0 := ref_Around how 6 6 w6 rfl HHO.out.1 HHO.out.2 (by decide) (by decide)
    rw [hr.out] at hru0
    have hru := hide hru0
    clear hru0
    have hbB6 : Below B w2 w6 := HB2.out.trans hbB
    have hHC : C.length ≤ M := HBD.out.c
    have hHK : K.length ≤ M := HBD.out.k
    have hks : ks.length ≤ M := by have := HBD.out.a; have := HN3.out; have := HKL.out; omega
    have HHC := hide hHC
    have HHK := hide hHK
    have HKS := hide hks
    have h2l := h2lt.out
    clear hHC hHK hks hbB Y4r
    go_upto_block 2 with (go_at_call 23; refine hru.out.mono ?_; rintro e w7 ⟨rfl, rfl⟩)
    clear hru
    go_cut [57] (fun v w' => OutS w' 43 3 5 22 B B2 gO M ∧ Below B w2 w' ∧ B2 ≤ w'.heap.size)
    case first =>
     rcases (by omega : r = 0 ∨ r = 1 ∨ r = 2 ∨ r = 3 ∨ r = 4 ∨ r = 5) with rfl | rfl | rfl | rfl | rfl | rfl
     ·have cOf : w6.cell? ⟨gO, 0, none⟩ = some (.slice o1 n1 x1) := hO.at_ rfl
      by_cases h0 : n1 = 0
      ·have e1 : decide (0 < (n1 : Int)) = false := decide_eq_false (by omega)
       have e2 : decide (0 < n1) = false := decide_eq_false (by omega)
       have e3 : decide ((n1 : Int) > 0) = false := decide_eq_false (by omega)
       go_wp2_with fail
       go_meet
       exact ⟨⟨o1, n1, x1, o2, n2, x2, o3, i, x3, C, K, ks, hO, hO1, hO2, hO3, hrg.out, Nat.le_succ_of_le HHC.out, Nat.le_succ_of_le HHK.out, HKS.out⟩, hbB6, hBw⟩
      ·have e1 : decide (0 < (n1 : Int)) = true := decide_eq_true (by omega)
       have e2 : decide (0 < n1) = true := decide_eq_true (by omega)
       have e3 : decide ((n1 : Int) > 0) = true := decide_eq_true (by omega)
       have hne : o1 ≠ none := fun e => by have h1 := hO1.sl.nil e; have h2 := hO1.sl.le; omega
       obtain ⟨gb, cur, rfl, hgb, hbx, hnc, rfl, hmx, htk⟩ := own_parts hO1 hne
       clear hne
       obtain ⟨ia, hia⟩ : ∃ q, Hid (aroundF at_ n1 = q) := ⟨_, hide rfl⟩
       have hial : ia < n1 := by rw [← hia.out]; exact aroundF_lt (by omega)
       obtain ⟨ib, hib⟩ : ∃ q, Hid (aroundF by_ 64 = q) := ⟨_, hide rfl⟩
       have hibl : ib < 64 := by rw [← hib.out]; exact aroundF_lt (by decide)
       go_wp2_with fail
       refine wp_region_free 10 [⟨0, 63, [63], fun vs _ => vs = [.pointer (some ⟨gO, 0, none⟩)]⟩, ⟨1, 64, [64], fun vs _ => vs = [.slice (some ⟨gb, 0, none⟩) n1 cur.length]⟩, ⟨2, 65, [65], fun vs _ => vs = [.int .i64 at_]⟩, ⟨3, 66, [66], fun vs _ => vs = [.pointer (some ⟨gO, 0, none⟩)]⟩, ⟨4, 67, [67], fun vs _ => vs = [.slice (some ⟨gb, 0, none⟩) n1 cur.length]⟩, ⟨5, 68, [68], fun vs _ => vs = [.int .i64 (n1 : Int)]⟩, ⟨6, 69, [69], fun vs _ => vs = [.int .i64 (ia : Int)]⟩, ⟨7, 70, [70], fun vs _ => vs = [.int .i64 by_]⟩, ⟨8, 71, [71], fun vs _ => vs = [.int .i64 (ib : Int)]⟩, ⟨9, 72, [72], fun vs _ => vs = [.int .u8 (ib : Int)]⟩] (by kernel_rfl) (by kernel_rfl) ?_ ?_ ?_
       ·simp only [All]
        refine ⟨fun _ _ _ _ h => h, fun _ _ _ _ h => h, fun _ _ _ _ h => h, fun _ _ _ _ h => h, fun _ _ _ _ h => h, fun _ _ _ _ h => h, fun _ _ _ _ h => h, fun _ _ _ _ h => h, fun _ _ _ _ h => h, fun _ _ _ _ h => h, trivial⟩
       ·simp only [All]
        refine ⟨?_, ?_, ?_, ?_, ?_, ?_, ?_, ?_, ?_, ?_, trivial⟩
        ·intro o ho a' w' hb hfr hdep; obtain rfl := oj ho
         have g9 : a'.tmps[9]?.getD undef = .pointer (some ⟨gO, 0, none⟩) := by simpa using hfr 9 (by kernel_rfl)
         clear ho hfr hdep; go_wp2_with fail; exact ⟨rfl, _, rfl, br, rfl⟩
        ·intro o ho a' w' hb hfr hdep; obtain rfl := oj ho
         have g63 : a'.tmps[63]?.getD undef = .pointer (some ⟨gO, 0, none⟩) := by simpa using hdep 0 _ rfl (by kernel_rfl)
         clear ho hfr hdep; have hcl := (hO.under hb).at_ (j := 0) rfl
         go_wp2_with fail; exact ⟨rfl, _, rfl, br, rfl⟩
        ·intro o ho a' w' hb hfr hdep; obtain rfl := oj ho
         have g1 : a'.tmps[1]?.getD undef = .int .i64 at_ := by simpa using hfr 1 (by kernel_rfl)
         clear ho hfr hdep; go_wp2_with fail; exact ⟨rfl, _, rfl, br, rfl⟩
        ·intro o ho a' w' hb hfr hdep; obtain rfl := oj ho
         have g9 : a'.tmps[9]?.getD undef = .pointer (some ⟨gO, 0, none⟩) := by simpa using hfr 9 (by kernel_rfl)
         clear ho hfr hdep; go_wp2_with fail; exact ⟨rfl, _, rfl, br, rfl⟩
        ·intro o ho a' w' hb hfr hdep; obtain rfl := oj ho
         have g66 : a'.tmps[66]?.getD undef = .pointer (some ⟨gO, 0, none⟩) := by simpa using hdep 3 _ rfl (by kernel_rfl)
         clear ho hfr hdep; have hcl := (hO.under hb).at_ (j := 0) rfl
         go_wp2_with fail; exact ⟨rfl, _, rfl, br, rfl⟩
        ·intro o ho a' w' hb hfr hdep; obtain rfl := oj ho
         have g67 : a'.tmps[67]?.getD undef = .slice (some ⟨gb, 0, none⟩) n1 cur.length := by simpa using hdep 4 _ rfl (by kernel_rfl)
         clear ho hfr hdep; go_wp2_with fail; exact ⟨rfl, _, rfl, br, rfl⟩
        ·intro o ho a' w' hb hfr hdep; obtain rfl := oj ho
         have g65 : a'.tmps[65]?.getD undef = .int .i64 at_ := by simpa using hdep 2 _ rfl (by kernel_rfl)
         have g68 : a'.tmps[68]?.getD undef = .int .i64 (n1 : Int) := by simpa using hdep 5 _ rfl (by kernel_rfl)
         clear ho hfr hdep; have har0 := ref_Around at_ (n1 : Int) n1 w' rfl HAT.out.1 HAT.out.2 (by omega) (by omega)
         rw [hia.out] at har0
         have har := hide har0
         clear har0
         go_wp2_with (go_at_call 23; refine har.out.mono ?_; rintro e w2 ⟨rfl, rfl⟩)
         exact ⟨rfl, _, rfl, br, rfl⟩
        ·intro o ho a' w' hb hfr hdep; obtain rfl := oj ho
         have g3 : a'.tmps[3]?.getD undef = .int .i64 by_ := by simpa using hfr 3 (by kernel_rfl)
         clear ho hfr hdep; go_wp2_with fail; exact ⟨rfl, _, rfl, br, rfl⟩
        ·intro o ho a' w' hb hfr hdep; obtain rfl := oj ho
         have g70 : a'.tmps[70]?.getD undef = .int .i64 by_ := by simpa using hdep 7 _ rfl (by kernel_rfl)
         clear ho hfr hdep; have har0 := ref_Around by_ 64 64 w' rfl HBY.out.1 HBY.out.2 (by omega) (by omega)
         rw [hib.out] at har0
         have har := hide har0
         clear har0
         go_wp2_with (go_at_call 23; refine har.out.mono ?_; rintro e w2 ⟨rfl, rfl⟩)
         exact ⟨rfl, _, rfl, br, rfl⟩
        ·intro o ho a' w' hb hfr hdep; obtain rfl := oj ho
         have g71 : a'.tmps[71]?.getD undef = .int .i64 (ib : Int) := by simpa using hdep 8 _ rfl (by kernel_rfl)
         clear ho hfr hdep; have hw9 : IntKind.u8.wrap (ib : Int) = (ib : Int) := Int.emod_eq_of_lt (by omega) (by show (ib : Int) < 256; omega)
         have hm9 : (ib : Int) % 256 = (ib : Int) := Int.emod_eq_of_lt (by omega) (by omega)
         go_wp2_with fail; exact ⟨rfl, _, rfl, br, by first | rfl | simp [hm9] | simp [hw9]⟩
       ·intro gg w7 hbl hp'
        have p64 := hp' 1 _ rfl
        have p69 := hp' 6 _ rfl
        have p72 := hp' 9 _ rfl
        clear hp'
        simp at p64 p69 p72
        simp only [List.drop_succ_cons, List.drop_zero, List.map_cons, List.map_nil, putAll, Act.put, List.setIfInBounds_toArray, List.set_cons_succ, List.set_cons_zero, List.cons_append, List.nil_append, p64, p69, p72]
        clear p64 p69 p72
        have hO7 := hO.under hbl
        have hO17 := hO1.below hbl
        have hO27 := hO2.below hbl
        have hO37 := hO3.below hbl
        have hrg7 : Hid (∀ h ∈ ks, RowG w7 3 B2 h) := hide (fun h hh => (hrg.out h hh).below hbl)
        have hbB7 := hbB6.trans (hbl.mono (by omega))
        have hB7 : B2 ≤ w7.heap.size := Nat.le_trans hBw hbl.size
        have hbx7 := hbx.under hbl
        clear hbx
        clear hO hO1 hO2 hO3 hrg hbB6 hBw hbl
        go_wp2_with (first
         | (with_reducible refine index_known 73 27 _ _ 5 Try.underlying27 size_u8 gb n1 cur.length rfl _ _ ia rfl rfl hial ?_)
         | (with_reducible refine hold_store ?_))
        refine hide ?_
        refine store_cell 5 _ _ 5 gb ia cur (.int .u8 (ib : Int)) size_u8 hbx7 rfl rfl rfl rfl (by omega) ?_; intro w9 hbx9 gb9 zb9
        have hO19 : Go.Dx.Own w9 B 5 1 (some ⟨gb, 0, none⟩) n1 cur.length ((C.set ia (UInt8.ofNat ib)).map B8) := by
         have h := own_of (n := n1) hgb hbx9 (by rw [List.length_set]; exact hnc) (by rw [List.length_set]; exact hmx)
         rw [List.length_set] at h
         have e : (cur.set ia (.int .u8 (ib : Int))).take n1 = (C.set ia (UInt8.ofNat ib)).map B8 := by
          rw [List.take_set, htk, List.map_set]
          congr 1
          show Value.int .u8 (ib : Int) = .int .u8 ((UInt8.ofNat ib).toNat : Int)
          rw [UInt8.toNat_ofNat_of_lt' (by show ib < 256; omega)]
         rw [e] at h
         exact h
        have hO9 := hO7.grown gb9 (fun e => own_box hO17 hO7 (by decide) (by rw [e]; rfl))
        have hO29 := hO27.kept gb9 (fun p hp => by subst hp; exact far_map hO27 hO17 (by decide))
        have hO39 := hO37.kept gb9 (fun p hp => by subst hp; exact far_map hO37 hO17 (by decide))
        have hrg9 : ∀ h ∈ ks, RowG w9 3 B2 h := fun h hh => (hrg7.out h hh).own hO17 (by decide) gb9
        have hbB9 := hbB7.grown gb9 (by omega) (fun q hq => by cases hq; exact hgb)
        have hB9 : B2 ≤ w9.heap.size := Nat.le_trans hB7 gb9.size
        go_wp2_with fail
        go_meet
        exact ⟨⟨_, n1, cur.length, o2, n2, x2, o3, i, x3, C.set ia (UInt8.ofNat ib), K, ks, hO9, hO19, hO29, hO39, hrg9, by rw [List.length_set]; exact Nat.le_succ_of_le HHC.out, Nat.le_succ_of_le HHK.out, HKS.out⟩, hbB9, hB9⟩
     ·have cOf : w6.cell? ⟨gO, 1, none⟩ = some (.slice o2 n2 x2) := hO.at_ rfl
      by_cases h0 : n2 = 0
      ·have e1 : decide (0 < (n2 : Int)) = false := decide_eq_false (by omega)
       have e2 : decide (0 < n2) = false := decide_eq_false (by omega)
       have e3 : decide ((n2 : Int) > 0) = false := decide_eq_false (by omega)
       go_wp2_with fail
       go_meet
       exact ⟨⟨o1, n1, x1, o2, n2, x2, o3, i, x3, C, K, ks, hO, hO1, hO2, hO3, hrg.out, Nat.le_succ_of_le HHC.out, Nat.le_succ_of_le HHK.out, HKS.out⟩, hbB6, hBw⟩
      ·have e1 : decide (0 < (n2 : Int)) = true := decide_eq_true (by omega)
       have e2 : decide (0 < n2) = true := decide_eq_true (by omega)
       have e3 : decide ((n2 : Int) > 0) = true := decide_eq_true (by omega)
       have hne : o2 ≠ none := fun e => by have h1 := hO2.sl.nil e; have h2 := hO2.sl.le; omega
       obtain ⟨gb, cur, rfl, hgb, hbx, hnc, rfl, hmx, htk⟩ := own_parts hO2 hne
       clear hne
       obtain ⟨ia, hia⟩ : ∃ q, Hid (aroundF at_ n2 = q) := ⟨_, hide rfl⟩
       have hial : ia < n2 := by rw [← hia.out]; exact aroundF_lt (by omega)
       obtain ⟨ib, hib⟩ : ∃ q, Hid (aroundF by_ 6 = q) := ⟨_, hide rfl⟩
       have hibl : ib < 6 := by rw [← hib.out]; exact aroundF_lt (by decide)
       have hgb2 : gb < B2 := h2l _ rfl
       go_wp2_with fail
       refine wp_region_free 10 [⟨0, 80, [80], fun vs _ => vs = [.pointer (some ⟨gO, 1, none⟩)]⟩, ⟨1, 81, [81], fun vs _ => vs = [.slice (some ⟨gb, 0, none⟩) n2 cur.length]⟩, ⟨2, 82, [82], fun vs _ => vs = [.int .i64 at_]⟩, ⟨3, 83, [83], fun vs _ => vs = [.pointer (some ⟨gO, 1, none⟩)]⟩, ⟨4, 84, [84], fun vs _ => vs = [.slice (some ⟨gb, 0, none⟩) n2 cur.length]⟩, ⟨5, 85, [85], fun vs _ => vs = [.int .i64 (n2 : Int)]⟩, ⟨6, 86, [86], fun vs _ => vs = [.int .i64 (ia : Int)]⟩, ⟨7, 87, [87], fun vs _ => vs = [.int .i64 by_]⟩, ⟨8, 88, [88], fun vs _ => vs = [.int .i64 (ib : Int)]⟩, ⟨9, 89, [89], fun vs _ => vs = [.int .i64 ((ib : Int) - 1)]⟩] (by kernel_rfl) (by kernel_rfl) ?_ ?_ ?_
       ·simp only [All]
        refine ⟨fun _ _ _ _ h => h, fun _ _ _ _ h => h, fun _ _ _ _ h => h, fun _ _ _ _ h => h, fun _ _ _ _ h => h, fun _ _ _ _ h => h, fun _ _ _ _ h => h, fun _ _ _ _ h => h, fun _ _ _ _ h => h, fun _ _ _ _ h => h, trivial⟩
       ·simp only [All]
        refine ⟨?_, ?_, ?_, ?_, ?_, ?_, ?_, ?_, ?_, ?_, trivial⟩
        ·intro o ho a' w' hb hfr hdep; obtain rfl := oj ho
         have g9 : a'.tmps[9]?.getD undef = .pointer (some ⟨gO, 0, none⟩) := by simpa using hfr 9 (by kernel_rfl)
         clear ho hfr hdep; go_wp2_with fail; exact ⟨rfl, _, rfl, br, rfl⟩
        ·intro o ho a' w' hb hfr hdep; obtain rfl := oj ho
         have g80 : a'.tmps[80]?.getD undef = .pointer (some ⟨gO, 1, none⟩) := by simpa using hdep 0 _ rfl (by kernel_rfl)
         clear ho hfr hdep; have hcl := (hO.under hb).at_ (j := 1) rfl
         go_wp2_with fail; exact ⟨rfl, _, rfl, br, rfl⟩
        ·intro o ho a' w' hb hfr hdep; obtain rfl := oj ho
         have g1 : a'.tmps[1]?.getD undef = .int .i64 at_ := by simpa using hfr 1 (by kernel_rfl)
         clear ho hfr hdep; go_wp2_with fail; exact ⟨rfl, _, rfl, br, rfl⟩
        ·intro o ho a' w' hb hfr hdep; obtain rfl := oj ho
         have g9 : a'.tmps[9]?.getD undef = .pointer (some ⟨gO, 0, none⟩) := by simpa using hfr 9 (by kernel_rfl)
         clear ho hfr hdep; go_wp2_with fail; exact ⟨rfl, _, rfl, br, rfl⟩
        ·intro o ho a' w' hb hfr hdep; obtain rfl := oj ho
         have g83 : a'.tmps[83]?.getD undef = .pointer (some ⟨gO, 1, none⟩) := by simpa using hdep 3 _ rfl (by kernel_rfl)
         clear ho hfr hdep; have hcl := (hO.under hb).at_ (j := 1) rfl
         go_wp2_with fail; exact ⟨rfl, _, rfl, br, rfl⟩
        ·intro o ho a' w' hb hfr hdep; obtain rfl := oj ho
         have g84 : a'.tmps[84]?.getD undef = .slice (some ⟨gb, 0, none⟩) n2 cur.length := by simpa using hdep 4 _ rfl (by kernel_rfl)
         clear ho hfr hdep; go_wp2_with fail; exact ⟨rfl, _, rfl, br, rfl⟩
        ·intro o ho a' w' hb hfr hdep; obtain rfl := oj ho
         have g82 : a'.tmps[82]?.getD undef = .int .i64 at_ := by simpa using hdep 2 _ rfl (by kernel_rfl)
         have g85 : a'.tmps[85]?.getD undef = .int .i64 (n2 : Int) := by simpa using hdep 5 _ rfl (by kernel_rfl)
         clear ho hfr hdep; have har0 := ref_Around at_ (n2 : Int) n2 w' rfl HAT.out.1 HAT.out.2 (by omega) (by omega)
         rw [hia.out] at har0
         have har := hide har0
         clear har0
         go_wp2_with (go_at_call 23; refine har.out.mono ?_; rintro e w2 ⟨rfl, rfl⟩)
         exact ⟨rfl, _, rfl, br, rfl⟩
        ·intro o ho a' w' hb hfr hdep; obtain rfl := oj ho
         have g3 : a'.tmps[3]?.getD undef = .int .i64 by_ := by simpa using hfr 3 (by kernel_rfl)
         clear ho hfr hdep; go_wp2_with fail; exact ⟨rfl, _, rfl, br, rfl⟩
        ·intro o ho a' w' hb hfr hdep; obtain rfl := oj ho
         have g87 : a'.tmps[87]?.getD undef = .int .i64 by_ := by simpa using hdep 7 _ rfl (by kernel_rfl)
         clear ho hfr hdep; have har0 := ref_Around by_ 6 6 w' rfl HBY.out.1 HBY.out.2 (by omega) (by omega)
         rw [hib.out] at har0
         have har := hide har0
         clear har0
         go_wp2_with (go_at_call 23; refine har.out.mono ?_; rintro e w2 ⟨rfl, rfl⟩)
         exact ⟨rfl, _, rfl, br, rfl⟩
        ·intro o ho a' w' hb hfr hdep; obtain rfl := oj ho
         have g88 : a'.tmps[88]?.getD undef = .int .i64 (ib : Int) := by simpa using hdep 8 _ rfl (by kernel_rfl)
         clear ho hfr hdep; go_wp2_with fail; exact ⟨rfl, _, rfl, br, rfl⟩
       ·intro gg w7 hbl hp'
        have p81 := hp' 1 _ rfl
        have p86 := hp' 6 _ rfl
        have p89 := hp' 9 _ rfl
        clear hp'
        simp at p81 p86 p89
        simp only [List.drop_succ_cons, List.drop_zero, List.map_cons, List.map_nil, putAll, Act.put, List.setIfInBounds_toArray, List.set_cons_succ, List.set_cons_zero, List.cons_append, List.nil_append, p81, p86, p89]
        clear p81 p86 p89
        have hO7 := hO.under hbl
        have hO17 := hO1.below hbl
        have hO27 := hO2.below hbl
        have hO37 := hO3.below hbl
        have hrg7 : Hid (∀ h ∈ ks, RowG w7 3 B2 h) := hide (fun h hh => (hrg.out h hh).below hbl)
        have hbB7 := hbB6.trans (hbl.mono (by omega))
        have hB7 : B2 ≤ w7.heap.size := Nat.le_trans hBw hbl.size
        have hbx7 := hbx.under hbl
        clear hbx
        clear hO hO1 hO2 hO3 hrg hbB6 hBw hbl
        go_wp2_with (first
         | (with_reducible refine index_known 90 22 _ _ 3 Try.underlying22 size_int gb n2 cur.length rfl _ _ ia rfl rfl hial ?_)
         | (with_reducible refine hold_store ?_))
        refine hide ?_
        refine store_cell 3 _ _ 3 gb ia cur (.int .i64 ((ib : Int) - 1)) size_int hbx7 rfl rfl rfl rfl (by omega) ?_; intro w9 hbx9 gb9 zb9
        have hO29 : Go.Dx.Own w9 B 3 1 (some ⟨gb, 0, none⟩) n2 cur.length ((K.set ia ((ib : Int) - 1)).map I64) := by
         have h := own_of (n := n2) hgb hbx9 (by rw [List.length_set]; exact hnc) (by rw [List.length_set]; exact hmx)
         rw [List.length_set] at h
         have e : (cur.set ia (.int .i64 ((ib : Int) - 1))).take n2 = (K.set ia ((ib : Int) - 1)).map I64 := by rw [List.take_set, htk, List.map_set]
         rw [e] at h
         exact h
        have hO9 := hO7.grown gb9 (fun e => own_box hO27 hO7 (by decide) (by rw [e]; rfl))
        have hO19 := hO17.kept gb9 (fun p hp => by subst hp; exact far_map hO17 hO27 (by decide))
        have hO39 := hO37.kept gb9 (fun p hp => by subst hp; exact far_map hO37 hO27 (by decide))
        have hrg9 : ∀ h ∈ ks, RowG w9 3 B2 h := fun h hh => (hrg7.out h hh).low gb9 hgb2
        have hbB9 := hbB7.grown gb9 (by omega) (fun q hq => by cases hq; exact hgb)
        have hB9 : B2 ≤ w9.heap.size := Nat.le_trans hB7 gb9.size
        go_wp2_with fail
        go_meet
        exact ⟨⟨o1, n1, x1, _, n2, cur.length, o3, i, x3, C, K.set ia ((ib : Int) - 1), ks, hO9, hO19, hO29, hO39, hrg9, Nat.le_succ_of_le HHC.out, by rw [List.length_set]; exact Nat.le_succ_of_le HHK.out, HKS.out⟩, hbB9, hB9⟩
     ·have cOf : w6.cell? ⟨gO, 2, none⟩ = some (.slice o3 i x3) := hO.at_ rfl
      by_cases h0 : i = 0
      ·have e1 : decide (0 < (i : Int)) = false := decide_eq_false (by omega)
       have e2 : decide (0 < i) = false := decide_eq_false (by omega)
       have e3 : decide ((i : Int) > 0) = false := decide_eq_false (by omega)
       go_wp2_with fail
       go_meet
       exact ⟨⟨o1, n1, x1, o2, n2, x2, o3, i, x3, C, K, ks, hO, hO1, hO2, hO3, hrg.out, Nat.le_succ_of_le HHC.out, Nat.le_succ_of_le HHK.out, HKS.out⟩, hbB6, hBw⟩
      ·have e1 : decide (0 < (i : Int)) = true := decide_eq_true (by omega)
       have e2 : decide (0 < i) = true := decide_eq_true (by omega)
       have e3 : decide ((i : Int) > 0) = true := decide_eq_true (by omega)
       obtain ⟨ia, hia⟩ : ∃ q, Hid (aroundF at_ i = q) := ⟨_, hide rfl⟩
       have hial : ia < i := by rw [← hia.out]; exact aroundF_lt (by omega)
       obtain ⟨⟨z1, z2, z3⟩, hz⟩ : ∃ h, ks[ia]? = some h := ⟨_, List.getElem?_eq_getElem (by have := HKL.out; omega)⟩
       have hzg := hrg.out _ (List.mem_of_getElem? hz)
       have huz : Hid ((ks.map hdv)[ia]? = some (.slice z1 z2 z3)) := hide (by rw [List.getElem?_map, hz]; rfl)
       clear hz
       have ht3 := hO3.sl
       go_wp2_with fail
       refine wp_region_free 9 [⟨0, 97, [97], fun vs _ => vs = [.pointer (some ⟨gO, 2, none⟩)]⟩, ⟨1, 98, [98], fun vs _ => vs = [.slice o3 i x3]⟩, ⟨2, 99, [99], fun vs _ => vs = [.int .i64 at_]⟩, ⟨3, 100, [100], fun vs _ => vs = [.pointer (some ⟨gO, 2, none⟩)]⟩, ⟨4, 101, [101], fun vs _ => vs = [.slice o3 i x3]⟩, ⟨5, 102, [102], fun vs _ => vs = [.int .i64 (i : Int)]⟩, ⟨6, 103, [103], fun vs _ => vs = [.int .i64 (ia : Int)]⟩, ⟨7, 104, [104], PtL (.slice z1 z2 z3)⟩, ⟨8, 105, [105], fun vs _ => vs = [.slice z1 z2 z3]⟩] (by kernel_rfl) (by kernel_rfl) ?_ ?_ ?_
       ·simp only [All]
        refine ⟨fun _ _ _ _ h => h, fun _ _ _ _ h => h, fun _ _ _ _ h => h, fun _ _ _ _ h => h, fun _ _ _ _ h => h, fun _ _ _ _ h => h, fun _ _ _ _ h => h, ?_, fun _ _ _ _ h => h, trivial⟩
        ·rintro vs w1 w2 hb ⟨b, o, h1, h2⟩
         exact ⟨b, o, h1, cell_blw8 h2 hb⟩
       ·simp only [All]
        refine ⟨?_, ?_, ?_, ?_, ?_, ?_, ?_, ?_, ?_, trivial⟩
        ·intro o ho a' w' hb hfr hdep; obtain rfl := oj ho
         have g9 : a'.tmps[9]?.getD undef = .pointer (some ⟨gO, 0, none⟩) := by simpa using hfr 9 (by kernel_rfl)
         clear ho hfr hdep; go_wp2_with fail; exact ⟨rfl, _, rfl, br, rfl⟩
        ·intro o ho a' w' hb hfr hdep; obtain rfl := oj ho
         have g97 : a'.tmps[97]?.getD undef = .pointer (some ⟨gO, 2, none⟩) := by simpa using hdep 0 _ rfl (by kernel_rfl)
         clear ho hfr hdep; have hcl := (hO.under hb).at_ (j := 2) rfl
         go_wp2_with fail; exact ⟨rfl, _, rfl, br, rfl⟩
        ·intro o ho a' w' hb hfr hdep; obtain rfl := oj ho
         have g1 : a'.tmps[1]?.getD undef = .int .i64 at_ := by simpa using hfr 1 (by kernel_rfl)
         clear ho hfr hdep; go_wp2_with fail; exact ⟨rfl, _, rfl, br, rfl⟩
        ·intro o ho a' w' hb hfr hdep; obtain rfl := oj ho
         have g9 : a'.tmps[9]?.getD undef = .pointer (some ⟨gO, 0, none⟩) := by simpa using hfr 9 (by kernel_rfl)
         clear ho hfr hdep; go_wp2_with fail; exact ⟨rfl, _, rfl, br, rfl⟩
        ·intro o ho a' w' hb hfr hdep; obtain rfl := oj ho
         have g100 : a'.tmps[100]?.getD undef = .pointer (some ⟨gO, 2, none⟩) := by simpa using hdep 3 _ rfl (by kernel_rfl)
         clear ho hfr hdep; have hcl := (hO.under hb).at_ (j := 2) rfl
         go_wp2_with fail; exact ⟨rfl, _, rfl, br, rfl⟩
        ·intro o ho a' w' hb hfr hdep; obtain rfl := oj ho
         have g101 : a'.tmps[101]?.getD undef = .slice o3 i x3 := by simpa using hdep 4 _ rfl (by kernel_rfl)
         clear ho hfr hdep; go_wp2_with fail; exact ⟨rfl, _, rfl, br, rfl⟩
        ·intro o ho a' w' hb hfr hdep; obtain rfl := oj ho
         have g99 : a'.tmps[99]?.getD undef = .int .i64 at_ := by simpa using hdep 2 _ rfl (by kernel_rfl)
         have g102 : a'.tmps[102]?.getD undef = .int .i64 (i : Int) := by simpa using hdep 5 _ rfl (by kernel_rfl)
         clear ho hfr hdep; have har0 := ref_Around at_ (i : Int) i w' rfl HAT.out.1 HAT.out.2 (by omega) (by omega)
         rw [hia.out] at har0
         have har := hide har0
         clear har0
         go_wp2_with (go_at_call 23; refine har.out.mono ?_; rintro e w2 ⟨rfl, rfl⟩)
         exact ⟨rfl, _, rfl, br, rfl⟩
        ·intro o ho a' w' hb hfr hdep; obtain rfl := oj ho
         have g98 : a'.tmps[98]?.getD undef = .slice o3 i x3 := by simpa using hdep 1 _ rfl (by kernel_rfl)
         have g103 : a'.tmps[103]?.getD undef = .int .i64 (ia : Int) := by simpa using hdep 6 _ rfl (by kernel_rfl)
         clear ho hfr hdep; refine idx_ii 104 _ _ o3 i x3 _ (by show a'.tmps.getD 98 undef = _; simpa using g98) (ht3.below hb) .i64 _ ia (by show a'.tmps.getD 103 undef = _; simpa using g103) rfl _ huz.out ?_
         intro b o hcell hbo
         exact ⟨rfl, _, rfl, br, b, o, rfl, hcell⟩
        ·intro o ho a' w' hb hfr hdep; obtain rfl := oj ho
         obtain ⟨b104, o104, g104, c104⟩ := hdep 7 _ rfl (by kernel_rfl)
         simp at g104
         clear ho hfr hdep; have hcl := c104
         go_wp2_with fail; exact ⟨rfl, _, rfl, br, rfl⟩
       ·intro gg w7 hbl hp'
        have p105 := hp' 8 _ rfl
        clear hp'
        simp at p105
        simp only [List.drop_succ_cons, List.drop_zero, List.map_cons, List.map_nil, putAll, Act.put, List.setIfInBounds_toArray, List.set_cons_succ, List.set_cons_zero, List.cons_append, List.nil_append, p105]
        clear p105
        have hO7 := hO.under hbl
        have hO17 := hO1.below hbl
        have hO27 := hO2.below hbl
        have hO37 := hO3.below hbl
        have hrg7 : Hid (∀ h ∈ ks, RowG w7 3 B2 h) := hide (fun h hh => (hrg.out h hh).below hbl)
        have hbB7 := hbB6.trans (hbl.mono (by omega))
        have hB7 : B2 ≤ w7.heap.size := Nat.le_trans hBw hbl.size
        have hzg7 := hzg.below hbl
        clear hzg ht3
        clear hO hO1 hO2 hO3 hrg hbB6 hBw hbl
        by_cases hz0 : z2 = 0
        ·have f1 : decide (0 < (z2 : Int)) = false := decide_eq_false (by omega)
         have f2 : decide (0 < z2) = false := decide_eq_false (by omega)
         have f3 : decide ((z2 : Int) > 0) = false := decide_eq_false (by omega)
         go_wp2_with fail
         go_meet
         exact ⟨⟨o1, n1, x1, o2, n2, x2, o3, i, x3, C, K, ks, hO7, hO17, hO27, hO37, hrg7.out, Nat.le_succ_of_le HHC.out, Nat.le_succ_of_le HHK.out, HKS.out⟩, hbB7, hB7⟩
        ·have f1 : decide (0 < (z2 : Int)) = true := decide_eq_true (by omega)
         have f2 : decide (0 < z2) = true := decide_eq_true (by omega)
         have f3 : decide ((z2 : Int) > 0) = true := decide_eq_true (by omega)
         obtain ⟨gb, cur, rfl, hgb, hbx7, hnc, rfl, hmx, hz8⟩ : ∃ g cur, z1 = some ⟨g, 0, none⟩ ∧ B2 ≤ g ∧ Box w7 g 3 cur ∧ z2 ≤ cur.length ∧ z3 = cur.length ∧ cur.length ≤ maxLen ∧ z2 ≤ 8 := by
          rcases hzg7 with h | ⟨g, cur, k1, k2, k3, k4, k5, k6, k7, _⟩
          ·injection h with h h'
           injection h' with h' h''
           exact absurd h' hz0
          ·exact ⟨g, cur, k1, k2, k3, k4, k5, k6, k7⟩
         obtain ⟨ic, hic⟩ : ∃ q, Hid (aroundF by_ z2 = q) := ⟨_, hide rfl⟩
         have hicl : ic < z2 := by rw [← hic.out]; exact aroundF_lt (by omega)
         obtain ⟨ib, hib⟩ : ∃ q, Hid (aroundF (by_.tdiv 8) 9 = q) := ⟨_, hide rfl⟩
         have hibl : ib < 9 := by rw [← hib.out]; exact aroundF_lt (by decide)
         obtain ⟨hd0, hd1⟩ := tdiv_in HBY.out.1 HBY.out.2 (d := 8) (by decide)
         have hac0 := ref_Around by_ (z2 : Int) z2 w7 rfl HBY.out.1 HBY.out.2 (by omega) (by omega)
         rw [hic.out] at hac0
         have hac := hide hac0
         have hab0 := ref_Around (by_.tdiv 8) 9 9 w7 rfl hd0 hd1 (by decide) (by decide)
         rw [hib.out] at hab0
         have hab := hide hab0
         clear hac0 hab0
         go_wp2_with (go_at_call 23; refine hac.out.mono ?_; rintro e w8 ⟨rfl, rfl⟩; refine hold ?_)
         refine hide ?_
         clear hac
         go_wp2_with (go_at_call 23; refine hab.out.mono ?_; rintro e w8 ⟨rfl, rfl⟩; refine hold ?_)
         refine hide ?_
         clear hab
         go_wp2_with (first
          | (with_reducible refine index_known 118 22 _ _ 3 Try.underlying22 size_int gb z2 cur.length rfl _ _ ic rfl rfl hicl ?_)
          | (with_reducible refine hold_store ?_))
         refine hide ?_
         refine store_cell 3 _ _ 3 gb ic cur (.int .i64 ((ib : Int) - 1)) size_int hbx7 rfl rfl rfl rfl (by omega) ?_; intro w9 hbx9 gb9 zb9
         have hO9 := hO7.grown gb9 (by intro e; injection e with e; omega)
         have hO19 := hO17.kept gb9 (fun p hp e => own_box hO17 hbx7 (by decide) (by rw [hp]; exact e.symm))
         have hO29 := hO27.kept gb9 (fun p hp e => by
          injection e with e
          have := h2l p hp
          omega)
         have hO39 := hO37.kept gb9 (fun p hp e => own_box hO37 hbx7 (by decide) (by rw [hp]; exact e.symm))
         have hrg9 : ∀ h ∈ ks, RowG w9 3 B2 h := fun h hh => (hrg7.out h hh).put hbx7 hbx9 gb9 (by omega)
         have hbB9 := hbB7.grown gb9 (by omega) (fun q hq => by cases hq; omega)
         have hB9 : B2 ≤ w9.heap.size := Nat.le_trans hB7 gb9.size
         go_wp2_with fail
         go_meet
         exact ⟨⟨o1, n1, x1, o2, n2, x2, o3, i, x3, C, K, ks, hO9, hO19, hO29, hO39, hrg9, Nat.le_succ_of_le HHC.out, Nat.le_succ_of_le HHK.out, HKS.out⟩, hbB9, hB9⟩
     ·obtain ⟨ib, hib⟩ : ∃ q, Hid (aroundF by_ 64 = q) := ⟨_, hide rfl⟩
      have hibl : ib < 64 := by rw [← hib.out]; exact aroundF_lt (by decide)
      go_wp2_with fail
      refine wp_region_free 6 [⟨0, 121, [121], fun vs _ => vs = [.pointer (some ⟨gO, 0, none⟩)]⟩, ⟨1, 122, [122], fun vs _ => vs = [.slice o1 n1 x1]⟩, ⟨2, 123, [123], fun vs _ => vs = [.int .i64 by_]⟩, ⟨3, 124, [124], fun vs _ => vs = [.int .i64 (ib : Int)]⟩, ⟨4, 125, [125], fun vs _ => vs = [.int .u8 (ib : Int)]⟩, ⟨5, 126, [126], fun vs w => ∃ g, vs = [.slice (some ⟨g, 0, none⟩) 1 1] ∧ Box w g 5 [.int .u8 (ib : Int)]⟩] (by kernel_rfl) (by kernel_rfl) ?_ ?_ ?_
      ·simp only [All]
       refine ⟨fun _ _ _ _ h => h, fun _ _ _ _ h => h, fun _ _ _ _ h => h, fun _ _ _ _ h => h, fun _ _ _ _ h => h, ?_, trivial⟩
       ·exact fun vs w1 w2 hb ⟨g, h1, h2⟩ => ⟨g, h1, h2.under hb⟩
      ·simp only [All]
       refine ⟨?_, ?_, ?_, ?_, ?_, ?_, trivial⟩
       ·intro o ho a' w' hb hfr hdep; obtain rfl := oj ho
        have g9 : a'.tmps[9]?.getD undef = .pointer (some ⟨gO, 0, none⟩) := by simpa using hfr 9 (by kernel_rfl)
        clear ho hfr hdep; go_wp2_with fail; exact ⟨rfl, _, rfl, br, rfl⟩
       ·intro o ho a' w' hb hfr hdep; obtain rfl := oj ho
        have g121 : a'.tmps[121]?.getD undef = .pointer (some ⟨gO, 0, none⟩) := by simpa using hdep 0 _ rfl (by kernel_rfl)
        clear ho hfr hdep; have hcl := (hO.under hb).at_ (j := 0) rfl
        go_wp2_with fail; exact ⟨rfl, _, rfl, br, rfl⟩
       ·intro o ho a' w' hb hfr hdep; obtain rfl := oj ho
        have g3 : a'.tmps[3]?.getD undef = .int .i64 by_ := by simpa using hfr 3 (by kernel_rfl)
        clear ho hfr hdep; go_wp2_with fail; exact ⟨rfl, _, rfl, br, rfl⟩
       ·intro o ho a' w' hb hfr hdep; obtain rfl := oj ho
        have g123 : a'.tmps[123]?.getD undef = .int .i64 by_ := by simpa using hdep 2 _ rfl (by kernel_rfl)
        clear ho hfr hdep; have har0 := ref_Around by_ 64 64 w' rfl HBY.out.1 HBY.out.2 (by omega) (by omega)
        rw [hib.out] at har0
        have har := hide har0
        clear har0
        go_wp2_with (go_at_call 23; refine har.out.mono ?_; rintro e w2 ⟨rfl, rfl⟩)
        exact ⟨rfl, _, rfl, br, rfl⟩
       ·intro o ho a' w' hb hfr hdep; obtain rfl := oj ho
        have g124 : a'.tmps[124]?.getD undef = .int .i64 (ib : Int) := by simpa using hdep 3 _ rfl (by kernel_rfl)
        clear ho hfr hdep; have hw9 : IntKind.u8.wrap (ib : Int) = (ib : Int) := Int.emod_eq_of_lt (by omega) (by show (ib : Int) < 256; omega)
        have hm9 : (ib : Int) % 256 = (ib : Int) := Int.emod_eq_of_lt (by omega) (by omega)
        go_wp2_with fail; exact ⟨rfl, _, rfl, br, by first | rfl | simp [hm9] | simp [hw9]⟩
       ·intro o ho a' w' hb hfr hdep; obtain rfl := oj ho
        have g125 : a'.tmps[125]?.getD undef = .int .u8 (ib : Int) := by simpa using hdep 4 _ rfl (by kernel_rfl)
        clear ho hfr hdep; have hnw := Box.new w' 5 #[.int .u8 (ib : Int)]
        go_wp2_with fail
        exact ⟨rfl, _, rfl, blo _ _, _, rfl, hnw⟩
      ·intro gg w7 hbl hp'
       have p122 := hp' 1 _ rfl
       obtain ⟨gq, p126, hq⟩ := hp' 5 _ rfl
       clear hp'
       simp at p122 p126
       simp only [List.drop_succ_cons, List.drop_zero, List.map_cons, List.map_nil, putAll, Act.put, List.setIfInBounds_toArray, List.set_cons_succ, List.set_cons_zero, List.cons_append, List.nil_append, p122, p126]
       clear p122 p126
       have hO7 := hO.under hbl
       have hO17 := hO1.below hbl
       have hO27 := hO2.below hbl
       have hO37 := hO3.below hbl
       have hrg7 : Hid (∀ h ∈ ks, RowG w7 3 B2 h) := hide (fun h hh => (hrg.out h hh).below hbl)
       have hbB7 := hbB6.trans (hbl.mono (by omega))
       have hB7 : B2 ≤ w7.heap.size := Nat.le_trans hBw hbl.size
       clear hO hO1 hO2 hO3 hrg hbB6 hBw hbl
       have hqs : Sl w7 1 (some ⟨gq, 0, none⟩) 1 1 [.int .u8 (ib : Int)] := hq.sl 0 1 1 1 [.int .u8 (ib : Int)] rfl (Nat.le_refl _) (by decide) (fun j u hj => by rw [Nat.zero_add]; exact hj)
       have hqs' : Sl w7 1 (some ⟨gq, 0, none⟩) 1 1 (([UInt8.ofNat ib] : List UInt8).map B8) := by
        have e : ([.int .u8 (ib : Int)] : List Value) = ([UInt8.ofNat ib] : List UInt8).map B8 := by
         show [Value.int .u8 (ib : Int)] = [.int .u8 ((UInt8.ofNat ib).toNat : Int)]
         rw [UInt8.toNat_ofNat_of_lt' (by show ib < 256; omega)]
        rw [← e]
        exact hqs
       clear hq hqs
       go_wp2_with (at_builtin; refine app_bs rfl _ _ rfl w7 B o1 n1 x1 _ rfl hO17 (some ⟨gq, 0, none⟩) 1 1 [UInt8.ofNat ib] rfl hqs' (by omega) (by omega) (Below.refl _ _) ?_; intro a8 c8 w8 hO18 gb8 hb8; refine hold ?_)
       refine hide ?_
       have hO18 : Go.Dx.Own w8 B 5 1 a8 (n1 + 1) c8 ((C ++ [UInt8.ofNat ib]).map B8) := by rw [List.map_append]; exact hO18
       have hO8 := hO7.grown gb8 (own_box hO17 hO7 (by decide))
       have hO28 := hO27.kept gb8 (fun p hp => by subst hp; exact far_map hO27 hO17 (by decide))
       have hO38 := hO37.kept gb8 (fun p hp => by subst hp; exact far_map hO37 hO17 (by decide))
       have hrg8 : Hid (∀ h ∈ ks, RowG w8 3 B2 h) := hide (fun h hh => (hrg7.out h hh).own hO17 (by decide) gb8)
       have hbB8 := hbB7.grown gb8 (by omega) (fun q hq => own_ge hO17 q hq)
       have hB8 : B2 ≤ w8.heap.size := Nat.le_trans hB7 gb8.size
       clear hO7 hO17 hO27 hO37 hrg7 hbB7 hB7 gb8 hb8 hqs'
       go_wp2_with (with_reducible refine hold_store ?_)
       refine hide ?_
       refine store_cell 27 _ _ 43 gO 0 _ (.slice a8 (n1 + 1) c8) size_row hO8 rfl rfl rfl rfl (by simp) ?_; intro w9 hO9 gb9 zb9
       have hO9 : Box w9 gO 43 [.slice a8 (n1 + 1) c8, .slice o2 n2 x2, .slice o3 i x3] := hO9
       have hO19 := hO18.kept gb9 (fun p hp e => own_box hO18 hO8 (by decide) (by rw [hp]; exact e.symm))
       have hO29 := hO28.kept gb9 (fun p hp e => own_box hO28 hO8 (by decide) (by rw [hp]; exact e.symm))
       have hO39 := hO38.keptK gb9 hgB
       have hrg9 : ∀ h ∈ ks, RowG w9 3 B2 h := fun h hh => (hrg8.out h hh).low gb9 hgB
       have hbB9 := hbB8.grown gb9 (by omega) (fun q hq => by cases hq; exact hBO)
       have hB9 : B2 ≤ w9.heap.size := Nat.le_trans hB8 gb9.size
       go_wp2_with fail
       go_meet
       exact ⟨⟨a8, n1 + 1, c8, o2, n2, x2, o3, i, x3, C ++ [UInt8.ofNat ib], K, ks, hO9, hO19, hO29, hO39, hrg9, by rw [List.length_append]; exact Nat.succ_le_succ HHC.out, Nat.le_succ_of_le HHK.out, HKS.out⟩, hbB9, hB9⟩
     ·have cOf : w6.cell? ⟨gO, 2, none⟩ = some (.slice o3 i x3) := hO.at_ rfl
      by_cases h0 : i = 0
      ·have e1 : decide (0 < (i : Int)) = false := decide_eq_false (by omega)
       have e2 : decide (0 < i) = false := decide_eq_false (by omega)
       have e3 : decide ((i : Int) > 0) = false := decide_eq_false (by omega)
       go_wp2_with fail
       go_meet
       exact ⟨⟨o1, n1, x1, o2, n2, x2, o3, i, x3, C, K, ks, hO, hO1, hO2, hO3, hrg.out, Nat.le_succ_of_le HHC.out, Nat.le_succ_of_le HHK.out, HKS.out⟩, hbB6, hBw⟩
      ·have e1 : decide (0 < (i : Int)) = true := decide_eq_true (by omega)
       have e2 : decide (0 < i) = true := decide_eq_true (by omega)
       have e3 : decide ((i : Int) > 0) = true := decide_eq_true (by omega)
       have hne : o3 ≠ none := fun e => by have h1 := hO3.sl.nil e; have h2 := hO3.sl.le; omega
       obtain ⟨gb, cur, rfl, hgb, hbx, hnc, rfl, hmx, htk⟩ := own_parts hO3 hne
       clear hne
       obtain ⟨ia, hia⟩ : ∃ q, Hid (aroundF at_ i = q) := ⟨_, hide rfl⟩
       have hial : ia < i := by rw [← hia.out]; exact aroundF_lt (by omega)
       obtain ⟨⟨z1, z2, z3⟩, hz⟩ : ∃ h, ks[ia]? = some h := ⟨_, List.getElem?_eq_getElem (by have := HKL.out; omega)⟩
       have hzg := hrg.out _ (List.mem_of_getElem? hz)
       have huz : Hid ((ks.map hdv)[ia]? = some (.slice z1 z2 z3)) := hide (by rw [List.getElem?_map, hz]; rfl)
       have ht3 := hO3.sl
       obtain ⟨zr, hzs, hz8, -⟩ := hzg.sl
       have hzn : z2 = zr.length := hzs.n_eq
       have hz28 : z2 ≤ 8 := by omega
       obtain ⟨hf, hhf⟩ : ∃ hf : Nat, Hid (((z2 : Nat) : Int).tdiv 2 = (hf : Int) ∧ hf ≤ z2) := ⟨z2 / 2, hide ⟨by rw [Int.tdiv_eq_ediv_of_nonneg (by omega)]; rfl, Nat.div_le_self _ _⟩⟩
       have HZ := hide hz
       clear hz hzn hz8
       have har0 := ref_Around at_ (i : Int) i w6 rfl HAT.out.1 HAT.out.2 (by omega) (by omega)
       rw [hia.out] at har0
       have har := hide har0
       clear har0
       go_wp2_with (go_at_call 23; refine har.out.mono ?_; rintro e w7 ⟨rfl, rfl⟩)
       refine wp_region_free 16 [⟨0, 140, [140], fun vs _ => vs = [.pointer (some ⟨gO, 2, none⟩)]⟩, ⟨1, 141, [141], fun vs _ => vs = [.slice (some ⟨gb, 0, none⟩) i cur.length]⟩, ⟨2, 142, [142], fun vs _ => vs = [.int .i64 (ia : Int)]⟩, ⟨3, 143, [143], fun vs _ => vs = [.pointer (some ⟨gO, 2, none⟩)]⟩, ⟨4, 144, [144], fun vs _ => vs = [.slice (some ⟨gb, 0, none⟩) i cur.length]⟩, ⟨5, 145, [145], fun vs _ => vs = [.int .i64 (ia : Int)]⟩, ⟨6, 146, [146], PtL (.slice z1 z2 z3)⟩, ⟨7, 147, [147], fun vs _ => vs = [.slice z1 z2 z3]⟩, ⟨8, 148, [148], fun vs _ => vs = [.pointer (some ⟨gO, 2, none⟩)]⟩, ⟨9, 149, [149], fun vs _ => vs = [.slice (some ⟨gb, 0, none⟩) i cur.length]⟩, ⟨10, 150, [150], fun vs _ => vs = [.int .i64 (ia : Int)]⟩, ⟨11, 151, [151], PtL (.slice z1 z2 z3)⟩, ⟨12, 152, [152], fun vs _ => vs = [.slice z1 z2 z3]⟩, ⟨13, 153, [153], fun vs _ => vs = [.int .i64 (z2 : Int)]⟩, ⟨14, 154, [154], fun vs _ => vs = [.int .i64 (hf : Int)]⟩, ⟨15, 155, [155], fun vs _ => vs = [.slice z1 hf z3]⟩] (by kernel_rfl) (by kernel_rfl) ?_ ?_ ?_
       ·simp only [All]
        refine ⟨fun _ _ _ _ h => h, fun _ _ _ _ h => h, fun _ _ _ _ h => h, fun _ _ _ _ h => h, fun _ _ _ _ h => h, fun _ _ _ _ h => h, ?_, fun _ _ _ _ h => h, fun _ _ _ _ h => h, fun _ _ _ _ h => h, fun _ _ _ _ h => h, ?_, fun _ _ _ _ h => h, fun _ _ _ _ h => h, fun _ _ _ _ h => h, fun _ _ _ _ h => h, trivial⟩
        ·rintro vs w1 w2 hb ⟨b, o, h1, h2⟩
         exact ⟨b, o, h1, cell_blw8 h2 hb⟩
        ·rintro vs w1 w2 hb ⟨b, o, h1, h2⟩
         exact ⟨b, o, h1, cell_blw8 h2 hb⟩
       ·simp only [All]
        refine ⟨?_, ?_, ?_, ?_, ?_, ?_, ?_, ?_, ?_, ?_, ?_, ?_, ?_, ?_, ?_, ?_, trivial⟩
        ·intro o ho a' w' hb hfr hdep; obtain rfl := oj ho
         have g9 : a'.tmps[9]?.getD undef = .pointer (some ⟨gO, 0, none⟩) := by simpa using hfr 9 (by kernel_rfl)
         clear ho hfr hdep; go_wp2_with fail; exact ⟨rfl, _, rfl, br, rfl⟩
        ·intro o ho a' w' hb hfr hdep; obtain rfl := oj ho
         have g140 : a'.tmps[140]?.getD undef = .pointer (some ⟨gO, 2, none⟩) := by simpa using hdep 0 _ rfl (by kernel_rfl)
         clear ho hfr hdep; have hcl := (hO.under hb).at_ (j := 2) rfl
         go_wp2_with fail; exact ⟨rfl, _, rfl, br, rfl⟩
        ·intro o ho a' w' hb hfr hdep; obtain rfl := oj ho
         have g12 : a'.tmps[12]?.getD undef = .int .i64 (ia : Int) := by simpa using hfr 12 (by kernel_rfl)
         clear ho hfr hdep; go_wp2_with fail; exact ⟨rfl, _, rfl, br, rfl⟩
        ·intro o ho a' w' hb hfr hdep; obtain rfl := oj ho
         have g9 : a'.tmps[9]?.getD undef = .pointer (some ⟨gO, 0, none⟩) := by simpa using hfr 9 (by kernel_rfl)
         clear ho hfr hdep; go_wp2_with fail; exact ⟨rfl, _, rfl, br, rfl⟩
        ·intro o ho a' w' hb hfr hdep; obtain rfl := oj ho
         have g143 : a'.tmps[143]?.getD undef = .pointer (some ⟨gO, 2, none⟩) := by simpa using hdep 3 _ rfl (by kernel_rfl)
         clear ho hfr hdep; have hcl := (hO.under hb).at_ (j := 2) rfl
         go_wp2_with fail; exact ⟨rfl, _, rfl, br, rfl⟩
        ·intro o ho a' w' hb hfr hdep; obtain rfl := oj ho
         have g12 : a'.tmps[12]?.getD undef = .int .i64 (ia : Int) := by simpa using hfr 12 (by kernel_rfl)
         clear ho hfr hdep; go_wp2_with fail; exact ⟨rfl, _, rfl, br, rfl⟩
        ·intro o ho a' w' hb hfr hdep; obtain rfl := oj ho
         have g144 : a'.tmps[144]?.getD undef = .slice (some ⟨gb, 0, none⟩) i cur.length := by simpa using hdep 4 _ rfl (by kernel_rfl)
         have g145 : a'.tmps[145]?.getD undef = .int .i64 (ia : Int) := by simpa using hdep 5 _ rfl (by kernel_rfl)
         clear ho hfr hdep; refine idx_ii 146 _ _ (some ⟨gb, 0, none⟩) i cur.length _ (by show a'.tmps.getD 144 undef = _; simpa using g144) (ht3.below hb) .i64 _ ia (by show a'.tmps.getD 145 undef = _; simpa using g145) rfl _ huz.out ?_
         intro b o hcell hbo
         exact ⟨rfl, _, rfl, br, b, o, rfl, hcell⟩
        ·intro o ho a' w' hb hfr hdep; obtain rfl := oj ho
         obtain ⟨b146, o146, g146, c146⟩ := hdep 6 _ rfl (by kernel_rfl)
         simp at g146
         clear ho hfr hdep; have hcl := c146
         go_wp2_with fail; exact ⟨rfl, _, rfl, br, rfl⟩
        ·intro o ho a' w' hb hfr hdep; obtain rfl := oj ho
         have g9 : a'.tmps[9]?.getD undef = .pointer (some ⟨gO, 0, none⟩) := by simpa using hfr 9 (by kernel_rfl)
         clear ho hfr hdep; go_wp2_with fail; exact ⟨rfl, _, rfl, br, rfl⟩
        ·intro o ho a' w' hb hfr hdep; obtain rfl := oj ho
         have g148 : a'.tmps[148]?.getD undef = .pointer (some ⟨gO, 2, none⟩) := by simpa using hdep 8 _ rfl (by kernel_rfl)
         clear ho hfr hdep; have hcl := (hO.under hb).at_ (j := 2) rfl
         go_wp2_with fail; exact ⟨rfl, _, rfl, br, rfl⟩
        ·intro o ho a' w' hb hfr hdep; obtain rfl := oj ho
         have g12 : a'.tmps[12]?.getD undef = .int .i64 (ia : Int) := by simpa using hfr 12 (by kernel_rfl)
         clear ho hfr hdep; go_wp2_with fail; exact ⟨rfl, _, rfl, br, rfl⟩
        ·intro o ho a' w' hb hfr hdep; obtain rfl := oj ho
         have g149 : a'.tmps[149]?.getD undef = .slice (some ⟨gb, 0, none⟩) i cur.length := by simpa using hdep 9 _ rfl (by kernel_rfl)
         have g150 : a'.tmps[150]?.getD undef = .int .i64 (ia : Int) := by simpa using hdep 10 _ rfl (by kernel_rfl)
         clear ho hfr hdep; refine idx_ii 151 _ _ (some ⟨gb, 0, none⟩) i cur.length _ (by show a'.tmps.getD 149 undef = _; simpa using g149) (ht3.below hb) .i64 _ ia (by show a'.tmps.getD 150 undef = _; simpa using g150) rfl _ huz.out ?_
         intro b o hcell hbo
         exact ⟨rfl, _, rfl, br, b, o, rfl, hcell⟩
        ·intro o ho a' w' hb hfr hdep; obtain rfl := oj ho
         obtain ⟨b151, o151, g151, c151⟩ := hdep 11 _ rfl (by kernel_rfl)
         simp at g151
         clear ho hfr hdep; have hcl := c151
         go_wp2_with fail; exact ⟨rfl, _, rfl, br, rfl⟩
        ·intro o ho a' w' hb hfr hdep; obtain rfl := oj ho
         have g152 : a'.tmps[152]?.getD undef = .slice z1 z2 z3 := by simpa using hdep 12 _ rfl (by kernel_rfl)
         clear ho hfr hdep; go_wp2_with fail; exact ⟨rfl, _, rfl, br, rfl⟩
        ·intro o ho a' w' hb hfr hdep; obtain rfl := oj ho
         have g153 : a'.tmps[153]?.getD undef = .int .i64 (z2 : Int) := by simpa using hdep 13 _ rfl (by kernel_rfl)
         clear ho hfr hdep; have h9 := hhf.out.1
         have hf8 : hf ≤ 8 := by have := hhf.out.2; omega
         have hwr : wrap64 (hf : Int) = (hf : Int) := by unfold wrap64; omega
         go_wp2_with fail; exact ⟨rfl, _, rfl, br, by first | rfl | (simp [h9]; done) | (simp [h9, hwr]; done)⟩
        ·intro o ho a' w' hb hfr hdep; obtain rfl := oj ho
         have g147 : a'.tmps[147]?.getD undef = .slice z1 z2 z3 := by simpa using hdep 7 _ rfl (by kernel_rfl)
         have g154 : a'.tmps[154]?.getD undef = .int .i64 (hf : Int) := by simpa using hdep 14 _ rfl (by kernel_rfl)
         clear ho hfr hdep; refine cut_hi 155 22 _ _ 3 Try.underlying22 1 size_int z1 z2 z3 _ (by show a'.tmps.getD 147 undef = _; simpa using g147) (hzs.below hb) .i64 _ hf (by show a'.tmps.getD 154 undef = _; simpa using g154) rfl hhf.out.2 ?_
         intro hcut
         exact ⟨rfl, _, rfl, br, rfl⟩
       ·intro gg w7 hbl hp'
        have p141 := hp' 1 _ rfl
        have p142 := hp' 2 _ rfl
        have p155 := hp' 15 _ rfl
        clear hp'
        simp at p141 p142 p155
        simp only [List.drop_succ_cons, List.drop_zero, List.map_cons, List.map_nil, putAll, Act.put, List.setIfInBounds_toArray, List.set_cons_succ, List.set_cons_zero, List.cons_append, List.nil_append, p141, p142, p155]
        clear p141 p142 p155
        have hO7 := hO.under hbl
        have hO17 := hO1.below hbl
        have hO27 := hO2.below hbl
        have hO37 := hO3.below hbl
        have hrg7 : Hid (∀ h ∈ ks, RowG w7 3 B2 h) := hide (fun h hh => (hrg.out h hh).below hbl)
        have hbB7 := hbB6.trans (hbl.mono (by omega))
        have hB7 : B2 ≤ w7.heap.size := Nat.le_trans hBw hbl.size
        have hbx7 := hbx.under hbl
        have hzg7 := hzg.below hbl
        clear hbx hzg hzs ht3
        clear hO hO1 hO2 hO3 hrg hbB6 hBw hbl
        go_wp2_with (first
         | (with_reducible refine index_known 156 37 _ _ 22 Try.underlying37 size_hd gb i cur.length rfl _ _ ia rfl rfl hial ?_)
         | (with_reducible refine hold_store ?_))
        refine hide ?_
        refine store_cell 22 _ _ 22 gb ia cur (.slice z1 hf z3) size_hd hbx7 rfl rfl rfl rfl (by omega) ?_; intro w9 hbx9 gb9 zb9
        have hO39 : Go.Dx.Own w9 B2 22 1 (some ⟨gb, 0, none⟩) i cur.length ((ks.set ia (z1, hf, z3)).map hdv) := by
         have h := own_of (n := i) hgb hbx9 (by rw [List.length_set]; exact hnc) (by rw [List.length_set]; exact hmx)
         rw [List.length_set] at h
         have e : (cur.set ia (.slice z1 hf z3)).take i = (ks.set ia (z1, hf, z3)).map hdv := by rw [List.take_set, htk, List.map_set]; rfl
         rw [e] at h
         exact h
        have hO9 := hO7.grown gb9 (by intro e; injection e with e; omega)
        have hO19 := hO17.kept gb9 (fun p hp => by subst hp; exact far_map hO17 hO37 (by decide))
        have hO29 := hO27.kept gb9 (fun p hp => by subst hp; exact far_map hO27 hO37 (by decide))
        have hrg8 : ∀ h ∈ ks, RowG w9 3 B2 h := fun h hh => (hrg7.out h hh).own hO37 (by decide) gb9
        have hrg9 : ∀ h ∈ ks.set ia (z1, hf, z3), RowG w9 3 B2 h := fun h hh => by
         rcases List.mem_or_eq_of_mem_set hh with hh | hh
         ·exact hrg8 h hh
         ·subst hh
          exact (hrg8 _ (List.mem_of_getElem? HZ.out)).cut hhf.out.2
        have hbB9 := hbB7.grown gb9 (by omega) (fun q hq => by cases hq; omega)
        have hB9 : B2 ≤ w9.heap.size := Nat.le_trans hB7 gb9.size
        go_wp2_with fail
        go_meet
        exact ⟨⟨o1, n1, x1, o2, n2, x2, _, i, cur.length, C, K, ks.set ia (z1, hf, z3), hO9, hO19, hO29, hO39, hrg9, Nat.le_succ_of_le HHC.out, Nat.le_succ_of_le HHK.out, by rw [List.length_set]; exact HKS.out⟩, hbB9, hB9⟩
     ·have cO1 : w6.cell? ⟨gO, 1, none⟩ = some (.slice o2 n2 x2) := hO.at_ rfl
      go_wp2_with (at_builtin; refine app_i rfl _ _ rfl w6 B o2 n2 x2 _ rfl hO2 0 rfl (by omega) (by omega) (Below.refl _ _) ?_; intro a9 c9 w7 hO27 gb7 hb7; refine hold ?_)
      refine hide ?_
      have hO27 : Go.Dx.Own w7 B 3 1 a9 (n2 + 1) c9 ((K ++ [0]).map I64) := by rw [List.map_append]; exact hO27
      have hO7 := hO.grown gb7 (own_box hO2 hO (by decide))
      have hO17 := hO1.kept gb7 (fun p hp => by subst hp; exact far_map hO1 hO2 (by decide))
      have hO37 := hO3.kept gb7 (fun p hp => by subst hp; exact far_map hO3 hO2 (by decide))
      have hrg7 : Hid (∀ h ∈ ks, RowG w7 3 B2 h) := hide (fun h hh => (hrg.out h hh).grown gb7 (fun k hk _ e => by
       obtain ⟨q, hq, hqk⟩ : ∃ q, o2 = some q ∧ q.block = k := by
        cases o2 with
        | none => cases e
        | some q => injection e with e; exact ⟨q, rfl, e.symm⟩
       have := h2l q hq
       omega))
      have hbB7 := hbB6.grown gb7 (by rw [← hBB.out]; exact hbB6.size) (fun q hq => own_ge hO2 q hq)
      have hB7 : B2 ≤ w7.heap.size := Nat.le_trans hBw gb7.size
      clear hO hO1 hO2 hO3 hrg hbB6 hBw cO1 gb7 hb7 h2l
      go_wp2_with (with_reducible refine hold_store ?_)
      refine hide ?_
      refine store_cell 22 _ _ 43 gO 1 _ (.slice a9 (n2 + 1) c9) size_hd hO7 rfl rfl rfl rfl (by simp) ?_; intro w9 hO9 gb9 zb9
      have hO9 : Box w9 gO 43 [.slice o1 n1 x1, .slice a9 (n2 + 1) c9, .slice o3 i x3] := hO9
      have hO19 := hO17.kept gb9 (fun p hp e => own_box hO17 hO7 (by decide) (by rw [hp]; exact e.symm))
      have hO29 := hO27.kept gb9 (fun p hp e => own_box hO27 hO7 (by decide) (by rw [hp]; exact e.symm))
      have hO39 := hO37.keptK gb9 hgB
      have hrg9 : ∀ h ∈ ks, RowG w9 3 B2 h := fun h hh => (hrg7.out h hh).low gb9 hgB
      have hbB9 := hbB7.grown gb9 (by omega) (fun q hq => by cases hq; exact hBO)
      have hB9 : B2 ≤ w9.heap.size := Nat.le_trans hB7 gb9.size
      go_wp2_with fail
      go_meet
      exact ⟨⟨o1, n1, x1, a9, n2 + 1, c9, o3, i, x3, C, K ++ [0], ks, hO9, hO19, hO29, hO39, hrg9, Nat.le_succ_of_le HHC.out, by rw [List.length_append]; exact Nat.succ_le_succ HHK.out, HKS.out⟩, hbB9, hB9⟩
    case rest =>
     obtain ⟨⟨o1, k1, x1, o2, k2, x2, o3, k3, x3, C', K', ks', kO, kO1, kO2, kO3, krg, kc, kk, ka⟩, kb, kB⟩ := hcut
     have Y8c : Box wc g8 43 [.slice none 0 0, .slice none 0 0, .slice none 0 0] := HY8.out.below (show Below B w5 wc by
      refine ⟨kb.os.trans HB2.out.os.symm, kb.tape.trans HB2.out.tape.symm, kb.output.trans HB2.out.output.symm, ?_, fun q hq => (kb.block q hq).trans (HB2.out.block q hq).symm⟩
      have := hB2e.out
      omega) h8B
     have KO1 := hide kO1
     have KO2 := hide kO2
     have KO3 := hide kO3
     have KRG := hide krg
     have KB := hide kb
     clear kO1 kO2 kO3 krg kb
     go_wp2_with (first
      | (with_reducible refine load_struct 157 43 _ 3 size_rcert _ Try.underlying43 ⟨gO, 0, none⟩ rfl [.slice o1 k1 x1, .slice o2 k2 x2, .slice o3 k3 x3] rfl (fun j u hj => by rw [Addr.add_lit, Nat.zero_add]; exact kO.at_ hj) ?_)
      | (with_reducible refine hold_store ?_))
     refine hide ?_
     refine store_all 43 _ _ 43 g8 [.slice none 0 0, .slice none 0 0, .slice none 0 0] [.slice o1 k1 x1, .slice o2 k2 x2, .slice o3 k3 x3] (.agg #[.slice o1 k1 x1, .slice o2 k2 x2, .slice o3 k3 x3]) size_rcert Y8c rfl rfl rfl rfl (by simp [Value.oneCell']) ?_; intro w9 Y9 gb9 zb9
     have f1 := (KO1.out.keptK gb9 h8B).sl
     have f2 := (KO2.out.keptK gb9 h8B).sl
     have f3 := (KO3.out.keptK gb9 (by omega)).sl
     have frg : ∀ h ∈ ks', RowG w9 3 B2 h := fun h hh => (KRG.out h hh).low gb9 (by omega)
     obtain ⟨A', hl1, hl2, hl3, hl4⟩ := rows_ng (a := o3) (n := k3) (c := x3) frg
     go_wp2_with fail
     have hba2 : Below w.heap.size w w2 := HBA.out
     have hfin : Below w.heap.size w w9 := (hba2.trans (KB.out.mono hwB)).grown gb9 (by have := hba2.size; have := KB.out.size; omega) (fun q hq => by cases hq; exact hw8)
     refine bodyPost_ret (run_results_cell rfl rfl agg_rc (by rw [size_rcert]; rfl) Y9) rfl ⟨_, C', K', A', rfl, ⟨o1, k1, x1, o2, k2, x2, o3, k3, x3, ks', rfl, f1, f2, ⟨f3, hl1.symm, hl4⟩⟩, ⟨kc, kk, by rw [hl1]; exact Nat.le_succ_of_le ka, hl2, hl3⟩, hfin⟩
end Go.Proofs.Ytlpkicjijlcbfaa
end

section
/- Chapter 08: a path that numbers choose (Walk). -/
namespace Go.Dx
open Go.RowKit
def AllB (G : Value → Prop) (w : World) (a : Option Addr) : Prop := ∀ q, a = some q → ∃ C T z, w.heap[q.block]? = some (.cells C T z) ∧ ∀ u ∈ C.toList, G u
theorem AllB.nil (G : Value → Prop) (w : World) : AllB G w none := fun q h => by cases h
theorem AllB.below {G : Value → Prop} {w w' : World} {a : Option Addr} (h : AllB G w a) (hb : Below w.heap.size w w') : AllB G w' a := fun q hq => by
 obtain ⟨C, T, z, h1, h2⟩ := h q hq
 exact ⟨C, T, z, (hb.block _ (Array.getElem?_eq_some_iff.1 h1).1).trans h1, h2⟩
theorem AllB.grown {G : Value → Prop} {w w' : World} {a : Option Addr} {row : Option Nat} (h : AllB G w a) (hb : w.grownBy w' row) (hr : ∀ q, a = some q → some q.block ≠ row) : AllB G w' a := fun q hq => by
 obtain ⟨C, T, z, h1, h2⟩ := h q hq
 exact ⟨C, T, z, (hb.block _ (Array.getElem?_eq_some_iff.1 h1).1 (hr q hq)).trans h1, h2⟩
theorem AllB.ne {G : Value → Prop} {w : World} {a : Option Addr} {p : Addr} {u : Value} (h : AllB G w a) (hc : w.cell? p = some u) (hG : ¬ G u) : some p.block ≠ a.map (·.block) := by
 intro e
 cases a with
 | none => cases e
 | some q =>
  injection e with e
  obtain ⟨C, T, z, h1, h2⟩ := h q rfl
  unfold World.cell? at hc
  rw [e, h1] at hc
  simp only at hc
  split at hc
  ·cases hc
  ·exact hG (h2 _ (List.mem_of_getElem? (by rw [Array.getElem?_toList]; exact hc)))
theorem Box.ne {w : World} {g : Nat} {t : TypeId} {cs : List Value} {p : Addr} {u : Value} (h : Box w g t cs) (hc : w.cell? p = some u) (hn : u ∉ cs) : p.block ≠ g := by
 intro e
 unfold World.cell? at hc
 unfold Box at h
 rw [e, h] at hc
 simp only at hc
 split at hc
 ·cases hc
 ·exact hn (List.mem_of_getElem? (by simpa using hc))
def IsU (u : Value) : Prop := ∃ k, u = Value.int .u8 k
def IsI (u : Value) : Prop := ∃ k, u = Value.int .i64 k
theorem zeroU8 (n : Nat) : ∀ u ∈ (Builtin.zeroCells (Value.int .u8 0).cells n).toList, IsU u := by
 intro u hu
 unfold Builtin.zeroCells at hu
 rw [Array.toList_map, List.mem_map] at hu
 obtain ⟨i, _, rfl⟩ := hu
 refine ⟨0, ?_⟩
 rw [show (Value.int .u8 0).cells.size = 1 from rfl, Nat.mod_one]
 rfl
section laws
variable {P : Program} {w : World} {ops : Array Oper} {rest : List Oper} {o : Oper} {act : Act} {Q : Exit → Act → World → Prop}
theorem run_append_all {G : Value → Prop} (z : Value) (hG0 : ∀ n, ∀ u ∈ (Builtin.zeroCells z.cells n).toList, G u) (base : Nat) (t tx ty e : TypeId) (i : TypeInfo) (ht : P.underlying t = some (.slice e)) (hi : P.info? e = some i) (hz : i.zero = some z)
  (hzs : z.cells.size = i.size) (a : Option Addr) (n c : Nat) (xs : List Value) (hown : Own w base e i.size a n c xs) (hA : AllB G w a) (hx : ∀ u ∈ xs, G u)
  (x : Value) (m : Nat) (news : List Value) (hs : Src P i.size tx x m news w) (hnw : ∀ u ∈ news, G u)
  (h63 : n + m ≤ maxLen) (hbytes : (n + m) * i.bytes ≤ 140737488355328) (hbase : base ≤ w.heap.size) :
  ∃ a' c' w', (Builtin.append_ #[t, tx] ty #[.slice a n c, x]).run P w = .ok (.slice a' (n + m) c') w' ∧ Own w' base e i.size a' (n + m) c' (xs ++ news) ∧ w.grownBy w' (a.map (·.block)) ∧ AllB G w' a' := by
 have hsmall : n + m ≤ 9223372036854775807 := by simp only [maxLen] at h63; omega
 have hlen : (xs ++ news).length = (n + m) * i.size := by rw [List.length_append, hown.1, hs.newsLen, Nat.add_mul]
 have hold : (Builtin.firstCells i.size n (.slice a n c)).run P w.drew = .ok xs.toArray w.drew := by
  have hsl := hown.sl
  cases a with
  | none =>
   have := hsl.nil rfl
   have := hsl.le
   obtain rfl : n = 0 := by omega
   have hnews : xs = [] := List.eq_nil_of_length_eq_zero (by simpa using hsl.len)
   subst hnews
   exact run_firstCells_none w.drew i.size 0 0 c
  | some p => exact run_firstCells_some w.drew i.size n p n c xs hsl.len (by simpa using hsl.cell p rfl)
 by_cases hroom : n + m ≤ c
 ·rcases hown.2 with ⟨h1, h2⟩ | ⟨g, cap, cur, h1, hbg, hg, hnc, hcm, hcs, htake⟩
  ·injection h1 with h1 h3 h4
   subst h1 h3 h4
   obtain rfl : m = 0 := by omega
   have hx : xs = [] := List.eq_nil_of_length_eq_zero (by simpa using hown.1)
   have hnews : news = [] := List.eq_nil_of_length_eq_zero (by simpa using hs.newsLen)
   subst hx hnews
   refine ⟨none, 0, w, ?_, Own.nil w base e i.size, World.grownBy.refl _ _, AllB.nil _ _⟩
   rcases hs.kind with ⟨e', hk⟩ | hk <;> simp [Builtin.append_, run_underlying ht, run_underlying hk, sizeOf, typeInfo, hi, hs.len, hs.cells]
  ·injection h1 with h1 h3 h4
   subst h1 h4
   have hcur : ∀ u ∈ cur.toList, G u := by
    obtain ⟨C, T, z, k1, k2⟩ := hA _ rfl
    rw [show (⟨g, 0, none⟩ : Addr).block = g from rfl, hg] at k1
    injection k1 with k1
    injection k1 with k1
    rw [k1]
    exact k2
   have hfit : n * i.size + news.length ≤ cur.size := by rw [hs.newsLen, hcs, ← Nat.add_mul]; exact Nat.mul_le_mul_right _ hroom
   have hst := run_storeCells_at P g (n * i.size) e news 0 cur w hg (by simpa using hfit) hs.one
   simp only [Nat.add_zero] at hst
   refine ⟨some ⟨g, 0, none⟩, c, w.setRow g (cur.toList.take (n * i.size) ++ news ++ cur.toList.drop (n * i.size + news.length)).toArray, ?_, ⟨hlen, .inr ⟨g, c, _, rfl, hbg, setRow_heap w g cur _ e _ hg, hroom, hcm, ?_, ?_⟩⟩, ⟨rfl, rfl, rfl, by simp, fun k _ hk => setRow_other w g k _ (fun e => hk (by simp [e]))⟩, ?_⟩
   ·rcases hs.kind with ⟨e', hk⟩ | hk <;> simp [Builtin.append_, run_underlying ht, run_underlying hk, sizeOf, typeInfo, hi, hs.len, hroom, hs.cells, Addr.add_lit, hst]
   ·simp only [List.size_toArray, List.length_append, List.length_take, List.length_drop, Array.length_toList]
    omega
   ·rw [htake, ← hlen]
    exact List.take_left
   ·intro q hq
    injection hq with hq
    subst hq
    refine ⟨_, _, _, setRow_heap w g cur _ e _ hg, ?_⟩
    intro u hu
    rw [List.toList_toArray, List.mem_append, List.mem_append] at hu
    rcases hu with (hu | hu) | hu
    ·exact hcur u (List.mem_of_mem_take hu)
    ·exact hnw u hu
    ·exact hcur u (List.mem_of_mem_drop hu)
 ·have hr := run_append_grow_src (P := P) w t tx ty e i z ht hi hz a n c xs hold x m news hs (by omega) (by omega) (growslice_fits (by omega) hbytes)
  have hge := grownCap_ge w (n + m) c e
  have hcm : grownCap w (n + m) c e ≤ maxLen := grownCap_le_maxLen w (n + m) c e h63
  refine ⟨_, _, _, hr, ⟨hlen, .inr ⟨w.heap.size, _, _, rfl, hbase, heap_alloc_new w.drew _, hge, hcm, ?_, ?_⟩⟩, ⟨rfl, rfl, rfl, by simp, fun k hk _ => Below.heap_alloc w.drew _ k hk⟩, ?_⟩
  ·simp only [Array.size_append, List.size_toArray, size_zeroCells, hzs, hlen, ← Nat.add_mul]
   congr 1
   omega
  ·simp only [Array.toList_append, List.append_assoc]
   rw [← List.append_assoc, ← hlen]
   exact List.take_left
  ·intro q hq
   injection hq with hq
   subst hq
   refine ⟨_, _, _, heap_alloc_new w.drew _, ?_⟩
   intro u hu
   rw [Array.toList_append, List.mem_append] at hu
   rcases hu with hu | hu
   ·rw [List.toList_toArray, List.mem_append] at hu
    rcases hu with hu | hu
    ·exact hx u hu
    ·exact hnw u hu
   ·exact hG0 _ u hu
theorem append_bytesB (hg : o.guard = none) (s x : Operand) (t : TypeId) (hop : o.op = Op.call { callee := Callee.builtin Builtin.append, args := #[s, x], argTypes := #[t, t] })
  (e : TypeId) (ht : P.underlying t = some (.slice e)) (hi : (P.info? e).map (fun i => (i.zero, i.size, i.bytes)) = some (some (.int .u8 0), 1, 1))
  (w0 : World) (B : Nat) (a : Option Addr) (n c : Nat) (xs : List UInt8) (hs : act.eval s = .slice a n c) (hown : Own w B e 1 a n c (xs.map B8)) (hA : AllB IsU w a)
  (a2 : Option Addr) (m c2 : Nat) (ys : List UInt8) (hx : act.eval x = .slice a2 m c2) (hy : Sl w 1 a2 m c2 (ys.map B8))
  (hn : n + m ≤ 1000000000) (hB : B ≤ w.heap.size) (hbel : Below B w0 w)
  (hK : ∀ a' c' w', Own w' B e 1 a' (n + m) c' ((xs ++ ys).map B8) → AllB IsU w' a' → w.grownBy w' (a.map (·.block)) → Below B w0 w' → wpList P ops Q rest (act.put o.dst (.slice a' (n + m) c')) w') :
  wpList P ops Q (o :: rest) act w := by
 obtain ⟨i, hi0, hz0, hz1, hz2⟩ := info_parts hi
 have hown1 : Own w B e i.size a n c (xs.map B8) := by rw [hz1]; exact hown
 have hy1 : Sl w i.size a2 m c2 (ys.map B8) := by rw [hz1]; exact hy
 obtain ⟨a', c', w', hrun, ho, hgr, hI⟩ := run_append_all (P := P) (w := w) (G := IsU) (.int .u8 0) zeroU8 B t t o.type e i ht hi0 hz0 (by rw [hz1]; rfl) a n c _ hown1 hA
  (fun v hv => by obtain ⟨k, _, rfl⟩ := List.mem_map.1 hv; exact ⟨_, rfl⟩) _ m _ (hy1.src ht (one_map B8 (fun _ => rfl) ys)) (fun v hv => by obtain ⟨k, _, rfl⟩ := List.mem_map.1 hv; exact ⟨_, rfl⟩) (by unfold maxLen; omega) (by rw [hz2]; omega) hB
 refine wpList_plain hg fun K hK' => ?_
 unfold Oper.wp
 simp [execOp, hop, resolve, invoke, builtin, hs, hx, hrun, Result.andThen]
 refine hK' _ _ (hK a' c' w' (by rw [hz1] at ho; rw [List.map_append]; exact ho) hI hgr (hbel.grown hgr hB ?_))
 intro k hk
 cases a with
 | none => cases hk
 | some p => injection hk with hk; subst hk; exact hown.base.1
end laws
end Go.Dx
namespace Go.Proofs.Ytlpkicjijlcbfaa
open Go.RowKit Go.Dx Go.Al
section
variable {ops : Array Oper} {rest : List Oper} {o : Oper} {act : Act} {Q : Exit → Act → World → Prop} {w : World}
theorem app_bsB (hg : o.guard = none) (s x : Operand) (hop : o.op = Op.call { callee := Callee.builtin Builtin.append, args := #[s, x], argTypes := #[27, 27] })
  (w0 : World) (B : Nat) (a : Option Addr) (n c : Nat) (xs : List UInt8) (hs : act.eval s = .slice a n c) (hown : Go.Dx.Own w B 5 1 a n c (xs.map B8)) (hA : AllB IsU w a)
  (a2 : Option Addr) (m c2 : Nat) (ys : List UInt8) (hx : act.eval x = .slice a2 m c2) (hy : Sl w 1 a2 m c2 (ys.map B8))
  (hn : n + m ≤ 1000000000) (hB : B ≤ w.heap.size) (hbel : Below B w0 w)
  (hK : ∀ a' c' w', Go.Dx.Own w' B 5 1 a' (n + m) c' ((xs ++ ys).map B8) → AllB IsU w' a' → w.grownBy w' (a.map (·.block)) → Below B w0 w' → wpList Try.prog ops Q rest (act.put o.dst (.slice a' (n + m) c')) w') :
  wpList Try.prog ops Q (o :: rest) act w :=
 append_bytesB hg s x 27 hop 5 Try.underlying27 info_u8 w0 B a n c xs hs hown hA a2 m c2 ys hx hy hn hB hbel hK
end
set_option maxRecDepth 100000 in
set_option maxHeartbeats 8000000 in
theorem ref8_Walk (H : TH) (t : Ta) (l : List Sy) (a : Option Addr) (n c : Nat) (m : List Int) (am : Option Addr) (mn mc : Nat) (w : World) (hT : TaIs w H t) (hs : Sl w 2 a n c (l.flatMap sc)) (hM : Sl w 1 am mn mc (m.map I64)) (hml : ∀ x ∈ m, -9223372036854775808 ≤ x ∧ x ≤ 9223372036854775807)
  (hv : validE t = 0) (hg : goodS l = true) (h2 : l.length ≤ 2048) :
  Calls Try.prog 31 #[H.v, .slice a n c, .slice am mn mc] w fun e w' => ∃ v C K bo, e = .returned (.tuple #[v, .bool bo]) ∧ Ce w' v C K [] ∧ C.length ≤ 50000 ∧ K.length ≤ 50000 ∧ Below w.heap.size w w' := by
 have HV := hide hv
 have HG := hide hg
 have H2 := hide h2
 have HML := hide hml
 have Hm := hide hT
 have Hs := hide hs
 have HMM := hide hM
 clear hv hg h2 hml hT hs hM
 obtain ⟨⟨a0, n0, c0⟩, ⟨a1, n1, c1⟩, ps0, ps1, ⟨ad, nd, cd⟩, ⟨ac, nc, cc⟩, ⟨an, nn, cn⟩, ⟨af, nf, cf⟩, ⟨aw, nw, cw⟩⟩ := H
 unfold TH.v
 simp only [hdv]
 have Y1 := (Box.new w 29 #[.slice a0 n0 c0, .slice a1 n1 c1, .slice ad nd cd, .slice ac nc cc, .slice an nn cn, .slice af nf cf, .slice aw nw cw]).alloc (.cells #[.slice none 0 0, .slice none 0 0, .slice none 0 0] 43)
 have Y2 := Box.new (w.alloc (.cells #[.slice a0 n0 c0, .slice a1 n1 c1, .slice ad nd cd, .slice ac nc cc, .slice an nn cn, .slice af nf cf, .slice aw nw cw] 29)) 43 #[.slice none 0 0, .slice none 0 0, .slice none 0 0]
 have hba := ((Below.refl w.heap.size w).alloc (Nat.le_refl _) (.cells #[.slice a0 n0 c0, .slice a1 n1 c1, .slice ad nd cd, .slice ac nc cc, .slice an nn cn, .slice af nf cf, .slice aw nw cw] 29)).alloc (by simp) (.cells #[.slice none 0 0, .slice none 0 0, .slice none 0 0] 43)
 simp only [World.size_alloc] at Y2
 go_enter Try.func31, Try.ntmps31
 go_upto_region 1 with fail
 generalize (w.alloc (.cells _ 29)).alloc (.cells _ 43) = w2 at *
 obtain ⟨H, hH⟩ : ∃ H : TH, H = ⟨(a0, n0, c0), (a1, n1, c1), ps0, ps1, (ad, nd, cd), (ac, nc, cc), (an, nn, cn), (af, nf, cf), (aw, nw, cw)⟩ := ⟨_, rfl⟩
 have HX3 : Box w2 w.heap.size 29 (tcells H) := by rw [hH]; exact Y1
 have HR3 : Box w2 (w.heap.size + 1) 43 [.slice none 0 0, .slice none 0 0, .slice none 0 0] := Y2
 have HT3 : TaIs w2 H t := by rw [hH]; exact Hm.out.below hba
 have HS3 := Hs.out.below hba
 have HM3 := HMM.out.below hba
 clear hH Hm Hs HMM Y1 Y2
 obtain ⟨gT, hgT⟩ : ∃ gT, Hid (w.heap.size = gT) := ⟨_, hide rfl⟩
 obtain ⟨gR, hgR⟩ : ∃ gR, Hid (w.heap.size + 1 = gR) := ⟨_, hide rfl⟩
 rw [hgR.out] at HR3 ⊢
 rw [hgT.out] at HX3 ⊢
 have hwR : w.heap.size ≤ gR := by have := hgR.out; omega
 have hbl3 := hba
 clear hba
 have HBL3 := hide hbl3
 obtain ⟨w3, rfl⟩ : ∃ z : World, z = w2 := ⟨_, rfl⟩
 have hnl : n = l.length := HS3.nf sc_len (by decide)
 have HNL := hide hnl
 clear hnl
 have hn20 : n ≤ 2048 := by have := H2.out; have := HNL.out; omega
 obtain ⟨S, hS⟩ : ∃ S, Hid (w3.heap.size = S) := ⟨_, hide rfl⟩
 have hC5 := (Box.new w3 43 #[.slice none 0 0, .slice none 0 0, .slice none 0 0]).alloc (.cells #[.int .i64 0, .bool false, .bool false] 70)
 have hZ5 := Box.new (w3.alloc (.cells #[.slice none 0 0, .slice none 0 0, .slice none 0 0] 43)) 70 #[.int .i64 0, .bool false, .bool false]
 have hb5 := ((Below.refl w3.heap.size w3).alloc (Nat.le_refl _) (.cells #[.slice none 0 0, .slice none 0 0, .slice none 0 0] 43)).alloc (by simp) (.cells #[.int .i64 0, .bool false, .bool false] 70)
 have hs5 : ((w3.alloc (.cells #[.slice none 0 0, .slice none 0 0, .slice none 0 0] 43)).alloc (.cells #[.int .i64 0, .bool false, .bool false] 70)).heap.size = w3.heap.size + 1 + 1 := by simp
 simp only [World.size_alloc] at hZ5
 go_upto_region 3 with fail
 generalize (w3.alloc (.cells _ 43)).alloc (.cells _ 70) = w5 at *
 obtain ⟨gZ, hgZ⟩ : ∃ g, Hid (w3.heap.size + 1 = g) := ⟨_, hide rfl⟩
 rw [hgZ.out] at hZ5 hs5 ⊢
 rw [hS.out] at hC5 hb5 ⊢
 have hC5 : Box w5 S 43 [.slice none 0 0, .slice none 0 0, .slice none 0 0] := hC5
 have hSZ : gZ = S + 1 := by rw [← hgZ.out, hS.out]
 have hS5 : gZ + 1 ≤ w5.heap.size := by omega
 have hgTS : gT < S := by rw [← hS.out]; exact HX3.lt
 have hgRS : gR < S := by rw [← hS.out]; exact HR3.lt
 have hSl : S < gZ := by omega
 have hwS : w.heap.size ≤ S := by rw [← hS.out]; exact hbl3.size
 clear hs5 hSZ hbl3
 go_wp2_with fail
 go_loopg [10] (measP l 0 s00) (fun gh v10 w' => ∃ (i : Nat) (s : St) (o1 o2 : Option Addr) (k1 k2 x1 x2 : Nat) (C : List UInt8) (K : List Int), gh = measP l i s ∧ v10 = .int .i64 (i : Int) ∧ i ≤ n ∧ (s.lang = 0 ∨ s.lang = 1) ∧ Box w' S 43 [.slice o1 k1 x1, .slice o2 k2 x2, .slice none 0 0] ∧ Box w' gZ 70 (scells s) ∧ Go.Dx.Own w' (gZ + 1) 5 1 o1 k1 x1 (C.map B8) ∧ Go.Dx.Own w' (gZ + 1) 3 1 o2 k2 x2 (K.map I64) ∧ AllB IsU w' o1 ∧ AllB IsI w' o2 ∧ Below S w3 w' ∧ gZ + 1 ≤ w'.heap.size ∧ k1 + 12 * measP l i s ≤ 12 * (2 * n + 1) ∧ k2 + measP l i s ≤ 2 * n + 1)
 case atStart => exact ⟨0, s00, none, none, 0, 0, 0, 0, [], [], rfl, rfl, Nat.zero_le _, .inl rfl, hC5, hZ5, Go.Dx.Own.nil _ _ _ _, Go.Dx.Own.nil _ _ _ _, AllB.nil _ _, AllB.nil _ _, hb5, hS5, by have := meas_le (l := l) (i := 0) (s := s00); have := HNL.out; omega, by have := meas_le (l := l) (i := 0) (s := s00); have := HNL.out; omega⟩
 case round =>
  clear hC5 hZ5 hb5 hS5
  obtain ⟨i, s, o1, o2, k1, k2, x1, x2, C, K, hgh, rfl, hi, hsl, hC, hZ, hO1, hO2, hU1, hI2, hb, hSw, hm1, hm2⟩ := hrel
  have HGH := hide hgh
  have HM1 := hide hm1
  have HM2 := hide hm2
  clear hgh hm1 hm2
  have hb' : Below w3.heap.size w3 wr := by rw [hS.out]; exact hb
  by_cases hin : i < n
  ·have d2 : decide ((i : Int) < (n : Int)) = true := decide_eq_true (by omega)
   have d2n : decide (i < n) = true := decide_eq_true hin
   have hinl : i < l.length := by have := HNL.out; omega
   have HXr : Box wr gT 29 (tcells H) := HX3.below hb hgTS
   have HTr := HT3.below hb'
   have HSr := HS3.below hb'
   obtain ⟨L, hL⟩ : ∃ L, Hid (stepsL t s l i = L) := ⟨_, hide rfl⟩
   have hstp0 := rsteps_of8 H t s l (i : Int) hL.out a n c (by have := H2.out; omega) wr HTr HSr
   obtain ⟨LN, hLN⟩ : ∃ LN, L.length = LN := ⟨_, rfl⟩
   rw [hLN] at hstp0
   have hstp := hide hstp0
   have HLN := hide hLN
   have hLN6 : LN ≤ 1000000 := by rw [← hLN, ← hL.out]; exact steps_few HV.out s l i
   clear hstp0 hLN
   go_wp2_with (first
    | (with_reducible refine load_struct 17 29 _ 7 size_tables _ Try.underlying29 ⟨gT, 0, none⟩ rfl (tcells H) rfl (fun j u hj => by rw [Addr.add_lit, Nat.zero_add]; exact HXr.at_ hj) ?_)
    | (with_reducible refine load_struct 18 70 _ 3 size_rst _ Try.underlying70 ⟨gZ, 0, none⟩ rfl (scells s) rfl (fun j u hj => by rw [Addr.add_lit, Nat.zero_add]; exact hZ.at_ hj) ?_)
    | (go_at_call 44; refine hstp.out.mono ?_; rintro e w7 ⟨a2, c2, ps2, rfl, hS7, hb7⟩; refine hold ?_))
   refine hide ?_
   have hC7 := hC.under hb7
   have hZ7 := hZ.under hb7
   have hO17 := hO1.below hb7
   have hO27 := hO2.below hb7
   have hU17 := hU1.below hb7
   have hI27 := hI2.below hb7
   have hb37 := hb.trans (hb7.mono (by omega))
   have hSz7 : gZ + 1 ≤ w7.heap.size := Nat.le_trans hSw hb7.size
   clear hC hZ hO1 hO2 hU1 hI2 hb hb' hSw HXr HTr HSr hb7 hstp
   by_cases hl0 : LN = 0
   ·have d3 : ((LN : Int) == 0) = true := by simp [hl0]
    have d3n : (LN == 0) = true := by simp [hl0]
    have d3d : decide (LN = 0) = true := by simp [hl0]
    have HRr : Box w7 gR 43 [.slice none 0 0, .slice none 0 0, .slice none 0 0] := HR3.below hb37 hgRS
    have hbl := HBL3.out.trans (hb37.mono hwS)
    have hC := hC7
    have hO1 := hO17
    have hO2 := hO27
    clear hC7 hO17 hO27 hZ7 hU17 hI27
    go_wp2_with (first
     | (with_reducible refine load_struct 25 43 _ 3 size_rcert _ Try.underlying43 ⟨S, 0, none⟩ rfl [.slice o1 k1 x1, .slice o2 k2 x2, .slice none 0 0] rfl (fun j u hj => by rw [Addr.add_lit, Nat.zero_add]; exact hC.at_ hj) ?_)
     | (with_reducible refine hold_store ?_))
    refine hide ?_
    refine store_all 43 _ _ 43 gR [.slice none 0 0, .slice none 0 0, .slice none 0 0] [.slice o1 k1 x1, .slice o2 k2 x2, .slice none 0 0] _ size_rcert HRr rfl rfl rfl rfl (by simp [Value.oneCell']) ?_; intro w9 HC9 gb9 zb9
    go_wp2_with fail
    have f1 := (hO1.keptK gb9 (by omega)).sl
    have f2 := (hO2.keptK gb9 (by omega)).sl
    refine bodyPost_ret (res_cell2 (u := 7) rfl _ _ gR _ _ _ _ rfl HC9 Try.underlying43 rfl (by rw [size_rcert]; rfl)) rfl ⟨_, C, K, _, rfl, ⟨o1, k1, x1, o2, k2, x2, none, 0, 0, [], rfl, f1, f2, ⟨Sl.empty _ _, rfl, fun i x r hx => by cases hx⟩⟩, by have h1 := hO1.sl.n_eq; have h2 := HM1.out; omega, by have h1 := hO2.sl.n_eq; have h2 := HM2.out; omega, hbl.grown gb9 hbl.size (fun q hq => by cases hq; exact hwR)⟩
   ·have d3 : ((LN : Int) == 0) = false := by simp [hl0]
    have d3n : (LN == 0) = false := by simp [hl0]
    have d3d : decide (LN = 0) = false := by simp [hl0]
    have hM7 := HM3.below (show Below w3.heap.size w3 w7 by rw [hS.out]; exact hb37)
    obtain ⟨q, hq⟩ : ∃ q, atF m (k2 : Int) LN = q := ⟨_, rfl⟩
    have hqL : q < LN := by rw [← hq]; exact atF_lt (by omega)
    have hat := hide (At_at hq (show (LN : Int) = (LN : Int) from rfl) (by omega) (by omega) HML.out hM7)
    obtain ⟨p, hpk⟩ : ∃ p, ps2[q]? = some p := ⟨_, List.getElem?_eq_getElem (by have := congrArg List.length hS7.eq; rw [List.length_map] at this; have := HLN.out; omega)⟩
    have hkx : (stepsL t s l i)[q]? = some p.1 := by rw [hL.out, ← hS7.eq, List.getElem?_map, hpk]; rfl
    have hxm : p.1 ∈ stepsL t s l i := List.mem_of_getElem? hkx
    have hst := step_meas HV.out HG.out hinl hsl hxm
    have hcf := step_cells HV.out hxm
    clear hkx hxm hq
    obtain ⟨b4, o4, hab, hb4', z0, z1, z2, z3, z4, z5⟩ := st_cells hS7 hpk
    subst hab
    have hslc := hS7.row p (List.mem_of_getElem? hpk)
    have hpn := hslc.n_eq
    obtain ⟨⟨⟨sl, sn, si⟩, lnn, cs, ru⟩, ⟨qa, qn, qc⟩⟩ := p
    simp only at z0 z1 z2 z3 z4 z5 hslc hpn hst hcf
    obtain ⟨lk, rfl⟩ : ∃ lk : Nat, lnn = (lk : Int) := ⟨lnn.toNat, by have := hst.2.2.2; omega⟩
    simp only [Int.toNat_natCast] at hst
    have hil : i + lk ≤ n := by have := HNL.out; omega
    have hqn12 : qn ≤ 12 := by omega
    have hk16 : k1 ≤ 50000 := by have := HM1.out; omega
    have hk26 : k2 ≤ 50000 := by have := HM2.out; omega
    have HPN := hide hpn
    have HST := hide hst
    have cC1 : w7.cell? ⟨S, 1, none⟩ = some (.slice o2 k2 x2) := hC7.at_ rfl
    clear hpn hst hcf hpk hS7
    go_wp2_with (first
     | (go_at_call 21; refine hat.out.mono ?_; rintro e w8 ⟨rfl, rfl⟩)
     | (at_builtin; refine app_iB rfl _ _ rfl w7 (gZ + 1) o2 k2 x2 _ rfl hO27 hI27 (q : Int) rfl (by omega) hSz7 (Below.refl _ _) ?_; intro o2' x2' w8 hO28 hI28 gb8 hb8; refine hold ?_))
    refine hide ?_
    have nB2 : some b4 ≠ o2.map (·.block) := AllB.ne (G := IsI) (p := ⟨b4, o4 + q * 6 + 1, none⟩) hI27 z1 (fun ⟨k, h⟩ => by cases h)
    have nQ2 : 0 < cs.length → ∀ p, qa = some p → some p.block ≠ o2.map (·.block) := fun h0 p hp => IntB.far hI27 hslc h0 p hp
    have kc : ∀ {p : Addr} {u : Value}, w7.cell? p = some u → some p.block ≠ o2.map (·.block) → w8.cell? p = some u := fun {p u} h hn => (World.cell?_of_block (gb8.block _ (World.block_lt_of_cell? w7 _ h) hn)).trans h
    have y0 := kc z0 nB2
    have y3 := kc z3 nB2
    have y1 := kc z1 nB2
    have y2 := kc z2 nB2
    have y4 := kc z4 nB2
    have hsl8 := Sl.keep0 hslc gb8 (fun h0 p hp => nQ2 (by simpa using h0) p hp)
    have hC8 := hC7.grown gb8 (own_lt hO27 (by omega))
    have hZ8 := hZ7.grown gb8 (own_lt hO27 (by omega))
    have hO18 := hO17.kept gb8 (fun p hp => by subst hp; exact far_map hO17 hO27 (by decide))
    have hU18 := hU17.grown gb8 (fun p hp => by subst hp; exact far_map hO17 hO27 (by decide))
    have hb38 := hb37.grown gb8 (by omega) (fun q hq => by have := own_ge hO27 q hq; omega)
    have hS8 : gZ + 1 ≤ w8.heap.size := Nat.le_trans hSz7 gb8.size
    clear kc z0 z1 z2 z3 z4 z5 hslc hC7 hZ7 hO17 hO27 hU17 hI27 hb37 hSz7 gb8 hb8 nB2 nQ2 hat hM7 cC1
    go_wp2_with (with_reducible refine hold_store ?_)
    refine hide ?_
    refine store_cell 22 _ _ 43 S 1 _ (.slice o2' (k2 + 1) x2') size_hd hC8 rfl rfl rfl rfl (by simp) ?_; intro w9 hC9 gb9 zb9
    have hC9 : Box w9 S 43 [.slice o1 k1 x1, .slice o2' (k2 + 1) x2', .slice none 0 0] := hC9
    have nB : b4 ≠ S := Box.ne (p := ⟨b4, o4 + q * 6, none⟩) hC8 y0 (by simp)
    have nB' : some b4 ≠ some S := fun e => nB (by injection e)
    have kc : ∀ {p : Addr} {u : Value}, w8.cell? p = some u → some p.block ≠ some S → w9.cell? p = some u := fun {p u} h hn => (World.cell?_of_block (gb9.block _ (World.block_lt_of_cell? w8 _ h) hn)).trans h
    have u0 := kc y0 nB'
    have u1 := kc y1 nB'
    have u2 := kc y2 nB'
    have u3 := kc y3 nB'
    have u4 := kc y4 nB'
    have hsl9 := Sl.keep0 hsl8 gb9 (fun h0 p hp e => by
     injection e with e
     obtain ⟨x, hx⟩ : ∃ x, cs[0]? = some x := ⟨_, List.getElem?_eq_getElem (by simpa using h0)⟩
     have hc := hsl8.cell p hp 0 (B8 x) (by rw [List.getElem?_map, hx]; rfl)
     exact Box.ne hC8 hc (by simp) e)
    have hZ9 := hZ8.grown gb9 (by intro e; injection e with e; omega)
    have hO19 := hO18.keptK gb9 (by omega)
    have hO29 := hO28.keptK gb9 (by omega)
    have hU19 := hU18.grown gb9 (fun p hp e => by subst hp; have := hO18.base.1; injection e with e; omega)
    have hI29 : AllB IsI w9 o2' := AllB.grown (G := IsI) hI28 gb9 (fun p hp e => by subst hp; have := hO28.base.1; injection e with e; omega)
    have hb39 := hb38.grown gb9 (by omega) (fun q hq => by cases hq; exact Nat.le_refl _)
    have hS9 : gZ + 1 ≤ w9.heap.size := Nat.le_trans hS8 gb9.size
    clear kc y0 y1 y2 y3 y4 hsl8 hC8 hZ8 hO18 hO28 hU18 hI28 hb38 hS8 gb9 zb9 nB nB'
    go_wp2_with fail
    refine wp_region_free 7 [⟨0, 39, [39], fun vs _ => vs = [.pointer (some ⟨S, 0, none⟩)]⟩, ⟨1, 40, [40], fun vs _ => vs = [.slice o1 k1 x1]⟩, ⟨2, 41, [41], fun vs _ => vs = [.slice (some ⟨b4, o4, none⟩) LN c2]⟩, ⟨3, 42, [42], fun vs _ => vs = [.int .i64 (q : Int)]⟩, ⟨4, 43, [43], fun vs _ => vs = [.pointer (some ⟨b4, o4 + q * 6, none⟩)]⟩, ⟨5, 44, [44], fun vs _ => vs = [.pointer (some ⟨b4, o4 + q * 6 + 4, none⟩)]⟩, ⟨6, 45, [45], fun vs _ => vs = [.slice qa qn qc]⟩] (by kernel_rfl) (by kernel_rfl) ?_ ?_ ?_
    ·simp only [All]
     refine ⟨fun _ _ _ _ h => h, fun _ _ _ _ h => h, fun _ _ _ _ h => h, fun _ _ _ _ h => h, fun _ _ _ _ h => h, fun _ _ _ _ h => h, fun _ _ _ _ h => h, trivial⟩
    ·simp only [All]
     refine ⟨?_, ?_, ?_, ?_, ?_, ?_, ?_, trivial⟩
     ·intro o ho a' w' hb hfr hdep; obtain rfl := oj ho
      have g8 : a'.tmps[8]?.getD undef = .pointer (some ⟨S, 0, none⟩) := by simpa using hfr 8 (by kernel_rfl)
      clear ho hfr hdep; go_wp2_with fail; exact ⟨rfl, _, rfl, br, rfl⟩
     ·intro o ho a' w' hb hfr hdep; obtain rfl := oj ho
      have g39 : a'.tmps[39]?.getD undef = .pointer (some ⟨S, 0, none⟩) := by simpa using hdep 0 _ rfl (by kernel_rfl)
      clear ho hfr hdep; have hcl := (hC9.under hb).at_ (j := 0) rfl
      go_wp2_with fail; exact ⟨rfl, _, rfl, br, rfl⟩
     ·intro o ho a' w' hb hfr hdep; obtain rfl := oj ho
      have g11 : a'.tmps[11]?.getD undef = .slice (some ⟨b4, o4, none⟩) LN c2 := by simpa using hfr 11 (by kernel_rfl)
      clear ho hfr hdep; go_wp2_with fail; exact ⟨rfl, _, rfl, br, rfl⟩
     ·intro o ho a' w' hb hfr hdep; obtain rfl := oj ho
      have g12 : a'.tmps[12]?.getD undef = .int .i64 (q : Int) := by simpa using hfr 12 (by kernel_rfl)
      clear ho hfr hdep; go_wp2_with fail; exact ⟨rfl, _, rfl, br, rfl⟩
     ·intro o ho a' w' hb hfr hdep; obtain rfl := oj ho
      have g41 : a'.tmps[41]?.getD undef = .slice (some ⟨b4, o4, none⟩) LN c2 := by simpa using hdep 2 _ rfl (by kernel_rfl)
      have g42 : a'.tmps[42]?.getD undef = .int .i64 (q : Int) := by simpa using hdep 3 _ rfl (by kernel_rfl)
      clear ho hfr hdep; refine index_rowk 43 104 _ _ 103 Try.underlying104 6 size_rf6 b4 o4 LN c2 (by show a'.tmps.getD 41 undef = _; simpa using g41) _ _ q (by show a'.tmps.getD 42 undef = _; simpa using g42) rfl hqL ?_
      exact ⟨rfl, _, rfl, br, rfl⟩
     ·intro o ho a' w' hb hfr hdep; obtain rfl := oj ho
      have g43 : a'.tmps[43]?.getD undef = .pointer (some ⟨b4, o4 + q * 6, none⟩) := by simpa using hdep 4 _ rfl (by kernel_rfl)
      clear ho hfr hdep; go_wp2_with fail; exact ⟨rfl, _, rfl, br, rfl⟩
     ·intro o ho a' w' hb hfr hdep; obtain rfl := oj ho
      have g44 : a'.tmps[44]?.getD undef = .pointer (some ⟨b4, o4 + q * 6 + 4, none⟩) := by simpa using hdep 5 _ rfl (by kernel_rfl)
      clear ho hfr hdep; have hcl := cell_below u4 hb
      go_wp2_with fail; exact ⟨rfl, _, rfl, br, rfl⟩
    ·intro gg w10 hbl hp'
     have p40 := hp' 1 _ rfl
     have p45 := hp' 6 _ rfl
     clear hp'
     simp at p40 p45
     simp only [List.drop_succ_cons, List.drop_zero, List.map_cons, List.map_nil, putAll, Act.put, List.setIfInBounds_toArray, List.set_cons_succ, List.set_cons_zero, List.cons_append, List.nil_append, p40, p45]
     clear p40 p45
     have v0 := cell_below u0 hbl
     have v1 := cell_below u1 hbl
     have v2 := cell_below u2 hbl
     have v3 := cell_below u3 hbl
     have hslA := hsl9.below hbl
     have hCA := hC9.under hbl
     have hZA := hZ9.under hbl
     have hO1A := hO19.below hbl
     have hO2A := hO29.below hbl
     have hU1A := hU19.below hbl
     have hI2A : AllB IsI w10 o2' := AllB.below (G := IsI) hI29 hbl
     have hb3A := hb39.trans (hbl.mono (by omega))
     have hSA : gZ + 1 ≤ w10.heap.size := Nat.le_trans hS9 hbl.size
     clear u0 u1 u2 u3 u4 hsl9 hC9 hZ9 hO19 hO29 hU19 hI29 hb39 hS9 hbl
     go_wp2_with (at_builtin; refine app_bsB rfl _ _ rfl w10 (gZ + 1) o1 k1 x1 _ rfl hO1A hU1A qa qn qc cs rfl hslA (by omega) hSA (Below.refl _ _) ?_; intro o1' x1' w11 hO111 hU111 gb11 hb11; refine hold ?_)
     refine hide ?_
     have nB1 : some b4 ≠ o1.map (·.block) := AllB.ne (G := IsU) (p := ⟨b4, o4 + q * 6, none⟩) hU1A v0 (fun ⟨k, h⟩ => by cases h)
     have kc : ∀ {p : Addr} {u : Value}, w10.cell? p = some u → some p.block ≠ o1.map (·.block) → w11.cell? p = some u := fun {p u} h hn => (World.cell?_of_block (gb11.block _ (World.block_lt_of_cell? w10 _ h) hn)).trans h
     have t0 := kc v0 nB1
     have t1 := kc v1 nB1
     have t2 := kc v2 nB1
     have t3 := kc v3 nB1
     have hC11 := hCA.grown gb11 (own_lt hO1A (by omega))
     have hZ11 := hZA.grown gb11 (own_lt hO1A (by omega))
     have hO211 := hO2A.kept gb11 (fun p hp => by subst hp; exact far_map hO2A hO1A (by decide))
     have hI211 : AllB IsI w11 o2' := AllB.grown (G := IsI) hI2A gb11 (fun p hp => by subst hp; exact far_map hO2A hO1A (by decide))
     have hb311 := hb3A.grown gb11 (by omega) (fun q hq => by have := own_ge hO1A q hq; omega)
     have hS11 : gZ + 1 ≤ w11.heap.size := Nat.le_trans hSA gb11.size
     clear kc v0 v1 v2 v3 hslA hCA hZA hO1A hO2A hU1A hI2A hb3A hSA gb11 hb11 nB1
     go_wp2_with (with_reducible refine hold_store ?_)
     refine hide ?_
     refine store_cell 27 _ _ 43 S 0 _ (.slice o1' (k1 + qn) x1') size_row hC11 rfl rfl rfl rfl (by simp) ?_; intro w12 hC12 gb12 zb12
     have hC12 : Box w12 S 43 [.slice o1' (k1 + qn) x1', .slice o2' (k2 + 1) x2', .slice none 0 0] := hC12
     have nB : b4 ≠ S := Box.ne (p := ⟨b4, o4 + q * 6, none⟩) hC11 t0 (by simp)
     have nB' : some b4 ≠ some S := fun e => nB (by injection e)
     have kc : ∀ {p : Addr} {u : Value}, w11.cell? p = some u → some p.block ≠ some S → w12.cell? p = some u := fun {p u} h hn => (World.cell?_of_block (gb12.block _ (World.block_lt_of_cell? w11 _ h) hn)).trans h
     have r0 := kc t0 nB'
     have r1 := kc t1 nB'
     have r2 := kc t2 nB'
     have r3 := kc t3 nB'
     have hZ12 := hZ11.grown gb12 (by intro e; injection e with e; omega)
     have hO112 := hO111.keptK gb12 (by omega)
     have hO212 := hO211.keptK gb12 (by omega)
     have hU112 := hU111.grown gb12 (fun p hp e => by subst hp; have := hO111.base.1; injection e with e; omega)
     have hI212 : AllB IsI w12 o2' := AllB.grown (G := IsI) hI211 gb12 (fun p hp e => by subst hp; have := hO211.base.1; injection e with e; omega)
     have hb312 := hb311.grown gb12 (by omega) (fun q hq => by cases hq; exact Nat.le_refl _)
     have hS12 : gZ + 1 ≤ w12.heap.size := Nat.le_trans hS11 gb12.size
     have hldS : ∀ j u, ([.int .i64 sl, .bool sn, .bool si] : List Value)[j]? = some u → w12.cell? ((⟨b4, o4 + q * 6, none⟩ : Addr).add j) = some u := fun j u hj => by
      rw [Addr.add_lit]
      match j, hj with
      | 0, hj => cases hj; exact r0
      | 1, hj => cases hj; exact r1
      | 2, hj => cases hj; exact r2
      | j + 3, hj => cases hj
     have HLS := hide hldS
     clear kc t0 t1 t2 t3 r0 r1 r2 hldS hC11 hZ11 hO111 hO211 hU111 hI211 hb311 hS11 gb12 zb12 nB nB'
     go_wp2_with (first
      | (with_reducible refine index_rowk 51 104 _ _ 103 Try.underlying104 6 size_rf6 b4 o4 LN c2 rfl _ _ q rfl rfl hqL ?_)
      | (with_reducible refine index_rowk 57 104 _ _ 103 Try.underlying104 6 size_rf6 b4 o4 LN c2 rfl _ _ q rfl rfl hqL ?_)
      | (with_reducible refine load_struct 59 70 _ 3 size_rst _ Try.underlying70 ⟨b4, o4 + q * 6, none⟩ rfl [.int .i64 sl, .bool sn, .bool si] rfl HLS.out ?_)
      | (with_reducible refine hold_store ?_))
     refine hide ?_
     refine store_all 70 _ _ 70 gZ (scells s) [.int .i64 sl, .bool sn, .bool si] (.agg #[.int .i64 sl, .bool sn, .bool si]) size_rst hZ12 rfl rfl rfl rfl (by simp [Value.oneCell']) ?_; intro w13 hZ13 gb13 zb13
     have hC13 := hC12.grown gb13 (by intro e; injection e with e; omega)
     have hO113 := hO112.keptK gb13 (Nat.lt_succ_self _)
     have hO213 := hO212.keptK gb13 (Nat.lt_succ_self _)
     have hU113 := hU112.grown gb13 (fun p hp e => by subst hp; have := hO112.base.1; injection e with e; omega)
     have hI213 : AllB IsI w13 o2' := AllB.grown (G := IsI) hI212 gb13 (fun p hp e => by subst hp; have := hO212.base.1; injection e with e; omega)
     have hb313 := hb312.grown gb13 (by omega) (fun q hq => by cases hq; omega)
     have hS13 : gZ + 1 ≤ w13.heap.size := Nat.le_trans hS12 gb13.size
     clear hC12 hZ12 hO112 hO212 hU112 hI212 hb312 hS12 HLS gb13 zb13 r3
     go_wp2_with fail
     go_roundg (measP l (i + lk) ⟨sl, sn, si⟩)
     case measure => have := HGH.out; have := HST.out; omega
     case rel => exact ⟨i + lk, ⟨sl, sn, si⟩, o1', o2', k1 + qn, k2 + 1, x1', x2', C ++ cs, K ++ [(q : Int)], rfl, by go_num, hil, HST.out.2.2.1, hC13, hZ13, hO113, hO213, hU113, hI213, hb313, hS13, by have := HST.out; have := HM1.out; omega, by have := HST.out; have := HM2.out; omega⟩
  ·have d2 : decide ((i : Int) < (n : Int)) = false := decide_eq_false (by omega)
   have d2n : decide (i < n) = false := decide_eq_false hin
   have hwz : wr = wr := rfl
   have HRr : Box wr gR 43 [.slice none 0 0, .slice none 0 0, .slice none 0 0] := HR3.below hb hgRS
   have hbl := HBL3.out.trans (hb.mono hwS)
   go_wp2_with (first
    | (with_reducible refine load_struct 60 43 _ 3 size_rcert _ Try.underlying43 ⟨S, 0, none⟩ rfl [.slice o1 k1 x1, .slice o2 k2 x2, .slice none 0 0] rfl (fun j u hj => by rw [Addr.add_lit, Nat.zero_add]; exact hC.at_ hj) ?_)
    | (with_reducible refine hold_store ?_))
   refine hide ?_
   refine store_all 43 _ _ 43 gR [.slice none 0 0, .slice none 0 0, .slice none 0 0] [.slice o1 k1 x1, .slice o2 k2 x2, .slice none 0 0] _ size_rcert HRr rfl rfl rfl rfl (by simp [Value.oneCell']) ?_; intro w9 HC9 gb9 zb9
   go_wp2_with fail
   have f1 := (hO1.keptK gb9 (by omega)).sl
   have f2 := (hO2.keptK gb9 (by omega)).sl
   refine bodyPost_ret (res_cell2 (u := 7) rfl _ _ gR _ _ _ _ rfl HC9 Try.underlying43 rfl (by rw [size_rcert]; rfl)) rfl ⟨_, C, K, _, rfl, ⟨o1, k1, x1, o2, k2, x2, none, 0, 0, [], rfl, f1, f2, ⟨Sl.empty _ _, rfl, fun i x r hx => by cases hx⟩⟩, by have h1 := hO1.sl.n_eq; have h2 := HM1.out; omega, by have h1 := hO2.sl.n_eq; have h2 := HM2.out; omega, hbl.grown gb9 hbl.size (fun q hq => by cases hq; exact hwR)⟩
end Go.Proofs.Ytlpkicjijlcbfaa
end
