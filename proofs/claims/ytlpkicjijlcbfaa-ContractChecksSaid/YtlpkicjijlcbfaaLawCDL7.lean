/- Chapter 08: the walk of ContractChecks. -/
import Derived.Test.YtlpkicjijlcbfaaBaseCI
set_option linter.unusedVariables false
set_option linter.unusedSimpArgs false
namespace Go.Dx
open Go.RowKit
theorem trCBd {t : Ta} {l : List Sy} (ht : validE t = 0) (hg : goodS l = true) (h : l.length ≤ 24) : CBd (trC t l) (trK t l) (trA t l) 500000 := by
 by_cases he : trE t l = 0
 ·have h1 := trC_len ht hg he
  have hl := numT_len t l
  have hb : BdN (numT t l) (24 * l.length) := sufT_bd ht l l.length
  obtain ⟨r, hr, hv⟩ := num_row0 t l
  have h2 := (hb r (List.mem_of_getElem? hr) _ (List.mem_of_getElem? hv)).2
  refine ⟨by omega, ?_, ?_, ?_, ?_⟩
  ·unfold trK
   rw [if_pos he]
   unfold takenP
   rw [List.length_map]
   have := goP_len t l (numT t l) (2 * l.length + 1) 0 s00
   unfold pathT
   omega
  ·unfold trA
   rw [if_pos he]
   omega
  ·unfold trA
   rw [if_pos he]
   intro q hq
   have := sufT_rows t l _ q hq
   omega
  ·unfold trA
   rw [if_pos he]
   exact bd_num t l ht (by omega)
 ·unfold trC trK trA
  rw [if_neg he, if_neg he, if_neg he]
  exact ⟨Nat.zero_le _, Nat.zero_le _, Nat.zero_le _, fun r h => (by cases h), fun r h => (by cases h)⟩
def FSp (vs : List Value) (w : World) : Prop := ∃ v C K A, vs = [v] ∧ Ce w v C K A ∧ CBd C K A 500002
theorem FSp.below {vs : List Value} {w w' : World} (h : FSp vs w) (hb : Below w.heap.size w w') : FSp vs w' := by obtain ⟨v, C, K, A, h1, h2, h3⟩ := h; exact ⟨v, C, K, A, h1, h2.below hb, h3⟩
def FL5 (rc : TypeId) (P9 : List Value) (vs : List Value) (w : World) : Prop := ∃ g s1 s2 s3 C K A, vs = [.slice (some ⟨g, 0, none⟩) 5 5] ∧ Box w g rc (P9 ++ [s1, s2, s3, .slice none 0 0, .slice none 0 0, .slice none 0 0]) ∧ Ce w (.agg #[s1, s2, s3]) C K A ∧ CBd C K A 500002
theorem FL5.below {rc : TypeId} {P9 vs : List Value} {w w' : World} (h : FL5 rc P9 vs w) (hb : Below w.heap.size w w') : FL5 rc P9 vs w' := by obtain ⟨g, s1, s2, s3, C, K, A, h1, h2, h3, h4⟩ := h; exact ⟨g, s1, s2, s3, C, K, A, h1, h2.under hb, h3.below hb, h4⟩
def At5 (w : World) (g i : Nat) (X : List Value) : Prop := ∀ (j : Nat) (u : Value), X[j]? = some u → w.cell? ⟨g, i * 3 + j, none⟩ = some u
theorem at5 {w : World} {g i : Nat} {t : TypeId} {P S X : List Value} (h : Box w g t (P ++ X ++ S)) (hP : P.length = i * 3) : At5 w g i X := fun j u hj => h.at_ (by
 have h1 := (List.getElem?_eq_some_iff.1 hj).1
 rw [List.append_assoc, List.getElem?_append_right (by omega), hP, Nat.add_sub_cancel_left, List.getElem?_append_left h1]
 exact hj)
end Go.Dx
namespace Go.Proofs.Ytlpkicjijlcbfaa
open Go.RowKit Go.Dx Go.Al
set_option maxRecDepth 100000 in
set_option maxHeartbeats 8000000 in
theorem walk_ContractChecks (n : Int) (l : List Int) (a : Option Addr) (ln lc : Nat) (m : List Int) (am : Option Addr) (mn mc : Nat) (at_ how by_ : Int) (w : World) (hs : Sl w 1 a ln lc (l.map I64)) (hl : ∀ x ∈ l, -9223372036854775808 ≤ x ∧ x ≤ 9223372036854775807)
  (hms : Sl w 1 am mn mc (m.map I64)) (hml : ∀ x ∈ m, -9223372036854775808 ≤ x ∧ x ≤ 9223372036854775807) (hn : -9223372036854775808 ≤ n ∧ n ≤ 9223372036854775807) (hat : -9223372036854775808 ≤ at_ ∧ at_ ≤ 9223372036854775807) (hhow : -9223372036854775808 ≤ how ∧ how ≤ 9223372036854775807) (hby : -9223372036854775808 ≤ by_ ∧ by_ ≤ 9223372036854775807) :
  Calls Try.prog 8 #[.int .i64 n, .slice a ln lc, .slice am mn mc, .int .i64 at_, .int .i64 how, .int .i64 by_] w fun e w' => e = .returned (.bool true) ∧ Below w.heap.size w w' := by
 have HAT := hide hat
 have HHOW := hide hhow
 have HBY := hide hby
 have HML := hide hml
 have HMS := hide hms
 clear hat hhow hby hml hms
 obtain ⟨S, HSS⟩ : ∃ S, Hid (symsL l = S) := ⟨_, hide rfl⟩
 have hSok := symsL_ok l
 rw [HSS.out] at hSok
 have hS24 := hSok.2
 have hgS : goodS S = true := by
  unfold goodS
  rw [List.all_eq_true]
  intro x hx
  have h := hSok.1 x hx
  unfold plainSy at h
  rw [Bool.and_eq_true] at h
  exact h.1
 have HGS := hide hgS
 clear hSok hgS
 go_enter Try.func8, Try.ntmps8
 go_wp2_with fail
 refine (ref_Tables n hn.1 hn.2 w).mono ?_
 rintro e w1 ⟨H, t, rfl, hT, hG, hb1⟩
 have HV : Hid (validE t = 0) := hide hG.ok
 clear hG
 have Hm := hide hT
 clear hT
 obtain ⟨⟨a0, n0, c0⟩, ⟨a1, n1, c1⟩, ps0, ps1, ⟨ad, nd, cd⟩, ⟨ac, nc, cc⟩, ⟨an, nn, cn⟩, ⟨af, nf, cf⟩, ⟨aw, nw, cw⟩⟩ := H
 unfold TH.v
 simp only [hdv]
 have Y1 := Box.new w1 29 #[.slice a0 n0 c0, .slice a1 n1 c1, .slice ad nd cd, .slice ac nc cc, .slice an nn cn, .slice af nf cf, .slice aw nw cw]
 have hbY := blo w1 (.cells #[.slice a0 n0 c0, .slice a1 n1 c1, .slice ad nd cd, .slice ac nc cc, .slice an nn cn, .slice af nf cf, .slice aw nw cw] 29)
 go_wp2_with fail
 generalize w1.alloc (.cells _ 29) = w2 at *
 obtain ⟨H, hH⟩ : ∃ H : TH, H = ⟨(a0, n0, c0), (a1, n1, c1), ps0, ps1, (ad, nd, cd), (ac, nc, cc), (an, nn, cn), (af, nf, cf), (aw, nw, cw)⟩ := ⟨_, rfl⟩
 have hX2 : Box w2 w1.heap.size 29 (tcells H) := by rw [hH]; exact Y1
 have hT2 : TaIs w2 H t := by rw [hH]; exact Hm.out.below hbY
 have hB2 := hb1.trans (hbY.mono hb1.size)
 clear hH Hm hbY hb1 Y1
 generalize w1.heap.size = gT at *
 refine (ref_Syms l hl a ln lc w2 (hs.below hB2)).mono ?_
 rintro e w3 ⟨a3, c3, rfl, hO3, hb3⟩
 rw [HSS.out] at hO3 ⊢
 have HX3 := hX2.under hb3
 have HT3 := hT2.below hb3
 have hB3 := hB2.trans (hb3.mono hB2.size)
 have HS3 := hO3.sl
 clear hO3 hX2 hT2 hB2 hb3 hs hn hl HSS
 obtain ⟨N, hN⟩ : ∃ N, Hid (S.length = N) := ⟨_, hide rfl⟩
 rw [hN.out] at HS3 hS24 ⊢
 have hM3 := HMS.out.below hB3
 clear HMS
 obtain ⟨TX, hTX⟩ : ∃ X, Hid (trE t S = X) := ⟨_, hide rfl⟩
 obtain ⟨TC, hTC⟩ : ∃ X, Hid (trC t S = X) := ⟨_, hide rfl⟩
 obtain ⟨TK, hTK⟩ : ∃ X, Hid (trK t S = X) := ⟨_, hide rfl⟩
 obtain ⟨TA, hTA⟩ : ∃ X, Hid (trA t S = X) := ⟨_, hide rfl⟩
 have hcb0 := trCBd HV.out HGS.out (by rw [hN.out]; exact hS24)
 rw [hTC.out, hTK.out, hTA.out] at hcb0
 have HCB := hide hcb0
 clear hcb0
 have htr := hide (rtr_at H t S a3 N c3 w3 HT3 HS3 hTX.out hTC.out hTK.out hTA.out)
 go_wp2_with (first
  | (with_reducible refine load_struct 33 29 _ 7 size_tables _ Try.underlying29 ⟨gT, 0, none⟩ rfl (tcells H) rfl (fun j u hj => by rw [Addr.add_lit, Nat.zero_add]; exact HX3.at_ hj) ?_)
  | (go_at_call 14; refine htr.out.mono ?_; rintro e w4 ⟨⟨v, rfl, hce⟩, hb4⟩; refine hold ?_))
 refine hide ?_
 obtain ⟨ea, en, ec, ta, tn, tc, la, ln4, lc4, hs4, hv, hE4, hK4, hL4⟩ := hce.ce
 subst hv
 have HX4 := HX3.under hb4
 have HT4 := HT3.below hb4
 have HS4 := HS3.below hb4
 have hM4 := hM3.below hb4
 have hB4 := hB3.trans (hb4.mono hB3.size)
 clear hce HX3 HT3 HS3 hM3 hB3 hb4 htr
 have hA5 := Box.new w4 43 #[.slice ea en ec, .slice ta tn tc, .slice la ln4 lc4]
 have hb5 := blo w4 (.cells #[.slice ea en ec, .slice ta tn tc, .slice la ln4 lc4] 43)
 go_upto_region 4 with fail
 generalize w4.alloc (.cells #[.slice ea en ec, .slice ta tn tc, .slice la ln4 lc4] 43) = w5 at *
 obtain ⟨gA, hgA⟩ : ∃ g, Hid (w4.heap.size = g) := ⟨_, hide rfl⟩
 rw [hgA.out] at hA5 ⊢
 have HX5 := HX4.under hb5
 have HT5 := HT4.below hb5
 have HS5 := HS4.below hb5
 have hM5 := hM4.below hb5
 have hE5 := hE4.below hb5
 have hK5 := hK4.below hb5
 have hL5 := hL4.below hb5
 have hB5 := hB4.trans (hb5.mono hB4.size)
 have hA5 : Box w5 gA 43 [.slice ea en ec, .slice ta tn tc, .slice la ln4 lc4] := hA5
 clear HX4 HT4 HS4 hM4 hE4 hK4 hL4 hB4 hb5
 have hsp := hide (ref8_Spoilt TC TK TA (.agg #[.slice ea en ec, .slice ta tn tc, .slice la ln4 lc4]) at_ how by_ 500000 w5 ⟨ea, en, ec, ta, tn, tc, la, ln4, lc4, hs4, rfl, hE5, hK5, hL5⟩ HCB.out (by decide) HAT.out HHOW.out HBY.out)
 go_wp2_with (first
  | (with_reducible refine load_struct 38 43 _ 3 size_rcert _ Try.underlying43 ⟨gA, 0, none⟩ rfl [.slice ea en ec, .slice ta tn tc, .slice la ln4 lc4] rfl (fun j u hj => by rw [Addr.add_lit, Nat.zero_add]; exact hA5.at_ hj) ?_)
  | (go_at_call 30; refine hsp.out.mono ?_; rintro e w6 ⟨v, SC, SK, SA, rfl, hce, hcb, hb6⟩; refine hold ?_))
 refine hide ?_
 obtain ⟨fa, fn, fc, ua, un, uc, va, vn, vc, hs6, hv, hF6, hU6, hV6⟩ := hce
 subst hv
 have HCB2 := hide hcb
 have HX6 := HX5.under hb6
 have HT6 := HT5.below hb6
 have HS6 := HS5.below hb6
 have hM6 := hM5.below hb6
 have hA6 := hA5.under hb6
 have hE6 := hE5.below hb6
 have hK6 := hK5.below hb6
 have hL6 := hL5.below hb6
 have hB6 := hB5.trans (hb6.mono hB5.size)
 clear hcb HX5 HT5 HS5 hM5 hA5 hE5 hK5 hL5 hB5 hb6 hsp
 have hD7 := Box.new w6 43 #[.slice fa fn fc, .slice ua un uc, .slice va vn vc]
 have hb7 := blo w6 (.cells #[.slice fa fn fc, .slice ua un uc, .slice va vn vc] 43)
 go_upto_region 5 with fail
 generalize w6.alloc (.cells #[.slice fa fn fc, .slice ua un uc, .slice va vn vc] 43) = w7 at *
 obtain ⟨gB, hgB⟩ : ∃ g, Hid (w6.heap.size = g) := ⟨_, hide rfl⟩
 rw [hgB.out] at hD7 ⊢
 have hD7 : Box w7 gB 43 [.slice fa fn fc, .slice ua un uc, .slice va vn vc] := hD7
 have HX7 := HX6.under hb7
 have HT7 := HT6.below hb7
 have HS7 := HS6.below hb7
 have hM7 := hM6.below hb7
 have hA7 := hA6.under hb7
 have hE7 := hE6.below hb7
 have hK7 := hK6.below hb7
 have hL7 := hL6.below hb7
 have hF7 := hF6.below hb7
 have hU7 := hU6.below hb7
 have hV7 := hV6.below hb7
 have hB7 := hB6.trans (hb7.mono hB6.size)
 clear HX6 HT6 HS6 hM6 hA6 hE6 hK6 hL6 hF6 hU6 hV6 hB6 hb7
 have hwk := hide (ref8_Walk H t S a3 N c3 m am mn mc w7 HT7 HS7 hM7 HML.out HV.out HGS.out (by rw [hN.out]; omega))
 go_wp2_with (first
  | (with_reducible refine load_struct 44 29 _ 7 size_tables _ Try.underlying29 ⟨gT, 0, none⟩ rfl (tcells H) rfl (fun j u hj => by rw [Addr.add_lit, Nat.zero_add]; exact HX7.at_ hj) ?_)
  | (go_at_call 31; refine hwk.out.mono ?_; rintro e w8 ⟨v, WC, WK, bo, rfl, hce, hwc, hwkl, hb8⟩; refine hold ?_))
 refine hide ?_
 obtain ⟨ga, gn, gc, ka, kn, kc, xa0, xn0, xc0, hs8, hv, hG8, hJ8, -⟩ := hce
 subst hv
 have HWC := hide hwc
 have HX8 := HX7.under hb8
 have HT8 := HT7.below hb8
 have HS8 := HS7.below hb8
 have hA8 := hA7.under hb8
 have hD8 := hD7.under hb8
 have hE8 := hE7.below hb8
 have hK8 := hK7.below hb8
 have hL8 := hL7.below hb8
 have hF8 := hF7.below hb8
 have hU8 := hU7.below hb8
 have hV8 := hV7.below hb8
 have hB8 := hB7.trans (hb8.mono hB7.size)
 clear hwc hwkl HX7 HT7 HS7 hM7 hA7 hD7 hE7 hK7 hL7 hF7 hU7 hV7 hB7 hb8 hwk
 have hW9 := Box.new w8 43 #[.slice ga gn gc, .slice ka kn kc, .slice xa0 xn0 xc0]
 have hb9 := blo w8 (.cells #[.slice ga gn gc, .slice ka kn kc, .slice xa0 xn0 xc0] 43)
 have qA8 : w8.cell? ⟨gA, 2, none⟩ = some (.slice la ln4 lc4) := hA8.at_ rfl
 have qA9 := cell_below qA8 hb9
 clear qA8
 go_upto_region 6 with fail
 generalize w8.alloc (.cells #[.slice ga gn gc, .slice ka kn kc, .slice xa0 xn0 xc0] 43) = w9 at *
 obtain ⟨gW, hgW⟩ : ∃ g, Hid (w8.heap.size = g) := ⟨_, hide rfl⟩
 rw [hgW.out] at hW9 ⊢
 have hW9 : Box w9 gW 43 [.slice ga gn gc, .slice ka kn kc, .slice xa0 xn0 xc0] := hW9
 go_wp2_with (with_reducible refine hold_store ?_)
 refine hide ?_
 refine store_cell 37 _ _ 43 gW 2 _ (.slice la ln4 lc4) size_hdd hW9 rfl rfl rfl rfl (by simp) ?_; intro w10 hW10 gb10 zb10
 have hW10 : Box w10 gW 43 [.slice ga gn gc, .slice ka kn kc, .slice la ln4 lc4] := hW10
 have hb10 : Below w8.heap.size w8 w10 := hb9.grown gb10 hb9.size (fun q hq => by cases hq; rw [hgW.out]; exact Nat.le_refl _)
 have HX10 := HX8.under hb10
 have HT10 := HT8.below hb10
 have HS10 := HS8.below hb10
 have hA10 := hA8.under hb10
 have hD10 := hD8.under hb10
 have hE10 := hE8.below hb10
 have hK10 := hK8.below hb10
 have hL10 := hL8.below hb10
 have hF10 := hF8.below hb10
 have hU10 := hU8.below hb10
 have hV10 := hV8.below hb10
 have hG10 := hG8.below hb10
 have hJ10 := hJ8.below hb10
 have hB10 := hB8.trans (hb10.mono hB8.size)
 clear HX8 HT8 HS8 hA8 hD8 hE8 hK8 hL8 hF8 hU8 hV8 hG8 hJ8 hB8 hb9 hb10 hW9 qA9 gb10 zb10
 obtain ⟨hd0, hd1⟩ := tdiv_in HHOW.out.1 HHOW.out.2 (d := 6) (by decide)
 obtain ⟨h6, hh6⟩ : ∃ x, Hid (how.tdiv 6 = x) := ⟨_, hide rfl⟩
 have hd0' : -9223372036854775808 ≤ h6 := by rw [← hh6.out]; exact hd0
 have hd1' : h6 ≤ 9223372036854775807 := by rw [← hh6.out]; exact hd1
 go_wp2_with fail
 refine wp_region_free 11 [⟨0, 53, [53], fun vs _ => vs = [.agg #[.slice ea en ec, .slice ta tn tc, .slice la ln4 lc4]]⟩, ⟨1, 54, [54], fun vs _ => vs = [.agg #[.slice fa fn fc, .slice ua un uc, .slice va vn vc]]⟩, ⟨2, 55, [55], fun vs _ => vs = [.agg #[.slice ga gn gc, .slice ka kn kc, .slice la ln4 lc4]]⟩, ⟨3, 56, [56], fun vs _ => vs = [.agg #[.slice fa fn fc, .slice ua un uc, .slice va vn vc]]⟩, ⟨4, 57, [57], fun vs _ => vs = [.int .i64 by_]⟩, ⟨5, 58, [58], fun vs _ => vs = [.int .i64 how]⟩, ⟨6, 59, [59], fun vs _ => vs = [.int .i64 h6]⟩, ⟨7, 60, [60], fun vs _ => vs = [.int .i64 at_]⟩, ⟨8, 61, [61], FSp⟩, ⟨9, 62, [62], fun vs _ => vs = [.agg #[.slice none 0 0, .slice none 0 0, .slice none 0 0]]⟩, ⟨10, 63, [63], FL5 43 [.slice ea en ec, .slice ta tn tc, .slice la ln4 lc4, .slice fa fn fc, .slice ua un uc, .slice va vn vc, .slice ga gn gc, .slice ka kn kc, .slice la ln4 lc4]⟩] (by kernel_rfl) (by kernel_rfl) ?_ ?_ ?_
 ·simp only [All]
  refine ⟨fun _ _ _ _ h => h, fun _ _ _ _ h => h, fun _ _ _ _ h => h, fun _ _ _ _ h => h, fun _ _ _ _ h => h, fun _ _ _ _ h => h, fun _ _ _ _ h => h, fun _ _ _ _ h => h, ?_, fun _ _ _ _ h => h, ?_, trivial⟩
  ·exact fun vs w1 w2 hb h => h.below hb
  ·exact fun vs w1 w2 hb h => h.below hb
 ·simp only [All]
  refine ⟨?_, ?_, ?_, ?_, ?_, ?_, ?_, ?_, ?_, ?_, ?_, trivial⟩
  ·intro o ho a' w' hb hfr hdep; obtain rfl := oj ho
   have g15 : a'.tmps[15]?.getD undef = .pointer (some ⟨gA, 0, none⟩) := by simpa using hfr 15 (by kernel_rfl)
   clear ho hfr hdep; refine load_struct 53 43 _ 3 size_rcert _ Try.underlying43 ⟨gA, 0, none⟩ (by show a'.tmps.getD 15 undef = _; simpa using g15) [.slice ea en ec, .slice ta tn tc, .slice la ln4 lc4] rfl (fun j u hj => by rw [Addr.add_lit, Nat.zero_add]; exact (hA10.under hb).at_ hj) ?_
   exact ⟨rfl, _, rfl, br, rfl⟩
  ·intro o ho a' w' hb hfr hdep; obtain rfl := oj ho
   have g17 : a'.tmps[17]?.getD undef = .pointer (some ⟨gB, 0, none⟩) := by simpa using hfr 17 (by kernel_rfl)
   clear ho hfr hdep; refine load_struct 54 43 _ 3 size_rcert _ Try.underlying43 ⟨gB, 0, none⟩ (by show a'.tmps.getD 17 undef = _; simpa using g17) [.slice fa fn fc, .slice ua un uc, .slice va vn vc] rfl (fun j u hj => by rw [Addr.add_lit, Nat.zero_add]; exact (hD10.under hb).at_ hj) ?_
   exact ⟨rfl, _, rfl, br, rfl⟩
  ·intro o ho a' w' hb hfr hdep; obtain rfl := oj ho
   have g18 : a'.tmps[18]?.getD undef = .pointer (some ⟨gW, 0, none⟩) := by simpa using hfr 18 (by kernel_rfl)
   clear ho hfr hdep; refine load_struct 55 43 _ 3 size_rcert _ Try.underlying43 ⟨gW, 0, none⟩ (by show a'.tmps.getD 18 undef = _; simpa using g18) [.slice ga gn gc, .slice ka kn kc, .slice la ln4 lc4] rfl (fun j u hj => by rw [Addr.add_lit, Nat.zero_add]; exact (hW10.under hb).at_ hj) ?_
   exact ⟨rfl, _, rfl, br, rfl⟩
  ·intro o ho a' w' hb hfr hdep; obtain rfl := oj ho
   have g17 : a'.tmps[17]?.getD undef = .pointer (some ⟨gB, 0, none⟩) := by simpa using hfr 17 (by kernel_rfl)
   clear ho hfr hdep; refine load_struct 56 43 _ 3 size_rcert _ Try.underlying43 ⟨gB, 0, none⟩ (by show a'.tmps.getD 17 undef = _; simpa using g17) [.slice fa fn fc, .slice ua un uc, .slice va vn vc] rfl (fun j u hj => by rw [Addr.add_lit, Nat.zero_add]; exact (hD10.under hb).at_ hj) ?_
   exact ⟨rfl, _, rfl, br, rfl⟩
  ·intro o ho a' w' hb hfr hdep; obtain rfl := oj ho
   have g5 : a'.tmps[5]?.getD undef = .int .i64 by_ := by simpa using hfr 5 (by kernel_rfl)
   clear ho hfr hdep; go_wp2_with fail; exact ⟨rfl, _, rfl, br, rfl⟩
  ·intro o ho a' w' hb hfr hdep; obtain rfl := oj ho
   have g4 : a'.tmps[4]?.getD undef = .int .i64 how := by simpa using hfr 4 (by kernel_rfl)
   clear ho hfr hdep; go_wp2_with fail; exact ⟨rfl, _, rfl, br, rfl⟩
  ·intro o ho a' w' hb hfr hdep; obtain rfl := oj ho
   have g58 : a'.tmps[58]?.getD undef = .int .i64 how := by simpa using hdep 5 _ rfl (by kernel_rfl)
   clear ho hfr hdep; have h9 := hh6.out
   go_wp2_with fail; exact ⟨rfl, _, rfl, br, by first | rfl | (simp [h9]; done)⟩
  ·intro o ho a' w' hb hfr hdep; obtain rfl := oj ho
   have g3 : a'.tmps[3]?.getD undef = .int .i64 at_ := by simpa using hfr 3 (by kernel_rfl)
   clear ho hfr hdep; go_wp2_with fail; exact ⟨rfl, _, rfl, br, rfl⟩
  ·intro o ho a' w' hb hfr hdep; obtain rfl := oj ho
   have g56 : a'.tmps[56]?.getD undef = .agg #[.slice fa fn fc, .slice ua un uc, .slice va vn vc] := by simpa using hdep 3 _ rfl (by kernel_rfl)
   have g57 : a'.tmps[57]?.getD undef = .int .i64 by_ := by simpa using hdep 4 _ rfl (by kernel_rfl)
   have g59 : a'.tmps[59]?.getD undef = .int .i64 h6 := by simpa using hdep 6 _ rfl (by kernel_rfl)
   have g60 : a'.tmps[60]?.getD undef = .int .i64 at_ := by simpa using hdep 7 _ rfl (by kernel_rfl)
   clear ho hfr hdep; have hsp := hide (ref8_Spoilt SC SK SA (.agg #[.slice fa fn fc, .slice ua un uc, .slice va vn vc]) by_ h6 at_ 500001 w' ⟨fa, fn, fc, ua, un, uc, va, vn, vc, hs6, rfl, hF10.below hb, hU10.below hb, hV10.below hb⟩ HCB2.out (by decide) HBY.out ⟨hd0', hd1'⟩ HAT.out)
   go_wp2_with (go_at_call 30; refine hsp.out.mono ?_; rintro e w3 ⟨v, C, K, A, rfl, hce, hcb, h3⟩)
   exact ⟨rfl, _, rfl, h3, v, C, K, A, rfl, hce, hcb⟩
  ·intro o ho a' w' hb hfr hdep; obtain rfl := oj ho
   clear ho hfr hdep; go_wp2_with fail; exact ⟨rfl, _, rfl, br, rfl⟩
  ·intro o ho a' w' hb hfr hdep; obtain rfl := oj ho
   have g53 : a'.tmps[53]?.getD undef = .agg #[.slice ea en ec, .slice ta tn tc, .slice la ln4 lc4] := by simpa using hdep 0 _ rfl (by kernel_rfl)
   have g54 : a'.tmps[54]?.getD undef = .agg #[.slice fa fn fc, .slice ua un uc, .slice va vn vc] := by simpa using hdep 1 _ rfl (by kernel_rfl)
   have g55 : a'.tmps[55]?.getD undef = .agg #[.slice ga gn gc, .slice ka kn kc, .slice la ln4 lc4] := by simpa using hdep 2 _ rfl (by kernel_rfl)
   obtain ⟨v61, C61, K61, A61, g61, e61, b61⟩ := hdep 8 _ rfl (by kernel_rfl)
   simp at g61
   have g62 : a'.tmps[62]?.getD undef = .agg #[.slice none 0 0, .slice none 0 0, .slice none 0 0] := by simpa using hdep 9 _ rfl (by kernel_rfl)
   clear ho hfr hdep; obtain ⟨d1, d2, d3, d4, d5, d6, d7, d8, d9, hsq, hv, z1, z2, z3⟩ := e61
   subst hv
   have hal := blo w' (.cells #[.slice ea en ec, .slice ta tn tc, .slice la ln4 lc4, .slice fa fn fc, .slice ua un uc, .slice va vn vc, .slice ga gn gc, .slice ka kn kc, .slice la ln4 lc4, .slice d1 d2 d3, .slice d4 d5 d6, .slice d7 d8 d9, .slice none 0 0, .slice none 0 0, .slice none 0 0] 43)
   have hnw := Box.new w' 43 #[.slice ea en ec, .slice ta tn tc, .slice la ln4 lc4, .slice fa fn fc, .slice ua un uc, .slice va vn vc, .slice ga gn gc, .slice ka kn kc, .slice la ln4 lc4, .slice d1 d2 d3, .slice d4 d5 d6, .slice d7 d8 d9, .slice none 0 0, .slice none 0 0, .slice none 0 0]
   go_wp2_with fail
   exact ⟨rfl, _, rfl, hal, ⟨_, .slice d1 d2 d3, .slice d4 d5 d6, .slice d7 d8 d9, C61, K61, A61, rfl, hnw, ⟨d1, d2, d3, d4, d5, d6, d7, d8, d9, hsq, rfl, z1.below hal, z2.below hal, z3.below hal⟩, b61⟩⟩
 ·intro gg w11 hbl hp'
  obtain ⟨gL, s1, s2, s3, DC, DK, DA, p63, hLL, hceD, hcbD⟩ := hp' 10 _ rfl
  clear hp'
  simp at p63
  simp only [List.drop_succ_cons, List.drop_zero, List.map_cons, List.map_nil, putAll, Act.put, List.setIfInBounds_toArray, List.set_cons_succ, List.set_cons_zero, List.cons_append, List.nil_append, p63]
  clear p63
  obtain ⟨d1, d2, d3, d4, d5, d6, d7, d8, d9, hsq, hv, z1, z2, z3⟩ := hceD
  simp at hv
  obtain ⟨rfl, rfl, rfl⟩ := hv
  have HX11 := HX10.under hbl
  have HT11 := HT10.below hbl
  have HS11 := HS10.below hbl
  have hE11 := hE10.below hbl
  have hK11 := hK10.below hbl
  have hL11 := hL10.below hbl
  have hF11 := hF10.below hbl
  have hU11 := hU10.below hbl
  have hV11 := hV10.below hbl
  have hG11 := hG10.below hbl
  have hJ11 := hJ10.below hbl
  have hB11 := hB10.trans (hbl.mono hB10.size)
  clear HX10 HT10 HS10 hA10 hD10 hW10 hE10 hK10 hL10 hF10 hU10 hV10 hG10 hJ10 hB10 hbl
  have HL5 : Hid (∀ i, i < 5 → ∃ (a1 : Option Addr) (n1 c1 : Nat) (a2 : Option Addr) (n2 c2 : Nat) (a3 : Option Addr) (n3 c3 : Nat) (C : List UInt8) (K : List Int) (A : Nums) (hs : List (Option Addr × Nat × Nat)), At5 w11 gL i [.slice a1 n1 c1, .slice a2 n2 c2, .slice a3 n3 c3] ∧ Sl w11 1 a1 n1 c1 (C.map B8) ∧ Sl w11 1 a2 n2 c2 (K.map I64) ∧ Ng w11 a3 n3 c3 hs A ∧ C.length ≤ 1000000 ∧ BdN A 1000000) := hide (fun i hi => by
   match i, hi with
   | 0, _ => exact ⟨_, _, _, _, _, _, _, _, _, TC, TK, TA, hs4, at5 (P := []) (S := [.slice fa fn fc, .slice ua un uc, .slice va vn vc, .slice ga gn gc, .slice ka kn kc, .slice la ln4 lc4, .slice d1 d2 d3, .slice d4 d5 d6, .slice d7 d8 d9, .slice none 0 0, .slice none 0 0, .slice none 0 0]) hLL rfl, hE11, hK11, hL11, Nat.le_trans HCB.out.c (by decide), HCB.out.bd⟩
   | 1, _ => exact ⟨_, _, _, _, _, _, _, _, _, SC, SK, SA, hs6, at5 (P := [.slice ea en ec, .slice ta tn tc, .slice la ln4 lc4]) (S := [.slice ga gn gc, .slice ka kn kc, .slice la ln4 lc4, .slice d1 d2 d3, .slice d4 d5 d6, .slice d7 d8 d9, .slice none 0 0, .slice none 0 0, .slice none 0 0]) hLL rfl, hF11, hU11, hV11, Nat.le_trans HCB2.out.c (by decide), HCB2.out.bd⟩
   | 2, _ => exact ⟨_, _, _, _, _, _, _, _, _, WC, WK, TA, hs4, at5 (P := [.slice ea en ec, .slice ta tn tc, .slice la ln4 lc4, .slice fa fn fc, .slice ua un uc, .slice va vn vc]) (S := [.slice d1 d2 d3, .slice d4 d5 d6, .slice d7 d8 d9, .slice none 0 0, .slice none 0 0, .slice none 0 0]) hLL rfl, hG11, hJ11, hL11, Nat.le_trans HWC.out (by decide), HCB.out.bd⟩
   | 3, _ => exact ⟨_, _, _, _, _, _, _, _, _, DC, DK, DA, hsq, at5 (P := [.slice ea en ec, .slice ta tn tc, .slice la ln4 lc4, .slice fa fn fc, .slice ua un uc, .slice va vn vc, .slice ga gn gc, .slice ka kn kc, .slice la ln4 lc4]) (S := [.slice none 0 0, .slice none 0 0, .slice none 0 0]) hLL rfl, z1, z2, z3, Nat.le_trans hcbD.c (by decide), hcbD.bd⟩
   | 4, _ => exact ⟨none, 0, 0, none, 0, 0, none, 0, 0, [], [], [], [], at5 (P := [.slice ea en ec, .slice ta tn tc, .slice la ln4 lc4, .slice fa fn fc, .slice ua un uc, .slice va vn vc, .slice ga gn gc, .slice ka kn kc, .slice la ln4 lc4, .slice d1 d2 d3, .slice d4 d5 d6, .slice d7 d8 d9]) (S := []) hLL rfl, Sl.empty _ _, Sl.empty _ _, ⟨Sl.empty _ _, rfl, fun i x r hx => by cases hx⟩, by decide, fun r h => (by cases h)⟩
   | i + 5, h => omega)
  clear hE11 hK11 hL11 hF11 hU11 hV11 hG11 hJ11 hLL z1 z2 z3 hcbD HCB HCB2 HWC hd0 hd1 hd0' hd1'
  obtain ⟨X0, hX0⟩ : ∃ x, Hid (oddS by_ = x) := ⟨_, hide rfl⟩
  have hodd0 := law8_odd S a3 N c3 by_ w11 HS11 (by omega) HBY.out
  rw [hX0.out] at hodd0
  have hodd := hide hodd0
  clear hodd0
  go_wp2_with (go_at_call 11; refine hodd.out.mono ?_; rintro e w12 ⟨a4, c4, rfl, hO12, hb12⟩; refine hold ?_)
  refine hide ?_
  have HX12 := HX11.under hb12
  have HT12 := HT11.below hb12
  have HS12 := HS11.below hb12
  have hB12 := hB11.trans (hb12.mono hB11.size)
  have hOs := hO12.sl
  clear hodd HX11 HT11 HS11 hB11 hO12
  have hQ := Box.new w12 31 #[.slice a3 N c3, .slice a4 (N + 1) c4]
  have hb13 := blo w12 (.cells #[.slice a3 N c3, .slice a4 (N + 1) c4] 31)
  go_upto_region 9 with fail
  generalize w12.alloc (.cells _ 31) = wz at *
  obtain ⟨gX, hgX⟩ : ∃ g, Hid (w12.heap.size = g) := ⟨_, hide rfl⟩
  rw [hgX.out] at hQ ⊢
  have hQ : Box wz gX 31 [.slice a3 N c3, .slice a4 (N + 1) c4] := hQ
  have HXz := HX12.under hb13
  have HTz := HT12.below hb13
  have hBz := hB12.trans (hb13.mono hB12.size)
  have hbz : Below w11.heap.size w11 wz := hb12.trans (hb13.mono hb12.size)
  have htx : Hid (∀ k, k < 2 → ∃ (xa : Option Addr) (xn xc : Nat) (X : List Sy), ([.slice a3 N c3, .slice a4 (N + 1) c4] : List Value)[k]? = some (.slice xa xn xc) ∧ Sl wz 2 xa xn xc (X.flatMap sc)) := hide (fun k hk => by
   match k, hk with
   | 0, _ => exact ⟨_, _, _, S, rfl, HS12.below hb13⟩
   | 1, _ => exact ⟨_, _, _, _, rfl, hOs.below hb13⟩
   | k + 2, h => omega)
  obtain ⟨HDS, hHD⟩ : ∃ L : List Value, Hid (L = [.slice a3 N c3, .slice a4 (N + 1) c4]) := ⟨_, hide rfl⟩
  rw [← hHD.out] at hQ htx
  have HBZ := hide hbz
  clear HX12 HT12 HS12 hB12 hOs hb12 hb13 hbz hHD
  go_wp2_with fail
  go_loopg [22] 5 (fun gh v w' => ∃ i : Nat, i ≤ 5 ∧ gh = 5 - i ∧ v = .int .i64 (i : Int) ∧ Below wz.heap.size wz w')
  case atStart => exact ⟨0, Nat.zero_le _, rfl, rfl, Below.refl _ _⟩
  case round =>
   obtain ⟨i, hi, rfl, rfl, hb⟩ := hrel
   by_cases hi5 : i < 5
   ·have d0 : decide ((i : Int) < 5) = true := decide_eq_true (by omega)
    obtain ⟨pa, pn, pc, qa, qn, qc, ra, rn, rc, C, K, A, hsA, hat5, hC11, hK11, hA11, hcl, hbd⟩ := HL5.out i hi5
    have HAT5 := hide hat5
    have HCL := hide hcl
    have HBD := hide hbd
    have hCz := hC11.below HBZ.out
    have hKz := hK11.below HBZ.out
    have hAz := hA11.below HBZ.out
    clear hat5 hC11 hK11 hA11 hcl hbd
    go_wp2_with fail
    go_loopg [23] 2 (fun gh v w' => ∃ k : Nat, k ≤ 2 ∧ gh = 2 - k ∧ v = .int .i64 (k : Int) ∧ Below wz.heap.size wz w')
    case atStart => exact ⟨0, Nat.zero_le _, rfl, rfl, hb⟩
    case round =>
     clear hb
     obtain ⟨k, hk, rfl, rfl, hb⟩ := hrel
     by_cases hk2 : k < 2
     ·have d1 : decide ((k : Int) < 2) = true := decide_eq_true (by omega)
      obtain ⟨xa, xn, xc, X, hxk, hXS0⟩ := htx.out k hk2
      have hXS := hXS0.below hb
      have hCr := hCz.below hb
      have hKr := hKz.below hb
      have hAr := hAz.below hb
      have HXr := HXz.under hb
      have HTr := HTz.below hb
      have hci : ∀ (j : Nat) (u : Value), ([.slice pa pn pc, .slice qa qn qc, .slice ra rn rc] : List Value)[j]? = some u → wr.cell? ⟨gL, i * 3 + j, none⟩ = some u := fun j u hj => cell_below (cell_below (HAT5.out j u hj) HBZ.out) hb
      have cX : wr.cell? ⟨gX, k, none⟩ = some (.slice xa xn xc) := cell_below (hQ.at_ hxk) hb
      have hbw := hb
      clear hxk hXS0 hb
      obtain ⟨CE, hCE⟩ : ∃ x, Hid (chE t X C K A = x) := ⟨_, hide rfl⟩
      obtain ⟨SE, hSE⟩ : ∃ x, Hid (spE t X C K = x) := ⟨_, hide rfl⟩
      obtain ⟨SP, hSP⟩ : ∃ x, Hid (spP t X C K = x) := ⟨_, hide rfl⟩
      go_wp2_with fail
      refine wp_region_free 21 [⟨0, 79, [79], fun vs _ => vs = [H.v]⟩, ⟨1, 80, [80], fun vs _ => vs = [.slice (some ⟨gX, 0, none⟩) 2 2]⟩, ⟨2, 81, [81], fun vs _ => vs = [.int .i64 (k : Int)]⟩, ⟨3, 82, [82], fun vs _ => vs = [.pointer (some ⟨gX, k, none⟩)]⟩, ⟨4, 83, [83], fun vs _ => vs = [.slice xa xn xc]⟩, ⟨5, 84, [84], fun vs _ => vs = [.slice (some ⟨gL, 0, none⟩) 5 5]⟩, ⟨6, 85, [85], fun vs _ => vs = [.int .i64 (i : Int)]⟩, ⟨7, 86, [86], fun vs _ => vs = [.pointer (some ⟨gL, i * 3, none⟩)]⟩, ⟨8, 87, [87], fun vs _ => vs = [.agg #[.slice pa pn pc, .slice qa qn qc, .slice ra rn rc]]⟩, ⟨9, 88, [88], fun vs _ => vs = [.agg #[.slice pa pn pc, .slice qa qn qc, .slice ra rn rc]]⟩, ⟨10, 89, [89], fun vs _ => vs = [.int .i64 CE]⟩, ⟨11, 90, [90], fun vs _ => vs = [H.v]⟩, ⟨12, 91, [91], fun vs _ => vs = [.slice (some ⟨gX, 0, none⟩) 2 2]⟩, ⟨13, 92, [92], fun vs _ => vs = [.int .i64 (k : Int)]⟩, ⟨14, 93, [93], fun vs _ => vs = [.pointer (some ⟨gX, k, none⟩)]⟩, ⟨15, 94, [94], fun vs _ => vs = [.slice xa xn xc]⟩, ⟨16, 95, [95], fun vs _ => vs = [.slice (some ⟨gL, 0, none⟩) 5 5]⟩, ⟨17, 96, [96], fun vs _ => vs = [.int .i64 (i : Int)]⟩, ⟨18, 97, [97], fun vs _ => vs = [.pointer (some ⟨gL, i * 3, none⟩)]⟩, ⟨19, 98, [98], fun vs _ => vs = [.agg #[.slice pa pn pc, .slice qa qn qc, .slice ra rn rc]]⟩, ⟨20, 99, [99], fun vs _ => vs = [.int .i64 CE]⟩] (by kernel_rfl) (by kernel_rfl) ?_ ?_ ?_
      ·simp only [All]
       refine ⟨fun _ _ _ _ h => h, fun _ _ _ _ h => h, fun _ _ _ _ h => h, fun _ _ _ _ h => h, fun _ _ _ _ h => h, fun _ _ _ _ h => h, fun _ _ _ _ h => h, fun _ _ _ _ h => h, fun _ _ _ _ h => h, fun _ _ _ _ h => h, fun _ _ _ _ h => h, fun _ _ _ _ h => h, fun _ _ _ _ h => h, fun _ _ _ _ h => h, fun _ _ _ _ h => h, fun _ _ _ _ h => h, fun _ _ _ _ h => h, fun _ _ _ _ h => h, fun _ _ _ _ h => h, fun _ _ _ _ h => h, fun _ _ _ _ h => h, trivial⟩
      ·simp only [All]
       refine ⟨?_, ?_, ?_, ?_, ?_, ?_, ?_, ?_, ?_, ?_, ?_, ?_, ?_, ?_, ?_, ?_, ?_, ?_, ?_, ?_, ?_, trivial⟩
       ·intro o ho a' w' hb hfr hdep; obtain rfl := oj ho
        have g13 : a'.tmps[13]?.getD undef = .pointer (some ⟨gT, 0, none⟩) := by simpa using hfr 13 (by kernel_rfl)
        clear ho hfr hdep; refine load_struct 79 29 _ 7 size_tables _ Try.underlying29 ⟨gT, 0, none⟩ (by show a'.tmps.getD 13 undef = _; simpa using g13) (tcells H) rfl (fun j u hj => by rw [Addr.add_lit, Nat.zero_add]; exact (HXr.under hb).at_ hj) ?_
        exact ⟨rfl, _, rfl, br, rfl⟩
       ·intro o ho a' w' hb hfr hdep; obtain rfl := oj ho
        have g21 : a'.tmps[21]?.getD undef = .slice (some ⟨gX, 0, none⟩) 2 2 := by simpa using hfr 21 (by kernel_rfl)
        clear ho hfr hdep; go_wp2_with fail; exact ⟨rfl, _, rfl, br, rfl⟩
       ·intro o ho a' w' hb hfr hdep; obtain rfl := oj ho
        have g23 : a'.tmps[23]?.getD undef = .int .i64 (k : Int) := by simpa using hfr 23 (by kernel_rfl)
        clear ho hfr hdep; go_wp2_with fail; exact ⟨rfl, _, rfl, br, rfl⟩
       ·intro o ho a' w' hb hfr hdep; obtain rfl := oj ho
        have g80 : a'.tmps[80]?.getD undef = .slice (some ⟨gX, 0, none⟩) 2 2 := by simpa using hdep 1 _ rfl (by kernel_rfl)
        have g81 : a'.tmps[81]?.getD undef = .int .i64 (k : Int) := by simpa using hdep 2 _ rfl (by kernel_rfl)
        clear ho hfr hdep; refine index_known 82 34 _ _ 31 Try.underlying34 size_sys gX 2 2 (by show a'.tmps.getD 80 undef = _; simpa using g80) _ _ k (by show a'.tmps.getD 81 undef = _; simpa using g81) rfl hk2 ?_
        exact ⟨rfl, _, rfl, br, rfl⟩
       ·intro o ho a' w' hb hfr hdep; obtain rfl := oj ho
        have g82 : a'.tmps[82]?.getD undef = .pointer (some ⟨gX, k, none⟩) := by simpa using hdep 3 _ rfl (by kernel_rfl)
        clear ho hfr hdep; have hcl := cell_below cX hb
        go_wp2_with fail; exact ⟨rfl, _, rfl, br, rfl⟩
       ·intro o ho a' w' hb hfr hdep; obtain rfl := oj ho
        have g20 : a'.tmps[20]?.getD undef = .slice (some ⟨gL, 0, none⟩) 5 5 := by simpa using hfr 20 (by kernel_rfl)
        clear ho hfr hdep; go_wp2_with fail; exact ⟨rfl, _, rfl, br, rfl⟩
       ·intro o ho a' w' hb hfr hdep; obtain rfl := oj ho
        have g22 : a'.tmps[22]?.getD undef = .int .i64 (i : Int) := by simpa using hfr 22 (by kernel_rfl)
        clear ho hfr hdep; go_wp2_with fail; exact ⟨rfl, _, rfl, br, rfl⟩
       ·intro o ho a' w' hb hfr hdep; obtain rfl := oj ho
        have g84 : a'.tmps[84]?.getD undef = .slice (some ⟨gL, 0, none⟩) 5 5 := by simpa using hdep 5 _ rfl (by kernel_rfl)
        have g85 : a'.tmps[85]?.getD undef = .int .i64 (i : Int) := by simpa using hdep 6 _ rfl (by kernel_rfl)
        clear ho hfr hdep; refine index_rowk 86 75 _ _ 43 Try.underlying75 3 size_rcert gL 0 5 5 (by show a'.tmps.getD 84 undef = _; simpa using g84) _ _ i (by show a'.tmps.getD 85 undef = _; simpa using g85) rfl hi5 ?_
        rw [Nat.zero_add]
        exact ⟨rfl, _, rfl, br, rfl⟩
       ·intro o ho a' w' hb hfr hdep; obtain rfl := oj ho
        have g86 : a'.tmps[86]?.getD undef = .pointer (some ⟨gL, i * 3, none⟩) := by simpa using hdep 7 _ rfl (by kernel_rfl)
        clear ho hfr hdep; refine load_struct 87 43 _ 3 size_rcert _ Try.underlying43 ⟨gL, i * 3, none⟩ (by show a'.tmps.getD 86 undef = _; simpa using g86) [.slice pa pn pc, .slice qa qn qc, .slice ra rn rc] rfl (fun j u hj => by rw [Addr.add_lit]; exact cell_below (hci j u hj) hb) ?_
        exact ⟨rfl, _, rfl, br, rfl⟩
       ·intro o ho a' w' hb hfr hdep; obtain rfl := oj ho
        have g87 : a'.tmps[87]?.getD undef = .agg #[.slice pa pn pc, .slice qa qn qc, .slice ra rn rc] := by simpa using hdep 8 _ rfl (by kernel_rfl)
        clear ho hfr hdep; have hgv := hide (law8_given pa qa ra pn pc qn qc rn rc w')
        go_wp2_with (go_at_call 32; refine hgv.out.mono ?_; rintro e w2 ⟨rfl, h2⟩)
        exact ⟨rfl, _, rfl, h2, rfl⟩
       ·intro o ho a' w' hb hfr hdep; obtain rfl := oj ho
        have g79 : a'.tmps[79]?.getD undef = H.v := by simpa using hdep 0 _ rfl (by kernel_rfl)
        have g83 : a'.tmps[83]?.getD undef = .slice xa xn xc := by simpa using hdep 4 _ rfl (by kernel_rfl)
        have g88 : a'.tmps[88]?.getD undef = .agg #[.slice pa pn pc, .slice qa qn qc, .slice ra rn rc] := by simpa using hdep 9 _ rfl (by kernel_rfl)
        clear ho hfr hdep; have hck0 := con_Check H t X xa xn xc C K A hsA pa qa ra pn pc qn qc rn rc w' (HTr.below hb) (hXS.below hb) (hCr.below hb) (hKr.below hb) (hAr.below hb) HCL.out HBD.out
        rw [hCE.out] at hck0
        have hck := hide hck0
        clear hck0
        go_wp2_with (go_at_call 27; refine hck.out.mono ?_; rintro e w2 ⟨rfl, h2⟩)
        exact ⟨rfl, _, rfl, h2, rfl⟩
       ·intro o ho a' w' hb hfr hdep; obtain rfl := oj ho
        have g13 : a'.tmps[13]?.getD undef = .pointer (some ⟨gT, 0, none⟩) := by simpa using hfr 13 (by kernel_rfl)
        clear ho hfr hdep; refine load_struct 90 29 _ 7 size_tables _ Try.underlying29 ⟨gT, 0, none⟩ (by show a'.tmps.getD 13 undef = _; simpa using g13) (tcells H) rfl (fun j u hj => by rw [Addr.add_lit, Nat.zero_add]; exact (HXr.under hb).at_ hj) ?_
        exact ⟨rfl, _, rfl, br, rfl⟩
       ·intro o ho a' w' hb hfr hdep; obtain rfl := oj ho
        have g21 : a'.tmps[21]?.getD undef = .slice (some ⟨gX, 0, none⟩) 2 2 := by simpa using hfr 21 (by kernel_rfl)
        clear ho hfr hdep; go_wp2_with fail; exact ⟨rfl, _, rfl, br, rfl⟩
       ·intro o ho a' w' hb hfr hdep; obtain rfl := oj ho
        have g23 : a'.tmps[23]?.getD undef = .int .i64 (k : Int) := by simpa using hfr 23 (by kernel_rfl)
        clear ho hfr hdep; go_wp2_with fail; exact ⟨rfl, _, rfl, br, rfl⟩
       ·intro o ho a' w' hb hfr hdep; obtain rfl := oj ho
        have g91 : a'.tmps[91]?.getD undef = .slice (some ⟨gX, 0, none⟩) 2 2 := by simpa using hdep 12 _ rfl (by kernel_rfl)
        have g92 : a'.tmps[92]?.getD undef = .int .i64 (k : Int) := by simpa using hdep 13 _ rfl (by kernel_rfl)
        clear ho hfr hdep; refine index_known 93 34 _ _ 31 Try.underlying34 size_sys gX 2 2 (by show a'.tmps.getD 91 undef = _; simpa using g91) _ _ k (by show a'.tmps.getD 92 undef = _; simpa using g92) rfl hk2 ?_
        exact ⟨rfl, _, rfl, br, rfl⟩
       ·intro o ho a' w' hb hfr hdep; obtain rfl := oj ho
        have g93 : a'.tmps[93]?.getD undef = .pointer (some ⟨gX, k, none⟩) := by simpa using hdep 14 _ rfl (by kernel_rfl)
        clear ho hfr hdep; have hcl := cell_below cX hb
        go_wp2_with fail; exact ⟨rfl, _, rfl, br, rfl⟩
       ·intro o ho a' w' hb hfr hdep; obtain rfl := oj ho
        have g20 : a'.tmps[20]?.getD undef = .slice (some ⟨gL, 0, none⟩) 5 5 := by simpa using hfr 20 (by kernel_rfl)
        clear ho hfr hdep; go_wp2_with fail; exact ⟨rfl, _, rfl, br, rfl⟩
       ·intro o ho a' w' hb hfr hdep; obtain rfl := oj ho
        have g22 : a'.tmps[22]?.getD undef = .int .i64 (i : Int) := by simpa using hfr 22 (by kernel_rfl)
        clear ho hfr hdep; go_wp2_with fail; exact ⟨rfl, _, rfl, br, rfl⟩
       ·intro o ho a' w' hb hfr hdep; obtain rfl := oj ho
        have g95 : a'.tmps[95]?.getD undef = .slice (some ⟨gL, 0, none⟩) 5 5 := by simpa using hdep 16 _ rfl (by kernel_rfl)
        have g96 : a'.tmps[96]?.getD undef = .int .i64 (i : Int) := by simpa using hdep 17 _ rfl (by kernel_rfl)
        clear ho hfr hdep; refine index_rowk 97 75 _ _ 43 Try.underlying75 3 size_rcert gL 0 5 5 (by show a'.tmps.getD 95 undef = _; simpa using g95) _ _ i (by show a'.tmps.getD 96 undef = _; simpa using g96) rfl hi5 ?_
        rw [Nat.zero_add]
        exact ⟨rfl, _, rfl, br, rfl⟩
       ·intro o ho a' w' hb hfr hdep; obtain rfl := oj ho
        have g97 : a'.tmps[97]?.getD undef = .pointer (some ⟨gL, i * 3, none⟩) := by simpa using hdep 18 _ rfl (by kernel_rfl)
        clear ho hfr hdep; refine load_struct 98 43 _ 3 size_rcert _ Try.underlying43 ⟨gL, i * 3, none⟩ (by show a'.tmps.getD 97 undef = _; simpa using g97) [.slice pa pn pc, .slice qa qn qc, .slice ra rn rc] rfl (fun j u hj => by rw [Addr.add_lit]; exact cell_below (hci j u hj) hb) ?_
        exact ⟨rfl, _, rfl, br, rfl⟩
       ·intro o ho a' w' hb hfr hdep; obtain rfl := oj ho
        have g90 : a'.tmps[90]?.getD undef = H.v := by simpa using hdep 11 _ rfl (by kernel_rfl)
        have g94 : a'.tmps[94]?.getD undef = .slice xa xn xc := by simpa using hdep 15 _ rfl (by kernel_rfl)
        have g98 : a'.tmps[98]?.getD undef = .agg #[.slice pa pn pc, .slice qa qn qc, .slice ra rn rc] := by simpa using hdep 19 _ rfl (by kernel_rfl)
        clear ho hfr hdep; have hck0 := ref8_Check H t X xa xn xc C K A hsA pa qa ra pn pc qn qc rn rc w' (HTr.below hb) (hXS.below hb) (hCr.below hb) (hKr.below hb) (hAr.below hb) HCL.out
        rw [hCE.out] at hck0
        have hck := hide hck0
        clear hck0
        go_wp2_with (go_at_call 33; refine hck.out.mono ?_; rintro e w2 ⟨rfl, h2⟩)
        exact ⟨rfl, _, rfl, h2, rfl⟩
      ·intro gg w1 hb1 hp'
       have p89 := hp' 10 _ rfl
       have p99 := hp' 20 _ rfl
       clear hp'
       simp at p89 p99
       simp only [List.drop_succ_cons, List.drop_zero, List.map_cons, List.map_nil, putAll, Act.put, List.setIfInBounds_toArray, List.set_cons_succ, List.set_cons_zero, List.cons_append, List.nil_append, p89, p99]
       clear p89 p99
       have HX1 := HXr.under hb1
       have HT1 := HTr.below hb1
       have hXS1 := hXS.below hb1
       have hC1 := hCr.below hb1
       have hK1 := hKr.below hb1
       have hA1 := hAr.below hb1
       have hci1 : ∀ (j : Nat) (u : Value), ([.slice pa pn pc, .slice qa qn qc, .slice ra rn rc] : List Value)[j]? = some u → w1.cell? ⟨gL, i * 3 + j, none⟩ = some u := fun j u hj => cell_below (hci j u hj) hb1
       have cX1 := cell_below cX hb1
       have hbw1 := hbw.trans (hb1.mono hbw.size)
       clear HXr HTr hXS hCr hKr hAr hci cX hbw hb1
       have dX : (CE != CE) = false := by simp
       go_wp2_with fail
       refine wp_region_free 15 [⟨0, 102, [102], fun vs _ => vs = [H.v]⟩, ⟨1, 103, [103], fun vs _ => vs = [.slice (some ⟨gX, 0, none⟩) 2 2]⟩, ⟨2, 104, [104], fun vs _ => vs = [.int .i64 (k : Int)]⟩, ⟨3, 105, [105], fun vs _ => vs = [.pointer (some ⟨gX, k, none⟩)]⟩, ⟨4, 106, [106], fun vs _ => vs = [.slice xa xn xc]⟩, ⟨5, 107, [107], fun vs _ => vs = [.slice (some ⟨gL, 0, none⟩) 5 5]⟩, ⟨6, 108, [108], fun vs _ => vs = [.int .i64 (i : Int)]⟩, ⟨7, 109, [109], fun vs _ => vs = [.pointer (some ⟨gL, i * 3, none⟩)]⟩, ⟨8, 110, [110], fun vs _ => vs = [.agg #[.slice pa pn pc, .slice qa qn qc, .slice ra rn rc]]⟩, ⟨9, 111, [111], fun vs _ => vs = [.agg #[.slice pa pn pc, .slice qa qn qc, .slice ra rn rc]]⟩, ⟨10, 112, [112], fun vs w => ∃ a n c, vs = [.tuple #[.slice a n c, .int .i64 SE]] ∧ Sl w 1 a n c (SP.map I64)⟩, ⟨11, 101, [101], fun vs w => ∃ a n c, vs = [.tuple #[.slice a n c, .int .i64 SE]] ∧ Sl w 1 a n c (SP.map I64)⟩, ⟨12, 113, [113], fun vs w => ∃ a n c, vs = [.slice a n c] ∧ Sl w 1 a n c (SP.map I64)⟩, ⟨13, 114, [114], fun vs _ => vs = [.int .i64 SE]⟩, ⟨14, 24, [24], fun vs w => ∃ a n c, vs = [.slice a n c] ∧ Sl w 1 a n c (SP.map I64)⟩] (by kernel_rfl) (by kernel_rfl) ?_ ?_ ?_
       ·simp only [All]
        refine ⟨fun _ _ _ _ h => h, fun _ _ _ _ h => h, fun _ _ _ _ h => h, fun _ _ _ _ h => h, fun _ _ _ _ h => h, fun _ _ _ _ h => h, fun _ _ _ _ h => h, fun _ _ _ _ h => h, fun _ _ _ _ h => h, fun _ _ _ _ h => h, ?_, ?_, ?_, fun _ _ _ _ h => h, ?_, trivial⟩
        ·exact fun vs w1 w2 hb ⟨a, n, c, h1, h2⟩ => ⟨a, n, c, h1, h2.below hb⟩
        ·exact fun vs w1 w2 hb ⟨a, n, c, h1, h2⟩ => ⟨a, n, c, h1, h2.below hb⟩
        ·exact fun vs w1 w2 hb ⟨a, n, c, h1, h2⟩ => ⟨a, n, c, h1, h2.below hb⟩
        ·exact fun vs w1 w2 hb ⟨a, n, c, h1, h2⟩ => ⟨a, n, c, h1, h2.below hb⟩
       ·simp only [All]
        refine ⟨?_, ?_, ?_, ?_, ?_, ?_, ?_, ?_, ?_, ?_, ?_, ?_, ?_, ?_, ?_, trivial⟩
        ·intro o ho a' w' hb hfr hdep; obtain rfl := oj ho
         have g13 : a'.tmps[13]?.getD undef = .pointer (some ⟨gT, 0, none⟩) := by simpa using hfr 13 (by kernel_rfl)
         clear ho hfr hdep; refine load_struct 102 29 _ 7 size_tables _ Try.underlying29 ⟨gT, 0, none⟩ (by show a'.tmps.getD 13 undef = _; simpa using g13) (tcells H) rfl (fun j u hj => by rw [Addr.add_lit, Nat.zero_add]; exact (HX1.under hb).at_ hj) ?_
         exact ⟨rfl, _, rfl, br, rfl⟩
        ·intro o ho a' w' hb hfr hdep; obtain rfl := oj ho
         have g21 : a'.tmps[21]?.getD undef = .slice (some ⟨gX, 0, none⟩) 2 2 := by simpa using hfr 21 (by kernel_rfl)
         clear ho hfr hdep; go_wp2_with fail; exact ⟨rfl, _, rfl, br, rfl⟩
        ·intro o ho a' w' hb hfr hdep; obtain rfl := oj ho
         have g23 : a'.tmps[23]?.getD undef = .int .i64 (k : Int) := by simpa using hfr 23 (by kernel_rfl)
         clear ho hfr hdep; go_wp2_with fail; exact ⟨rfl, _, rfl, br, rfl⟩
        ·intro o ho a' w' hb hfr hdep; obtain rfl := oj ho
         have g103 : a'.tmps[103]?.getD undef = .slice (some ⟨gX, 0, none⟩) 2 2 := by simpa using hdep 1 _ rfl (by kernel_rfl)
         have g104 : a'.tmps[104]?.getD undef = .int .i64 (k : Int) := by simpa using hdep 2 _ rfl (by kernel_rfl)
         clear ho hfr hdep; refine index_known 105 34 _ _ 31 Try.underlying34 size_sys gX 2 2 (by show a'.tmps.getD 103 undef = _; simpa using g103) _ _ k (by show a'.tmps.getD 104 undef = _; simpa using g104) rfl hk2 ?_
         exact ⟨rfl, _, rfl, br, rfl⟩
        ·intro o ho a' w' hb hfr hdep; obtain rfl := oj ho
         have g105 : a'.tmps[105]?.getD undef = .pointer (some ⟨gX, k, none⟩) := by simpa using hdep 3 _ rfl (by kernel_rfl)
         clear ho hfr hdep; have hcl := cell_below cX1 hb
         go_wp2_with fail; exact ⟨rfl, _, rfl, br, rfl⟩
        ·intro o ho a' w' hb hfr hdep; obtain rfl := oj ho
         have g20 : a'.tmps[20]?.getD undef = .slice (some ⟨gL, 0, none⟩) 5 5 := by simpa using hfr 20 (by kernel_rfl)
         clear ho hfr hdep; go_wp2_with fail; exact ⟨rfl, _, rfl, br, rfl⟩
        ·intro o ho a' w' hb hfr hdep; obtain rfl := oj ho
         have g22 : a'.tmps[22]?.getD undef = .int .i64 (i : Int) := by simpa using hfr 22 (by kernel_rfl)
         clear ho hfr hdep; go_wp2_with fail; exact ⟨rfl, _, rfl, br, rfl⟩
        ·intro o ho a' w' hb hfr hdep; obtain rfl := oj ho
         have g107 : a'.tmps[107]?.getD undef = .slice (some ⟨gL, 0, none⟩) 5 5 := by simpa using hdep 5 _ rfl (by kernel_rfl)
         have g108 : a'.tmps[108]?.getD undef = .int .i64 (i : Int) := by simpa using hdep 6 _ rfl (by kernel_rfl)
         clear ho hfr hdep; refine index_rowk 109 75 _ _ 43 Try.underlying75 3 size_rcert gL 0 5 5 (by show a'.tmps.getD 107 undef = _; simpa using g107) _ _ i (by show a'.tmps.getD 108 undef = _; simpa using g108) rfl hi5 ?_
         rw [Nat.zero_add]
         exact ⟨rfl, _, rfl, br, rfl⟩
        ·intro o ho a' w' hb hfr hdep; obtain rfl := oj ho
         have g109 : a'.tmps[109]?.getD undef = .pointer (some ⟨gL, i * 3, none⟩) := by simpa using hdep 7 _ rfl (by kernel_rfl)
         clear ho hfr hdep; refine load_struct 110 43 _ 3 size_rcert _ Try.underlying43 ⟨gL, i * 3, none⟩ (by show a'.tmps.getD 109 undef = _; simpa using g109) [.slice pa pn pc, .slice qa qn qc, .slice ra rn rc] rfl (fun j u hj => by rw [Addr.add_lit]; exact cell_below (hci1 j u hj) hb) ?_
         exact ⟨rfl, _, rfl, br, rfl⟩
        ·intro o ho a' w' hb hfr hdep; obtain rfl := oj ho
         have g110 : a'.tmps[110]?.getD undef = .agg #[.slice pa pn pc, .slice qa qn qc, .slice ra rn rc] := by simpa using hdep 8 _ rfl (by kernel_rfl)
         clear ho hfr hdep; have hgv := hide (law8_given pa qa ra pn pc qn qc rn rc w')
         go_wp2_with (go_at_call 32; refine hgv.out.mono ?_; rintro e w2 ⟨rfl, h2⟩)
         exact ⟨rfl, _, rfl, h2, rfl⟩
        ·intro o ho a' w' hb hfr hdep; obtain rfl := oj ho
         have g102 : a'.tmps[102]?.getD undef = H.v := by simpa using hdep 0 _ rfl (by kernel_rfl)
         have g106 : a'.tmps[106]?.getD undef = .slice xa xn xc := by simpa using hdep 4 _ rfl (by kernel_rfl)
         have g111 : a'.tmps[111]?.getD undef = .agg #[.slice pa pn pc, .slice qa qn qc, .slice ra rn rc] := by simpa using hdep 9 _ rfl (by kernel_rfl)
         clear ho hfr hdep; have hsn0 := con_Spans H t X xa xn xc C K pa qa ra pn pc qn qc rn rc w' (HT1.below hb) (hXS1.below hb) (hC1.below hb) (hK1.below hb) HCL.out
         unfold GivesSp at hsn0
         rw [hSE.out, hSP.out] at hsn0
         have hsn := hide hsn0
         clear hsn0
         go_wp2_with (go_at_call 34; refine hsn.out.mono ?_; rintro e w3 ⟨⟨a, n, c, rfl, hpa⟩, h3⟩)
         exact ⟨rfl, _, rfl, h3, a, n, c, rfl, hpa⟩
        ·intro o ho a' w' hb hfr hdep; obtain rfl := oj ho
         obtain ⟨a112, n112, c112, g112, s112⟩ := hdep 10 _ rfl (by kernel_rfl)
         simp at g112
         clear ho hfr hdep; go_wp2_with fail; exact ⟨rfl, _, rfl, br, a112, n112, c112, rfl, s112⟩
        ·intro o ho a' w' hb hfr hdep; obtain rfl := oj ho
         obtain ⟨a101, n101, c101, g101, s101⟩ := hdep 11 _ rfl (by kernel_rfl)
         simp at g101
         clear ho hfr hdep; go_wp2_with fail; exact ⟨rfl, _, rfl, br, a101, n101, c101, rfl, s101⟩
        ·intro o ho a' w' hb hfr hdep; obtain rfl := oj ho
         obtain ⟨a101, n101, c101, g101, s101⟩ := hdep 11 _ rfl (by kernel_rfl)
         simp at g101
         clear ho hfr hdep; go_wp2_with fail; exact ⟨rfl, _, rfl, br, rfl⟩
        ·intro o ho a' w' hb hfr hdep; obtain rfl := oj ho
         obtain ⟨a113, n113, c113, g113, s113⟩ := hdep 12 _ rfl (by kernel_rfl)
         simp at g113
         clear ho hfr hdep; go_wp2_with fail; exact ⟨rfl, _, rfl, br, a113, n113, c113, rfl, s113⟩
       ·intro gg w2 hb2 hp'
        obtain ⟨Aa, An, Ac, e2, sA⟩ := hp' 14 _ rfl
        have p2 := hp' 13 _ rfl
        clear hp'
        simp at e2 p2
        simp only [List.drop_succ_cons, List.drop_zero, List.map_cons, List.map_nil, putAll, Act.put, List.setIfInBounds_toArray, List.set_cons_succ, List.set_cons_zero, List.cons_append, List.nil_append, e2, p2]
        clear e2 p2
        have HX2 := HX1.under hb2
        have HT2 := HT1.below hb2
        have hXS2 := hXS1.below hb2
        have hC2 := hC1.below hb2
        have hK2 := hK1.below hb2
        have hA2 := hA1.below hb2
        have hci2 : ∀ (j : Nat) (u : Value), ([.slice pa pn pc, .slice qa qn qc, .slice ra rn rc] : List Value)[j]? = some u → w2.cell? ⟨gL, i * 3 + j, none⟩ = some u := fun j u hj => cell_below (hci1 j u hj) hb2
        have cX2 := cell_below cX1 hb2
        have hbw2 := hbw1.trans (hb2.mono hbw1.size)
        clear HX1 HT1 hXS1 hC1 hK1 hA1 hci1 cX1 hbw1 hb2
        go_wp2_with fail
        refine wp_region_free 14 [⟨0, 116, [116], fun vs _ => vs = [H.v]⟩, ⟨1, 117, [117], fun vs _ => vs = [.slice (some ⟨gX, 0, none⟩) 2 2]⟩, ⟨2, 118, [118], fun vs _ => vs = [.int .i64 (k : Int)]⟩, ⟨3, 119, [119], fun vs _ => vs = [.pointer (some ⟨gX, k, none⟩)]⟩, ⟨4, 120, [120], fun vs _ => vs = [.slice xa xn xc]⟩, ⟨5, 121, [121], fun vs _ => vs = [.slice (some ⟨gL, 0, none⟩) 5 5]⟩, ⟨6, 122, [122], fun vs _ => vs = [.int .i64 (i : Int)]⟩, ⟨7, 123, [123], fun vs _ => vs = [.pointer (some ⟨gL, i * 3, none⟩)]⟩, ⟨8, 124, [124], fun vs _ => vs = [.agg #[.slice pa pn pc, .slice qa qn qc, .slice ra rn rc]]⟩, ⟨9, 125, [125], fun vs w => ∃ a n c, vs = [.tuple #[.slice a n c, .int .i64 SE]] ∧ Sl w 1 a n c (SP.map I64)⟩, ⟨10, 115, [115], fun vs w => ∃ a n c, vs = [.tuple #[.slice a n c, .int .i64 SE]] ∧ Sl w 1 a n c (SP.map I64)⟩, ⟨11, 126, [126], fun vs w => ∃ a n c, vs = [.slice a n c] ∧ Sl w 1 a n c (SP.map I64)⟩, ⟨12, 127, [127], fun vs _ => vs = [.int .i64 SE]⟩, ⟨13, 26, [26], fun vs w => ∃ a n c, vs = [.slice a n c] ∧ Sl w 1 a n c (SP.map I64)⟩] (by kernel_rfl) (by kernel_rfl) ?_ ?_ ?_
        ·simp only [All]
         refine ⟨fun _ _ _ _ h => h, fun _ _ _ _ h => h, fun _ _ _ _ h => h, fun _ _ _ _ h => h, fun _ _ _ _ h => h, fun _ _ _ _ h => h, fun _ _ _ _ h => h, fun _ _ _ _ h => h, fun _ _ _ _ h => h, ?_, ?_, ?_, fun _ _ _ _ h => h, ?_, trivial⟩
         ·exact fun vs w1 w2 hb ⟨a, n, c, h1, h2⟩ => ⟨a, n, c, h1, h2.below hb⟩
         ·exact fun vs w1 w2 hb ⟨a, n, c, h1, h2⟩ => ⟨a, n, c, h1, h2.below hb⟩
         ·exact fun vs w1 w2 hb ⟨a, n, c, h1, h2⟩ => ⟨a, n, c, h1, h2.below hb⟩
         ·exact fun vs w1 w2 hb ⟨a, n, c, h1, h2⟩ => ⟨a, n, c, h1, h2.below hb⟩
        ·simp only [All]
         refine ⟨?_, ?_, ?_, ?_, ?_, ?_, ?_, ?_, ?_, ?_, ?_, ?_, ?_, ?_, trivial⟩
         ·intro o ho a' w' hb hfr hdep; obtain rfl := oj ho
          have g13 : a'.tmps[13]?.getD undef = .pointer (some ⟨gT, 0, none⟩) := by simpa using hfr 13 (by kernel_rfl)
          clear ho hfr hdep; refine load_struct 116 29 _ 7 size_tables _ Try.underlying29 ⟨gT, 0, none⟩ (by show a'.tmps.getD 13 undef = _; simpa using g13) (tcells H) rfl (fun j u hj => by rw [Addr.add_lit, Nat.zero_add]; exact (HX2.under hb).at_ hj) ?_
          exact ⟨rfl, _, rfl, br, rfl⟩
         ·intro o ho a' w' hb hfr hdep; obtain rfl := oj ho
          have g21 : a'.tmps[21]?.getD undef = .slice (some ⟨gX, 0, none⟩) 2 2 := by simpa using hfr 21 (by kernel_rfl)
          clear ho hfr hdep; go_wp2_with fail; exact ⟨rfl, _, rfl, br, rfl⟩
         ·intro o ho a' w' hb hfr hdep; obtain rfl := oj ho
          have g23 : a'.tmps[23]?.getD undef = .int .i64 (k : Int) := by simpa using hfr 23 (by kernel_rfl)
          clear ho hfr hdep; go_wp2_with fail; exact ⟨rfl, _, rfl, br, rfl⟩
         ·intro o ho a' w' hb hfr hdep; obtain rfl := oj ho
          have g117 : a'.tmps[117]?.getD undef = .slice (some ⟨gX, 0, none⟩) 2 2 := by simpa using hdep 1 _ rfl (by kernel_rfl)
          have g118 : a'.tmps[118]?.getD undef = .int .i64 (k : Int) := by simpa using hdep 2 _ rfl (by kernel_rfl)
          clear ho hfr hdep; refine index_known 119 34 _ _ 31 Try.underlying34 size_sys gX 2 2 (by show a'.tmps.getD 117 undef = _; simpa using g117) _ _ k (by show a'.tmps.getD 118 undef = _; simpa using g118) rfl hk2 ?_
          exact ⟨rfl, _, rfl, br, rfl⟩
         ·intro o ho a' w' hb hfr hdep; obtain rfl := oj ho
          have g119 : a'.tmps[119]?.getD undef = .pointer (some ⟨gX, k, none⟩) := by simpa using hdep 3 _ rfl (by kernel_rfl)
          clear ho hfr hdep; have hcl := cell_below cX2 hb
          go_wp2_with fail; exact ⟨rfl, _, rfl, br, rfl⟩
         ·intro o ho a' w' hb hfr hdep; obtain rfl := oj ho
          have g20 : a'.tmps[20]?.getD undef = .slice (some ⟨gL, 0, none⟩) 5 5 := by simpa using hfr 20 (by kernel_rfl)
          clear ho hfr hdep; go_wp2_with fail; exact ⟨rfl, _, rfl, br, rfl⟩
         ·intro o ho a' w' hb hfr hdep; obtain rfl := oj ho
          have g22 : a'.tmps[22]?.getD undef = .int .i64 (i : Int) := by simpa using hfr 22 (by kernel_rfl)
          clear ho hfr hdep; go_wp2_with fail; exact ⟨rfl, _, rfl, br, rfl⟩
         ·intro o ho a' w' hb hfr hdep; obtain rfl := oj ho
          have g121 : a'.tmps[121]?.getD undef = .slice (some ⟨gL, 0, none⟩) 5 5 := by simpa using hdep 5 _ rfl (by kernel_rfl)
          have g122 : a'.tmps[122]?.getD undef = .int .i64 (i : Int) := by simpa using hdep 6 _ rfl (by kernel_rfl)
          clear ho hfr hdep; refine index_rowk 123 75 _ _ 43 Try.underlying75 3 size_rcert gL 0 5 5 (by show a'.tmps.getD 121 undef = _; simpa using g121) _ _ i (by show a'.tmps.getD 122 undef = _; simpa using g122) rfl hi5 ?_
          rw [Nat.zero_add]
          exact ⟨rfl, _, rfl, br, rfl⟩
         ·intro o ho a' w' hb hfr hdep; obtain rfl := oj ho
          have g123 : a'.tmps[123]?.getD undef = .pointer (some ⟨gL, i * 3, none⟩) := by simpa using hdep 7 _ rfl (by kernel_rfl)
          clear ho hfr hdep; refine load_struct 124 43 _ 3 size_rcert _ Try.underlying43 ⟨gL, i * 3, none⟩ (by show a'.tmps.getD 123 undef = _; simpa using g123) [.slice pa pn pc, .slice qa qn qc, .slice ra rn rc] rfl (fun j u hj => by rw [Addr.add_lit]; exact cell_below (hci2 j u hj) hb) ?_
          exact ⟨rfl, _, rfl, br, rfl⟩
         ·intro o ho a' w' hb hfr hdep; obtain rfl := oj ho
          have g116 : a'.tmps[116]?.getD undef = H.v := by simpa using hdep 0 _ rfl (by kernel_rfl)
          have g120 : a'.tmps[120]?.getD undef = .slice xa xn xc := by simpa using hdep 4 _ rfl (by kernel_rfl)
          have g124 : a'.tmps[124]?.getD undef = .agg #[.slice pa pn pc, .slice qa qn qc, .slice ra rn rc] := by simpa using hdep 8 _ rfl (by kernel_rfl)
          clear ho hfr hdep; have hsn0 := ref8_Spans H t X xa xn xc C K pa qa ra pn pc qn qc rn rc w' (HT2.below hb) (hXS2.below hb) (hC2.below hb) (hK2.below hb) HCL.out
          unfold GivesSp at hsn0
          rw [hSE.out, hSP.out] at hsn0
          have hsn := hide hsn0
          clear hsn0
          go_wp2_with (go_at_call 35; refine hsn.out.mono ?_; rintro e w3 ⟨⟨a, n, c, rfl, hpa⟩, h3⟩)
          exact ⟨rfl, _, rfl, h3, a, n, c, rfl, hpa⟩
         ·intro o ho a' w' hb hfr hdep; obtain rfl := oj ho
          obtain ⟨a125, n125, c125, g125, s125⟩ := hdep 9 _ rfl (by kernel_rfl)
          simp at g125
          clear ho hfr hdep; go_wp2_with fail; exact ⟨rfl, _, rfl, br, a125, n125, c125, rfl, s125⟩
         ·intro o ho a' w' hb hfr hdep; obtain rfl := oj ho
          obtain ⟨a115, n115, c115, g115, s115⟩ := hdep 10 _ rfl (by kernel_rfl)
          simp at g115
          clear ho hfr hdep; go_wp2_with fail; exact ⟨rfl, _, rfl, br, a115, n115, c115, rfl, s115⟩
         ·intro o ho a' w' hb hfr hdep; obtain rfl := oj ho
          obtain ⟨a115, n115, c115, g115, s115⟩ := hdep 10 _ rfl (by kernel_rfl)
          simp at g115
          clear ho hfr hdep; go_wp2_with fail; exact ⟨rfl, _, rfl, br, rfl⟩
         ·intro o ho a' w' hb hfr hdep; obtain rfl := oj ho
          obtain ⟨a126, n126, c126, g126, s126⟩ := hdep 11 _ rfl (by kernel_rfl)
          simp at g126
          clear ho hfr hdep; go_wp2_with fail; exact ⟨rfl, _, rfl, br, a126, n126, c126, rfl, s126⟩
        ·intro gg w5 hb5 hp'
         obtain ⟨Ba, Bn, Bc, e5, sB⟩ := hp' 13 _ rfl
         have p5 := hp' 12 _ rfl
         clear hp'
         simp at e5 p5
         simp only [List.drop_succ_cons, List.drop_zero, List.map_cons, List.map_nil, putAll, Act.put, List.setIfInBounds_toArray, List.set_cons_succ, List.set_cons_zero, List.cons_append, List.nil_append, e5, p5]
         clear e5 p5
         have hbw5 := hbw2.trans (hb5.mono hbw2.size)
         have sA5 := sA.below hb5
         clear HX2 HT2 hXS2 hC2 hK2 hA2 hci2 cX2 hbw2 hb5 sA
         have dS : (SE != SE) = false := by simp
         have hsi := hide (ints_at (x := SP) (y := SP) rfl sA5 sB)
         go_wp2_with (first
          | (go_at_call 26; refine hsi.out.mono ?_; rintro e w6 ⟨rfl, hb6⟩; refine hold ?_)
          | (refine unguard_any (by first | rfl | (simp [Region.wanted, yielded, Act.put]; done)) ?_; go_at_call 26; refine hsi.out.mono ?_; rintro e w6 ⟨rfl, hb6⟩; refine hold ?_))
         refine hide ?_
         have hb9 := hbw5.trans (hb6.mono hbw5.size)
         clear hsi sA5 sB hbw5 hb6
         go_wp2_with fail
         go_roundg (2 - (k + 1))
         case measure => omega
         case rel => exact ⟨k + 1, by omega, rfl, by go_num, hb9⟩
     ·obtain rfl : k = 2 := by omega
      have d1 : decide (((2 : Nat) : Int) < 2) = false := by decide
      go_wp2_with fail
      go_roundg (5 - (i + 1))
      case measure => omega
      case rel => exact ⟨i + 1, by omega, rfl, by go_num, hb⟩
   ·obtain rfl : i = 5 := by omega
    have d0 : decide (((5 : Nat) : Int) < 5) = false := by decide
    have hlv := hide (law8_lives wr)
    have hbl := hBz.trans (hb.mono hBz.size)
    go_wp2_with (go_at_call 17; refine hlv.out.mono ?_; rintro e w9 ⟨rfl, hb9⟩)
    go_ret
    exact ⟨rfl, hbl.trans (hb9.mono hbl.size)⟩
end Go.Proofs.Ytlpkicjijlcbfaa
