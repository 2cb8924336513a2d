/- Chapter 08: the walk of ContractTogether. -/
import Derived.Test.YtlpkicjijlcbfabBaseQO
import Derived.Test.YtlpkicjijlcbfabLawDL1
set_option linter.unusedVariables false
set_option linter.unusedSimpArgs false
namespace Go.Dx
open Go.RowKit
theorem tr06 {t : Ta} {l : List Sy} {E : Int} (hf : fitsE t l = 0) (hE : trE t l = E) : E = 0 ∨ E = 6 := by
  rw [← hE]
  unfold trE
  rw [hf, if_neg (by simp)]
  split
  · exact .inr rfl
  · exact .inl rfl
end Go.Dx
namespace Go.Proofs.Ytlpkicjijlcbfab
open Go.RowKit Go.Dx Go.Al
section
variable {w : World} {ops : Array Oper} {rest : List Oper} {o : Oper} {act : Act} {Q : Exit → Act → World → Prop}
/-- 'append(out, l...)' on []Sym -/
theorem app_ys (hg : o.guard = none) (s x : Operand) (hop : o.op = Op.call { callee := Callee.builtin Builtin.append, args := #[s, x], argTypes := #[31, 31] })
    (w0 : World) (B : Nat) (a : Option Addr) (n c : Nat) (xs : List Value) (hs : act.eval s = .slice a n c) (hown : Go.Dx.Own w B 34 2 a n c xs)
    (a2 : Option Addr) (m c2 : Nat) (ys : List Sy) (hx : act.eval x = .slice a2 m c2) (hy : Sl w 2 a2 m c2 (ys.flatMap sc))
    (hn : n + m ≤ 1000000) (hB : B ≤ w.heap.size) (hbel : Below B w0 w)
    (hK : ∀ a' c' w', Go.Dx.Own w' B 34 2 a' (n + m) c' (xs ++ ys.flatMap sc) → w.grownBy w' (a.map (·.block)) → Below B w0 w' → wpList Try.prog ops Q rest (act.put o.dst (.slice a' (n + m) c')) w') :
    wpList Try.prog ops Q (o :: rest) act w :=
  append_own hg s x 31 hop 34 zeroSym 2 16 Try.underlying31 info_sym rfl w0 B a n c xs hs hown a2 m c2 (ys.flatMap sc) hx hy (one_flat sc_one ys) (by omega) (by unfold maxLen; omega) hB hbel hK
end
set_option maxRecDepth 100000 in
set_option maxHeartbeats 16000000 in
theorem walk_ContractTogether (n : Int) (l : List Int) (a : Option Addr) (ln lc : Nat) (m : List Int) (am : Option Addr) (mn mc : Nat) (w : World) (hs : Sl w 1 a ln lc (l.map I64)) (hl : ∀ x ∈ l, -9223372036854775808 ≤ x ∧ x ≤ 9223372036854775807)
    (hms : Sl w 1 am mn mc (m.map I64)) (hml : ∀ x ∈ m, -9223372036854775808 ≤ x ∧ x ≤ 9223372036854775807) (hn : -9223372036854775808 ≤ n ∧ n ≤ 9223372036854775807) :
    Calls Try.prog 3 #[.int .i64 n, .slice a ln lc, .slice am mn mc] w fun e w' => e = .returned (.bool true) ∧ Below w.heap.size w w' := by
  have HML := hide hml
  clear hml
  obtain ⟨S, HSS⟩ : ∃ S, Hid (symsL l = S) := ⟨_, hide rfl⟩
  have hSok := symsL_ok l
  rw [HSS.out] at hSok
  have hS24 := hSok.2
  have hgS : goodS S = true := by
    unfold goodS
    rw [List.all_eq_true]
    intro x hx
    have h := hSok.1 x hx
    unfold plainSy at h
    rw [Bool.and_eq_true] at h
    exact h.1
  have HGS := hide hgS
  clear hSok hgS
  go_enter Try.func3, Try.ntmps3
  go_wp2_with fail
  refine (ref_Tables n hn.1 hn.2 w).mono ?_
  rintro e w1 ⟨H, t, rfl, hT, hG, hb1⟩
  have HV : Hid (validE t = 0) := hide hG.ok
  clear hG
  have Hm := hide hT
  clear hT
  obtain ⟨⟨a0, n0, c0⟩, ⟨a1, n1, c1⟩, ps0, ps1, ⟨ad, nd, cd⟩, ⟨ac, nc, cc⟩, ⟨an, nn, cn⟩, ⟨af, nf, cf⟩, ⟨aw, nw, cw⟩⟩ := H
  unfold TH.v
  simp only [hdv]
  have Y1 := Box.new w1 29 #[.slice a0 n0 c0, .slice a1 n1 c1, .slice ad nd cd, .slice ac nc cc, .slice an nn cn, .slice af nf cf, .slice aw nw cw]
  have hbY := blo w1 (.cells #[.slice a0 n0 c0, .slice a1 n1 c1, .slice ad nd cd, .slice ac nc cc, .slice an nn cn, .slice af nf cf, .slice aw nw cw] 29)
  go_wp2_with fail
  generalize w1.alloc (.cells _ 29) = w2 at *
  obtain ⟨H, hH⟩ : ∃ H : TH, H = ⟨(a0, n0, c0), (a1, n1, c1), ps0, ps1, (ad, nd, cd), (ac, nc, cc), (an, nn, cn), (af, nf, cf), (aw, nw, cw)⟩ := ⟨_, rfl⟩
  have hX2 : Box w2 w1.heap.size 29 (tcells H) := by rw [hH]; exact Y1
  have hT2 : TaIs w2 H t := by rw [hH]; exact Hm.out.below hbY
  have hB2 := hb1.trans (hbY.mono hb1.size)
  clear hH Hm hbY hb1 Y1
  generalize w1.heap.size = gT at *
  refine (ref_Syms l hl a ln lc w2 (hs.below hB2)).mono ?_
  rintro e w3 ⟨a3, c3, rfl, hO3, hb3⟩
  rw [HSS.out] at hO3 ⊢
  have HX3 := hX2.under hb3
  have HT3 := hT2.below hb3
  have hB3 := hB2.trans (hb3.mono hB2.size)
  have HS3 := hO3.sl
  clear hO3 hX2 hT2 hB2 hb3 hs hn hl HSS
  obtain ⟨N, hN⟩ : ∃ N, Hid (S.length = N) := ⟨_, hide rfl⟩
  rw [hN.out] at HS3 hS24 ⊢
  obtain ⟨Y, HYY⟩ : ∃ Y, Hid (symsL m = Y) := ⟨_, hide rfl⟩
  have hYok := symsL_ok m
  rw [HYY.out] at hYok
  have hY24 := hYok.2
  have hgY : goodS Y = true := by
    unfold goodS
    rw [List.all_eq_true]
    intro x hx
    have h := hYok.1 x hx
    unfold plainSy at h
    rw [Bool.and_eq_true] at h
    exact h.1
  have HGY := hide hgY
  clear hYok hgY
  obtain ⟨NY, hNY⟩ : ∃ NY, Hid (Y.length = NY) := ⟨_, hide rfl⟩
  rw [hNY.out] at hY24
  have hM3 := hms.below hB3
  clear hms
  go_wp2_with fail
  refine (ref_Syms m HML.out am mn mc w3 hM3).mono ?_
  rintro e w4 ⟨aY, cY, rfl, hO4, hb4⟩
  rw [HYY.out, hNY.out] at hO4 ⊢
  have HX4 := HX3.under hb4
  have HT4 := HT3.below hb4
  have HS4 := HS3.below hb4
  have HY4 := hO4.sl
  have hB4 := hB3.trans (hb4.mono hB3.size)
  clear HX3 HT3 HS3 hO4 hb4 hM3 hB3 HYY
  have hal := blo w4 (.cells #[.int .i64 0, .int .u8 32] 34)
  have HBl : Sl (w4.alloc (.cells #[.int .i64 0, .int .u8 32] 34)) 2 (some ⟨w4.heap.size, 0, none⟩) 1 1 (([blankS] : List Sy).flatMap sc) := Sl.fresh w4 34 2 1 [.int .i64 0, .int .u8 32] rfl (by decide)
  have hsz4 : (w4.alloc (.cells #[.int .i64 0, .int .u8 32] 34)).heap.size = w4.heap.size + 1 := by simp
  go_upto_region 5 with fail
  generalize w4.alloc (.cells _ 34) = w5 at *
  obtain ⟨gB, hgB⟩ : ∃ g, Hid (w4.heap.size = g) := ⟨_, hide rfl⟩
  rw [hgB.out] at HBl hsz4 ⊢
  have HX5 := HX4.under hal
  have HT5 := HT4.below hal
  have HS5 := HS4.below hal
  have HY5 := HY4.below hal
  have hB5 := hB4.trans (hal.mono hB4.size)
  clear HX4 HT4 HS4 HY4 hB4 hal hsz4
  have ho := Go.Dx.Own.built w5 w5.heap.size 34 2 0 #[] (Nat.le_refl _) rfl (by decide)
  have hal := blo w5 (.cells #[] 34)
  have hsz : w5.heap.size ≤ (w5.alloc (.cells #[] 34)).heap.size := hal.size
  have HX0 := HX5
  have HT0 := HT5
  have HS0 := HS5
  have HY0 := HY5
  have HB0 := HBl
  have HS6 := HS5.below hal
  clear HX5 HT5 HS5 HY5 HBl
  go_wp2_with (at_builtin; refine app_ys rfl _ _ rfl w5 w5.heap.size _ 0 0 _ rfl ho a3 N c3 S rfl HS6 (by omega) hsz hal ?_; intro aP cP w7 hO7 gb7 hb7; refine hold ?_)
  refine hide ?_
  have HX7 : Box w7 gT 29 (tcells H) := HX0.under hb7
  have HT7 : TaIs w7 H t := HT0.below hb7
  have HS7 : Sl w7 2 a3 N c3 (S.flatMap sc) := HS0.below hb7
  have HY7 : Sl w7 2 aY NY cY (Y.flatMap sc) := HY0.below hb7
  have HB7 : Sl w7 2 (some ⟨gB, 0, none⟩) 1 1 (([blankS] : List Sy).flatMap sc) := HB0.below hb7
  clear HS6 ho gb7
  rw [Nat.zero_add] at hO7
  go_wp2_with (at_builtin; refine app_ys rfl _ _ rfl w5 w5.heap.size aP N cP _ rfl hO7 (some ⟨gB, 0, none⟩) 1 1 [blankS] rfl HB7 (by omega) hb7.size hb7 ?_; intro aQ cQ w8 hO8 gb8 hb8; refine hold ?_)
  refine hide ?_
  have HX8 : Box w8 gT 29 (tcells H) := HX0.under hb8
  have HT8 : TaIs w8 H t := HT0.below hb8
  have HS8 : Sl w8 2 a3 N c3 (S.flatMap sc) := HS0.below hb8
  have HY8 : Sl w8 2 aY NY cY (Y.flatMap sc) := HY0.below hb8
  have HB8 : Sl w8 2 (some ⟨gB, 0, none⟩) 1 1 (([blankS] : List Sy).flatMap sc) := HB0.below hb8
  clear HX7 HT7 HS7 HY7 HB7 hO7 gb8 hb7
  go_wp2_with (at_builtin; refine app_ys rfl _ _ rfl w5 w5.heap.size aQ (N + 1) cQ _ rfl hO8 aY NY cY Y rfl HY8 (by omega) hb8.size hb8 ?_; intro aB cB w9 hO9 gb9 hb9; refine hold ?_)
  refine hide ?_
  have HX9 : Box w9 gT 29 (tcells H) := HX0.under hb9
  have HT9 : TaIs w9 H t := HT0.below hb9
  have HS9 : Sl w9 2 a3 N c3 (S.flatMap sc) := HS0.below hb9
  have HY9 : Sl w9 2 aY NY cY (Y.flatMap sc) := HY0.below hb9
  have HB9 : Sl w9 2 (some ⟨gB, 0, none⟩) 1 1 (([blankS] : List Sy).flatMap sc) := HB0.below hb9
  clear HX8 HT8 HS8 HY8 HB8 hb8 HX0 HT0 HS0 HY0 HB0
  clear hO8 gb9
  obtain ⟨BB, hBB⟩ : ∃ BB, Hid (S ++ blankS :: Y = BB) := ⟨_, hide rfl⟩
  obtain ⟨NB, hNB⟩ : ∃ NB, Hid (N + 1 + NY = NB) := ⟨_, hide rfl⟩
  have hNBl : Hid (BB.length = NB) := hide (by rw [← hBB.out, List.length_append, List.length_cons, hN.out, hNY.out]; have := hNB.out; omega)
  have HB9s : Sl w9 2 aB NB cB (BB.flatMap sc) := by
    have h := hO9.sl
    rw [hNB.out] at h
    rw [← hBB.out, List.flatMap_append, List.flatMap_cons]
    have e : ([] ++ S.flatMap sc ++ [blankS].flatMap sc ++ Y.flatMap sc : List Value) = S.flatMap sc ++ (sc blankS ++ Y.flatMap sc) := by simp
    rw [← e]
    exact h
  rw [hNB.out]
  have hNB49 : NB ≤ 49 := by have := hNB.out; omega
  have HGB : Hid (goodS BB = true) := hide (by rw [← hBB.out]; exact good_app HGS.out HGY.out)
  have hbw := hB5.trans (hb9.mono hB5.size)
  clear hO9 hb9 hB5
  obtain ⟨wt0, rfl⟩ : ∃ z : World, z = w9 := ⟨_, rfl⟩
  have HX := HX9
  have HT := HT9
  have HS := HS9
  have HY := HY9
  have HBk := HB9
  have HBo := HB9s
  clear HX9 HT9 HS9 HY9 HB9 HB9s
  have hF1 : Hid (fitsE t S = 0) := hide (fitsE_of HV.out HGS.out (by rw [hN.out]; omega))
  have hF2 : Hid (fitsE t Y = 0) := hide (fitsE_of HV.out HGY.out (by rw [hNY.out]; omega))
  have hF3 : Hid (fitsE t [blankS] = 0) := hide (fitsE_of HV.out (by decide) (by decide))
  have hF4 : Hid (fitsE t BB = 0) := hide (fitsE_of HV.out HGB.out (by rw [hNBl.out]; omega))
  obtain ⟨E1, hE1⟩ : ∃ X, Hid (trE t S = X) := ⟨_, hide rfl⟩
  obtain ⟨E2, hE2⟩ : ∃ X, Hid (trE t Y = X) := ⟨_, hide rfl⟩
  obtain ⟨E3, hE3⟩ : ∃ X, Hid (trE t [blankS] = X) := ⟨_, hide rfl⟩
  obtain ⟨E4, hE4⟩ : ∃ X, Hid (trE t BB = X) := ⟨_, hide rfl⟩
  have hT1 := tr06 hF1.out hE1.out
  have hT2 := tr06 hF2.out hE2.out
  have hT3 := tr06 hF3.out hE3.out
  have htr := hide (tr_at H t S a3 N c3 wt0 HT HS hE1.out rfl rfl rfl)
  go_wp2_with (first
    | (with_reducible refine load_struct 39 29 _ 7 size_tables _ Try.underlying29 ⟨gT, 0, none⟩ rfl (tcells H) rfl (fun j u hj => by rw [Addr.add_lit, Nat.zero_add]; exact HX.at_ hj) ?_)
    | (go_at_call 6; refine htr.out.mono ?_; rintro e wz ⟨⟨v, rfl, hce⟩, hbz⟩; refine hold ?_))
  refine hide ?_
  obtain ⟨ea1, en1, ec1, ta1, tn1, tc1, la1, ln1, lc1, hs1, hv, hE1s, hK1s, hL1s⟩ := hce.ce
  subst hv
  have HC1 := Box.new wz 37 #[.slice ea1 en1 ec1, .slice ta1 tn1 tc1, .slice la1 ln1 lc1]
  have hbq := blo wz (.cells #[.slice ea1 en1 ec1, .slice ta1 tn1 tc1, .slice la1 ln1 lc1] 37)
  have hbt := hbz.trans (hbq.mono hbz.size)
  go_upto_region 7 with fail
  generalize wz.alloc (.cells #[.slice ea1 en1 ec1, .slice ta1 tn1 tc1, .slice la1 ln1 lc1] 37) = wt1 at *
  obtain ⟨gC1, hgC1⟩ : ∃ g, Hid (wz.heap.size = g) := ⟨_, hide rfl⟩
  rw [hgC1.out] at HC1 ⊢
  have HC1 : Box wt1 gC1 37 [.slice ea1 en1 ec1, .slice ta1 tn1 tc1, .slice la1 ln1 lc1] := HC1
  replace HX := HX.under hbt
  replace HT := HT.below hbt
  replace HS := HS.below hbt
  replace HY := HY.below hbt
  replace HBk := HBk.below hbt
  replace HBo := HBo.below hbt
  replace hbw := hbw.trans (hbt.mono hbw.size)
  replace hE1s := hE1s.below hbq
  replace hK1s := hK1s.below hbq
  skip
  clear hce hbz hbq hbt htr hL1s
  have htr := hide (tr_at H t Y aY NY cY wt1 HT HY hE2.out rfl rfl rfl)
  go_wp2_with (first
    | (with_reducible refine load_struct 45 29 _ 7 size_tables _ Try.underlying29 ⟨gT, 0, none⟩ rfl (tcells H) rfl (fun j u hj => by rw [Addr.add_lit, Nat.zero_add]; exact HX.at_ hj) ?_)
    | (go_at_call 6; refine htr.out.mono ?_; rintro e wz ⟨⟨v, rfl, hce⟩, hbz⟩; refine hold ?_))
  refine hide ?_
  obtain ⟨ea2, en2, ec2, ta2, tn2, tc2, la2, ln2, lc2, hs2, hv, hE2s, hK2s, hL2s⟩ := hce.ce
  subst hv
  have HC2 := Box.new wz 37 #[.slice ea2 en2 ec2, .slice ta2 tn2 tc2, .slice la2 ln2 lc2]
  have hbq := blo wz (.cells #[.slice ea2 en2 ec2, .slice ta2 tn2 tc2, .slice la2 ln2 lc2] 37)
  have hbt := hbz.trans (hbq.mono hbz.size)
  go_upto_region 8 with fail
  generalize wz.alloc (.cells #[.slice ea2 en2 ec2, .slice ta2 tn2 tc2, .slice la2 ln2 lc2] 37) = wt2 at *
  obtain ⟨gC2, hgC2⟩ : ∃ g, Hid (wz.heap.size = g) := ⟨_, hide rfl⟩
  rw [hgC2.out] at HC2 ⊢
  have HC2 : Box wt2 gC2 37 [.slice ea2 en2 ec2, .slice ta2 tn2 tc2, .slice la2 ln2 lc2] := HC2
  replace HX := HX.under hbt
  replace HT := HT.below hbt
  replace HS := HS.below hbt
  replace HY := HY.below hbt
  replace HBk := HBk.below hbt
  replace HBo := HBo.below hbt
  replace hbw := hbw.trans (hbt.mono hbw.size)
  replace hE2s := hE2s.below hbq
  replace hK2s := hK2s.below hbq
  replace HC1 := HC1.under hbt
  replace hE1s := hE1s.below hbt
  clear hce hbz hbq hbt htr hL2s
  have htr := hide (tr_at H t [blankS] (some ⟨gB, 0, none⟩) 1 1 wt2 HT HBk hE3.out rfl rfl rfl)
  go_wp2_with (first
    | (with_reducible refine load_struct 51 29 _ 7 size_tables _ Try.underlying29 ⟨gT, 0, none⟩ rfl (tcells H) rfl (fun j u hj => by rw [Addr.add_lit, Nat.zero_add]; exact HX.at_ hj) ?_)
    | (go_at_call 6; refine htr.out.mono ?_; rintro e wz ⟨⟨v, rfl, hce⟩, hbz⟩; refine hold ?_))
  refine hide ?_
  obtain ⟨ea3, en3, ec3, ta3, tn3, tc3, la3, ln3, lc3, hs3, hv, hE3s, hK3s, hL3s⟩ := hce.ce
  subst hv
  have HC3 := Box.new wz 37 #[.slice ea3 en3 ec3, .slice ta3 tn3 tc3, .slice la3 ln3 lc3]
  have hbq := blo wz (.cells #[.slice ea3 en3 ec3, .slice ta3 tn3 tc3, .slice la3 ln3 lc3] 37)
  have hbt := hbz.trans (hbq.mono hbz.size)
  go_upto_region 9 with fail
  generalize wz.alloc (.cells #[.slice ea3 en3 ec3, .slice ta3 tn3 tc3, .slice la3 ln3 lc3] 37) = wt3 at *
  obtain ⟨gC3, hgC3⟩ : ∃ g, Hid (wz.heap.size = g) := ⟨_, hide rfl⟩
  rw [hgC3.out] at HC3 ⊢
  have HC3 : Box wt3 gC3 37 [.slice ea3 en3 ec3, .slice ta3 tn3 tc3, .slice la3 ln3 lc3] := HC3
  replace HX := HX.under hbt
  replace HT := HT.below hbt
  replace HS := HS.below hbt
  replace HY := HY.below hbt
  replace HBk := HBk.below hbt
  replace HBo := HBo.below hbt
  replace hbw := hbw.trans (hbt.mono hbw.size)
  replace hE3s := hE3s.below hbq
  replace hK3s := hK3s.below hbq
  replace HC1 := HC1.under hbt
  replace hE1s := hE1s.below hbt
  replace HC2 := HC2.under hbt
  replace hE2s := hE2s.below hbt
  clear hce hbz hbq hbt htr hL3s
  have htr := hide (tr_at H t BB aB NB cB wt3 HT HBo hE4.out rfl rfl rfl)
  go_wp2_with (first
    | (with_reducible refine load_struct 57 29 _ 7 size_tables _ Try.underlying29 ⟨gT, 0, none⟩ rfl (tcells H) rfl (fun j u hj => by rw [Addr.add_lit, Nat.zero_add]; exact HX.at_ hj) ?_)
    | (go_at_call 6; refine htr.out.mono ?_; rintro e wz ⟨⟨v, rfl, hce⟩, hbz⟩; refine hold ?_))
  refine hide ?_
  obtain ⟨ea4, en4, ec4, ta4, tn4, tc4, la4, ln4, lc4, hs4, hv, hE4s, hK4s, hL4s⟩ := hce.ce
  subst hv
  have HC4 := Box.new wz 37 #[.slice ea4 en4 ec4, .slice ta4 tn4 tc4, .slice la4 ln4 lc4]
  have hbq := blo wz (.cells #[.slice ea4 en4 ec4, .slice ta4 tn4 tc4, .slice la4 ln4 lc4] 37)
  have hbt := hbz.trans (hbq.mono hbz.size)
  go_upto_region 10 with fail
  generalize wz.alloc (.cells #[.slice ea4 en4 ec4, .slice ta4 tn4 tc4, .slice la4 ln4 lc4] 37) = wt4 at *
  obtain ⟨gC4, hgC4⟩ : ∃ g, Hid (wz.heap.size = g) := ⟨_, hide rfl⟩
  rw [hgC4.out] at HC4 ⊢
  have HC4 : Box wt4 gC4 37 [.slice ea4 en4 ec4, .slice ta4 tn4 tc4, .slice la4 ln4 lc4] := HC4
  replace HX := HX.under hbt
  replace HT := HT.below hbt
  replace HS := HS.below hbt
  replace HY := HY.below hbt
  replace HBk := HBk.below hbt
  replace HBo := HBo.below hbt
  replace hbw := hbw.trans (hbt.mono hbw.size)
  replace hE4s := hE4s.below hbq
  replace hK4s := hK4s.below hbq
  replace HC1 := HC1.under hbt
  replace hE1s := hE1s.below hbt
  replace HC2 := HC2.under hbt
  replace hE2s := hE2s.below hbt
  replace HC3 := HC3.under hbt
  replace hE3s := hE3s.below hbt
  clear hce hbz hbq hbt htr hL4s
  by_cases hall : E1 = 0 ∧ E2 = 0 ∧ E3 = 0
  · obtain ⟨rfl, rfl, rfl⟩ := hall
    have v1 := (trE_ok hE1.out).2
    have v2 := (trE_ok hE2.out).2
    have v3 := (trE_ok hE3.out).2
    have htg := together HV.out HGS.out HGY.out v1 v2 v3
    rw [hBB.out] at htg
    have hE40 : E4 = 0 := by
      rw [← hE4.out]
      unfold trE
      rw [hF4.out, if_neg (by simp), if_neg (show ¬ numV t BB < 0 from by have := htg.1; unfold numV; omega)]
    subst hE40
    have hn1 : Hid ((en1 : Int) = numV t S) := hide (by rw [hE1s.n_eq]; exact trC_len HV.out HGS.out hE1.out)
    have hn2 : Hid ((en2 : Int) = numV t Y) := hide (by rw [hE2s.n_eq]; exact trC_len HV.out HGY.out hE2.out)
    have hn3 : Hid ((en3 : Int) = numV t [blankS]) := hide (by rw [hE3s.n_eq]; exact trC_len HV.out (by decide) hE3.out)
    have hn4 : Hid ((en4 : Int) = numV t BB) := hide (by rw [hE4s.n_eq]; exact trC_len HV.out HGB.out hE4.out)
    have m1 : en1 ≤ 1000000 := by rw [hE1s.n_eq]; exact trC_few HV.out HGS.out (by rw [hN.out]; omega) hE1.out
    have m2 : en2 ≤ 1000000 := by rw [hE2s.n_eq]; exact trC_few HV.out HGY.out (by rw [hNY.out]; omega) hE2.out
    have m3 : en3 ≤ 1000000 := by rw [hE3s.n_eq]; exact trC_few HV.out (by decide) (by decide) hE3.out
    have hfew4 := trC_few HV.out HGB.out (by rw [hNBl.out]; omega) hE4.out
    have m4 : en4 ≤ 1000000 := by rw [hE4s.n_eq]; exact hfew4
    obtain ⟨fa, fn, fc, hf5⟩ : ∃ fa fn fc, Hid (H.f = (fa, fn, fc)) := ⟨_, _, _, hide rfl⟩
    obtain ⟨sa, sn, sC, hs6⟩ : ∃ sa sn sC, Hid (H.s = (sa, sn, sC)) := ⟨_, _, _, hide rfl⟩
    have hfl := HT.f
    have hsl := HT.s
    rw [hf5.out] at hfl
    rw [hs6.out] at hsl
    have hsn : sn = t.sw.length := hsl.n_eq
    have hfn : fn = t.fin.length := hfl.n_eq
    have hgp := good_parts (valid_parts HV.out).2.2.1
    have hs4 : sn ≤ 4 := by rw [hsn]; exact indic_le hgp.2.2.2.2.1
    have hf4 : fn ≤ 4 := by rw [hfn]; exact indic_le hgp.2.2.2.1
    have hsum : en4 ≤ en1 + en2 + en3 + fn + 2 * sn := by
      have h1 := htg.2
      have e1 := hn1.out
      have e2 := hn2.out
      have e3 := hn3.out
      have e4 := hn4.out
      unfold numV at e1 e2 e3 e4
      omega
    have d1 : decide (en1 + en2 + en3 + fn + 2 * sn < en4) = false := decide_eq_false (by omega)
    have d1' : decide ((en1 : Int) + (en2 : Int) + (en3 : Int) + (fn : Int) + 2 * (sn : Int) < (en4 : Int)) = false := decide_eq_false (by omega)
    have c1 : wt4.cell? ⟨gC1, 0, none⟩ = some (.slice ea1 en1 ec1) := HC1.at_ rfl
    have c2 : wt4.cell? ⟨gC2, 0, none⟩ = some (.slice ea2 en2 ec2) := HC2.at_ rfl
    have c3' : wt4.cell? ⟨gC3, 0, none⟩ = some (.slice ea3 en3 ec3) := HC3.at_ rfl
    have c4 : wt4.cell? ⟨gC4, 0, none⟩ = some (.slice ea4 en4 ec4) := HC4.at_ rfl
    have c5 : wt4.cell? ⟨gT, 5, none⟩ = some (.slice fa fn fc) := by
      have h := HX.at_ (j := 5) (u := hdv H.f) rfl
      rw [hf5.out] at h
      exact h
    have c6 : wt4.cell? ⟨gT, 6, none⟩ = some (.slice sa sn sC) := by
      have h := HX.at_ (j := 6) (u := hdv H.s) rfl
      rw [hs6.out] at h
      exact h
    have hsp := hide (con_Spans H t BB aB NB cB (trC t BB) (trK t BB) ea4 ta4 la4 en4 ec4 tn4 tc4 ln4 lc4 wt4 HT HBo hE4s hK4s hfew4)
    have hfo : Hid (followF t BB (trK t BB) 0 s00 (trC t BB) = some (placesP (pathT t BB) 0)) := hide (by
      unfold trK trC
      rw [if_pos hE4.out, if_pos hE4.out]
      exact follow_path HV.out HGB.out htg.1)
    have hsE : spE t BB (trC t BB) (trK t BB) = 0 := by unfold spE; rw [hF4.out, if_neg (by simp), hfo.out]; rfl
    have hsP : spP t BB (trC t BB) (trK t BB) = placesP (pathT t BB) 0 := by unfold spP; rw [hF4.out, if_neg (by simp), hfo.out]; rfl
    obtain ⟨PP, hPP⟩ : ∃ PP, Hid (placesP (pathT t BB) 0 = PP) := ⟨_, hide rfl⟩
    have hpok := places_ok HV.out HGB.out (2 * BB.length + 1) 0 s00 (.inl rfl)
    have hpfi := places_first HV.out HGB.out (by rw [hNBl.out]; have := hNB.out; omega) htg.1
    have hple := places_len (pathT t BB) 0
    unfold pathT at hPP
    unfold pathT at hpfi hple
    rw [hPP.out] at hpok hpfi hple
    have hPl : Hid (PP.length = en4) := hide (by
      rw [hple, hE4s.n_eq]
      unfold trC
      rw [if_pos hE4.out]
      rfl)
    have HPO := hide hpok
    have HPF := hide hpfi
    unfold GivesSp at hsp
    rw [hsE, hsP] at hsp
    unfold pathT at hsp
    rw [hPP.out] at hsp
    clear v1 v2 v3 htg hsum hn1 hn2 hn3 hn4 hfl hsl hsn hfn hgp hf5 hs6 hsE hsP hpok hpfi hple hfo hE1s hE2s hE3s hfew4
    go_upto_region 14 with fail
    clear c1 c2 c3' c5 c6 d1 d1'
    go_wp2_with (first
      | (with_reducible refine load_struct 126 29 _ 7 size_tables _ Try.underlying29 ⟨gT, 0, none⟩ rfl (tcells H) rfl (fun j u hj => by rw [Addr.add_lit, Nat.zero_add]; exact HX.at_ hj) ?_)
      | (with_reducible refine load_struct 128 37 _ 3 size_cert _ Try.underlying37 ⟨gC4, 0, none⟩ rfl [.slice ea4 en4 ec4, .slice ta4 tn4 tc4, .slice la4 ln4 lc4] rfl (fun j u hj => by rw [Addr.add_lit, Nat.zero_add]; exact HC4.at_ hj) ?_)
      | (go_at_call 8; refine hsp.out.mono ?_; rintro e w6 ⟨⟨pa, pn, pc, rfl, hP6⟩, hb6⟩; refine hold ?_))
    refine hide ?_
    have hbw6 := hbw.trans (hb6.mono hbw.size)
    have c46 := cell_below c4 hb6
    obtain rfl : pn = en4 := by rw [hP6.n_eq]; exact hPl.out
    have hp0 : 0 < pn := by rw [← hPl.out]; exact (List.getElem?_eq_some_iff.1 HPF.out).1
    obtain ⟨pb, po, hab, hpb, hcP⟩ := hP6.ex (by rw [List.length_map, hPl.out]; exact hp0)
    subst hab
    have z0 : w6.cell? ⟨pb, po, none⟩ = some (.int .i64 0) := by have h := hcP 0 _ (by rw [List.getElem?_map, HPF.out]; rfl); rwa [Nat.add_zero] at h
    have e0 : ((pn : Int) == 0) = false := by simp; omega
    have e1 : decide (0 < pn) = true := decide_eq_true hp0
    have HCP := hide hcP
    clear hcP HX HT HS HY HBk HBo HC1 HC2 HC3 HC4 hE4s hK4s hbw hb6 c4 hsp
    go_wp2_with (refine unguard_any (by first | rfl | (simp [Region.wanted, yielded, Act.put]; done)) ?_; with_reducible refine idx_i 149 _ _ (some ⟨pb, po, none⟩) pn pc PP rfl hP6 .i64 _ 0 rfl rfl _ HPF.out ?_; intro bI oI hcI hbI)
    go_loopg [22] (pn - 1) (fun gh v w' => ∃ k : Nat, k + 1 ≤ pn ∧ gh = pn - (k + 1) ∧ v = .int .i64 ((k + 1 : Nat) : Int) ∧ Below w6.heap.size w6 w')
    case atStart => exact ⟨0, hp0, rfl, rfl, Below.refl _ _⟩
    case round =>
      obtain ⟨k, hk, rfl, rfl, hb⟩ := hrel
      by_cases hkn : k + 1 < pn
      · have d2 : decide (((k + 1 : Nat) : Int) < (pn : Int)) = true := decide_eq_true (by omega)
        have d2' : decide ((k : Int) + 1 < (pn : Int)) = true := decide_eq_true (by omega)
        obtain ⟨v0, hv0⟩ : ∃ v, PP[k]? = some v := ⟨_, List.getElem?_eq_getElem (by rw [hPl.out]; omega)⟩
        obtain ⟨v1, hv1⟩ : ∃ v, PP[k + 1]? = some v := ⟨_, List.getElem?_eq_getElem (by rw [hPl.out]; omega)⟩
        have h1 := HPO.out.1 v1 (List.mem_of_getElem? hv1)
        have h2 : v0 ≤ v1 := by
          have hp := HPO.out.2
          rw [List.pairwise_iff_getElem] at hp
          have i0 : k < PP.length := by rw [hPl.out]; omega
          have i1 : k + 1 < PP.length := by rw [hPl.out]; omega
          have h := hp k (k + 1) i0 i1 (by omega)
          rw [(List.getElem?_eq_some_iff.1 hv0).2, (List.getElem?_eq_some_iff.1 hv1).2] at h
          exact h
        have h3 : v1 < (NB : Int) := by rw [← hNBl.out]; exact h1.2
        have d3 : decide (v1 < v0) = false := decide_eq_false (by omega)
        have d4 : decide ((NB : Int) ≤ v1) = false := decide_eq_false (by omega)
        obtain ⟨q0, hq0⟩ : ∃ q, Hid (po + k = q) := ⟨_, hide rfl⟩
        obtain ⟨q1, hq1⟩ : ∃ q, Hid (po + (k + 1) = q) := ⟨_, hide rfl⟩
        have cv0 : wr.cell? ⟨pb, q0, none⟩ = some (.int .i64 v0) := cell_below (by rw [← hq0.out]; exact HCP.out k _ (by rw [List.getElem?_map, hv0]; rfl)) hb
        have cv1 : wr.cell? ⟨pb, q1, none⟩ = some (.int .i64 v1) := cell_below (by rw [← hq1.out]; exact HCP.out (k + 1) _ (by rw [List.getElem?_map, hv1]; rfl)) hb
        have hk0 : k < pn := by omega
        have hk1 : k + 1 < pn := hkn
        clear hv0 hv1 h1 h2 h3
        go_wp2_with fail
        refine wp_region_free 18 [⟨0, 159, [159], fun vs _ => vs = [.slice (some ⟨pb, po, none⟩) pn pc]⟩, ⟨1, 160, [160], fun vs _ => vs = [.int .i64 ((k + 1 : Nat) : Int)]⟩, ⟨2, 161, [161], fun vs _ => vs = [.pointer (some ⟨pb, q1, none⟩)]⟩, ⟨3, 162, [162], fun vs _ => vs = [.int .i64 v1]⟩, ⟨4, 163, [163], fun vs _ => vs = [.slice (some ⟨pb, po, none⟩) pn pc]⟩, ⟨5, 164, [164], fun vs _ => vs = [.int .i64 ((k + 1 : Nat) : Int)]⟩, ⟨6, 165, [165], fun vs _ => vs = [.int .i64 (k : Int)]⟩, ⟨7, 166, [166], fun vs _ => vs = [.pointer (some ⟨pb, q0, none⟩)]⟩, ⟨8, 167, [167], fun vs _ => vs = [.int .i64 v0]⟩, ⟨9, 168, [168], fun vs _ => vs = [.bool false]⟩, ⟨10, 169, [169], fun vs _ => vs = [.bool false]⟩, ⟨11, 170, [170], fun vs _ => vs = [.slice (some ⟨pb, po, none⟩) pn pc]⟩, ⟨12, 171, [171], fun vs _ => vs = [.int .i64 ((k + 1 : Nat) : Int)]⟩, ⟨13, 172, [172], fun vs _ => vs = [.pointer (some ⟨pb, q1, none⟩)]⟩, ⟨14, 173, [173], fun vs _ => vs = [.int .i64 v1]⟩, ⟨15, 174, [174], fun vs _ => vs = [.slice aB NB cB]⟩, ⟨16, 175, [175], fun vs _ => vs = [.int .i64 (NB : Int)]⟩, ⟨17, 176, [176], fun vs _ => vs = [.bool false]⟩] (by kernel_rfl) (by kernel_rfl) ?_ ?_ ?_
        · simp only [All]
          refine ⟨fun _ _ _ _ h => h, fun _ _ _ _ h => h, fun _ _ _ _ h => h, fun _ _ _ _ h => h, fun _ _ _ _ h => h, fun _ _ _ _ h => h, fun _ _ _ _ h => h, fun _ _ _ _ h => h, fun _ _ _ _ h => h, fun _ _ _ _ h => h, fun _ _ _ _ h => h, fun _ _ _ _ h => h, fun _ _ _ _ h => h, fun _ _ _ _ h => h, fun _ _ _ _ h => h, fun _ _ _ _ h => h, fun _ _ _ _ h => h, fun _ _ _ _ h => h, trivial⟩
        · simp only [All]
          refine ⟨?_, ?_, ?_, ?_, ?_, ?_, ?_, ?_, ?_, ?_, ?_, ?_, ?_, ?_, ?_, ?_, ?_, ?_, trivial⟩
          · intro o ho a' w' hb hfr hdep
            obtain rfl := Option.some.inj ho
            have g20 : a'.tmps[20]?.getD undef = .slice (some ⟨pb, po, none⟩) pn pc := by have h := hfr 20 (by kernel_rfl); simpa using h
            clear ho hfr hdep
            go_wp2_with fail
            exact ⟨rfl, _, rfl, Below.refl _ _, rfl⟩
          · intro o ho a' w' hb hfr hdep
            obtain rfl := Option.some.inj ho
            have g22 : a'.tmps[22]?.getD undef = .int .i64 ((k + 1 : Nat) : Int) := by have h := hfr 22 (by kernel_rfl); simpa using h
            clear ho hfr hdep
            go_wp2_with fail
            exact ⟨rfl, _, rfl, Below.refl _ _, rfl⟩
          · intro o ho a' w' hb hfr hdep
            obtain rfl := Option.some.inj ho
            have g159 : a'.tmps[159]?.getD undef = .slice (some ⟨pb, po, none⟩) pn pc := by have h := hdep 0 _ rfl (by kernel_rfl); simpa using h
            have g160 : a'.tmps[160]?.getD undef = .int .i64 ((k + 1 : Nat) : Int) := by have h := hdep 1 _ rfl (by kernel_rfl); simpa using h
            clear ho hfr hdep
            refine index_rowk 161 22 _ _ 3 Try.underlying22 1 size_int pb po pn pc (by show a'.tmps.getD 159 undef = _; simpa using g159) _ _ (k + 1) (by show a'.tmps.getD 160 undef = _; simpa using g160) rfl hk1 ?_
            rw [Nat.mul_one, hq1.out]
            exact ⟨rfl, _, rfl, Below.refl _ _, rfl⟩
          · intro o ho a' w' hb hfr hdep
            obtain rfl := Option.some.inj ho
            have g161 : a'.tmps[161]?.getD undef = .pointer (some ⟨pb, q1, none⟩) := by have h := hdep 2 _ rfl (by kernel_rfl); simpa using h
            clear ho hfr hdep
            have hcl := cell_below cv1 hb
            go_wp2_with fail
            exact ⟨rfl, _, rfl, Below.refl _ _, rfl⟩
          · intro o ho a' w' hb hfr hdep
            obtain rfl := Option.some.inj ho
            have g20 : a'.tmps[20]?.getD undef = .slice (some ⟨pb, po, none⟩) pn pc := by have h := hfr 20 (by kernel_rfl); simpa using h
            clear ho hfr hdep
            go_wp2_with fail
            exact ⟨rfl, _, rfl, Below.refl _ _, rfl⟩
          · intro o ho a' w' hb hfr hdep
            obtain rfl := Option.some.inj ho
            have g22 : a'.tmps[22]?.getD undef = .int .i64 ((k + 1 : Nat) : Int) := by have h := hfr 22 (by kernel_rfl); simpa using h
            clear ho hfr hdep
            go_wp2_with fail
            exact ⟨rfl, _, rfl, Below.refl _ _, rfl⟩
          · intro o ho a' w' hb hfr hdep
            obtain rfl := Option.some.inj ho
            have g164 : a'.tmps[164]?.getD undef = .int .i64 ((k + 1 : Nat) : Int) := by have h := hdep 5 _ rfl (by kernel_rfl); simpa using h
            clear ho hfr hdep
            go_wp2_with fail
            exact ⟨rfl, _, rfl, Below.refl _ _, by simp⟩
          · intro o ho a' w' hb hfr hdep
            obtain rfl := Option.some.inj ho
            have g163 : a'.tmps[163]?.getD undef = .slice (some ⟨pb, po, none⟩) pn pc := by have h := hdep 4 _ rfl (by kernel_rfl); simpa using h
            have g165 : a'.tmps[165]?.getD undef = .int .i64 (k : Int) := by have h := hdep 6 _ rfl (by kernel_rfl); simpa using h
            clear ho hfr hdep
            refine index_rowk 166 22 _ _ 3 Try.underlying22 1 size_int pb po pn pc (by show a'.tmps.getD 163 undef = _; simpa using g163) _ _ k (by show a'.tmps.getD 165 undef = _; simpa using g165) rfl hk0 ?_
            rw [Nat.mul_one, hq0.out]
            exact ⟨rfl, _, rfl, Below.refl _ _, rfl⟩
          · intro o ho a' w' hb hfr hdep
            obtain rfl := Option.some.inj ho
            have g166 : a'.tmps[166]?.getD undef = .pointer (some ⟨pb, q0, none⟩) := by have h := hdep 7 _ rfl (by kernel_rfl); simpa using h
            clear ho hfr hdep
            have hcl := cell_below cv0 hb
            go_wp2_with fail
            exact ⟨rfl, _, rfl, Below.refl _ _, rfl⟩
          · intro o ho a' w' hb hfr hdep
            obtain rfl := Option.some.inj ho
            have g162 : a'.tmps[162]?.getD undef = .int .i64 v1 := by have h := hdep 3 _ rfl (by kernel_rfl); simpa using h
            have g167 : a'.tmps[167]?.getD undef = .int .i64 v0 := by have h := hdep 8 _ rfl (by kernel_rfl); simpa using h
            clear ho hfr hdep
            go_wp2_with fail
            exact ⟨rfl, _, rfl, Below.refl _ _, rfl⟩
          · intro o ho a' w' hb hfr hdep
            obtain rfl := Option.some.inj ho
            have g168 : a'.tmps[168]?.getD undef = .bool false := by have h := hdep 9 _ rfl (by kernel_rfl); simpa using h
            clear ho hfr hdep
            go_wp2_with fail
            exact ⟨rfl, _, rfl, Below.refl _ _, rfl⟩
          · intro o ho a' w' hb hfr hdep
            obtain rfl := Option.some.inj ho
            have g20 : a'.tmps[20]?.getD undef = .slice (some ⟨pb, po, none⟩) pn pc := by have h := hfr 20 (by kernel_rfl); simpa using h
            have g169 : a'.tmps[169]?.getD undef = .bool false := by have h := hdep 10 _ rfl (by kernel_rfl); simpa using h
            have q169 := opt_bool g169
            clear ho hfr hdep
            refine unguard_any (by simp [Region.wanted, yielded, q169]) ?_
            go_wp2_with fail
            exact ⟨rfl, _, rfl, Below.refl _ _, rfl⟩
          · intro o ho a' w' hb hfr hdep
            obtain rfl := Option.some.inj ho
            have g22 : a'.tmps[22]?.getD undef = .int .i64 ((k + 1 : Nat) : Int) := by have h := hfr 22 (by kernel_rfl); simpa using h
            have g169 : a'.tmps[169]?.getD undef = .bool false := by have h := hdep 10 _ rfl (by kernel_rfl); simpa using h
            have q169 := opt_bool g169
            clear ho hfr hdep
            refine unguard_any (by simp [Region.wanted, yielded, q169]) ?_
            go_wp2_with fail
            exact ⟨rfl, _, rfl, Below.refl _ _, rfl⟩
          · intro o ho a' w' hb hfr hdep
            obtain rfl := Option.some.inj ho
            have g170 : a'.tmps[170]?.getD undef = .slice (some ⟨pb, po, none⟩) pn pc := by have h := hdep 11 _ rfl (by kernel_rfl); simpa using h
            have g171 : a'.tmps[171]?.getD undef = .int .i64 ((k + 1 : Nat) : Int) := by have h := hdep 12 _ rfl (by kernel_rfl); simpa using h
            have g169 : a'.tmps[169]?.getD undef = .bool false := by have h := hdep 10 _ rfl (by kernel_rfl); simpa using h
            have q169 := opt_bool g169
            clear ho hfr hdep
            refine unguard_any (by simp [Region.wanted, yielded, q169]) ?_
            refine index_rowk 172 22 _ _ 3 Try.underlying22 1 size_int pb po pn pc (by show a'.tmps.getD 170 undef = _; simpa using g170) _ _ (k + 1) (by show a'.tmps.getD 171 undef = _; simpa using g171) rfl hk1 ?_
            rw [Nat.mul_one, hq1.out]
            exact ⟨rfl, _, rfl, Below.refl _ _, rfl⟩
          · intro o ho a' w' hb hfr hdep
            obtain rfl := Option.some.inj ho
            have g172 : a'.tmps[172]?.getD undef = .pointer (some ⟨pb, q1, none⟩) := by have h := hdep 13 _ rfl (by kernel_rfl); simpa using h
            have g169 : a'.tmps[169]?.getD undef = .bool false := by have h := hdep 10 _ rfl (by kernel_rfl); simpa using h
            have q169 := opt_bool g169
            clear ho hfr hdep
            refine unguard_any (by simp [Region.wanted, yielded, q169]) ?_
            have hcl := cell_below cv1 hb
            go_wp2_with fail
            exact ⟨rfl, _, rfl, Below.refl _ _, rfl⟩
          · intro o ho a' w' hb hfr hdep
            obtain rfl := Option.some.inj ho
            have g11 : a'.tmps[11]?.getD undef = .slice aB NB cB := by have h := hfr 11 (by kernel_rfl); simpa using h
            have g169 : a'.tmps[169]?.getD undef = .bool false := by have h := hdep 10 _ rfl (by kernel_rfl); simpa using h
            have q169 := opt_bool g169
            clear ho hfr hdep
            refine unguard_any (by simp [Region.wanted, yielded, q169]) ?_
            go_wp2_with fail
            exact ⟨rfl, _, rfl, Below.refl _ _, rfl⟩
          · intro o ho a' w' hb hfr hdep
            obtain rfl := Option.some.inj ho
            have g174 : a'.tmps[174]?.getD undef = .slice aB NB cB := by have h := hdep 15 _ rfl (by kernel_rfl); simpa using h
            have g169 : a'.tmps[169]?.getD undef = .bool false := by have h := hdep 10 _ rfl (by kernel_rfl); simpa using h
            have q169 := opt_bool g169
            clear ho hfr hdep
            refine unguard_any (by simp [Region.wanted, yielded, q169]) ?_
            go_wp2_with fail
            exact ⟨rfl, _, rfl, Below.refl _ _, rfl⟩
          · intro o ho a' w' hb hfr hdep
            obtain rfl := Option.some.inj ho
            have g173 : a'.tmps[173]?.getD undef = .int .i64 v1 := by have h := hdep 14 _ rfl (by kernel_rfl); simpa using h
            have g175 : a'.tmps[175]?.getD undef = .int .i64 (NB : Int) := by have h := hdep 16 _ rfl (by kernel_rfl); simpa using h
            have g169 : a'.tmps[169]?.getD undef = .bool false := by have h := hdep 10 _ rfl (by kernel_rfl); simpa using h
            have q169 := opt_bool g169
            clear ho hfr hdep
            refine unguard_any (by simp [Region.wanted, yielded, q169]) ?_
            go_wp2_with fail
            exact ⟨rfl, _, rfl, Below.refl _ _, rfl⟩
        · intro gg w10 hbl hp'
          have p169 := hp' 10 _ rfl
          have p176 := hp' 17 _ rfl
          clear hp'
          simp at p169 p176
          simp only [List.drop_succ_cons, List.drop_zero, List.map_cons, List.map_nil, putAll, Act.put, List.setIfInBounds_toArray, List.set_cons_succ, List.set_cons_zero, List.cons_append, List.nil_append, p169, p176]
          clear p169 p176
          have hb10 := hb.trans (hbl.mono hb.size)
          clear hb hbl cv0 cv1
          go_wp2_with fail
          go_roundg (pn - (k + 1 + 1))
          case measure => omega
          case rel => exact ⟨k + 1, by omega, rfl, by go_num, hb10⟩
      · have d2 : decide (((k + 1 : Nat) : Int) < (pn : Int)) = false := decide_eq_false (by omega)
        have d2' : decide ((k : Int) + 1 < (pn : Int)) = false := decide_eq_false (by omega)
        have hlv := hide (law8_lives wr)
        have hbl := hbw6.trans (hb.mono hbw6.size)
        go_wp2_with (go_at_call 7; refine hlv.out.mono ?_; rintro e w9 ⟨rfl, hb9⟩)
        go_ret
        exact ⟨rfl, hbl.trans (hb9.mono hbl.size)⟩
  · have hlv := hide (law8_lives wt4)
    rcases hT1 with rfl | rfl <;> rcases hT2 with rfl | rfl <;> rcases hT3 with rfl | rfl <;> first
      | exact absurd ⟨rfl, rfl, rfl⟩ hall
      | (clear hall; go_wp2_with (go_at_call 7; refine hlv.out.mono ?_; rintro e w9 ⟨rfl, hb9⟩); go_ret; exact ⟨rfl, hbw.trans (hb9.mono hbw.size)⟩)
end Go.Proofs.Ytlpkicjijlcbfab
