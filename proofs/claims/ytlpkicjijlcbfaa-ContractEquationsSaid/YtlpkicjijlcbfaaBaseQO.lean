/- The contracts of the functions that the law reaches, joined into one text. -/
import Derived.Test.YtlpkicjijlcbfaaBaseQN
set_option linter.unusedVariables false
set_option linter.unusedSimpArgs false

/- the text D28 -/
section
/- Chapter 08: the law's example lives. -/
set_option linter.unusedVariables false
namespace Go.Dx
open Go.RowKit
theorem ex_trC : trC exD handL = [8, 28] := by unfold trC; rw [if_pos ex_tr]; exact ex_cells
theorem ex_few : (trC exD handL).length ≤ 1000000 := by rw [ex_trC]; decide
theorem ex_ck : chE exD handL (trC exD handL) (trK exD handL) (trA exD handL) = 0 := by
  unfold trC trK trA
  rw [if_pos ex_tr, if_pos ex_tr, if_pos ex_tr]
  exact chE_path ex_tr
theorem ex_bd : BdN (trA exD handL) 1000000 := by
  unfold trA
  rw [if_pos ex_tr]
  exact bd_num exD handL exD_valid (by decide)
end Go.Dx
namespace Go.Proofs.Ytlpkicjijlcbfaa
open Go.RowKit Go.Dx Go.Al
theorem ints_at {x y : List Int} {a1 a2 : Option Addr} {n1 n2 c1 c2 : Nat} {w : World} (hxy : x = y) (h1 : Sl w 1 a1 n1 c1 (x.map I64)) (h2 : Sl w 1 a2 n2 c2 (y.map I64)) :
    Calls Try.prog 26 #[.slice a1 n1 c1, .slice a2 n2 c2] w fun e w' => e = .returned (.bool true) ∧ Below w.heap.size w w' := by
  refine (ref_SameInts x y a1 a2 n1 n2 c1 c2 w h1 h2).mono ?_
  rintro e w' ⟨rfl, m, hm⟩
  exact ⟨by rw [decide_eq_true hxy], hm ▸ Still.below m⟩
set_option maxRecDepth 100000 in
set_option maxHeartbeats 8000000 in
theorem law8_lives (w : World) : Calls Try.prog 17 #[] w fun e w' => e = .returned (.bool true) ∧ Below w.heap.size w w' := by
  have hex := hide (law8_example w)
  go_enter Try.func17, Try.ntmps17
  go_wp2_with (go_at_call 45; refine hex.out.mono ?_; rintro e w1 ⟨H, rfl, hT, hb1⟩; refine hold ?_)
  refine hide ?_
  clear hex
  have Hm := hide hT
  clear hT
  obtain ⟨⟨a0, n0, c0⟩, ⟨a1, n1, c1⟩, ps0, ps1, ⟨ad, nd, cd⟩, ⟨ac, nc, cc⟩, ⟨an, nn, cn⟩, ⟨af, nf, cf⟩, ⟨aw, nw, cw⟩⟩ := H
  unfold TH.v
  simp only [hdv]
  have Y1 := Box.new w1 29 #[.slice a0 n0 c0, .slice a1 n1 c1, .slice ad nd cd, .slice ac nc cc, .slice an nn cn, .slice af nf cf, .slice aw nw cw]
  have hbY := blo w1 (.cells #[.slice a0 n0 c0, .slice a1 n1 c1, .slice ad nd cd, .slice ac nc cc, .slice an nn cn, .slice af nf cf, .slice aw nw cw] 29)
  go_wp2_with fail
  generalize w1.alloc (.cells _ 29) = W0 at *
  obtain ⟨H, hH⟩ : ∃ H : TH, H = ⟨(a0, n0, c0), (a1, n1, c1), ps0, ps1, (ad, nd, cd), (ac, nc, cc), (an, nn, cn), (af, nf, cf), (aw, nw, cw)⟩ := ⟨_, rfl⟩
  have HX : Box W0 w1.heap.size 29 (tcells H) := by rw [hH]; exact Y1
  have HT : TaIs W0 H exD := by rw [hH]; exact Hm.out.below hbY
  have hbw := hb1.trans (hbY.mono hb1.size)
  clear hH Hm hbY hb1 Y1
  generalize w1.heap.size = gT at *
  clear w1
  refine wp_region_chain4 8 (KeepsX 39) (GTr 39 W0 (trC exD handL) (trK exD handL) (trA exD handL)) [⟨6, 2, [], fun _ _ => True⟩, ⟨7, 85, [0], fun _ _ => True⟩] [⟨0, 12, [12], fun vs _ => vs = [H.v]⟩, ⟨1, 13, [13], SyF 39 handL⟩, ⟨2, 14, [14], TuF 39 0 (trC exD handL) (trK exD handL) (trA exD handL)⟩, ⟨3, 11, [11], TuF 39 0 (trC exD handL) (trK exD handL) (trA exD handL)⟩, ⟨4, 15, [15], VaF 39 (trC exD handL) (trK exD handL) (trA exD handL)⟩, ⟨5, 16, [16], fun vs _ => vs = [.int .i64 0]⟩] (by kernel_rfl) (by kernel_rfl) ?_ (fun _ _ h => KeepsX.of h) GTr.mono ?_ ?_ ?_ ?_
  · exact (Still.below 1 : Below W0.heap.size W0 (W0.drewN 1))
  · simp only [All]
    refine ⟨(fun _ _ _ _ h => h), (fun _ _ _ hk h => h.keep hk), (fun _ _ _ hk h => h.keep hk), (fun _ _ _ hk h => h.keep hk), (fun _ _ _ hk h => h.keep hk), (fun _ _ _ _ h => h), trivial⟩
  · intro m c hc o ho a w' hG hfr hdep
    rcases m with _ | _ | m
    · cases hc
      obtain rfl := Option.some.inj ho
      have hB : Below W0.heap.size W0 w' := hG
      clear hfr hdep hG
      go_wp2_with fail
      exact ⟨rfl, _, rfl, KeepsX.of (blo _ _), w'.heap.size, rfl, hB.size, [.slice none 0 0, .slice none 0 0, .slice none 0 0], rfl, Box.new _ _ _, hB.alloc hB.size _⟩
    · cases hc
      obtain rfl := Option.some.inj ho
      obtain ⟨b9, e9, hlo9, cs9, hl9, hbx9, hB⟩ := hG
      obtain ⟨v9, g9, c9⟩ := hdep 4 _ rfl (by kernel_rfl)
      replace e9 : a.tmps.getD 2 undef = .pointer (some ⟨b9, 0, none⟩) := e9
      replace g9 : a.tmps.getD 15 undef = v9 := by simpa using g9
      obtain ⟨a1, n1, c1, a2, n2, c2, a3, n3, c3, hs9, hv9, -⟩ := c9.ce
      subst hv9
      clear ho hfr hdep
      refine store_all 39 _ _ 39 b9 cs9 [.slice a1 n1 c1, .slice a2 n2 c2, .slice a3 n3 c3] _ size_cert hbx9 e9 g9 rfl (by rw [hl9]; rfl) (by simp [Value.oneCell']) ?_
      intro w10 hx10 hg10 hs10
      have hK := KeepsX.put hbx9 hg10
      have hb10 := hB.grown hg10 hB.size (fun k hk => by cases hk; exact hlo9)
      have E9 := hide e9
      clear e9 g9 hl9 hs10
      go_wp2_with fail
      exact ⟨rfl, undef, rfl, hK, b9, by first | rfl | exact E9.out | simpa using E9.out, hlo9, _, _, _, hx10, c9.keep hK, hb10⟩
    · cases hc
  · simp only [All]
    refine ⟨?_, ?_, ?_, ?_, ?_, ?_, trivial⟩
    · intro o ho a' w' hfr hdep hst
      obtain rfl := Option.some.inj ho
      have hb : Below W0.heap.size W0 w' := by obtain ⟨j, _, _, hG⟩ := hst; exact hG.bel
      have g1 : a'.tmps[1]?.getD undef = .pointer (some ⟨gT, 0, none⟩) := by have h := hfr 1 (by kernel_rfl); simpa using h
      clear ho hfr hdep hst
      refine load_struct 12 29 _ 7 size_tables _ Try.underlying29 ⟨gT, 0, none⟩ (by show a'.tmps.getD 1 undef = _; simpa using g1) (tcells H) rfl (fun j u hj => by rw [Addr.add_lit, Nat.zero_add]; exact (HX.under hb).at_ hj) ?_
      exact ⟨rfl, _, rfl, Below.refl _ _, rfl⟩
    · intro o ho a' w' hfr hdep hst
      obtain rfl := Option.some.inj ho
      have hb : Below W0.heap.size W0 w' := by obtain ⟨j, _, _, hG⟩ := hst; exact hG.bel
      clear ho hfr hdep hst
      have hwd := hide (word_at symsOf_hand (by decide) 39 (by decide) w')
      go_wp2_with (go_at_call 46; refine hwd.out.mono ?_; rintro e w3 ⟨v, rfl, hsy, h3⟩)
      exact ⟨rfl, _, rfl, h3, hsy⟩
    · intro o ho a' w' hfr hdep hst
      obtain rfl := Option.some.inj ho
      have hb : Below W0.heap.size W0 w' := by obtain ⟨j, _, _, hG⟩ := hst; exact hG.bel
      have g12 : a'.tmps[12]?.getD undef = H.v := by have h := hdep 0 _ rfl (by kernel_rfl); simpa using h
      obtain ⟨a13, n13, c13, g13, s13⟩ := hdep 1 _ rfl (by kernel_rfl)
      simp at g13
      clear ho hfr hdep hst
      have htr := hide (tr_at H exD handL a13 n13 c13 w' (HT.below hb) (s13 w' (KeepsX.refl _ _)) ex_tr rfl rfl rfl)
      go_wp2_with (go_at_call 13; refine htr.out.mono ?_; rintro e w3 ⟨⟨v, rfl, hce⟩, h3⟩)
      exact ⟨rfl, _, rfl, h3, _, rfl, hce⟩
    · intro o ho a' w' hfr hdep hst
      obtain rfl := Option.some.inj ho
      obtain ⟨v14, g14, c14⟩ := hdep 2 _ rfl (by kernel_rfl)
      simp at g14
      clear ho hfr hdep hst
      go_wp2_with fail
      exact ⟨rfl, _, rfl, Below.refl _ _, _, rfl, c14⟩
    · intro o ho a' w' hfr hdep hst
      obtain rfl := Option.some.inj ho
      obtain ⟨v11, g11, c11⟩ := hdep 3 _ rfl (by kernel_rfl)
      simp at g11
      clear ho hfr hdep hst
      go_wp2_with fail
      exact ⟨rfl, _, rfl, Below.refl _ _, _, rfl, c11⟩
    · intro o ho a' w' hfr hdep hst
      obtain rfl := Option.some.inj ho
      obtain ⟨v11, g11, c11⟩ := hdep 3 _ rfl (by kernel_rfl)
      simp at g11
      clear ho hfr hdep hst
      go_wp2_with fail
      exact ⟨rfl, _, rfl, Below.refl _ _, rfl⟩
  · intro g w9 hG hp
    obtain ⟨b9, e9, hlo9, s1, s2, s3, hx9, hc9, hb9⟩ := hG
    have p9 := hp 5 _ rfl
    replace e9 : g 2 = .pointer (some ⟨b9, 0, none⟩) := e9
    clear hp
    replace p9 : g 16 = .int .i64 0 := by simpa using p9
    simp only [List.drop_succ_cons, List.drop_zero, List.map_cons, List.map_nil, putAll, Act.put, List.setIfInBounds_toArray, List.set_cons_succ, List.set_cons_zero, List.set_nil, List.cons_append, List.nil_append, e9, p9]
    clear e9 p9
    obtain ⟨a1, n1, c1, a2, n2, c2, a3, n3, c3, hs3, rfl, rfl, rfl, HS1, HS2, HS3⟩ := hc9.parts
    clear hc9 hlo9
    have HC := hx9
    clear hx9
    obtain ⟨bC, rfl⟩ : ∃ z : Nat, z = b9 := ⟨_, rfl⟩
    have HXn := HX.under hb9
    have HTn := HT.below hb9
    have hbn := hbw.trans (hb9.mono hbw.size)
    clear HX HT hbw hb9
    have HX := HXn
    have HT := HTn
    have hbw := hbn
    clear HXn HTn hbn
    clear W0
    obtain ⟨W0, rfl⟩ : ∃ w' : World, w' = w9 := ⟨_, rfl⟩
    go_wp2_with fail
    refine wp_region_free 7 [⟨0, 18, [18], fun vs _ => vs = [H.v]⟩, ⟨1, 19, [19], SyF 39 handL⟩, ⟨2, 20, [20], fun vs w => ∃ a n c, vs = [.tuple #[.slice a n c, .int .i64 0]] ∧ Sl w 1 a n c ((plC exD handL).map B8)⟩, ⟨3, 17, [17], fun vs w => ∃ a n c, vs = [.tuple #[.slice a n c, .int .i64 0]] ∧ Sl w 1 a n c ((plC exD handL).map B8)⟩, ⟨4, 21, [21], fun vs w => ∃ a n c, vs = [.slice a n c] ∧ Sl w 1 a n c ((plC exD handL).map B8)⟩, ⟨5, 22, [22], fun vs _ => vs = [.int .i64 0]⟩, ⟨6, 4, [4], fun vs w => ∃ a n c, vs = [.slice a n c] ∧ Sl w 1 a n c ((plC exD handL).map B8)⟩] (by kernel_rfl) (by kernel_rfl) ?_ ?_ ?_
    · simp only [All]
      refine ⟨fun _ _ _ _ h => h, ?_, ?_, ?_, ?_, fun _ _ _ _ h => h, ?_, trivial⟩
      · exact fun vs w1 w2 hb h => h.below hb
      · exact fun vs w1 w2 hb ⟨a, n, c, h1, h2⟩ => ⟨a, n, c, h1, h2.below hb⟩
      · exact fun vs w1 w2 hb ⟨a, n, c, h1, h2⟩ => ⟨a, n, c, h1, h2.below hb⟩
      · exact fun vs w1 w2 hb ⟨a, n, c, h1, h2⟩ => ⟨a, n, c, h1, h2.below hb⟩
      · exact fun vs w1 w2 hb ⟨a, n, c, h1, h2⟩ => ⟨a, n, c, h1, h2.below hb⟩
    · simp only [All]
      refine ⟨?_, ?_, ?_, ?_, ?_, ?_, ?_, trivial⟩
      · intro o ho a' w' hb hfr hdep
        obtain rfl := Option.some.inj ho
        have g1 : a'.tmps[1]?.getD undef = .pointer (some ⟨gT, 0, none⟩) := by have h := hfr 1 (by kernel_rfl); simpa using h
        clear ho hfr hdep
        refine load_struct 18 29 _ 7 size_tables _ Try.underlying29 ⟨gT, 0, none⟩ (by show a'.tmps.getD 1 undef = _; simpa using g1) (tcells H) rfl (fun j u hj => by rw [Addr.add_lit, Nat.zero_add]; exact (HX.under hb).at_ hj) ?_
        exact ⟨rfl, _, rfl, Below.refl _ _, rfl⟩
      · intro o ho a' w' hb hfr hdep
        obtain rfl := Option.some.inj ho
        clear ho hfr hdep
        have hwd := hide (word_at symsOf_hand (by decide) 39 (by decide) w')
        go_wp2_with (go_at_call 46; refine hwd.out.mono ?_; rintro e w3 ⟨v, rfl, hsy, h3⟩)
        exact ⟨rfl, _, rfl, h3, hsy⟩
      · intro o ho a' w' hb hfr hdep
        obtain rfl := Option.some.inj ho
        have g18 : a'.tmps[18]?.getD undef = H.v := by have h := hdep 0 _ rfl (by kernel_rfl); simpa using h
        obtain ⟨a19, n19, c19, g19, s19⟩ := hdep 1 _ rfl (by kernel_rfl)
        simp at g19
        clear ho hfr hdep
        have hpl := hide (con_Plain H exD handL a19 n19 c19 w' (HT.below hb) (s19 w' (KeepsX.refl _ _)))
        go_wp2_with (go_at_call 18; refine hpl.out.mono ?_; rintro e w3 ⟨⟨a, n, c, rfl, hpa⟩, h3⟩)
        exact ⟨rfl, _, rfl, h3, a, n, c, by rw [ex_pl]; rfl, hpa⟩
      · intro o ho a' w' hb hfr hdep
        obtain rfl := Option.some.inj ho
        obtain ⟨a20, n20, c20, g20, s20⟩ := hdep 2 _ rfl (by kernel_rfl)
        simp at g20
        clear ho hfr hdep
        go_wp2_with fail
        exact ⟨rfl, _, rfl, Below.refl _ _, a20, n20, c20, rfl, s20⟩
      · intro o ho a' w' hb hfr hdep
        obtain rfl := Option.some.inj ho
        obtain ⟨a17, n17, c17, g17, s17⟩ := hdep 3 _ rfl (by kernel_rfl)
        simp at g17
        clear ho hfr hdep
        go_wp2_with fail
        exact ⟨rfl, _, rfl, Below.refl _ _, a17, n17, c17, rfl, s17⟩
      · intro o ho a' w' hb hfr hdep
        obtain rfl := Option.some.inj ho
        obtain ⟨a17, n17, c17, g17, s17⟩ := hdep 3 _ rfl (by kernel_rfl)
        simp at g17
        clear ho hfr hdep
        go_wp2_with fail
        exact ⟨rfl, _, rfl, Below.refl _ _, rfl⟩
      · intro o ho a' w' hb hfr hdep
        obtain rfl := Option.some.inj ho
        obtain ⟨a21, n21, c21, g21, s21⟩ := hdep 4 _ rfl (by kernel_rfl)
        simp at g21
        clear ho hfr hdep
        go_wp2_with fail
        exact ⟨rfl, _, rfl, Below.refl _ _, a21, n21, c21, rfl, s21⟩
    · intro gg w9 hb9 hp'
      obtain ⟨ap, np, cp, e4, hPl⟩ := hp' 6 _ rfl
      have p22 := hp' 5 _ rfl
      clear hp'
      simp at e4 p22
      simp only [List.drop_succ_cons, List.drop_zero, List.map_cons, List.map_nil, putAll, Act.put, List.setIfInBounds_toArray, List.set_cons_succ, List.set_cons_zero, List.cons_append, List.nil_append, e4, p22]
      clear e4 p22
      have HXn := HX.under hb9
      have HTn := HT.below hb9
      have hbn := hbw.trans (hb9.mono hbw.size)
      have HCn := HC.under hb9
      have HS1n := HS1.below hb9
      have HS2n := HS2.below hb9
      have HS3n := HS3.below hb9
      clear HX HT hbw hb9 HC HS1 HS2 HS3
      have HX := HXn
      have HT := HTn
      have hbw := hbn
      have HC := HCn
      have HS1 := HS1n
      have HS2 := HS2n
      have HS3 := HS3n
      clear HXn HTn hbn HCn HS1n HS2n HS3n
      clear W0
      obtain ⟨W0, rfl⟩ : ∃ w' : World, w' = w9 := ⟨_, rfl⟩
      go_wp2_with fail
      refine wp_region_free 8 [⟨0, 24, [24], fun vs _ => vs = [H.v]⟩, ⟨1, 25, [25], SyF 39 handL⟩, ⟨2, 26, [26], fun vs w => ∃ q, vs = [.slice (some ⟨q, 0, none⟩) 1 1] ∧ Sl w 1 (some ⟨q, 0, none⟩) 1 1 (([2] : List Int).map I64)⟩, ⟨3, 27, [27], fun vs w => ∃ a n c hs, vs = [.tuple #[.slice a n c, .int .i64 0]] ∧ Ng w a n c hs [[2, 2], [2]]⟩, ⟨4, 23, [23], fun vs w => ∃ a n c hs, vs = [.tuple #[.slice a n c, .int .i64 0]] ∧ Ng w a n c hs [[2, 2], [2]]⟩, ⟨5, 28, [28], fun vs w => ∃ a n c hs, vs = [.slice a n c] ∧ Ng w a n c hs [[2, 2], [2]]⟩, ⟨6, 29, [29], fun vs _ => vs = [.int .i64 0]⟩, ⟨7, 6, [6], fun vs w => ∃ a n c hs, vs = [.slice a n c] ∧ Ng w a n c hs [[2, 2], [2]]⟩] (by kernel_rfl) (by kernel_rfl) ?_ ?_ ?_
      · simp only [All]
        refine ⟨fun _ _ _ _ h => h, ?_, ?_, ?_, ?_, ?_, fun _ _ _ _ h => h, ?_, trivial⟩
        · exact fun vs w1 w2 hb h => h.below hb
        · exact fun vs w1 w2 hb ⟨q, h1, h2⟩ => ⟨q, h1, h2.below hb⟩
        · exact fun vs w1 w2 hb ⟨a, n, c, hs, h1, h2⟩ => ⟨a, n, c, hs, h1, h2.below hb⟩
        · exact fun vs w1 w2 hb ⟨a, n, c, hs, h1, h2⟩ => ⟨a, n, c, hs, h1, h2.below hb⟩
        · exact fun vs w1 w2 hb ⟨a, n, c, hs, h1, h2⟩ => ⟨a, n, c, hs, h1, h2.below hb⟩
        · exact fun vs w1 w2 hb ⟨a, n, c, hs, h1, h2⟩ => ⟨a, n, c, hs, h1, h2.below hb⟩
      · simp only [All]
        refine ⟨?_, ?_, ?_, ?_, ?_, ?_, ?_, ?_, trivial⟩
        · intro o ho a' w' hb hfr hdep
          obtain rfl := Option.some.inj ho
          have g1 : a'.tmps[1]?.getD undef = .pointer (some ⟨gT, 0, none⟩) := by have h := hfr 1 (by kernel_rfl); simpa using h
          clear ho hfr hdep
          refine load_struct 24 29 _ 7 size_tables _ Try.underlying29 ⟨gT, 0, none⟩ (by show a'.tmps.getD 1 undef = _; simpa using g1) (tcells H) rfl (fun j u hj => by rw [Addr.add_lit, Nat.zero_add]; exact (HX.under hb).at_ hj) ?_
          exact ⟨rfl, _, rfl, Below.refl _ _, rfl⟩
        · intro o ho a' w' hb hfr hdep
          obtain rfl := Option.some.inj ho
          clear ho hfr hdep
          have hwd := hide (word_at symsOf_hand (by decide) 39 (by decide) w')
          go_wp2_with (go_at_call 46; refine hwd.out.mono ?_; rintro e w3 ⟨v, rfl, hsy, h3⟩)
          exact ⟨rfl, _, rfl, h3, hsy⟩
        · intro o ho a' w' hb hfr hdep
          obtain rfl := Option.some.inj ho
          clear ho hfr hdep
          go_wp2_with fail
          exact ⟨rfl, _, rfl, blo _ _, _, rfl, Sl.fresh w' 3 1 1 [.int .i64 2] rfl (by decide)⟩
        · intro o ho a' w' hb hfr hdep
          obtain rfl := Option.some.inj ho
          have g24 : a'.tmps[24]?.getD undef = H.v := by have h := hdep 0 _ rfl (by kernel_rfl); simpa using h
          obtain ⟨a25, n25, c25, g25, s25⟩ := hdep 1 _ rfl (by kernel_rfl)
          simp at g25
          obtain ⟨q26, g26, s26⟩ := hdep 2 _ rfl (by kernel_rfl)
          simp at g26
          clear ho hfr hdep
          have hpl := hide (con_Width H exD handL a25 n25 c25 [2] (some ⟨q26, 0, none⟩) 1 1 w' (HT.below hb) (s25 w' (KeepsX.refl _ _)) s26 (by decide))
          go_wp2_with (go_at_call 24; refine hpl.out.mono ?_; rintro e w3 ⟨⟨a, n, c, hs, rfl, hpa⟩, h3⟩)
          rw [ex_wd] at hpa ⊢
          exact ⟨rfl, _, rfl, h3, a, n, c, hs, rfl, hpa⟩
        · intro o ho a' w' hb hfr hdep
          obtain rfl := Option.some.inj ho
          obtain ⟨a27, n27, c27, h27, g27, s27⟩ := hdep 3 _ rfl (by kernel_rfl)
          simp at g27
          clear ho hfr hdep
          go_wp2_with fail
          exact ⟨rfl, _, rfl, Below.refl _ _, a27, n27, c27, h27, rfl, s27⟩
        · intro o ho a' w' hb hfr hdep
          obtain rfl := Option.some.inj ho
          obtain ⟨a23, n23, c23, h23, g23, s23⟩ := hdep 4 _ rfl (by kernel_rfl)
          simp at g23
          clear ho hfr hdep
          go_wp2_with fail
          exact ⟨rfl, _, rfl, Below.refl _ _, a23, n23, c23, h23, rfl, s23⟩
        · intro o ho a' w' hb hfr hdep
          obtain rfl := Option.some.inj ho
          obtain ⟨a23, n23, c23, h23, g23, s23⟩ := hdep 4 _ rfl (by kernel_rfl)
          simp at g23
          clear ho hfr hdep
          go_wp2_with fail
          exact ⟨rfl, _, rfl, Below.refl _ _, rfl⟩
        · intro o ho a' w' hb hfr hdep
          obtain rfl := Option.some.inj ho
          obtain ⟨a28, n28, c28, h28, g28, s28⟩ := hdep 5 _ rfl (by kernel_rfl)
          simp at g28
          clear ho hfr hdep
          go_wp2_with fail
          exact ⟨rfl, _, rfl, Below.refl _ _, a28, n28, c28, h28, rfl, s28⟩
      · intro gg w9 hb9 hp'
        obtain ⟨aw, nw, cw, hsw, e6, hWd⟩ := hp' 7 _ rfl
        have p29 := hp' 6 _ rfl
        clear hp'
        simp at e6 p29
        simp only [List.drop_succ_cons, List.drop_zero, List.map_cons, List.map_nil, putAll, Act.put, List.setIfInBounds_toArray, List.set_cons_succ, List.set_cons_zero, List.cons_append, List.nil_append, e6, p29]
        clear e6 p29
        have HXn := HX.under hb9
        have HTn := HT.below hb9
        have hbn := hbw.trans (hb9.mono hbw.size)
        have HCn := HC.under hb9
        have HS1n := HS1.below hb9
        have HS2n := HS2.below hb9
        have HS3n := HS3.below hb9
        have hPln := hPl.below hb9
        clear HX HT hbw hb9 HC HS1 HS2 HS3 hPl
        have HX := HXn
        have HT := HTn
        have hbw := hbn
        have HC := HCn
        have HS1 := HS1n
        have HS2 := HS2n
        have HS3 := HS3n
        have hPl := hPln
        clear HXn HTn hbn HCn HS1n HS2n HS3n hPln
        clear W0
        obtain ⟨W0, rfl⟩ : ∃ w' : World, w' = w9 := ⟨_, rfl⟩
        obtain rfl : nw = 2 := hWd.n_eq
        go_wp2_with fail
        refine wp_region_chain4 8 (KeepsX 39) (GTr 39 W0 (trC exD abL) (trK exD abL) (trA exD abL)) [⟨6, 8, [], fun _ _ => True⟩, ⟨7, 85, [0], fun _ _ => True⟩] [⟨0, 31, [31], fun vs _ => vs = [H.v]⟩, ⟨1, 32, [32], SyF 39 abL⟩, ⟨2, 33, [33], TuF 39 6 (trC exD abL) (trK exD abL) (trA exD abL)⟩, ⟨3, 30, [30], TuF 39 6 (trC exD abL) (trK exD abL) (trA exD abL)⟩, ⟨4, 34, [34], VaF 39 (trC exD abL) (trK exD abL) (trA exD abL)⟩, ⟨5, 35, [35], fun vs _ => vs = [.int .i64 6]⟩] (by kernel_rfl) (by kernel_rfl) ?_ (fun _ _ h => KeepsX.of h) GTr.mono ?_ ?_ ?_ ?_
        · exact (Still.below 1 : Below W0.heap.size W0 (W0.drewN 1))
        · simp only [All]
          refine ⟨(fun _ _ _ _ h => h), (fun _ _ _ hk h => h.keep hk), (fun _ _ _ hk h => h.keep hk), (fun _ _ _ hk h => h.keep hk), (fun _ _ _ hk h => h.keep hk), (fun _ _ _ _ h => h), trivial⟩
        · intro m c hc o ho a w' hG hfr hdep
          rcases m with _ | _ | m
          · cases hc
            obtain rfl := Option.some.inj ho
            have hB : Below W0.heap.size W0 w' := hG
            clear hfr hdep hG
            go_wp2_with fail
            exact ⟨rfl, _, rfl, KeepsX.of (blo _ _), w'.heap.size, rfl, hB.size, [.slice none 0 0, .slice none 0 0, .slice none 0 0], rfl, Box.new _ _ _, hB.alloc hB.size _⟩
          · cases hc
            obtain rfl := Option.some.inj ho
            obtain ⟨b9, e9, hlo9, cs9, hl9, hbx9, hB⟩ := hG
            obtain ⟨v9, g9, c9⟩ := hdep 4 _ rfl (by kernel_rfl)
            replace e9 : a.tmps.getD 8 undef = .pointer (some ⟨b9, 0, none⟩) := e9
            replace g9 : a.tmps.getD 34 undef = v9 := by simpa using g9
            obtain ⟨a1, n1, c1, a2, n2, c2, a3, n3, c3, hs9, hv9, -⟩ := c9.ce
            subst hv9
            clear ho hfr hdep
            refine store_all 39 _ _ 39 b9 cs9 [.slice a1 n1 c1, .slice a2 n2 c2, .slice a3 n3 c3] _ size_cert hbx9 e9 g9 rfl (by rw [hl9]; rfl) (by simp [Value.oneCell']) ?_
            intro w10 hx10 hg10 hs10
            have hK := KeepsX.put hbx9 hg10
            have hb10 := hB.grown hg10 hB.size (fun k hk => by cases hk; exact hlo9)
            have E9 := hide e9
            clear e9 g9 hl9 hs10
            go_wp2_with fail
            exact ⟨rfl, undef, rfl, hK, b9, by first | rfl | exact E9.out | simpa using E9.out, hlo9, _, _, _, hx10, c9.keep hK, hb10⟩
          · cases hc
        · simp only [All]
          refine ⟨?_, ?_, ?_, ?_, ?_, ?_, trivial⟩
          · intro o ho a' w' hfr hdep hst
            obtain rfl := Option.some.inj ho
            have hb : Below W0.heap.size W0 w' := by obtain ⟨j, _, _, hG⟩ := hst; exact hG.bel
            have g1 : a'.tmps[1]?.getD undef = .pointer (some ⟨gT, 0, none⟩) := by have h := hfr 1 (by kernel_rfl); simpa using h
            clear ho hfr hdep hst
            refine load_struct 31 29 _ 7 size_tables _ Try.underlying29 ⟨gT, 0, none⟩ (by show a'.tmps.getD 1 undef = _; simpa using g1) (tcells H) rfl (fun j u hj => by rw [Addr.add_lit, Nat.zero_add]; exact (HX.under hb).at_ hj) ?_
            exact ⟨rfl, _, rfl, Below.refl _ _, rfl⟩
          · intro o ho a' w' hfr hdep hst
            obtain rfl := Option.some.inj ho
            have hb : Below W0.heap.size W0 w' := by obtain ⟨j, _, _, hG⟩ := hst; exact hG.bel
            clear ho hfr hdep hst
            have hwd := hide (word_at symsOf_ab (by decide) 39 (by decide) w')
            go_wp2_with (go_at_call 46; refine hwd.out.mono ?_; rintro e w3 ⟨v, rfl, hsy, h3⟩)
            exact ⟨rfl, _, rfl, h3, hsy⟩
          · intro o ho a' w' hfr hdep hst
            obtain rfl := Option.some.inj ho
            have hb : Below W0.heap.size W0 w' := by obtain ⟨j, _, _, hG⟩ := hst; exact hG.bel
            have g31 : a'.tmps[31]?.getD undef = H.v := by have h := hdep 0 _ rfl (by kernel_rfl); simpa using h
            obtain ⟨a32, n32, c32, g32, s32⟩ := hdep 1 _ rfl (by kernel_rfl)
            simp at g32
            clear ho hfr hdep hst
            have htr := hide (tr_at H exD abL a32 n32 c32 w' (HT.below hb) (s32 w' (KeepsX.refl _ _)) ex_ab rfl rfl rfl)
            go_wp2_with (go_at_call 13; refine htr.out.mono ?_; rintro e w3 ⟨⟨v, rfl, hce⟩, h3⟩)
            exact ⟨rfl, _, rfl, h3, _, rfl, hce⟩
          · intro o ho a' w' hfr hdep hst
            obtain rfl := Option.some.inj ho
            obtain ⟨v33, g33, c33⟩ := hdep 2 _ rfl (by kernel_rfl)
            simp at g33
            clear ho hfr hdep hst
            go_wp2_with fail
            exact ⟨rfl, _, rfl, Below.refl _ _, _, rfl, c33⟩
          · intro o ho a' w' hfr hdep hst
            obtain rfl := Option.some.inj ho
            obtain ⟨v30, g30, c30⟩ := hdep 3 _ rfl (by kernel_rfl)
            simp at g30
            clear ho hfr hdep hst
            go_wp2_with fail
            exact ⟨rfl, _, rfl, Below.refl _ _, _, rfl, c30⟩
          · intro o ho a' w' hfr hdep hst
            obtain rfl := Option.some.inj ho
            obtain ⟨v30, g30, c30⟩ := hdep 3 _ rfl (by kernel_rfl)
            simp at g30
            clear ho hfr hdep hst
            go_wp2_with fail
            exact ⟨rfl, _, rfl, Below.refl _ _, rfl⟩
        · intro g w9 hG hp
          obtain ⟨b9, e9, hlo9, s1, s2, s3, hx9, hc9, hb9⟩ := hG
          have p9 := hp 5 _ rfl
          replace e9 : g 8 = .pointer (some ⟨b9, 0, none⟩) := e9
          clear hp
          replace p9 : g 35 = .int .i64 6 := by simpa using p9
          simp only [List.drop_succ_cons, List.drop_zero, List.map_cons, List.map_nil, putAll, Act.put, List.setIfInBounds_toArray, List.set_cons_succ, List.set_cons_zero, List.set_nil, List.cons_append, List.nil_append, e9, p9]
          clear e9 p9
          clear hx9 hc9 hlo9
          have HXn := HX.under hb9
          have HTn := HT.below hb9
          have hbn := hbw.trans (hb9.mono hbw.size)
          have HCn := HC.under hb9
          have HS1n := HS1.below hb9
          have HS2n := HS2.below hb9
          have HS3n := HS3.below hb9
          have hPln := hPl.below hb9
          have hWdn := hWd.below hb9
          clear HX HT hbw hb9 HC HS1 HS2 HS3 hPl hWd
          have HX := HXn
          have HT := HTn
          have hbw := hbn
          have HC := HCn
          have HS1 := HS1n
          have HS2 := HS2n
          have HS3 := HS3n
          have hPl := hPln
          have hWd := hWdn
          clear HXn HTn hbn HCn HS1n HS2n HS3n hPln hWdn
          clear W0
          obtain ⟨W0, rfl⟩ : ∃ w' : World, w' = w9 := ⟨_, rfl⟩
          go_wp2_with fail
          refine wp_region_free 25 [⟨0, 36, [36], fun vs _ => vs = [.int .i64 0]⟩, ⟨1, 37, [37], fun vs _ => vs = [.bool false]⟩, ⟨2, 38, [38], fun vs _ => vs = [.bool false]⟩, ⟨3, 39, [39], fun vs _ => vs = [.int .i64 0]⟩, ⟨4, 40, [40], fun vs _ => vs = [.bool false]⟩, ⟨5, 41, [41], fun vs _ => vs = [.bool false]⟩, ⟨6, 42, [42], fun vs _ => vs = [.bool false]⟩, ⟨7, 43, [43], fun vs _ => vs = [.int .i64 0]⟩, ⟨8, 44, [44], fun vs _ => vs = [.bool false]⟩, ⟨9, 45, [45], fun vs _ => vs = [.bool false]⟩, ⟨10, 46, [46], fun vs _ => vs = [.bool false]⟩, ⟨11, 47, [47], fun vs _ => vs = [.int .i64 6]⟩, ⟨12, 48, [48], fun vs _ => vs = [.bool false]⟩, ⟨13, 49, [49], fun vs _ => vs = [.bool false]⟩, ⟨14, 50, [50], fun vs _ => vs = [.bool false]⟩, ⟨15, 51, [51], fun vs _ => vs = [.slice aw 2 cw]⟩, ⟨16, 52, [52], fun vs _ => vs = [.int .i64 2]⟩, ⟨17, 53, [53], fun vs _ => vs = [.bool false]⟩, ⟨18, 54, [54], fun vs _ => vs = [.bool false]⟩, ⟨19, 55, [55], fun vs _ => vs = [.bool false]⟩, ⟨20, 56, [56], fun vs _ => vs = [H.v]⟩, ⟨21, 57, [57], SyF 39 handL⟩, ⟨22, 58, [58], fun vs _ => vs = [.agg #[.slice a1 n1 c1, .slice a2 n2 c2, .slice a3 n3 c3]]⟩, ⟨23, 59, [59], fun vs _ => vs = [.int .i64 0]⟩, ⟨24, 60, [60], fun vs _ => vs = [.bool false]⟩] (by kernel_rfl) (by kernel_rfl) ?_ ?_ ?_
          · simp only [All]
            refine ⟨fun _ _ _ _ h => h, fun _ _ _ _ h => h, fun _ _ _ _ h => h, fun _ _ _ _ h => h, fun _ _ _ _ h => h, fun _ _ _ _ h => h, fun _ _ _ _ h => h, fun _ _ _ _ h => h, fun _ _ _ _ h => h, fun _ _ _ _ h => h, fun _ _ _ _ h => h, fun _ _ _ _ h => h, fun _ _ _ _ h => h, fun _ _ _ _ h => h, fun _ _ _ _ h => h, fun _ _ _ _ h => h, fun _ _ _ _ h => h, fun _ _ _ _ h => h, fun _ _ _ _ h => h, fun _ _ _ _ h => h, fun _ _ _ _ h => h, ?_, fun _ _ _ _ h => h, fun _ _ _ _ h => h, fun _ _ _ _ h => h, trivial⟩
            · exact fun vs w1 w2 hb h => h.below hb
          · simp only [All]
            refine ⟨?_, ?_, ?_, ?_, ?_, ?_, ?_, ?_, ?_, ?_, ?_, ?_, ?_, ?_, ?_, ?_, ?_, ?_, ?_, ?_, ?_, ?_, ?_, ?_, ?_, trivial⟩
            · intro o ho a' w' hb hfr hdep
              obtain rfl := Option.some.inj ho
              have g3 : a'.tmps[3]?.getD undef = .int .i64 0 := by have h := hfr 3 (by kernel_rfl); simpa using h
              clear ho hfr hdep
              go_wp2_with fail
              exact ⟨rfl, _, rfl, Below.refl _ _, rfl⟩
            · intro o ho a' w' hb hfr hdep
              obtain rfl := Option.some.inj ho
              have g36 : a'.tmps[36]?.getD undef = .int .i64 0 := by have h := hdep 0 _ rfl (by kernel_rfl); simpa using h
              clear ho hfr hdep
              go_wp2_with fail
              exact ⟨rfl, _, rfl, Below.refl _ _, rfl⟩
            · intro o ho a' w' hb hfr hdep
              obtain rfl := Option.some.inj ho
              have g37 : a'.tmps[37]?.getD undef = .bool false := by have h := hdep 1 _ rfl (by kernel_rfl); simpa using h
              clear ho hfr hdep
              go_wp2_with fail
              exact ⟨rfl, _, rfl, Below.refl _ _, rfl⟩
            · intro o ho a' w' hb hfr hdep
              obtain rfl := Option.some.inj ho
              have g5 : a'.tmps[5]?.getD undef = .int .i64 0 := by have h := hfr 5 (by kernel_rfl); simpa using h
              have g38 : a'.tmps[38]?.getD undef = .bool false := by have h := hdep 2 _ rfl (by kernel_rfl); simpa using h
              have q38 := opt_bool g38
              clear ho hfr hdep
              refine unguard_any (by simp [Region.wanted, yielded, q38]) ?_
              go_wp2_with fail
              exact ⟨rfl, _, rfl, Below.refl _ _, rfl⟩
            · intro o ho a' w' hb hfr hdep
              obtain rfl := Option.some.inj ho
              have g39 : a'.tmps[39]?.getD undef = .int .i64 0 := by have h := hdep 3 _ rfl (by kernel_rfl); simpa using h
              have g38 : a'.tmps[38]?.getD undef = .bool false := by have h := hdep 2 _ rfl (by kernel_rfl); simpa using h
              have q38 := opt_bool g38
              clear ho hfr hdep
              refine unguard_any (by simp [Region.wanted, yielded, q38]) ?_
              go_wp2_with fail
              exact ⟨rfl, _, rfl, Below.refl _ _, rfl⟩
            · intro o ho a' w' hb hfr hdep
              obtain rfl := Option.some.inj ho
              have g38 : a'.tmps[38]?.getD undef = .bool false := by have h := hdep 2 _ rfl (by kernel_rfl); simpa using h
              have g40 : a'.tmps[40]?.getD undef = .bool false := by have h := hdep 4 _ rfl (by kernel_rfl); simpa using h
              clear ho hfr hdep
              go_wp2_with fail
              exact ⟨rfl, _, rfl, Below.refl _ _, rfl⟩
            · intro o ho a' w' hb hfr hdep
              obtain rfl := Option.some.inj ho
              have g41 : a'.tmps[41]?.getD undef = .bool false := by have h := hdep 5 _ rfl (by kernel_rfl); simpa using h
              clear ho hfr hdep
              go_wp2_with fail
              exact ⟨rfl, _, rfl, Below.refl _ _, rfl⟩
            · intro o ho a' w' hb hfr hdep
              obtain rfl := Option.some.inj ho
              have g7 : a'.tmps[7]?.getD undef = .int .i64 0 := by have h := hfr 7 (by kernel_rfl); simpa using h
              have g42 : a'.tmps[42]?.getD undef = .bool false := by have h := hdep 6 _ rfl (by kernel_rfl); simpa using h
              have q42 := opt_bool g42
              clear ho hfr hdep
              refine unguard_any (by simp [Region.wanted, yielded, q42]) ?_
              go_wp2_with fail
              exact ⟨rfl, _, rfl, Below.refl _ _, rfl⟩
            · intro o ho a' w' hb hfr hdep
              obtain rfl := Option.some.inj ho
              have g43 : a'.tmps[43]?.getD undef = .int .i64 0 := by have h := hdep 7 _ rfl (by kernel_rfl); simpa using h
              have g42 : a'.tmps[42]?.getD undef = .bool false := by have h := hdep 6 _ rfl (by kernel_rfl); simpa using h
              have q42 := opt_bool g42
              clear ho hfr hdep
              refine unguard_any (by simp [Region.wanted, yielded, q42]) ?_
              go_wp2_with fail
              exact ⟨rfl, _, rfl, Below.refl _ _, rfl⟩
            · intro o ho a' w' hb hfr hdep
              obtain rfl := Option.some.inj ho
              have g42 : a'.tmps[42]?.getD undef = .bool false := by have h := hdep 6 _ rfl (by kernel_rfl); simpa using h
              have g44 : a'.tmps[44]?.getD undef = .bool false := by have h := hdep 8 _ rfl (by kernel_rfl); simpa using h
              clear ho hfr hdep
              go_wp2_with fail
              exact ⟨rfl, _, rfl, Below.refl _ _, rfl⟩
            · intro o ho a' w' hb hfr hdep
              obtain rfl := Option.some.inj ho
              have g45 : a'.tmps[45]?.getD undef = .bool false := by have h := hdep 9 _ rfl (by kernel_rfl); simpa using h
              clear ho hfr hdep
              go_wp2_with fail
              exact ⟨rfl, _, rfl, Below.refl _ _, rfl⟩
            · intro o ho a' w' hb hfr hdep
              obtain rfl := Option.some.inj ho
              have g9 : a'.tmps[9]?.getD undef = .int .i64 6 := by have h := hfr 9 (by kernel_rfl); simpa using h
              have g46 : a'.tmps[46]?.getD undef = .bool false := by have h := hdep 10 _ rfl (by kernel_rfl); simpa using h
              have q46 := opt_bool g46
              clear ho hfr hdep
              refine unguard_any (by simp [Region.wanted, yielded, q46]) ?_
              go_wp2_with fail
              exact ⟨rfl, _, rfl, Below.refl _ _, rfl⟩
            · intro o ho a' w' hb hfr hdep
              obtain rfl := Option.some.inj ho
              have g47 : a'.tmps[47]?.getD undef = .int .i64 6 := by have h := hdep 11 _ rfl (by kernel_rfl); simpa using h
              have g46 : a'.tmps[46]?.getD undef = .bool false := by have h := hdep 10 _ rfl (by kernel_rfl); simpa using h
              have q46 := opt_bool g46
              clear ho hfr hdep
              refine unguard_any (by simp [Region.wanted, yielded, q46]) ?_
              go_wp2_with fail
              exact ⟨rfl, _, rfl, Below.refl _ _, rfl⟩
            · intro o ho a' w' hb hfr hdep
              obtain rfl := Option.some.inj ho
              have g46 : a'.tmps[46]?.getD undef = .bool false := by have h := hdep 10 _ rfl (by kernel_rfl); simpa using h
              have g48 : a'.tmps[48]?.getD undef = .bool false := by have h := hdep 12 _ rfl (by kernel_rfl); simpa using h
              clear ho hfr hdep
              go_wp2_with fail
              exact ⟨rfl, _, rfl, Below.refl _ _, rfl⟩
            · intro o ho a' w' hb hfr hdep
              obtain rfl := Option.some.inj ho
              have g49 : a'.tmps[49]?.getD undef = .bool false := by have h := hdep 13 _ rfl (by kernel_rfl); simpa using h
              clear ho hfr hdep
              go_wp2_with fail
              exact ⟨rfl, _, rfl, Below.refl _ _, rfl⟩
            · intro o ho a' w' hb hfr hdep
              obtain rfl := Option.some.inj ho
              have g6 : a'.tmps[6]?.getD undef = .slice aw 2 cw := by have h := hfr 6 (by kernel_rfl); simpa using h
              have g50 : a'.tmps[50]?.getD undef = .bool false := by have h := hdep 14 _ rfl (by kernel_rfl); simpa using h
              have q50 := opt_bool g50
              clear ho hfr hdep
              refine unguard_any (by simp [Region.wanted, yielded, q50]) ?_
              go_wp2_with fail
              exact ⟨rfl, _, rfl, Below.refl _ _, rfl⟩
            · intro o ho a' w' hb hfr hdep
              obtain rfl := Option.some.inj ho
              have g51 : a'.tmps[51]?.getD undef = .slice aw 2 cw := by have h := hdep 15 _ rfl (by kernel_rfl); simpa using h
              have g50 : a'.tmps[50]?.getD undef = .bool false := by have h := hdep 14 _ rfl (by kernel_rfl); simpa using h
              have q50 := opt_bool g50
              clear ho hfr hdep
              refine unguard_any (by simp [Region.wanted, yielded, q50]) ?_
              go_wp2_with fail
              exact ⟨rfl, _, rfl, Below.refl _ _, rfl⟩
            · intro o ho a' w' hb hfr hdep
              obtain rfl := Option.some.inj ho
              have g52 : a'.tmps[52]?.getD undef = .int .i64 2 := by have h := hdep 16 _ rfl (by kernel_rfl); simpa using h
              have g50 : a'.tmps[50]?.getD undef = .bool false := by have h := hdep 14 _ rfl (by kernel_rfl); simpa using h
              have q50 := opt_bool g50
              clear ho hfr hdep
              refine unguard_any (by simp [Region.wanted, yielded, q50]) ?_
              go_wp2_with fail
              exact ⟨rfl, _, rfl, Below.refl _ _, rfl⟩
            · intro o ho a' w' hb hfr hdep
              obtain rfl := Option.some.inj ho
              have g50 : a'.tmps[50]?.getD undef = .bool false := by have h := hdep 14 _ rfl (by kernel_rfl); simpa using h
              have g53 : a'.tmps[53]?.getD undef = .bool false := by have h := hdep 17 _ rfl (by kernel_rfl); simpa using h
              clear ho hfr hdep
              go_wp2_with fail
              exact ⟨rfl, _, rfl, Below.refl _ _, rfl⟩
            · intro o ho a' w' hb hfr hdep
              obtain rfl := Option.some.inj ho
              have g54 : a'.tmps[54]?.getD undef = .bool false := by have h := hdep 18 _ rfl (by kernel_rfl); simpa using h
              clear ho hfr hdep
              go_wp2_with fail
              exact ⟨rfl, _, rfl, Below.refl _ _, rfl⟩
            · intro o ho a' w' hb hfr hdep
              obtain rfl := Option.some.inj ho
              have g1 : a'.tmps[1]?.getD undef = .pointer (some ⟨gT, 0, none⟩) := by have h := hfr 1 (by kernel_rfl); simpa using h
              have g55 : a'.tmps[55]?.getD undef = .bool false := by have h := hdep 19 _ rfl (by kernel_rfl); simpa using h
              have q55 := opt_bool g55
              clear ho hfr hdep
              refine unguard_any (by simp [Region.wanted, yielded, q55]) ?_
              refine load_struct 56 29 _ 7 size_tables _ Try.underlying29 ⟨gT, 0, none⟩ (by show a'.tmps.getD 1 undef = _; simpa using g1) (tcells H) rfl (fun j u hj => by rw [Addr.add_lit, Nat.zero_add]; exact (HX.under hb).at_ hj) ?_
              exact ⟨rfl, _, rfl, Below.refl _ _, rfl⟩
            · intro o ho a' w' hb hfr hdep
              obtain rfl := Option.some.inj ho
              have g55 : a'.tmps[55]?.getD undef = .bool false := by have h := hdep 19 _ rfl (by kernel_rfl); simpa using h
              have q55 := opt_bool g55
              clear ho hfr hdep
              refine unguard_any (by simp [Region.wanted, yielded, q55]) ?_
              have hwd := hide (word_at symsOf_hand (by decide) 39 (by decide) w')
              go_wp2_with (go_at_call 46; refine hwd.out.mono ?_; rintro e w3 ⟨v, rfl, hsy, h3⟩)
              exact ⟨rfl, _, rfl, h3, hsy⟩
            · intro o ho a' w' hb hfr hdep
              obtain rfl := Option.some.inj ho
              have g2 : a'.tmps[2]?.getD undef = .pointer (some ⟨bC, 0, none⟩) := by have h := hfr 2 (by kernel_rfl); simpa using h
              have g55 : a'.tmps[55]?.getD undef = .bool false := by have h := hdep 19 _ rfl (by kernel_rfl); simpa using h
              have q55 := opt_bool g55
              clear ho hfr hdep
              refine unguard_any (by simp [Region.wanted, yielded, q55]) ?_
              refine load_struct 58 39 _ 3 size_cert _ Try.underlying39 ⟨bC, 0, none⟩ (by show a'.tmps.getD 2 undef = _; simpa using g2) [.slice a1 n1 c1, .slice a2 n2 c2, .slice a3 n3 c3] rfl (fun j u hj => by rw [Addr.add_lit, Nat.zero_add]; exact (HC.under hb).at_ hj) ?_
              exact ⟨rfl, _, rfl, Below.refl _ _, rfl⟩
            · intro o ho a' w' hb hfr hdep
              obtain rfl := Option.some.inj ho
              have g56 : a'.tmps[56]?.getD undef = H.v := by have h := hdep 20 _ rfl (by kernel_rfl); simpa using h
              obtain ⟨a57, n57, c57, g57, s57⟩ := hdep 21 _ rfl (by kernel_rfl)
              simp at g57
              have g58 : a'.tmps[58]?.getD undef = .agg #[.slice a1 n1 c1, .slice a2 n2 c2, .slice a3 n3 c3] := by have h := hdep 22 _ rfl (by kernel_rfl); simpa using h
              have g55 : a'.tmps[55]?.getD undef = .bool false := by have h := hdep 19 _ rfl (by kernel_rfl); simpa using h
              have q55 := opt_bool g55
              clear ho hfr hdep
              refine unguard_any (by simp [Region.wanted, yielded, q55]) ?_
              have hck := hide (con_Check H exD handL a57 n57 c57 (trC exD handL) (trK exD handL) (trA exD handL) hs3 a1 a2 a3 n1 c1 n2 c2 n3 c3 w' (HT.below hb) (s57 w' (KeepsX.refl _ _)) (HS1.below hb) (HS2.below hb) (HS3.below hb) ex_few ex_bd)
              rw [ex_ck] at hck
              go_wp2_with (go_at_call 27; refine hck.out.mono ?_; rintro e w3 ⟨rfl, h3⟩)
              exact ⟨rfl, _, rfl, h3, rfl⟩
            · intro o ho a' w' hb hfr hdep
              obtain rfl := Option.some.inj ho
              have g59 : a'.tmps[59]?.getD undef = .int .i64 0 := by have h := hdep 23 _ rfl (by kernel_rfl); simpa using h
              have g55 : a'.tmps[55]?.getD undef = .bool false := by have h := hdep 19 _ rfl (by kernel_rfl); simpa using h
              have q55 := opt_bool g55
              clear ho hfr hdep
              refine unguard_any (by simp [Region.wanted, yielded, q55]) ?_
              go_wp2_with fail
              exact ⟨rfl, _, rfl, Below.refl _ _, rfl⟩
          · intro gg w9 hb9 hp'
            have p55 := hp' 19 _ rfl
            have p60 := hp' 24 _ rfl
            clear hp'
            simp at p55 p60
            simp only [List.drop_succ_cons, List.drop_zero, List.map_cons, List.map_nil, putAll, Act.put, List.setIfInBounds_toArray, List.set_cons_succ, List.set_cons_zero, List.cons_append, List.nil_append, p55, p60]
            clear p55 p60
            have HXn := HX.under hb9
            have HTn := HT.below hb9
            have hbn := hbw.trans (hb9.mono hbw.size)
            have HCn := HC.under hb9
            have HS1n := HS1.below hb9
            have HS2n := HS2.below hb9
            have HS3n := HS3.below hb9
            have hPln := hPl.below hb9
            have hWdn := hWd.below hb9
            clear HX HT hbw hb9 HC HS1 HS2 HS3 hPl hWd
            have HX := HXn
            have HT := HTn
            have hbw := hbn
            have HC := HCn
            have HS1 := HS1n
            have HS2 := HS2n
            have HS3 := HS3n
            have hPl := hPln
            have hWd := hWdn
            clear HXn HTn hbn HCn HS1n HS2n HS3n hPln hWdn
            clear W0
            obtain ⟨W0, rfl⟩ : ∃ w' : World, w' = w9 := ⟨_, rfl⟩

            clear HX HT HS2 HS3
            have cC : W0.cell? ⟨bC, 0, none⟩ = some (.slice a1 n1 c1) := HC.at_ rfl
            have HS1' := HS1
            rw [ex_trC] at HS1'
            rw [ex_plC] at hPl
            have al1 := blo W0 (.cells #[.int .u8 8, .int .u8 28] 5)
            have hsm1 := hide (same_at (x := [8, 28]) (y := [8, 28]) rfl (HS1'.below al1) (Sl.fresh W0 5 1 2 (([8, 28] : List UInt8).map B8) rfl (by decide)))
            clear HC HS1 HS1'
            go_wp2_with (go_at_call 20; refine hsm1.out.mono ?_; rintro e W1 ⟨rfl, hb1⟩; refine hold ?_)
            refine hide ?_
            have hq := al1.trans (hb1.mono al1.size)
            have hPl1 := hPl.below hq
            have hWd1 := hWd.below hq
            have hbw1 := hbw.trans (hq.mono hbw.size)
            clear hsm1 al1 hb1 hq hPl hWd hbw cC
            have al1 := blo W1 (.cells #[.int .u8 8, .int .u8 1, .int .u8 14, .int .u8 4] 5)
            have hsm1 := hide (same_at (x := [8, 1, 14, 4]) (y := [8, 1, 14, 4]) rfl (hPl1.below al1) (Sl.fresh W1 5 1 4 (([8, 1, 14, 4] : List UInt8).map B8) rfl (by decide)))
            go_wp2_with (first
              | (go_at_call 20; refine hsm1.out.mono ?_; rintro e W2 ⟨rfl, hb1⟩; refine hold ?_)
              | (refine unguard_any (by first | rfl | (simp [Region.wanted, yielded, Act.put]; done)) ?_; go_at_call 20; refine hsm1.out.mono ?_; rintro e W2 ⟨rfl, hb1⟩; refine hold ?_))
            refine hide ?_
            have hq := al1.trans (hb1.mono al1.size)
            have hWd2 := hWd1.below hq
            have hbw2 := hbw1.trans (hq.mono hbw1.size)
            clear hsm1 al1 hb1 hq hPl1 hWd1 hbw1
            obtain ⟨⟨x0, y0, z0⟩, hx0⟩ : ∃ h, hsw[0]? = some h := ⟨_, List.getElem?_eq_getElem (by rw [hWd2.len]; decide)⟩
            obtain ⟨⟨x1, y1, z1⟩, hx1⟩ : ∃ h, hsw[1]? = some h := ⟨_, List.getElem?_eq_getElem (by rw [hWd2.len]; decide)⟩
            have hr0 := hWd2.row 0 _ _ hx0 rfl
            have hr1 := hWd2.row 1 _ _ hx1 rfl
            have hu0 : (hsw.map hdv)[0]? = some (.slice x0 y0 z0) := by rw [List.getElem?_map, hx0]; rfl
            have hu1 : (hsw.map hdv)[1]? = some (.slice x1 y1 z1) := by rw [List.getElem?_map, hx1]; rfl
            have htop := hWd2.top
            clear hx0 hx1 hWd2
            have al1 := blo W2 (.cells #[.int .i64 2, .int .i64 2] 3)
            have hsm1 := hide (ints_at (x := [2, 2]) (y := [2, 2]) rfl (hr0.below al1) (Sl.fresh W2 3 1 2 (([2, 2] : List Int).map I64) rfl (by decide)))
            go_wp2_with (first
              | (refine unguard_any (by first | rfl | (simp [Region.wanted, yielded, Act.put]; done)) ?_; with_reducible refine idx_ii 73 _ _ aw 2 cw _ rfl htop _ _ 0 rfl rfl _ hu0 ?_; intro bI oI hcI hbI)
              | (go_at_call 26; refine hsm1.out.mono ?_; rintro e W3 ⟨rfl, hb1⟩; refine hold ?_))
            refine hide ?_
            have hq := al1.trans (hb1.mono al1.size)
            have hr3 := hr1.below hq
            have htop3 := htop.below hq
            have hbw3 := hbw2.trans (hq.mono hbw2.size)
            clear hsm1 al1 hb1 hq hr0 hr1 htop hbw2 hcI hbI
            have al1 := blo W3 (.cells #[.int .i64 2] 3)
            have hsm1 := hide (ints_at (x := [2]) (y := [2]) rfl (hr3.below al1) (Sl.fresh W3 3 1 1 (([2] : List Int).map I64) rfl (by decide)))
            go_wp2_with (first
              | (refine unguard_any (by first | rfl | (simp [Region.wanted, yielded, Act.put]; done)) ?_; with_reducible refine idx_ii 80 _ _ aw 2 cw _ rfl htop3 _ _ 1 rfl rfl _ hu1 ?_; intro bI oI hcI hbI)
              | (go_at_call 26; refine hsm1.out.mono ?_; rintro e W4 ⟨rfl, hb1⟩; refine hold ?_))
            refine hide ?_
            have hq := al1.trans (hb1.mono al1.size)
            have hbw4 := hbw3.trans (hq.mono hbw3.size)
            clear hsm1 al1 hb1 hq hr3 htop3 hbw3 hcI hbI
            go_wp2_with fail
            go_ret
            exact ⟨rfl, hbw4⟩
end Go.Proofs.Ytlpkicjijlcbfaa
end
