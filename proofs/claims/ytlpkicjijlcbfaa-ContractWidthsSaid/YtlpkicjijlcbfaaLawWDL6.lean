/- Chapter 08: the walk of ContractWidths. -/
import Derived.Test.YtlpkicjijlcbfaaBaseWI
set_option linter.unusedVariables false
set_option linter.unusedSimpArgs false
namespace Go.Proofs.Ytlpkicjijlcbfaa
open Go.RowKit Go.Dx Go.Al
set_option maxRecDepth 100000 in
set_option maxHeartbeats 8000000 in
theorem walk_ContractWidths (n : Int) (l : List Int) (a : Option Addr) (ln lc : Nat) (m : List Int) (am : Option Addr) (mn mc : Nat) (by_ : Int) (w : World) (hs : Sl w 1 a ln lc (l.map I64)) (hl : ∀ x ∈ l, -9223372036854775808 ≤ x ∧ x ≤ 9223372036854775807)
    (hms : Sl w 1 am mn mc (m.map I64)) (hml : ∀ x ∈ m, -9223372036854775808 ≤ x ∧ x ≤ 9223372036854775807) (hn : -9223372036854775808 ≤ n ∧ n ≤ 9223372036854775807) (hby : -9223372036854775808 ≤ by_ ∧ by_ ≤ 9223372036854775807) :
    Calls Try.prog 5 #[.int .i64 n, .slice a ln lc, .slice am mn mc, .int .i64 by_] w fun e w' => e = .returned (.bool true) ∧ Below w.heap.size w w' := by
  have HBY := hide hby
  clear hby
  have HML := hide hml
  clear hml
  have HMS := hide hms
  clear hms
  obtain ⟨S, HSS⟩ : ∃ S, Hid (symsL l = S) := ⟨_, hide rfl⟩
  have hSok := symsL_ok l
  rw [HSS.out] at hSok
  have hS24 := hSok.2
  have hgS : goodS S = true := by
    unfold goodS
    rw [List.all_eq_true]
    intro x hx
    have h := hSok.1 x hx
    unfold plainSy at h
    rw [Bool.and_eq_true] at h
    exact h.1
  have HGS := hide hgS
  clear hSok hgS
  go_enter Try.func5, Try.ntmps5
  go_wp2_with fail
  refine (ref_Tables n hn.1 hn.2 w).mono ?_
  rintro e w1 ⟨H, t, rfl, hT, hG, hb1⟩
  have HV : Hid (validE t = 0) := hide hG.ok
  clear hG
  have Hm := hide hT
  clear hT
  obtain ⟨⟨a0, n0, c0⟩, ⟨a1, n1, c1⟩, ps0, ps1, ⟨ad, nd, cd⟩, ⟨ac, nc, cc⟩, ⟨an, nn, cn⟩, ⟨af, nf, cf⟩, ⟨aw, nw, cw⟩⟩ := H
  unfold TH.v
  simp only [hdv]
  have Y1 := Box.new w1 29 #[.slice a0 n0 c0, .slice a1 n1 c1, .slice ad nd cd, .slice ac nc cc, .slice an nn cn, .slice af nf cf, .slice aw nw cw]
  have hbY := blo w1 (.cells #[.slice a0 n0 c0, .slice a1 n1 c1, .slice ad nd cd, .slice ac nc cc, .slice an nn cn, .slice af nf cf, .slice aw nw cw] 29)
  go_wp2_with fail
  generalize w1.alloc (.cells _ 29) = w2 at *
  obtain ⟨H, hH⟩ : ∃ H : TH, H = ⟨(a0, n0, c0), (a1, n1, c1), ps0, ps1, (ad, nd, cd), (ac, nc, cc), (an, nn, cn), (af, nf, cf), (aw, nw, cw)⟩ := ⟨_, rfl⟩
  have hX2 : Box w2 w1.heap.size 29 (tcells H) := by rw [hH]; exact Y1
  have hT2 : TaIs w2 H t := by rw [hH]; exact Hm.out.below hbY
  have hB2 := hb1.trans (hbY.mono hb1.size)
  clear hH Hm hbY hb1 Y1
  generalize w1.heap.size = gT at *
  refine (ref_Syms l hl a ln lc w2 (hs.below hB2)).mono ?_
  rintro e w3 ⟨a3, c3, rfl, hO3, hb3⟩
  rw [HSS.out] at hO3 ⊢
  have HX3 := hX2.under hb3
  have HT3 := hT2.below hb3
  have hB3 := hB2.trans (hb3.mono hB2.size)
  have HS3 := hO3.sl
  clear hO3 hX2 hT2 hB2 hb3 hs hn hl HSS
  obtain ⟨N, hN⟩ : ∃ N, Hid (S.length = N) := ⟨_, hide rfl⟩
  rw [hN.out] at HS3 hS24 ⊢
  have hM3 := HMS.out.below hB3
  clear HMS
  go_upto_region 3 with fail
  go_cut [10] (fun v w' => ∃ N9, v = .slice a3 N9 c3 ∧ Hid (N9 ≤ 9 ∧ N9 ≤ N) ∧ Sl w3 2 a3 N9 c3 ((S.take N9).flatMap sc) ∧ w3 = w')
  case first =>
    by_cases h9 : N ≤ 9
    · go_wp2_with (with_reducible refine cut_hi 32 31 _ _ 88 Try.underlying31 2 size_sym a3 N c3 _ rfl HS3 _ _ N rfl rfl (Nat.le_refl _) ?_; intro hcut)
      rw [flat_take sc_len] at hcut
      go_meet
      exact ⟨N, rfl, hide ⟨h9, Nat.le_refl _⟩, hcut, rfl⟩
    · have h9' : 9 ≤ N := by omega
      go_wp2_with (with_reducible refine cut_hi 32 31 _ _ 88 Try.underlying31 2 size_sym a3 N c3 _ rfl HS3 _ _ 9 rfl rfl h9' ?_; intro hcut)
      rw [flat_take sc_len] at hcut
      go_meet
      exact ⟨9, rfl, hide ⟨Nat.le_refl _, h9'⟩, hcut, rfl⟩
  case rest =>
    obtain ⟨N9, rfl, hN9, hS9, rfl⟩ := hcut
    obtain ⟨S9, hS9e⟩ : ∃ X, Hid (S.take N9 = X) := ⟨_, hide rfl⟩
    rw [hS9e.out] at hS9
    have hN99 : N9 ≤ 9 := hN9.out.1
    clear HS3 hN9
    obtain ⟨gB, hgB⟩ : ∃ g, Hid (w3.heap.size = g) := ⟨_, hide rfl⟩
    have hb30 : Below gB w3 w3 := Below.refl _ _
    go_wp2_with fail
    go_loopg [11, 12] 9 (fun gh v11 v12 w' => ∃ (i pn : Nat) (P : List Int) (pa : Option Addr) (pc : Nat), i ≤ 9 ∧ gh = 10 - i ∧ 1 ≤ i ∧ v12 = .int .i64 (i : Int) ∧ v11 = .slice pa pn pc ∧ pn ≤ i ∧ Go.Dx.Own w' gB 3 1 pa pn pc (P.map I64) ∧ Below gB w3 w')
    case atStart => exact ⟨1, 0, [], none, 0, by omega, rfl, Nat.le_refl _, rfl, rfl, Nat.zero_le _, Go.Dx.Own.nil _ _ _ _, hb30⟩
    case round =>
      clear hb30
      obtain ⟨i, pn, P, pa, pc, hi, rfl, hi1, rfl, rfl, hpn, hO, hb⟩ := hrel
      have hb' : Below w3.heap.size w3 wr := by rw [hgB.out]; exact hb
      have hM := hM3.below hb'
      by_cases hin : i < N9
      · have d0 : decide ((i : Int) < (N9 : Int)) = true := decide_eq_true (by omega)
        have d0n : decide (i < N9) = true := decide_eq_true hin
        obtain ⟨r, hr⟩ : ∃ r, atF m (i : Int) 3 = r := ⟨_, rfl⟩
        have hat := hide (ref_At m am mn mc (i : Int) 3 3 wr hM HML.out rfl (by decide) (by decide))
        rw [hr] at hat
        clear hr
        by_cases hr0 : r = 0
        · have e1 : ((r : Int) == 0) = true := by simp [hr0]
          have e2 : decide ((r : Int) = 0) = true := by simp [hr0]
          have e3 : (r == 0) = true := by simp [hr0]
          have e4 : decide (r = 0) = true := by simp [hr0]
          have hBw : gB ≤ wr.heap.size := by rw [← hgB.out]; exact hb'.size
          clear hr0
          go_wp2_with (first
            | (go_at_call 21; refine hat.out.mono ?_; rintro e w9 ⟨rfl, rfl⟩)
            | (at_builtin; refine app_i rfl _ _ rfl w3 gB pa pn pc _ rfl hO (i : Int) rfl (by omega) hBw hb ?_; intro a9 c9 w9 hO9 gb9 hb9; refine hold ?_))
          refine hide ?_
          have hO9 : Go.Dx.Own w9 gB 3 1 a9 (pn + 1) c9 ((P ++ [(i : Int)]).map I64) := by rw [List.map_append]; exact hO9
          clear hat hM hO hb hb' gb9 hBw
          go_wp2_with fail
          go_roundg (10 - (i + 1))
          case measure => omega
          case rel => exact ⟨i + 1, pn + 1, _, a9, c9, by omega, rfl, by omega, by go_num, rfl, by omega, hO9, hb9⟩
        · have e1 : ((r : Int) == 0) = false := by simp [hr0]
          have e2 : decide ((r : Int) = 0) = false := by simp [hr0]
          have e3 : (r == 0) = false := by simp [hr0]
          have e4 : decide (r = 0) = false := by simp [hr0]
          clear hr0
          go_wp2_with (first
            | (go_at_call 21; refine hat.out.mono ?_; rintro e w9 ⟨rfl, rfl⟩))
          go_roundg (10 - (i + 1))
          case measure => omega
          case rel => exact ⟨i + 1, pn, P, pa, pc, by omega, rfl, by omega, by go_num, rfl, by omega, hO, hb⟩
      · have d0 : decide ((i : Int) < (N9 : Int)) = false := decide_eq_false (by omega)
        have d0n : decide (i < N9) = false := decide_eq_false hin
        have HX4 := HX3.under hb'
        have HT4 := HT3.below hb'
        have HS4 := hS9.below hb'
        have hP4 := hO.sl
        have hB4 := hB3.trans (hb'.mono hB3.size)
        have hpn9 : pn ≤ 10 := by omega
        obtain ⟨w4, rfl⟩ : ∃ z : World, z = wr := ⟨_, rfl⟩
        clear HX3 HT3 hS9 hO hB3 hb hb' hM3 hi1 hpn hin
        have htk0 := ref_TakeI m 3 am mn mc w4 hM (by decide)
        obtain ⟨MT, hMT⟩ : ∃ X, Hid (m.take 3 = X) := ⟨_, hide rfl⟩
        rw [hMT.out] at htk0
        obtain ⟨tn, htn⟩ : ∃ x, Hid (MT.length = x) := ⟨_, hide rfl⟩
        rw [htn.out] at htk0
        have htk := hide htk0
        clear htk0
        go_wp2_with (go_at_call 22; refine htk.out.mono ?_; rintro e w5 ⟨aT, cT, rfl, hT5, hb5⟩; refine hold ?_)
        refine hide ?_
        have HX5 := HX4.under hb5
        have HT5 := HT4.below hb5
        have HS5 := HS4.below hb5
        have hP5 := hP4.below hb5
        have hB5 := hB4.trans (hb5.mono hB4.size)
        have hT5' := hT5.sl
        clear HX4 HT4 HS4 hP4 hB4 hb5 htk hM hT5
        have hN1 := Go.Dx.Own.built w5 w5.heap.size 3 1 0 #[] (Nat.le_refl _) rfl (by decide)
        have hb51 := blo w5 (.cells #[] 3)
        have hP51 := hP5.below hb51
        have hs51 : w5.heap.size ≤ (w5.alloc (.cells #[] 3)).heap.size := hb51.size
        go_wp2_with (at_builtin; refine app_is rfl _ _ rfl w5 w5.heap.size (some ⟨w5.heap.size, 0, none⟩) 0 0 _ rfl hN1 pa pn pc P rfl hP51 (by omega) hs51 hb51 ?_; intro a6 c6 w6 hO6 gb6 hb6; refine hold ?_)
        refine hide ?_
        have hO6 : Go.Dx.Own w6 w5.heap.size 3 1 a6 pn c6 (P.map I64) := by simpa using hO6
        try rw [Nat.zero_add]
        have hs6 := hb6.size
        clear hN1 hb51 hP51 hs51 gb6
        have har0 := ref_Around by_ 10 10 w6 rfl HBY.out.1 HBY.out.2 (by decide) (by decide)
        obtain ⟨ar, har1⟩ : ∃ x : Int, Hid (((aroundF by_ 10 : Nat) : Int) = x) := ⟨_, hide rfl⟩
        rw [har1.out] at har0
        have har := hide har0
        clear har0
        go_wp2_with (first
          | (go_at_call 23; refine har.out.mono ?_; rintro e w9 ⟨rfl, rfl⟩)
          | (at_builtin; refine app_i rfl _ _ rfl w5 w5.heap.size a6 pn c6 _ rfl hO6 ar rfl (by omega) hs6 hb6 ?_; intro a7 c7 w7 hO7 gb7 hb7; refine hold ?_))
        refine hide ?_
        have hb57 := hb7
        have hO7 : Go.Dx.Own w7 w5.heap.size 3 1 a7 (pn + 1) c7 ((P ++ [ar]).map I64) := by rw [List.map_append]; exact hO7
        have hO77 := hO7.sl
        have HX7 := HX5.under hb57
        have HT7 := HT5.below hb57
        have HS7 := HS5.below hb57
        have hP7 := hP5.below hb57
        have hT7 := hT5'.below hb57
        have hB7 := hB5.trans (hb57.mono hB5.size)
        clear HX5 HT5 HS5 hP5 hT5' hB5 hb57 hb7 hb6 gb7 hO6 hO7 hs6 har
        have hL8 := Box.new w7 22 #[.slice pa pn pc, .slice aT tn cT, .slice none 0 0, .slice a7 (pn + 1) c7]
        have hb8 := blo w7 (.cells #[.slice pa pn pc, .slice aT tn cT, .slice none 0 0, .slice a7 (pn + 1) c7] 22)
        go_upto_region 11 with fail
        generalize w7.alloc (.cells _ 22) = w8 at *
        obtain ⟨gX, hgX⟩ : ∃ g, Hid (w7.heap.size = g) := ⟨_, hide rfl⟩
        rw [hgX.out] at hL8 ⊢
        have HX8 := HX7.under hb8
        have HT8 := HT7.below hb8
        have HS8 := HS7.below hb8
        have hP8 := hP7.below hb8
        have hpn4 : P.length ≤ 10000 := by have := hP8.n_eq; omega
        have htn4 : MT.length ≤ 10000 := by rw [← hMT.out, List.length_take]; omega
        have htx : Hid (∀ k, k < 4 → ∃ (xa : Option Addr) (xn xc : Nat) (X : List Int), ([.slice pa pn pc, .slice aT tn cT, .slice none 0 0, .slice a7 (pn + 1) c7] : List Value)[k]? = some (.slice xa xn xc) ∧ Sl w8 1 xa xn xc (X.map I64) ∧ X.length ≤ 10000) := hide (fun k hk => by
          match k, hk with
          | 0, _ => exact ⟨_, _, _, P, rfl, hP8, hpn4⟩
          | 1, _ => exact ⟨_, _, _, MT, rfl, hT7.below hb8, htn4⟩
          | 2, _ => exact ⟨_, _, _, [], rfl, Sl.empty _ _, by decide⟩
          | 3, _ => exact ⟨_, _, _, P ++ [ar], rfl, hO77.below hb8, by rw [List.length_append]; show P.length + 1 ≤ 10000; have := hP8.n_eq; omega⟩
          | k + 4, h => omega)
        have hB8 := hB7.trans (hb8.mono hB7.size)
        have hL8 : Box w8 gX 22 [.slice pa pn pc, .slice aT tn cT, .slice none 0 0, .slice a7 (pn + 1) c7] := hL8
        obtain ⟨HDS, hHD⟩ : ∃ L : List Value, Hid (L = [.slice pa pn pc, .slice aT tn cT, .slice none 0 0, .slice a7 (pn + 1) c7]) := ⟨_, hide rfl⟩
        rw [← hHD.out] at hL8 htx
        have HP4 := hide hpn4
        clear HX7 HT7 HS7 hP7 hT7 hO77 hB7 hb8 hHD hpn4 htn4
        go_wp2_with fail
        go_loopg [14] 4 (fun gh v w' => ∃ k : Nat, k ≤ 4 ∧ gh = 4 - k ∧ v = .int .i64 (k : Int) ∧ Below w8.heap.size w8 w')
        case atStart => exact ⟨0, Nat.zero_le _, rfl, rfl, Below.refl _ _⟩
        case round =>
          obtain ⟨k, hk, rfl, rfl, hb0⟩ := hrel
          have HXr := HX8.under hb0
          have HTr := HT8.below hb0
          have HSr := HS8.below hb0
          by_cases hk4 : k < 4
          · have d2 : decide ((k : Int) < 4) = true := decide_eq_true (by omega)
            obtain ⟨xa, xn, xc, X, hxk, hXS0, hX4⟩ := htx.out k hk4
            have hXS := hXS0.below hb0
            have cX : wr.cell? ⟨gX, k, none⟩ = some (.slice xa xn xc) := cell_below (hL8.at_ hxk) hb0
            have HX4 := hide hX4
            have hbw := hb0
            clear hxk hXS0 hb0 hX4
            obtain ⟨WR, hWR⟩ : ∃ X', Hid (wdR t S9 X = X') := ⟨_, hide rfl⟩
            obtain ⟨WE, RW⟩ := WR
            go_wp2_with fail
            refine wp_region_free 11 [⟨0, 65, [65], fun vs _ => vs = [H.v]⟩, ⟨1, 66, [66], fun vs _ => vs = [.slice a3 N9 c3]⟩, ⟨2, 67, [67], fun vs _ => vs = [.slice (some ⟨gX, 0, none⟩) 4 4]⟩, ⟨3, 68, [68], fun vs _ => vs = [.int .i64 (k : Int)]⟩, ⟨4, 69, [69], fun vs _ => vs = [.pointer (some ⟨gX, k, none⟩)]⟩, ⟨5, 70, [70], fun vs _ => vs = [.slice xa xn xc]⟩, ⟨6, 71, [71], fun vs w => ∃ a n c hs, vs = [.tuple #[.slice a n c, .int .i64 WE]] ∧ Ng w a n c hs RW⟩, ⟨7, 64, [64], fun vs w => ∃ a n c hs, vs = [.tuple #[.slice a n c, .int .i64 WE]] ∧ Ng w a n c hs RW⟩, ⟨8, 72, [72], fun vs w => ∃ a n c hs, vs = [.slice a n c] ∧ Ng w a n c hs RW⟩, ⟨9, 73, [73], fun vs _ => vs = [.int .i64 WE]⟩, ⟨10, 15, [15], fun vs w => ∃ a n c hs, vs = [.slice a n c] ∧ Ng w a n c hs RW⟩] (by kernel_rfl) (by kernel_rfl) ?_ ?_ ?_
            · simp only [All]
              refine ⟨fun _ _ _ _ h => h, fun _ _ _ _ h => h, fun _ _ _ _ h => h, fun _ _ _ _ h => h, fun _ _ _ _ h => h, fun _ _ _ _ h => h, ?_, ?_, ?_, fun _ _ _ _ h => h, ?_, trivial⟩
              · exact fun vs w1 w2 hb ⟨a, n, c, hs, h1, h2⟩ => ⟨a, n, c, hs, h1, h2.below hb⟩
              · exact fun vs w1 w2 hb ⟨a, n, c, hs, h1, h2⟩ => ⟨a, n, c, hs, h1, h2.below hb⟩
              · exact fun vs w1 w2 hb ⟨a, n, c, hs, h1, h2⟩ => ⟨a, n, c, hs, h1, h2.below hb⟩
              · exact fun vs w1 w2 hb ⟨a, n, c, hs, h1, h2⟩ => ⟨a, n, c, hs, h1, h2.below hb⟩
            · simp only [All]
              refine ⟨?_, ?_, ?_, ?_, ?_, ?_, ?_, ?_, ?_, ?_, ?_, trivial⟩
              · intro o ho a' w' hb hfr hdep
                obtain rfl := Option.some.inj ho
                have g9 : a'.tmps[9]?.getD undef = .pointer (some ⟨gT, 0, none⟩) := by have h := hfr 9 (by kernel_rfl); simpa using h
                clear ho hfr hdep
                refine load_struct 65 29 _ 7 size_tables _ Try.underlying29 ⟨gT, 0, none⟩ (by show a'.tmps.getD 9 undef = _; simpa using g9) (tcells H) rfl (fun j u hj => by rw [Addr.add_lit, Nat.zero_add]; exact (HXr.under hb).at_ hj) ?_
                exact ⟨rfl, _, rfl, Below.refl _ _, rfl⟩
              · intro o ho a' w' hb hfr hdep
                obtain rfl := Option.some.inj ho
                have g10 : a'.tmps[10]?.getD undef = .slice a3 N9 c3 := by have h := hfr 10 (by kernel_rfl); simpa using h
                clear ho hfr hdep
                go_wp2_with fail
                exact ⟨rfl, _, rfl, Below.refl _ _, rfl⟩
              · intro o ho a' w' hb hfr hdep
                obtain rfl := Option.some.inj ho
                have g13 : a'.tmps[13]?.getD undef = .slice (some ⟨gX, 0, none⟩) 4 4 := by have h := hfr 13 (by kernel_rfl); simpa using h
                clear ho hfr hdep
                go_wp2_with fail
                exact ⟨rfl, _, rfl, Below.refl _ _, rfl⟩
              · intro o ho a' w' hb hfr hdep
                obtain rfl := Option.some.inj ho
                have g14 : a'.tmps[14]?.getD undef = .int .i64 (k : Int) := by have h := hfr 14 (by kernel_rfl); simpa using h
                clear ho hfr hdep
                go_wp2_with fail
                exact ⟨rfl, _, rfl, Below.refl _ _, rfl⟩
              · intro o ho a' w' hb hfr hdep
                obtain rfl := Option.some.inj ho
                have g67 : a'.tmps[67]?.getD undef = .slice (some ⟨gX, 0, none⟩) 4 4 := by have h := hdep 2 _ rfl (by kernel_rfl); simpa using h
                have g68 : a'.tmps[68]?.getD undef = .int .i64 (k : Int) := by have h := hdep 3 _ rfl (by kernel_rfl); simpa using h
                clear ho hfr hdep
                refine index_known 69 37 _ _ 22 Try.underlying37 size_hd gX 4 4 (by show a'.tmps.getD 67 undef = _; simpa using g67) _ _ k (by show a'.tmps.getD 68 undef = _; simpa using g68) rfl hk4 ?_
                exact ⟨rfl, _, rfl, Below.refl _ _, rfl⟩
              · intro o ho a' w' hb hfr hdep
                obtain rfl := Option.some.inj ho
                have g69 : a'.tmps[69]?.getD undef = .pointer (some ⟨gX, k, none⟩) := by have h := hdep 4 _ rfl (by kernel_rfl); simpa using h
                clear ho hfr hdep
                have hcl := cell_below cX hb
                go_wp2_with fail
                exact ⟨rfl, _, rfl, Below.refl _ _, rfl⟩
              · intro o ho a' w' hb hfr hdep
                obtain rfl := Option.some.inj ho
                have g65 : a'.tmps[65]?.getD undef = H.v := by have h := hdep 0 _ rfl (by kernel_rfl); simpa using h
                have g66 : a'.tmps[66]?.getD undef = .slice a3 N9 c3 := by have h := hdep 1 _ rfl (by kernel_rfl); simpa using h
                have g70 : a'.tmps[70]?.getD undef = .slice xa xn xc := by have h := hdep 5 _ rfl (by kernel_rfl); simpa using h
                clear ho hfr hdep
                have hwd0 := con_Width H t S9 a3 N9 c3 X xa xn xc w' (HTr.below hb) (HSr.below hb) (hXS.below hb) HX4.out
                unfold GivesWd at hwd0
                rw [hWR.out] at hwd0
                have hwd := hide hwd0
                clear hwd0
                go_wp2_with (go_at_call 24; refine hwd.out.mono ?_; rintro e w3 ⟨⟨a, n, c, hs, rfl, hpa⟩, h3⟩)
                exact ⟨rfl, _, rfl, h3, a, n, c, hs, rfl, hpa⟩
              · intro o ho a' w' hb hfr hdep
                obtain rfl := Option.some.inj ho
                obtain ⟨a71, n71, c71, h71, g71, s71⟩ := hdep 6 _ rfl (by kernel_rfl)
                simp at g71
                clear ho hfr hdep
                go_wp2_with fail
                exact ⟨rfl, _, rfl, Below.refl _ _, a71, n71, c71, h71, rfl, s71⟩
              · intro o ho a' w' hb hfr hdep
                obtain rfl := Option.some.inj ho
                obtain ⟨a64, n64, c64, h64, g64, s64⟩ := hdep 7 _ rfl (by kernel_rfl)
                simp at g64
                clear ho hfr hdep
                go_wp2_with fail
                exact ⟨rfl, _, rfl, Below.refl _ _, a64, n64, c64, h64, rfl, s64⟩
              · intro o ho a' w' hb hfr hdep
                obtain rfl := Option.some.inj ho
                obtain ⟨a64, n64, c64, h64, g64, s64⟩ := hdep 7 _ rfl (by kernel_rfl)
                simp at g64
                clear ho hfr hdep
                go_wp2_with fail
                exact ⟨rfl, _, rfl, Below.refl _ _, rfl⟩
              · intro o ho a' w' hb hfr hdep
                obtain rfl := Option.some.inj ho
                obtain ⟨a72, n72, c72, h72, g72, s72⟩ := hdep 8 _ rfl (by kernel_rfl)
                simp at g72
                clear ho hfr hdep
                go_wp2_with fail
                exact ⟨rfl, _, rfl, Below.refl _ _, a72, n72, c72, h72, rfl, s72⟩
            · intro gg w1 hb1 hp'
              obtain ⟨Aa, An, Ac, Ah, e1, sA⟩ := hp' 10 _ rfl
              have p1 := hp' 9 _ rfl
              clear hp'
              simp at e1 p1
              simp only [List.drop_succ_cons, List.drop_zero, List.map_cons, List.map_nil, putAll, Act.put, List.setIfInBounds_toArray, List.set_cons_succ, List.set_cons_zero, List.cons_append, List.nil_append, e1, p1]
              clear e1 p1
              have HX1 := HXr.under hb1
              have HT1 := HTr.below hb1
              have HS1 := HSr.below hb1
              have hXS1 := hXS.below hb1
              have cX1 := cell_below cX hb1
              have hbw1 := hbw.trans (hb1.mono hbw.size)
              clear HXr HTr HSr hXS cX hbw hb1
              go_wp2_with fail
              refine wp_region_free 11 [⟨0, 75, [75], fun vs _ => vs = [H.v]⟩, ⟨1, 76, [76], fun vs _ => vs = [.slice a3 N9 c3]⟩, ⟨2, 77, [77], fun vs _ => vs = [.slice (some ⟨gX, 0, none⟩) 4 4]⟩, ⟨3, 78, [78], fun vs _ => vs = [.int .i64 (k : Int)]⟩, ⟨4, 79, [79], fun vs _ => vs = [.pointer (some ⟨gX, k, none⟩)]⟩, ⟨5, 80, [80], fun vs _ => vs = [.slice xa xn xc]⟩, ⟨6, 81, [81], fun vs w => ∃ a n c hs, vs = [.tuple #[.slice a n c, .int .i64 WE]] ∧ Ng w a n c hs RW⟩, ⟨7, 74, [74], fun vs w => ∃ a n c hs, vs = [.tuple #[.slice a n c, .int .i64 WE]] ∧ Ng w a n c hs RW⟩, ⟨8, 82, [82], fun vs w => ∃ a n c hs, vs = [.slice a n c] ∧ Ng w a n c hs RW⟩, ⟨9, 83, [83], fun vs _ => vs = [.int .i64 WE]⟩, ⟨10, 17, [17], fun vs w => ∃ a n c hs, vs = [.slice a n c] ∧ Ng w a n c hs RW⟩] (by kernel_rfl) (by kernel_rfl) ?_ ?_ ?_
              · simp only [All]
                refine ⟨fun _ _ _ _ h => h, fun _ _ _ _ h => h, fun _ _ _ _ h => h, fun _ _ _ _ h => h, fun _ _ _ _ h => h, fun _ _ _ _ h => h, ?_, ?_, ?_, fun _ _ _ _ h => h, ?_, trivial⟩
                · exact fun vs w1 w2 hb ⟨a, n, c, hs, h1, h2⟩ => ⟨a, n, c, hs, h1, h2.below hb⟩
                · exact fun vs w1 w2 hb ⟨a, n, c, hs, h1, h2⟩ => ⟨a, n, c, hs, h1, h2.below hb⟩
                · exact fun vs w1 w2 hb ⟨a, n, c, hs, h1, h2⟩ => ⟨a, n, c, hs, h1, h2.below hb⟩
                · exact fun vs w1 w2 hb ⟨a, n, c, hs, h1, h2⟩ => ⟨a, n, c, hs, h1, h2.below hb⟩
              · simp only [All]
                refine ⟨?_, ?_, ?_, ?_, ?_, ?_, ?_, ?_, ?_, ?_, ?_, trivial⟩
                · intro o ho a' w' hb hfr hdep
                  obtain rfl := Option.some.inj ho
                  have g9 : a'.tmps[9]?.getD undef = .pointer (some ⟨gT, 0, none⟩) := by have h := hfr 9 (by kernel_rfl); simpa using h
                  clear ho hfr hdep
                  refine load_struct 75 29 _ 7 size_tables _ Try.underlying29 ⟨gT, 0, none⟩ (by show a'.tmps.getD 9 undef = _; simpa using g9) (tcells H) rfl (fun j u hj => by rw [Addr.add_lit, Nat.zero_add]; exact (HX1.under hb).at_ hj) ?_
                  exact ⟨rfl, _, rfl, Below.refl _ _, rfl⟩
                · intro o ho a' w' hb hfr hdep
                  obtain rfl := Option.some.inj ho
                  have g10 : a'.tmps[10]?.getD undef = .slice a3 N9 c3 := by have h := hfr 10 (by kernel_rfl); simpa using h
                  clear ho hfr hdep
                  go_wp2_with fail
                  exact ⟨rfl, _, rfl, Below.refl _ _, rfl⟩
                · intro o ho a' w' hb hfr hdep
                  obtain rfl := Option.some.inj ho
                  have g13 : a'.tmps[13]?.getD undef = .slice (some ⟨gX, 0, none⟩) 4 4 := by have h := hfr 13 (by kernel_rfl); simpa using h
                  clear ho hfr hdep
                  go_wp2_with fail
                  exact ⟨rfl, _, rfl, Below.refl _ _, rfl⟩
                · intro o ho a' w' hb hfr hdep
                  obtain rfl := Option.some.inj ho
                  have g14 : a'.tmps[14]?.getD undef = .int .i64 (k : Int) := by have h := hfr 14 (by kernel_rfl); simpa using h
                  clear ho hfr hdep
                  go_wp2_with fail
                  exact ⟨rfl, _, rfl, Below.refl _ _, rfl⟩
                · intro o ho a' w' hb hfr hdep
                  obtain rfl := Option.some.inj ho
                  have g77 : a'.tmps[77]?.getD undef = .slice (some ⟨gX, 0, none⟩) 4 4 := by have h := hdep 2 _ rfl (by kernel_rfl); simpa using h
                  have g78 : a'.tmps[78]?.getD undef = .int .i64 (k : Int) := by have h := hdep 3 _ rfl (by kernel_rfl); simpa using h
                  clear ho hfr hdep
                  refine index_known 79 37 _ _ 22 Try.underlying37 size_hd gX 4 4 (by show a'.tmps.getD 77 undef = _; simpa using g77) _ _ k (by show a'.tmps.getD 78 undef = _; simpa using g78) rfl hk4 ?_
                  exact ⟨rfl, _, rfl, Below.refl _ _, rfl⟩
                · intro o ho a' w' hb hfr hdep
                  obtain rfl := Option.some.inj ho
                  have g79 : a'.tmps[79]?.getD undef = .pointer (some ⟨gX, k, none⟩) := by have h := hdep 4 _ rfl (by kernel_rfl); simpa using h
                  clear ho hfr hdep
                  have hcl := cell_below cX1 hb
                  go_wp2_with fail
                  exact ⟨rfl, _, rfl, Below.refl _ _, rfl⟩
                · intro o ho a' w' hb hfr hdep
                  obtain rfl := Option.some.inj ho
                  have g75 : a'.tmps[75]?.getD undef = H.v := by have h := hdep 0 _ rfl (by kernel_rfl); simpa using h
                  have g76 : a'.tmps[76]?.getD undef = .slice a3 N9 c3 := by have h := hdep 1 _ rfl (by kernel_rfl); simpa using h
                  have g80 : a'.tmps[80]?.getD undef = .slice xa xn xc := by have h := hdep 5 _ rfl (by kernel_rfl); simpa using h
                  clear ho hfr hdep
                  have hwd0 := ref8_Width H t S9 a3 N9 c3 X xa xn xc w' (HT1.below hb) (HS1.below hb) (hXS1.below hb) HX4.out
                  unfold GivesWd at hwd0
                  rw [hWR.out] at hwd0
                  have hwd := hide hwd0
                  clear hwd0
                  go_wp2_with (go_at_call 25; refine hwd.out.mono ?_; rintro e w3 ⟨⟨a, n, c, hs, rfl, hpa⟩, h3⟩)
                  exact ⟨rfl, _, rfl, h3, a, n, c, hs, rfl, hpa⟩
                · intro o ho a' w' hb hfr hdep
                  obtain rfl := Option.some.inj ho
                  obtain ⟨a81, n81, c81, h81, g81, s81⟩ := hdep 6 _ rfl (by kernel_rfl)
                  simp at g81
                  clear ho hfr hdep
                  go_wp2_with fail
                  exact ⟨rfl, _, rfl, Below.refl _ _, a81, n81, c81, h81, rfl, s81⟩
                · intro o ho a' w' hb hfr hdep
                  obtain rfl := Option.some.inj ho
                  obtain ⟨a74, n74, c74, h74, g74, s74⟩ := hdep 7 _ rfl (by kernel_rfl)
                  simp at g74
                  clear ho hfr hdep
                  go_wp2_with fail
                  exact ⟨rfl, _, rfl, Below.refl _ _, a74, n74, c74, h74, rfl, s74⟩
                · intro o ho a' w' hb hfr hdep
                  obtain rfl := Option.some.inj ho
                  obtain ⟨a74, n74, c74, h74, g74, s74⟩ := hdep 7 _ rfl (by kernel_rfl)
                  simp at g74
                  clear ho hfr hdep
                  go_wp2_with fail
                  exact ⟨rfl, _, rfl, Below.refl _ _, rfl⟩
                · intro o ho a' w' hb hfr hdep
                  obtain rfl := Option.some.inj ho
                  obtain ⟨a82, n82, c82, h82, g82, s82⟩ := hdep 8 _ rfl (by kernel_rfl)
                  simp at g82
                  clear ho hfr hdep
                  go_wp2_with fail
                  exact ⟨rfl, _, rfl, Below.refl _ _, a82, n82, c82, h82, rfl, s82⟩
              · intro gg w2 hb2 hp'
                obtain ⟨Ba, Bn, Bc, Bh, e2, sB⟩ := hp' 10 _ rfl
                have p2 := hp' 9 _ rfl
                clear hp'
                simp at e2 p2
                simp only [List.drop_succ_cons, List.drop_zero, List.map_cons, List.map_nil, putAll, Act.put, List.setIfInBounds_toArray, List.set_cons_succ, List.set_cons_zero, List.cons_append, List.nil_append, e2, p2]
                clear e2 p2
                have hb2' := hbw1.trans (hb2.mono hbw1.size)
                have sA2 := sA.below hb2
                clear HX1 HT1 HS1 hXS1 cX1 hbw1 hb2 sA
                obtain rfl : An = Bn := by rw [sA2.n_eq, sB.n_eq]
                have dX : (WE != WE) = false := by simp
                have dn : ((An : Int) != (An : Int)) = false := by simp
                obtain ⟨w2, rfl⟩ : ∃ z : World, z = w2 := ⟨_, rfl⟩
                have HNA := hide sA2.n_eq
                have hAm := Nat.le_trans sA2.top.le sA2.top.cap
                unfold maxLen at hAm
                go_wp2_with fail
                go_loopg [19] An (fun gh v w' => ∃ j : Nat, j ≤ An ∧ gh = An - j ∧ v = .int .i64 (j : Int) ∧ Below w2.heap.size w2 w')
                case atStart => exact ⟨0, Nat.zero_le _, rfl, rfl, Below.refl _ _⟩
                case round =>
                  obtain ⟨j, hj, rfl, rfl, hbj⟩ := hrel
                  by_cases hjn : j < An
                  · have d3 : decide ((j : Int) < (An : Int)) = true := decide_eq_true (by omega)
                    obtain ⟨r, hr⟩ : ∃ r, RW[j]? = some r := ⟨_, List.getElem?_eq_getElem (by have := HNA.out; omega)⟩
                    obtain ⟨⟨x1, x2, x3⟩, hx⟩ : ∃ h, Ah[j]? = some h := ⟨_, List.getElem?_eq_getElem (by rw [sA2.len]; have := HNA.out; omega)⟩
                    obtain ⟨⟨y1, y2, y3⟩, hy⟩ : ∃ h, Bh[j]? = some h := ⟨_, List.getElem?_eq_getElem (by rw [sB.len]; have := HNA.out; omega)⟩
                    have hrx := (sA2.row j _ r hx hr).below hbj
                    have hry := (sB.row j _ r hy hr).below hbj
                    have hux : Hid ((Ah.map hdv)[j]? = some (.slice x1 x2 x3)) := hide (by rw [List.getElem?_map, hx]; rfl)
                    have huy : Hid ((Bh.map hdv)[j]? = some (.slice y1 y2 y3)) := hide (by rw [List.getElem?_map, hy]; rfl)
                    have htxj := sA2.top.below hbj
                    have htyj := sB.top.below hbj
                    clear hr hx hy
                    go_wp2_with fail
                    refine wp_region_free 9 [⟨0, 100, [100], fun vs _ => vs = [.slice Aa An Ac]⟩, ⟨1, 101, [101], fun vs _ => vs = [.int .i64 (j : Int)]⟩, ⟨2, 102, [102], PtL (.slice x1 x2 x3)⟩, ⟨3, 103, [103], fun vs _ => vs = [.slice x1 x2 x3]⟩, ⟨4, 104, [104], fun vs _ => vs = [.slice Ba An Bc]⟩, ⟨5, 105, [105], fun vs _ => vs = [.int .i64 (j : Int)]⟩, ⟨6, 106, [106], PtL (.slice y1 y2 y3)⟩, ⟨7, 107, [107], fun vs _ => vs = [.slice y1 y2 y3]⟩, ⟨8, 108, [108], fun vs _ => vs = [.bool true]⟩] (by kernel_rfl) (by kernel_rfl) ?_ ?_ ?_
                    · simp only [All]
                      refine ⟨fun _ _ _ _ h => h, fun _ _ _ _ h => h, ?_, fun _ _ _ _ h => h, fun _ _ _ _ h => h, fun _ _ _ _ h => h, ?_, fun _ _ _ _ h => h, fun _ _ _ _ h => h, trivial⟩
                      · rintro vs w1 w2 hb ⟨b, o, h1, h2⟩
                        exact ⟨b, o, h1, cell_blw8 h2 hb⟩
                      · rintro vs w1 w2 hb ⟨b, o, h1, h2⟩
                        exact ⟨b, o, h1, cell_blw8 h2 hb⟩
                    · simp only [All]
                      refine ⟨?_, ?_, ?_, ?_, ?_, ?_, ?_, ?_, ?_, trivial⟩
                      · intro o ho a' w' hb hfr hdep
                        obtain rfl := Option.some.inj ho
                        have g15 : a'.tmps[15]?.getD undef = .slice Aa An Ac := by have h := hfr 15 (by kernel_rfl); simpa using h
                        clear ho hfr hdep
                        go_wp2_with fail
                        exact ⟨rfl, _, rfl, Below.refl _ _, rfl⟩
                      · intro o ho a' w' hb hfr hdep
                        obtain rfl := Option.some.inj ho
                        have g19 : a'.tmps[19]?.getD undef = .int .i64 (j : Int) := by have h := hfr 19 (by kernel_rfl); simpa using h
                        clear ho hfr hdep
                        go_wp2_with fail
                        exact ⟨rfl, _, rfl, Below.refl _ _, rfl⟩
                      · intro o ho a' w' hb hfr hdep
                        obtain rfl := Option.some.inj ho
                        have g100 : a'.tmps[100]?.getD undef = .slice Aa An Ac := by have h := hdep 0 _ rfl (by kernel_rfl); simpa using h
                        have g101 : a'.tmps[101]?.getD undef = .int .i64 (j : Int) := by have h := hdep 1 _ rfl (by kernel_rfl); simpa using h
                        clear ho hfr hdep
                        refine idx_ii 102 _ _ Aa An Ac _ (by show a'.tmps.getD 100 undef = _; simpa using g100) (htxj.below hb) .i64 _ j (by show a'.tmps.getD 101 undef = _; simpa using g101) rfl _ hux.out ?_
                        intro b o hcell hbo
                        exact ⟨rfl, _, rfl, Below.refl _ _, b, o, rfl, hcell⟩
                      · intro o ho a' w' hb hfr hdep
                        obtain rfl := Option.some.inj ho
                        obtain ⟨b102, o102, g102, c102⟩ := hdep 2 _ rfl (by kernel_rfl)
                        simp at g102
                        clear ho hfr hdep
                        have hcl := c102
                        go_wp2_with fail
                        exact ⟨rfl, _, rfl, Below.refl _ _, rfl⟩
                      · intro o ho a' w' hb hfr hdep
                        obtain rfl := Option.some.inj ho
                        have g17 : a'.tmps[17]?.getD undef = .slice Ba An Bc := by have h := hfr 17 (by kernel_rfl); simpa using h
                        clear ho hfr hdep
                        go_wp2_with fail
                        exact ⟨rfl, _, rfl, Below.refl _ _, rfl⟩
                      · intro o ho a' w' hb hfr hdep
                        obtain rfl := Option.some.inj ho
                        have g19 : a'.tmps[19]?.getD undef = .int .i64 (j : Int) := by have h := hfr 19 (by kernel_rfl); simpa using h
                        clear ho hfr hdep
                        go_wp2_with fail
                        exact ⟨rfl, _, rfl, Below.refl _ _, rfl⟩
                      · intro o ho a' w' hb hfr hdep
                        obtain rfl := Option.some.inj ho
                        have g104 : a'.tmps[104]?.getD undef = .slice Ba An Bc := by have h := hdep 4 _ rfl (by kernel_rfl); simpa using h
                        have g105 : a'.tmps[105]?.getD undef = .int .i64 (j : Int) := by have h := hdep 5 _ rfl (by kernel_rfl); simpa using h
                        clear ho hfr hdep
                        refine idx_ii 106 _ _ Ba An Bc _ (by show a'.tmps.getD 104 undef = _; simpa using g104) (htyj.below hb) .i64 _ j (by show a'.tmps.getD 105 undef = _; simpa using g105) rfl _ huy.out ?_
                        intro b o hcell hbo
                        exact ⟨rfl, _, rfl, Below.refl _ _, b, o, rfl, hcell⟩
                      · intro o ho a' w' hb hfr hdep
                        obtain rfl := Option.some.inj ho
                        obtain ⟨b106, o106, g106, c106⟩ := hdep 6 _ rfl (by kernel_rfl)
                        simp at g106
                        clear ho hfr hdep
                        have hcl := c106
                        go_wp2_with fail
                        exact ⟨rfl, _, rfl, Below.refl _ _, rfl⟩
                      · intro o ho a' w' hb hfr hdep
                        obtain rfl := Option.some.inj ho
                        have g103 : a'.tmps[103]?.getD undef = .slice x1 x2 x3 := by have h := hdep 3 _ rfl (by kernel_rfl); simpa using h
                        have g107 : a'.tmps[107]?.getD undef = .slice y1 y2 y3 := by have h := hdep 7 _ rfl (by kernel_rfl); simpa using h
                        clear ho hfr hdep
                        have hsi := hide (ints_at (x := r) (y := r) rfl (hrx.below hb) (hry.below hb))
                        go_wp2_with (go_at_call 26; refine hsi.out.mono ?_; rintro e w2 ⟨rfl, h2⟩)
                        exact ⟨rfl, _, rfl, h2, rfl⟩
                    · intro gg w6 hbl hp'
                      have p108 := hp' 8 _ rfl
                      clear hp'
                      simp at p108
                      simp only [List.drop_succ_cons, List.drop_zero, List.map_cons, List.map_nil, putAll, Act.put, List.setIfInBounds_toArray, List.set_cons_succ, List.set_cons_zero, List.cons_append, List.nil_append, p108]
                      clear p108
                      have hb6 := hbj.trans (hbl.mono hbj.size)
                      clear hbj hbl htxj htyj hrx hry
                      go_wp2_with fail
                      go_roundg (An - (j + 1))
                      case measure => omega
                      case rel => exact ⟨j + 1, by omega, rfl, by go_num, hb6⟩
                  · obtain rfl : j = An := by omega
                    have d3 : decide ((j : Int) < (j : Int)) = false := by simp
                    have hb9 := hb2'.trans (hbj.mono hb2'.size)
                    clear hb2' hbj sA2 sB
                    go_wp2_with fail
                    go_roundg (4 - (k + 1))
                    case measure => omega
                    case rel => exact ⟨k + 1, by omega, rfl, by go_num, hb9⟩
          · obtain rfl : k = 4 := by omega
            have d2 : decide (((4 : Nat) : Int) < 4) = false := by decide
            have hPr := hP8.below hb0
            have hbl := hB8.trans (hb0.mono hB8.size)
            clear hb0 hP8 HX8 HT8 HS8 hB8 hL8
            obtain ⟨WR, hWR⟩ : ∃ X', Hid (wdR t (S9 ++ [oddS by_]) P = X') := ⟨_, hide rfl⟩
            obtain ⟨WE, RW⟩ := WR
            obtain ⟨X0, hX0⟩ : ∃ x, Hid (oddS by_ = x) := ⟨_, hide rfl⟩
            rw [hX0.out] at hWR
            go_wp2_with fail
            refine wp_region_free 10 [⟨0, 111, [111], fun vs _ => vs = [H.v]⟩, ⟨1, 112, [112], fun vs _ => vs = [.slice a3 N9 c3]⟩, ⟨2, 113, [113], fun vs _ => vs = [.int .i64 by_]⟩, ⟨3, 114, [114], fun vs w => ∃ a c, vs = [.slice a (N9 + 1) c] ∧ Sl w 2 a (N9 + 1) c ((S9 ++ [X0]).flatMap sc)⟩, ⟨4, 115, [115], fun vs _ => vs = [.slice pa pn pc]⟩, ⟨5, 116, [116], fun vs w => ∃ a n c hs, vs = [.tuple #[.slice a n c, .int .i64 WE]] ∧ Ng w a n c hs RW⟩, ⟨6, 110, [110], fun vs w => ∃ a n c hs, vs = [.tuple #[.slice a n c, .int .i64 WE]] ∧ Ng w a n c hs RW⟩, ⟨7, 117, [117], fun vs w => ∃ a n c hs, vs = [.slice a n c] ∧ Ng w a n c hs RW⟩, ⟨8, 118, [118], fun vs _ => vs = [.int .i64 WE]⟩, ⟨9, 20, [20], fun vs w => ∃ a n c hs, vs = [.slice a n c] ∧ Ng w a n c hs RW⟩] (by kernel_rfl) (by kernel_rfl) ?_ ?_ ?_
            · simp only [All]
              refine ⟨fun _ _ _ _ h => h, fun _ _ _ _ h => h, fun _ _ _ _ h => h, ?_, fun _ _ _ _ h => h, ?_, ?_, ?_, fun _ _ _ _ h => h, ?_, trivial⟩
              · exact fun vs w1 w2 hb ⟨a, c, h1, h2⟩ => ⟨a, c, h1, h2.below hb⟩
              · exact fun vs w1 w2 hb ⟨a, n, c, hs, h1, h2⟩ => ⟨a, n, c, hs, h1, h2.below hb⟩
              · exact fun vs w1 w2 hb ⟨a, n, c, hs, h1, h2⟩ => ⟨a, n, c, hs, h1, h2.below hb⟩
              · exact fun vs w1 w2 hb ⟨a, n, c, hs, h1, h2⟩ => ⟨a, n, c, hs, h1, h2.below hb⟩
              · exact fun vs w1 w2 hb ⟨a, n, c, hs, h1, h2⟩ => ⟨a, n, c, hs, h1, h2.below hb⟩
            · simp only [All]
              refine ⟨?_, ?_, ?_, ?_, ?_, ?_, ?_, ?_, ?_, ?_, trivial⟩
              · intro o ho a' w' hb hfr hdep
                obtain rfl := Option.some.inj ho
                have g9 : a'.tmps[9]?.getD undef = .pointer (some ⟨gT, 0, none⟩) := by have h := hfr 9 (by kernel_rfl); simpa using h
                clear ho hfr hdep
                refine load_struct 111 29 _ 7 size_tables _ Try.underlying29 ⟨gT, 0, none⟩ (by show a'.tmps.getD 9 undef = _; simpa using g9) (tcells H) rfl (fun j u hj => by rw [Addr.add_lit, Nat.zero_add]; exact (HXr.under hb).at_ hj) ?_
                exact ⟨rfl, _, rfl, Below.refl _ _, rfl⟩
              · intro o ho a' w' hb hfr hdep
                obtain rfl := Option.some.inj ho
                have g10 : a'.tmps[10]?.getD undef = .slice a3 N9 c3 := by have h := hfr 10 (by kernel_rfl); simpa using h
                clear ho hfr hdep
                go_wp2_with fail
                exact ⟨rfl, _, rfl, Below.refl _ _, rfl⟩
              · intro o ho a' w' hb hfr hdep
                obtain rfl := Option.some.inj ho
                have g3 : a'.tmps[3]?.getD undef = .int .i64 by_ := by have h := hfr 3 (by kernel_rfl); simpa using h
                clear ho hfr hdep
                go_wp2_with fail
                exact ⟨rfl, _, rfl, Below.refl _ _, rfl⟩
              · intro o ho a' w' hb hfr hdep
                obtain rfl := Option.some.inj ho
                have g112 : a'.tmps[112]?.getD undef = .slice a3 N9 c3 := by have h := hdep 1 _ rfl (by kernel_rfl); simpa using h
                have g113 : a'.tmps[113]?.getD undef = .int .i64 by_ := by have h := hdep 2 _ rfl (by kernel_rfl); simpa using h
                clear ho hfr hdep
                have hod0 := law8_odd S9 a3 N9 c3 by_ w' (HSr.below hb) (by omega) HBY.out
                rw [hX0.out] at hod0
                have hod := hide hod0
                clear hod0
                go_wp2_with (go_at_call 11; refine hod.out.mono ?_; rintro e w3 ⟨a, c, rfl, hO, h3⟩)
                exact ⟨rfl, _, rfl, h3, a, c, rfl, hO.sl⟩
              · intro o ho a' w' hb hfr hdep
                obtain rfl := Option.some.inj ho
                have g11 : a'.tmps[11]?.getD undef = .slice pa pn pc := by have h := hfr 11 (by kernel_rfl); simpa using h
                clear ho hfr hdep
                go_wp2_with fail
                exact ⟨rfl, _, rfl, Below.refl _ _, rfl⟩
              · intro o ho a' w' hb hfr hdep
                obtain rfl := Option.some.inj ho
                have g111 : a'.tmps[111]?.getD undef = H.v := by have h := hdep 0 _ rfl (by kernel_rfl); simpa using h
                obtain ⟨ao, co, g114, so⟩ := hdep 3 _ rfl (by kernel_rfl)
                simp at g114
                have g115 : a'.tmps[115]?.getD undef = .slice pa pn pc := by have h := hdep 4 _ rfl (by kernel_rfl); simpa using h
                clear ho hfr hdep
                have hwd0 := con_Width H t (S9 ++ [X0]) ao (N9 + 1) co P pa pn pc w' (HTr.below hb) so (hPr.below hb) HP4.out
                unfold GivesWd at hwd0
                rw [hWR.out] at hwd0
                have hwd := hide hwd0
                clear hwd0
                go_wp2_with (go_at_call 24; refine hwd.out.mono ?_; rintro e w3 ⟨⟨a, n, c, hs, rfl, hpa⟩, h3⟩)
                exact ⟨rfl, _, rfl, h3, a, n, c, hs, rfl, hpa⟩
              · intro o ho a' w' hb hfr hdep
                obtain rfl := Option.some.inj ho
                obtain ⟨a116, n116, c116, h116, g116, s116⟩ := hdep 5 _ rfl (by kernel_rfl)
                simp at g116
                clear ho hfr hdep
                go_wp2_with fail
                exact ⟨rfl, _, rfl, Below.refl _ _, a116, n116, c116, h116, rfl, s116⟩
              · intro o ho a' w' hb hfr hdep
                obtain rfl := Option.some.inj ho
                obtain ⟨a110, n110, c110, h110, g110, s110⟩ := hdep 6 _ rfl (by kernel_rfl)
                simp at g110
                clear ho hfr hdep
                go_wp2_with fail
                exact ⟨rfl, _, rfl, Below.refl _ _, a110, n110, c110, h110, rfl, s110⟩
              · intro o ho a' w' hb hfr hdep
                obtain rfl := Option.some.inj ho
                obtain ⟨a110, n110, c110, h110, g110, s110⟩ := hdep 6 _ rfl (by kernel_rfl)
                simp at g110
                clear ho hfr hdep
                go_wp2_with fail
                exact ⟨rfl, _, rfl, Below.refl _ _, rfl⟩
              · intro o ho a' w' hb hfr hdep
                obtain rfl := Option.some.inj ho
                obtain ⟨a117, n117, c117, h117, g117, s117⟩ := hdep 7 _ rfl (by kernel_rfl)
                simp at g117
                clear ho hfr hdep
                go_wp2_with fail
                exact ⟨rfl, _, rfl, Below.refl _ _, a117, n117, c117, h117, rfl, s117⟩
            · intro gg w1 hb1 hp'
              obtain ⟨Aa, An, Ac, Ah, e1, sA⟩ := hp' 9 _ rfl
              have p1 := hp' 8 _ rfl
              clear hp'
              simp at e1 p1
              simp only [List.drop_succ_cons, List.drop_zero, List.map_cons, List.map_nil, putAll, Act.put, List.setIfInBounds_toArray, List.set_cons_succ, List.set_cons_zero, List.cons_append, List.nil_append, e1, p1]
              clear e1 p1
              have HX1 := HXr.under hb1
              have HT1 := HTr.below hb1
              have HS1 := HSr.below hb1
              have hPr1 := hPr.below hb1
              have hbl1 := hbl.trans (hb1.mono hbl.size)
              clear HXr HTr HSr hPr hbl hb1 sA
              go_wp2_with fail
              refine wp_region_free 10 [⟨0, 120, [120], fun vs _ => vs = [H.v]⟩, ⟨1, 121, [121], fun vs _ => vs = [.slice a3 N9 c3]⟩, ⟨2, 122, [122], fun vs _ => vs = [.int .i64 by_]⟩, ⟨3, 123, [123], fun vs w => ∃ a c, vs = [.slice a (N9 + 1) c] ∧ Sl w 2 a (N9 + 1) c ((S9 ++ [X0]).flatMap sc)⟩, ⟨4, 124, [124], fun vs _ => vs = [.slice pa pn pc]⟩, ⟨5, 125, [125], fun vs w => ∃ a n c hs, vs = [.tuple #[.slice a n c, .int .i64 WE]] ∧ Ng w a n c hs RW⟩, ⟨6, 119, [119], fun vs w => ∃ a n c hs, vs = [.tuple #[.slice a n c, .int .i64 WE]] ∧ Ng w a n c hs RW⟩, ⟨7, 126, [126], fun vs w => ∃ a n c hs, vs = [.slice a n c] ∧ Ng w a n c hs RW⟩, ⟨8, 127, [127], fun vs _ => vs = [.int .i64 WE]⟩, ⟨9, 22, [22], fun vs w => ∃ a n c hs, vs = [.slice a n c] ∧ Ng w a n c hs RW⟩] (by kernel_rfl) (by kernel_rfl) ?_ ?_ ?_
              · simp only [All]
                refine ⟨fun _ _ _ _ h => h, fun _ _ _ _ h => h, fun _ _ _ _ h => h, ?_, fun _ _ _ _ h => h, ?_, ?_, ?_, fun _ _ _ _ h => h, ?_, trivial⟩
                · exact fun vs w1 w2 hb ⟨a, c, h1, h2⟩ => ⟨a, c, h1, h2.below hb⟩
                · exact fun vs w1 w2 hb ⟨a, n, c, hs, h1, h2⟩ => ⟨a, n, c, hs, h1, h2.below hb⟩
                · exact fun vs w1 w2 hb ⟨a, n, c, hs, h1, h2⟩ => ⟨a, n, c, hs, h1, h2.below hb⟩
                · exact fun vs w1 w2 hb ⟨a, n, c, hs, h1, h2⟩ => ⟨a, n, c, hs, h1, h2.below hb⟩
                · exact fun vs w1 w2 hb ⟨a, n, c, hs, h1, h2⟩ => ⟨a, n, c, hs, h1, h2.below hb⟩
              · simp only [All]
                refine ⟨?_, ?_, ?_, ?_, ?_, ?_, ?_, ?_, ?_, ?_, trivial⟩
                · intro o ho a' w' hb hfr hdep
                  obtain rfl := Option.some.inj ho
                  have g9 : a'.tmps[9]?.getD undef = .pointer (some ⟨gT, 0, none⟩) := by have h := hfr 9 (by kernel_rfl); simpa using h
                  clear ho hfr hdep
                  refine load_struct 120 29 _ 7 size_tables _ Try.underlying29 ⟨gT, 0, none⟩ (by show a'.tmps.getD 9 undef = _; simpa using g9) (tcells H) rfl (fun j u hj => by rw [Addr.add_lit, Nat.zero_add]; exact (HX1.under hb).at_ hj) ?_
                  exact ⟨rfl, _, rfl, Below.refl _ _, rfl⟩
                · intro o ho a' w' hb hfr hdep
                  obtain rfl := Option.some.inj ho
                  have g10 : a'.tmps[10]?.getD undef = .slice a3 N9 c3 := by have h := hfr 10 (by kernel_rfl); simpa using h
                  clear ho hfr hdep
                  go_wp2_with fail
                  exact ⟨rfl, _, rfl, Below.refl _ _, rfl⟩
                · intro o ho a' w' hb hfr hdep
                  obtain rfl := Option.some.inj ho
                  have g3 : a'.tmps[3]?.getD undef = .int .i64 by_ := by have h := hfr 3 (by kernel_rfl); simpa using h
                  clear ho hfr hdep
                  go_wp2_with fail
                  exact ⟨rfl, _, rfl, Below.refl _ _, rfl⟩
                · intro o ho a' w' hb hfr hdep
                  obtain rfl := Option.some.inj ho
                  have g121 : a'.tmps[121]?.getD undef = .slice a3 N9 c3 := by have h := hdep 1 _ rfl (by kernel_rfl); simpa using h
                  have g122 : a'.tmps[122]?.getD undef = .int .i64 by_ := by have h := hdep 2 _ rfl (by kernel_rfl); simpa using h
                  clear ho hfr hdep
                  have hod0 := law8_odd S9 a3 N9 c3 by_ w' (HS1.below hb) (by omega) HBY.out
                  rw [hX0.out] at hod0
                  have hod := hide hod0
                  clear hod0
                  go_wp2_with (go_at_call 11; refine hod.out.mono ?_; rintro e w3 ⟨a, c, rfl, hO, h3⟩)
                  exact ⟨rfl, _, rfl, h3, a, c, rfl, hO.sl⟩
                · intro o ho a' w' hb hfr hdep
                  obtain rfl := Option.some.inj ho
                  have g11 : a'.tmps[11]?.getD undef = .slice pa pn pc := by have h := hfr 11 (by kernel_rfl); simpa using h
                  clear ho hfr hdep
                  go_wp2_with fail
                  exact ⟨rfl, _, rfl, Below.refl _ _, rfl⟩
                · intro o ho a' w' hb hfr hdep
                  obtain rfl := Option.some.inj ho
                  have g120 : a'.tmps[120]?.getD undef = H.v := by have h := hdep 0 _ rfl (by kernel_rfl); simpa using h
                  obtain ⟨ao, co, g123, so⟩ := hdep 3 _ rfl (by kernel_rfl)
                  simp at g123
                  have g124 : a'.tmps[124]?.getD undef = .slice pa pn pc := by have h := hdep 4 _ rfl (by kernel_rfl); simpa using h
                  clear ho hfr hdep
                  have hwd0 := ref8_Width H t (S9 ++ [X0]) ao (N9 + 1) co P pa pn pc w' (HT1.below hb) so (hPr1.below hb) HP4.out
                  unfold GivesWd at hwd0
                  rw [hWR.out] at hwd0
                  have hwd := hide hwd0
                  clear hwd0
                  go_wp2_with (go_at_call 25; refine hwd.out.mono ?_; rintro e w3 ⟨⟨a, n, c, hs, rfl, hpa⟩, h3⟩)
                  exact ⟨rfl, _, rfl, h3, a, n, c, hs, rfl, hpa⟩
                · intro o ho a' w' hb hfr hdep
                  obtain rfl := Option.some.inj ho
                  obtain ⟨a125, n125, c125, h125, g125, s125⟩ := hdep 5 _ rfl (by kernel_rfl)
                  simp at g125
                  clear ho hfr hdep
                  go_wp2_with fail
                  exact ⟨rfl, _, rfl, Below.refl _ _, a125, n125, c125, h125, rfl, s125⟩
                · intro o ho a' w' hb hfr hdep
                  obtain rfl := Option.some.inj ho
                  obtain ⟨a119, n119, c119, h119, g119, s119⟩ := hdep 6 _ rfl (by kernel_rfl)
                  simp at g119
                  clear ho hfr hdep
                  go_wp2_with fail
                  exact ⟨rfl, _, rfl, Below.refl _ _, a119, n119, c119, h119, rfl, s119⟩
                · intro o ho a' w' hb hfr hdep
                  obtain rfl := Option.some.inj ho
                  obtain ⟨a119, n119, c119, h119, g119, s119⟩ := hdep 6 _ rfl (by kernel_rfl)
                  simp at g119
                  clear ho hfr hdep
                  go_wp2_with fail
                  exact ⟨rfl, _, rfl, Below.refl _ _, rfl⟩
                · intro o ho a' w' hb hfr hdep
                  obtain rfl := Option.some.inj ho
                  obtain ⟨a126, n126, c126, h126, g126, s126⟩ := hdep 7 _ rfl (by kernel_rfl)
                  simp at g126
                  clear ho hfr hdep
                  go_wp2_with fail
                  exact ⟨rfl, _, rfl, Below.refl _ _, a126, n126, c126, h126, rfl, s126⟩
              · intro gg w2 hb2 hp'
                obtain ⟨Ba, Bn, Bc, Bh, e2, sB⟩ := hp' 9 _ rfl
                have p2 := hp' 8 _ rfl
                clear hp'
                simp at e2 p2
                simp only [List.drop_succ_cons, List.drop_zero, List.map_cons, List.map_nil, putAll, Act.put, List.setIfInBounds_toArray, List.set_cons_succ, List.set_cons_zero, List.cons_append, List.nil_append, e2, p2]
                clear e2 p2
                have hbl2 := hbl1.trans (hb2.mono hbl1.size)
                clear HX1 HT1 HS1 hPr1 hbl1 hb2 sB
                have dX : (WE == WE) = true := by simp
                have hlv := hide (law8_lives w2)
                go_wp2_with (first
                  | (go_at_call 17; refine hlv.out.mono ?_; rintro e w9 ⟨rfl, hb9⟩)
                  | (refine unguard_any (by first | rfl | (simp [Region.wanted, yielded, Act.put]; done)) ?_; go_at_call 17; refine hlv.out.mono ?_; rintro e w9 ⟨rfl, hb9⟩))
                go_ret
                exact ⟨rfl, hbl2.trans (hb9.mono hbl2.size)⟩
end Go.Proofs.Ytlpkicjijlcbfaa
