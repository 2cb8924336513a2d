/- The contracts of the functions that the law reaches, joined into one text. -/
import Derived.Test.YtkjcbneanaeleaaLawBL4a
set_option linter.unusedVariables false
set_option linter.unusedSimpArgs false

/- the text BL4 -/
section
/- Chapter 06: the walk of TableSteps. -/
namespace Go.Proofs.Ytkjcbneanaeleaa
open Go.RowKit Go.Dx
theorem rsteps_of (H : TH) (t : Ta) (s : St) (l : List Sy) (i : Int) {L : List Stp} (hL : stepsL t s l i = L) (a : Option Addr) (n c : Nat) (hll : l.length ≤ 1000000) (w : World) (hT : TaIs w H t) (hs : Sl w 2 a n c (l.flatMap sc)) :
    Calls Try.prog 18 #[H.v, sv s, .slice a n c, .int .i64 i] w fun e w' => ∃ a' c' ps, e = .returned (.slice a' L.length c') ∧ Stl w' a' L.length c' ps L ∧ Below w.heap.size w w' := by
  have := ref6_Steps H t s l a n c i hll w hT hs
  rw [hL] at this
  exact this
set_option maxRecDepth 100000 in
set_option maxHeartbeats 8000000 in
theorem walk_TableSteps (n at_ how by_ : Int) (l : List Int) (a : Option Addr) (ln lc : Nat) (m : List Sy) (am : Option Addr) (mn mc : Nat) (lang : Int) (num wd : Bool) (w : World) (hs : Sl w 1 a ln lc (l.map I64)) (hl : ∀ x ∈ l, -9223372036854775808 ≤ x ∧ x ≤ 9223372036854775807) (hsm : Sl w 2 am mn mc (m.flatMap sc))
    (hn : -9223372036854775808 ≤ n ∧ n ≤ 9223372036854775807) (hat : -9223372036854775808 ≤ at_ ∧ at_ ≤ 9223372036854775807)
    (hhow : -9223372036854775808 ≤ how ∧ how ≤ 9223372036854775807) (hby : -9223372036854775808 ≤ by_ ∧ by_ ≤ 9223372036854775807) :
    Calls Try.prog 4 #[.int .i64 n, .int .i64 at_, .int .i64 how, .int .i64 by_, .slice a ln lc, .slice am mn mc, .int .i64 lang, .bool num, .bool wd] w fun e w' => e = .returned (.bool true) ∧ Below w.heap.size w w' := by
  have HBY := hide hby
  have HAT := hide hat
  have HHOW := hide hhow
  clear hby hat hhow
  obtain ⟨S, HSS⟩ : ∃ S, Hid (symsL l = S) := ⟨_, hide rfl⟩
  have hSok := symsL_ok l
  rw [HSS.out] at hSok
  have hS24 := hSok.2
  have hS24' : S.length ≤ 1000000 := by omega
  clear hSok
  go_enter Try.func4, Try.ntmps4
  go_wp2_with fail
  refine (ref_Tables n hn.1 hn.2 w).mono ?_
  rintro e w1 ⟨H, t, rfl, hT, hG, hb1⟩
  have HG := hide hG
  have HZT : Hid (BSz 900 t) := hide (bsz_good hG)
  clear hG hn
  have Hm := hide hT
  clear hT
  obtain ⟨⟨a0, n0, c0⟩, ⟨a1, n1, c1⟩, ps0, ps1, ⟨ad, nd, cd⟩, ⟨ac, nc, cc⟩, ⟨an, nn, cn⟩, ⟨af, nf, cf⟩, ⟨aw, nw, cw⟩⟩ := H
  unfold TH.v
  simp only [hdv]
  have Y1 := Box.new w1 28 #[.slice a0 n0 c0, .slice a1 n1 c1, .slice ad nd cd, .slice ac nc cc, .slice an nn cn, .slice af nf cf, .slice aw nw cw]
  have hbY := blo w1 (.cells #[.slice a0 n0 c0, .slice a1 n1 c1, .slice ad nd cd, .slice ac nc cc, .slice an nn cn, .slice af nf cf, .slice aw nw cw] 28)
  go_upto_region 2 with fail
  generalize w1.alloc (.cells _ 28) = w2 at *
  obtain ⟨H, hH⟩ : ∃ H : TH, H = ⟨(a0, n0, c0), (a1, n1, c1), ps0, ps1, (ad, nd, cd), (ac, nc, cc), (an, nn, cn), (af, nf, cf), (aw, nw, cw)⟩ := ⟨_, rfl⟩
  have hX2 : Box w2 w1.heap.size 28 (tcells H) := by rw [hH]; exact Y1
  have hT2 : TaIs w2 H t := by rw [hH]; exact Hm.out.below hbY
  have hB2 := hb1.trans (hbY.mono hb1.size)
  clear hH Hm hbY hb1
  generalize w1.heap.size = gt at *
  clear Y1
  go_wp2_with fail
  refine (ref_Syms l hl a ln lc w2 (hs.below hB2)).mono ?_
  rintro e w3 ⟨a3, c3, rfl, hO3, hb3⟩
  rw [HSS.out] at hO3 ⊢
  have hX3 := hX2.under hb3
  have hT3 := hT2.below hb3
  have hB3 := hB2.trans (hb3.mono hB2.size)
  have hS3 := hO3.sl
  clear hO3 hX2 hT2 hB2 hb3 hs hl
  have hY4 := Box.new w3 40 #[.int .i64 0, .bool false, .bool false, .int .i64 0, .bool true, .bool false, .int .i64 1, .bool false, .bool false, .int .i64 lang, .bool num, .bool wd]
  have al := blo w3 (.cells #[.int .i64 0, .bool false, .bool false, .int .i64 0, .bool true, .bool false, .int .i64 1, .bool false, .bool false, .int .i64 lang, .bool num, .bool wd] 40)
  have hX4 := hX3.under al
  have hT4 := hT3.below al
  have hS4 := hS3.below al
  have hB4 := hB3.trans (al.mono hB3.size)
  have HST : Hid (∀ k, k < 4 → ∃ s : St, ∀ (j : Nat) (u : Value), (scells s)[j]? = some u → ([.int .i64 0, .bool false, .bool false, .int .i64 0, .bool true, .bool false, .int .i64 1, .bool false, .bool false, .int .i64 lang, .bool num, .bool wd] : List Value)[k * 3 + j]? = some u) := hide (by
    intro k hk
    rcases k with _ | _ | _ | _ | k
    · exact ⟨⟨0, false, false⟩, fun j u hj => by rcases j with _ | _ | _ | j <;> first | exact hj | cases hj⟩
    · exact ⟨⟨0, true, false⟩, fun j u hj => by rcases j with _ | _ | _ | j <;> first | exact hj | cases hj⟩
    · exact ⟨⟨1, false, false⟩, fun j u hj => by rcases j with _ | _ | _ | j <;> first | exact hj | cases hj⟩
    · exact ⟨⟨lang, num, wd⟩, fun j u hj => by rcases j with _ | _ | _ | j <;> first | exact hj | cases hj⟩
    · omega)
  clear hX3 hT3 hS3 hB3 al
  go_wp2_with fail
  generalize w3.alloc (.cells _ 40) = w4 at *
  generalize w3.heap.size = gs at *
  go_loopg [22] (S.length + 2) (fun gh v w' => ∃ (j : Nat) (i : Int), j ≤ S.length + 2 ∧ gh = S.length + 2 - j ∧ v = .int .i64 i ∧ i = (j : Int) - 1 ∧ Below w4.heap.size w4 w')
  case atStart => exact ⟨0, -1, by omega, by omega, rfl, by omega, Below.refl _ _⟩
  case round =>
    obtain ⟨j, i, hj, hgj, rfl, hij, hbj⟩ := hrel
    have HGJ := hide hgj
    have HIJ := hide hij
    clear hgj
    by_cases hjl : j < S.length + 2
    · have e1 : decide (i ≤ (S.length : Int)) = true := decide_eq_true (by omega)
      have hi0 : -1 ≤ i := by omega
      have hi1 : i ≤ (S.length : Int) := by omega
      clear hij
      have hz4 := hbj.size
      go_wp2_with fail
      go_loopg [23] 4 (fun gh v w' => ∃ k : Nat, k ≤ 4 ∧ gh = 4 - k ∧ v = .int .i64 (k : Int) ∧ Below w4.heap.size w4 w')
      case atStart => exact ⟨0, by omega, by omega, rfl, hbj⟩
      case round =>
        obtain ⟨k, hk, hgk, rfl, hbk⟩ := hrel
        have HGK := hide hgk
        clear hgk
        by_cases hk4 : k < 4
        · obtain ⟨s, hs0⟩ := HST.out k hk4
          have f1 : decide (k < 4) = true := decide_eq_true hk4
          have f1' : decide ((k : Int) < 4) = true := decide_eq_true (by omega)
          have hXr := hX4.under hbk
          have hTr := hT4.below hbk
          have hSr := hS4.below hbk
          have HCS : Hid (∀ (j : Nat) (u : Value), (scells s)[j]? = some u → wr.cell? ⟨gs, k * 3 + j, none⟩ = some u) := hide (fun j u hj => (hY4.under hbk).at_ (hs0 j u hj))
          obtain ⟨L, HL⟩ : ∃ L, Hid (stepsL t s S i = L) := ⟨_, hide rfl⟩
          have hL1000 : L.length ≤ 1000 := by rw [← HL.out]; exact steps_few _ _ _ _
          clear hs0
          go_wp2_with fail
          refine wp_region_free 19 [⟨0, 50, [50], fun vs _ => vs = [H.v]⟩, ⟨1, 51, [51], fun vs _ => vs = [.slice (some ⟨gs, 0, none⟩) 4 4]⟩, ⟨2, 52, [52], fun vs _ => vs = [.int .i64 (k : Int)]⟩, ⟨3, 53, [53], fun vs _ => vs = [.pointer (some ⟨gs, k * 3, none⟩)]⟩, ⟨4, 54, [54], fun vs _ => vs = [sv s]⟩, ⟨5, 55, [55], fun vs _ => vs = [sv s]⟩, ⟨6, 56, [56], fun vs _ => vs = [.slice a3 S.length c3]⟩, ⟨7, 57, [57], fun vs _ => vs = [.int .i64 i]⟩, ⟨8, 58, [58], FStn L.length L⟩, ⟨9, 59, [59], FStn L.length L⟩, ⟨10, 60, [60], fun vs _ => vs = [H.v]⟩, ⟨11, 61, [61], fun vs _ => vs = [.slice (some ⟨gs, 0, none⟩) 4 4]⟩, ⟨12, 62, [62], fun vs _ => vs = [.int .i64 (k : Int)]⟩, ⟨13, 63, [63], fun vs _ => vs = [.pointer (some ⟨gs, k * 3, none⟩)]⟩, ⟨14, 64, [64], fun vs _ => vs = [sv s]⟩, ⟨15, 65, [65], fun vs _ => vs = [.slice a3 S.length c3]⟩, ⟨16, 66, [66], fun vs _ => vs = [.int .i64 i]⟩, ⟨17, 67, [67], FStn L.length L⟩, ⟨18, 68, [68], fun vs _ => vs = [.bool true]⟩] (by kernel_rfl) (by kernel_rfl) ?_ ?_ ?_
          · simp only [All]
            refine ⟨fun _ _ _ _ h => h, fun _ _ _ _ h => h, fun _ _ _ _ h => h, fun _ _ _ _ h => h, fun _ _ _ _ h => h, fun _ _ _ _ h => h, fun _ _ _ _ h => h, fun _ _ _ _ h => h, ?_, ?_, fun _ _ _ _ h => h, fun _ _ _ _ h => h, fun _ _ _ _ h => h, fun _ _ _ _ h => h, fun _ _ _ _ h => h, fun _ _ _ _ h => h, fun _ _ _ _ h => h, ?_, fun _ _ _ _ h => h, trivial⟩
            · exact fun _ _ _ hb h => h.below hb
            · exact fun _ _ _ hb h => h.below hb
            · exact fun _ _ _ hb h => h.below hb
          · simp only [All]
            refine ⟨?_, ?_, ?_, ?_, ?_, ?_, ?_, ?_, ?_, ?_, ?_, ?_, ?_, ?_, ?_, ?_, ?_, ?_, ?_, trivial⟩
            · intro o ho a' w' hb hfr hdep
              obtain rfl := Option.some.inj ho
              have g19 : a'.tmps[19]?.getD undef = .pointer (some ⟨gt, 0, none⟩) := by have h := hfr 19 (by kernel_rfl); simpa using h
              clear ho hfr hdep
              refine load_struct 50 28 _ 7 size_tables _ Try.underlying28 ⟨gt, 0, none⟩ (by show a'.tmps.getD 19 undef = _; simpa using g19) (tcells H) rfl (fun j u hj => by rw [Addr.add_lit, Nat.zero_add]; exact (hXr.under hb).at_ hj) ?_
              exact ⟨rfl, _, rfl, Below.refl _ _, rfl⟩
            · intro o ho a' w' hb hfr hdep
              obtain rfl := Option.some.inj ho
              have g21 : a'.tmps[21]?.getD undef = .slice (some ⟨gs, 0, none⟩) 4 4 := by have h := hfr 21 (by kernel_rfl); simpa using h
              clear ho hfr hdep
              go_wp2_with fail
              exact ⟨rfl, _, rfl, Below.refl _ _, rfl⟩
            · intro o ho a' w' hb hfr hdep
              obtain rfl := Option.some.inj ho
              have g23 : a'.tmps[23]?.getD undef = .int .i64 (k : Int) := by have h := hfr 23 (by kernel_rfl); simpa using h
              clear ho hfr hdep
              go_wp2_with fail
              exact ⟨rfl, _, rfl, Below.refl _ _, rfl⟩
            · intro o ho a' w' hb hfr hdep
              obtain rfl := Option.some.inj ho
              have g51 : a'.tmps[51]?.getD undef = .slice (some ⟨gs, 0, none⟩) 4 4 := by have h := hdep 1 _ rfl (by kernel_rfl); simpa using h
              have g52 : a'.tmps[52]?.getD undef = .int .i64 (k : Int) := by have h := hdep 2 _ rfl (by kernel_rfl); simpa using h
              clear ho hfr hdep
              go_wp2_with fail
              exact ⟨rfl, _, rfl, Below.refl _ _, rfl⟩
            · intro o ho a' w' hb hfr hdep
              obtain rfl := Option.some.inj ho
              have g53 : a'.tmps[53]?.getD undef = .pointer (some ⟨gs, k * 3, none⟩) := by have h := hdep 3 _ rfl (by kernel_rfl); simpa using h
              clear ho hfr hdep
              refine load_struct 54 40 _ 3 size_rst _ Try.underlying40 ⟨gs, k * 3, none⟩ (by show a'.tmps.getD 53 undef = _; simpa using g53) (scells s) rfl (fun j u hj => by rw [Addr.add_lit]; exact cell_below (HCS.out j u hj) hb) ?_
              exact ⟨rfl, _, rfl, Below.refl _ _, rfl⟩
            · intro o ho a' w' hb hfr hdep
              obtain rfl := Option.some.inj ho
              have g54 : a'.tmps[54]?.getD undef = sv s := by have h := hdep 4 _ rfl (by kernel_rfl); simpa using h
              clear ho hfr hdep
              go_wp2_with fail
              refine (law_own s _).mono ?_
              rintro e w2 ⟨rfl, h2⟩
              go_wp2_with fail
              exact ⟨rfl, _, rfl, h2, rfl⟩
            · intro o ho a' w' hb hfr hdep
              obtain rfl := Option.some.inj ho
              have g20 : a'.tmps[20]?.getD undef = .slice a3 S.length c3 := by have h := hfr 20 (by kernel_rfl); simpa using h
              clear ho hfr hdep
              go_wp2_with fail
              exact ⟨rfl, _, rfl, Below.refl _ _, rfl⟩
            · intro o ho a' w' hb hfr hdep
              obtain rfl := Option.some.inj ho
              have g22 : a'.tmps[22]?.getD undef = .int .i64 i := by have h := hfr 22 (by kernel_rfl); simpa using h
              clear ho hfr hdep
              go_wp2_with fail
              exact ⟨rfl, _, rfl, Below.refl _ _, rfl⟩
            · intro o ho a' w' hb hfr hdep
              obtain rfl := Option.some.inj ho
              have g50 : a'.tmps[50]?.getD undef = H.v := by have h := hdep 0 _ rfl (by kernel_rfl); simpa using h
              have g55 : a'.tmps[55]?.getD undef = sv s := by have h := hdep 5 _ rfl (by kernel_rfl); simpa using h
              have g56 : a'.tmps[56]?.getD undef = .slice a3 S.length c3 := by have h := hdep 6 _ rfl (by kernel_rfl); simpa using h
              have g57 : a'.tmps[57]?.getD undef = .int .i64 i := by have h := hdep 7 _ rfl (by kernel_rfl); simpa using h
              clear ho hfr hdep
              go_wp2_with fail
              refine (steps_of H t s S i HL.out _ _ _ hS24' _ (hTr.below hb) (hSr.below hb)).mono ?_
              rintro e w2 ⟨a, c, ps, rfl, h1, h2⟩
              go_wp2_with fail
              exact ⟨rfl, _, rfl, h2, a, c, ps, rfl, h1⟩
            · intro o ho a' w' hb hfr hdep
              obtain rfl := Option.some.inj ho
              obtain ⟨a58, c58, ps58, g58, hs58⟩ := hdep 8 _ rfl (by kernel_rfl)
              replace g58 : a'.tmps[58]?.getD undef = .slice a58 L.length c58 := by simpa using g58
              clear ho hfr hdep
              go_wp2_with fail
              refine (law_plain L ps58 a58 L.length c58 hL1000 _ hs58).mono ?_
              rintro e w2 ⟨a, c, ps, rfl, h1, h2⟩
              go_wp2_with fail
              exact ⟨rfl, _, rfl, h2, a, c, ps, rfl, h1⟩
            · intro o ho a' w' hb hfr hdep
              obtain rfl := Option.some.inj ho
              have g19 : a'.tmps[19]?.getD undef = .pointer (some ⟨gt, 0, none⟩) := by have h := hfr 19 (by kernel_rfl); simpa using h
              clear ho hfr hdep
              refine load_struct 60 28 _ 7 size_tables _ Try.underlying28 ⟨gt, 0, none⟩ (by show a'.tmps.getD 19 undef = _; simpa using g19) (tcells H) rfl (fun j u hj => by rw [Addr.add_lit, Nat.zero_add]; exact (hXr.under hb).at_ hj) ?_
              exact ⟨rfl, _, rfl, Below.refl _ _, rfl⟩
            · intro o ho a' w' hb hfr hdep
              obtain rfl := Option.some.inj ho
              have g21 : a'.tmps[21]?.getD undef = .slice (some ⟨gs, 0, none⟩) 4 4 := by have h := hfr 21 (by kernel_rfl); simpa using h
              clear ho hfr hdep
              go_wp2_with fail
              exact ⟨rfl, _, rfl, Below.refl _ _, rfl⟩
            · intro o ho a' w' hb hfr hdep
              obtain rfl := Option.some.inj ho
              have g23 : a'.tmps[23]?.getD undef = .int .i64 (k : Int) := by have h := hfr 23 (by kernel_rfl); simpa using h
              clear ho hfr hdep
              go_wp2_with fail
              exact ⟨rfl, _, rfl, Below.refl _ _, rfl⟩
            · intro o ho a' w' hb hfr hdep
              obtain rfl := Option.some.inj ho
              have g61 : a'.tmps[61]?.getD undef = .slice (some ⟨gs, 0, none⟩) 4 4 := by have h := hdep 11 _ rfl (by kernel_rfl); simpa using h
              have g62 : a'.tmps[62]?.getD undef = .int .i64 (k : Int) := by have h := hdep 12 _ rfl (by kernel_rfl); simpa using h
              clear ho hfr hdep
              go_wp2_with fail
              exact ⟨rfl, _, rfl, Below.refl _ _, rfl⟩
            · intro o ho a' w' hb hfr hdep
              obtain rfl := Option.some.inj ho
              have g63 : a'.tmps[63]?.getD undef = .pointer (some ⟨gs, k * 3, none⟩) := by have h := hdep 13 _ rfl (by kernel_rfl); simpa using h
              clear ho hfr hdep
              refine load_struct 64 40 _ 3 size_rst _ Try.underlying40 ⟨gs, k * 3, none⟩ (by show a'.tmps.getD 63 undef = _; simpa using g63) (scells s) rfl (fun j u hj => by rw [Addr.add_lit]; exact cell_below (HCS.out j u hj) hb) ?_
              exact ⟨rfl, _, rfl, Below.refl _ _, rfl⟩
            · intro o ho a' w' hb hfr hdep
              obtain rfl := Option.some.inj ho
              have g20 : a'.tmps[20]?.getD undef = .slice a3 S.length c3 := by have h := hfr 20 (by kernel_rfl); simpa using h
              clear ho hfr hdep
              go_wp2_with fail
              exact ⟨rfl, _, rfl, Below.refl _ _, rfl⟩
            · intro o ho a' w' hb hfr hdep
              obtain rfl := Option.some.inj ho
              have g22 : a'.tmps[22]?.getD undef = .int .i64 i := by have h := hfr 22 (by kernel_rfl); simpa using h
              clear ho hfr hdep
              go_wp2_with fail
              exact ⟨rfl, _, rfl, Below.refl _ _, rfl⟩
            · intro o ho a' w' hb hfr hdep
              obtain rfl := Option.some.inj ho
              have g60 : a'.tmps[60]?.getD undef = H.v := by have h := hdep 10 _ rfl (by kernel_rfl); simpa using h
              have g64 : a'.tmps[64]?.getD undef = sv s := by have h := hdep 14 _ rfl (by kernel_rfl); simpa using h
              have g65 : a'.tmps[65]?.getD undef = .slice a3 S.length c3 := by have h := hdep 15 _ rfl (by kernel_rfl); simpa using h
              have g66 : a'.tmps[66]?.getD undef = .int .i64 i := by have h := hdep 16 _ rfl (by kernel_rfl); simpa using h
              clear ho hfr hdep
              go_wp2_with fail
              refine (rsteps_of H t s S i HL.out _ _ _ hS24' _ (hTr.below hb) (hSr.below hb)).mono ?_
              rintro e w2 ⟨a, c, ps, rfl, h1, h2⟩
              go_wp2_with fail
              exact ⟨rfl, _, rfl, h2, a, c, ps, rfl, h1⟩
            · intro o ho a' w' hb hfr hdep
              obtain rfl := Option.some.inj ho
              obtain ⟨a59, c59, ps59, g59, hs59⟩ := hdep 9 _ rfl (by kernel_rfl)
              replace g59 : a'.tmps[59]?.getD undef = .slice a59 L.length c59 := by simpa using g59
              obtain ⟨a67, c67, ps67, g67, hs67⟩ := hdep 17 _ rfl (by kernel_rfl)
              replace g67 : a'.tmps[67]?.getD undef = .slice a67 L.length c67 := by simpa using g67
              clear ho hfr hdep
              go_wp2_with fail
              refine (ref_SameSteps L ps59 ps67 a59 a67 L.length c59 c67 hL1000 _ hs59 hs67).mono ?_
              rintro e w2 ⟨rfl, h2⟩
              go_wp2_with fail
              exact ⟨rfl, _, rfl, h2, rfl⟩
          · intro gg w15 hb15 hp15
            have p68 := hp15 18 _ rfl
            clear hp15
            simp at p68
            simp only [List.drop_succ_cons, List.drop_zero, List.map_cons, List.map_nil, putAll, Act.put, List.setIfInBounds_toArray, List.set_cons_succ, List.set_cons_zero, List.cons_append, List.nil_append, p68]
            clear p68
            have hbz := hbk.trans (hb15.mono hbk.size)
            go_wp2_with fail
            go_roundg (4 - (k + 1))
            case measure => have := HGK.out; omega
            case rel => exact ⟨k + 1, by omega, rfl, by go_num, hbz⟩
        · obtain rfl : k = 4 := by omega
          go_wp2_with fail
          go_roundg (S.length + 2 - (j + 1))
          case measure => have := HGJ.out; omega
          case rel => exact ⟨j + 1, i + 1, by omega, rfl, by go_num, by have := HIJ.out; omega, hbk⟩
    · have e1 : decide (i ≤ (S.length : Int)) = false := decide_eq_false (by omega)
      clear hij
      have hXr := hX4.under hbj
      have hTr := hT4.below hbj
      have hSr := hS4.below hbj
      have hYr := hY4.under hbj
      have hBr := hB4.trans (hbj.mono hB4.size)
      clear hX4 hT4 hS4 hY4
      go_wp2_with (with_reducible refine load_struct 70 28 _ 7 size_tables _ Try.underlying28 ⟨gt, 0, none⟩ rfl (tcells H) rfl (fun j u hj => by rw [Addr.add_lit, Nat.zero_add]; exact hXr.at_ hj) ?_)
      refine (ref_Bent H t 900 (by decide) at_ how by_ HAT.out HHOW.out HBY.out _ hTr HZT.out).mono ?_
      rintro e w5 ⟨Hb, tb, rfl, hTb, _, hb5⟩
      have hX5 := hXr.under hb5
      have hT5 := hTr.below hb5
      have hS5 := hSr.below hb5
      have hY5 := hYr.under hb5
      have hB5 := hBr.trans (hb5.mono hBr.size)
      have Hm := hide hTb
      clear hTb hXr hTr hSr hYr hBr
      obtain ⟨⟨a0, n0, c0⟩, ⟨a1, n1, c1⟩, ps0, ps1, ⟨ad, nd, cd⟩, ⟨ac, nc, cc⟩, ⟨an, nn, cn⟩, ⟨af, nf, cf⟩, ⟨aw, nw, cw⟩⟩ := Hb
      unfold TH.v
      simp only [hdv]
      have Y1 := Box.new w5 28 #[.slice a0 n0 c0, .slice a1 n1 c1, .slice ad nd cd, .slice ac nc cc, .slice an nn cn, .slice af nf cf, .slice aw nw cw]
      have hbY := blo w5 (.cells #[.slice a0 n0 c0, .slice a1 n1 c1, .slice ad nd cd, .slice ac nc cc, .slice an nn cn, .slice af nf cf, .slice aw nw cw] 28)
      go_upto_region 13 with fail
      generalize w5.alloc (.cells _ 28) = w6 at *
      obtain ⟨Hb, hH⟩ : ∃ H : TH, H = ⟨(a0, n0, c0), (a1, n1, c1), ps0, ps1, (ad, nd, cd), (ac, nc, cc), (an, nn, cn), (af, nf, cf), (aw, nw, cw)⟩ := ⟨_, rfl⟩
      have hXb6 : Box w6 w5.heap.size 28 (tcells Hb) := by rw [hH]; exact Y1
      have hTb6 : TaIs w6 Hb tb := by rw [hH]; exact Hm.out.below hbY
      have hX6 := hX5.under hbY
      have hT6 := hT5.below hbY
      have hS6 := hS5.below hbY
      have hY6 := hY5.under hbY
      have hB6 := hB5.trans (hbY.mono hB5.size)
      have hm6 := hsm.below hB6
      clear hH Hm hbY hX5 hT5 hS5 hY5 hB5 Y1 hb5 hsm
      generalize w5.heap.size = gb at *
      go_wp2_with fail
      refine (law_raw m am mn mc w6 hm6).mono ?_
      rintro e w7 ⟨rfl, hR6, rfl⟩
      obtain ⟨R, hR⟩ : ∃ R, R = m.take 40 := ⟨_, rfl⟩
      rw [← hR] at hR6
      have hR40 : R.length ≤ 1000000 := by rw [hR, List.length_take]; omega
      clear hR hm6
      go_wp2_with fail
      go_loopg [26] 3 (fun gh v w' => ∃ k : Nat, k ≤ 3 ∧ gh = 3 - k ∧ v = .int .i64 (k : Int) ∧ Below w6.heap.size w6 w')
      case atStart => exact ⟨0, by omega, by omega, rfl, Below.refl _ _⟩
      case round =>
        obtain ⟨k, hk, hgk, rfl, hbk⟩ := hrel
        have HGK := hide hgk
        clear hgk
        by_cases hk3 : k < 3
        · obtain ⟨s, hs0⟩ := HST.out k (by omega)
          have f1 : decide (k < 3) = true := decide_eq_true hk3
          have f1' : decide ((k : Int) < 3) = true := decide_eq_true (by omega)
          have hX9 := hX6.under hbk
          have hT9 := hT6.below hbk
          have hS9 := hS6.below hbk
          have hR9 := hR6.below hbk
          have hXb9 := hXb6.under hbk
          have hTb9 := hTb6.below hbk
          have HCS : Hid (∀ (j : Nat) (u : Value), (scells s)[j]? = some u → wr.cell? ⟨gs, k * 3 + j, none⟩ = some u) := hide (fun j u hj => (hY6.under hbk).at_ (hs0 j u hj))
          obtain ⟨L2, HL2⟩ : ∃ L, Hid (stepsL t s R (wrap64 (at_ + (k : Int))) = L) := ⟨_, hide rfl⟩
          have hL2k : L2.length ≤ 1000 := by rw [← HL2.out]; exact steps_few _ _ _ _
          clear hs0
          go_wp2_with fail
          refine (around_ex (S.length + 1) (wrap64 (by_ + (k : Int))) _ _ (by simp) (wrap_in _) (by omega) (by omega)).mono ?_
          rintro e wz ⟨r, hr, rfl, rfl⟩
          obtain ⟨L1, HL1⟩ : ∃ L, Hid (stepsL tb s S (r : Int) = L) := ⟨_, hide rfl⟩
          have hL1k : L1.length ≤ 1000 := by rw [← HL1.out]; exact steps_few _ _ _ _
          go_wp2_with fail
          refine wp_region_free 45 [⟨0, 88, [88], fun vs _ => vs = [Hb.v]⟩, ⟨1, 89, [89], fun vs _ => vs = [.slice (some ⟨gs, 0, none⟩) 4 4]⟩, ⟨2, 90, [90], fun vs _ => vs = [.int .i64 (k : Int)]⟩, ⟨3, 91, [91], fun vs _ => vs = [.pointer (some ⟨gs, k * 3, none⟩)]⟩, ⟨4, 92, [92], fun vs _ => vs = [sv s]⟩, ⟨5, 93, [93], fun vs _ => vs = [sv s]⟩, ⟨6, 94, [94], fun vs _ => vs = [.slice a3 S.length c3]⟩, ⟨7, 95, [95], fun vs _ => vs = [.int .i64 (r : Int)]⟩, ⟨8, 96, [96], FStn L1.length L1⟩, ⟨9, 97, [97], FStn L1.length L1⟩, ⟨10, 98, [98], fun vs _ => vs = [Hb.v]⟩, ⟨11, 99, [99], fun vs _ => vs = [.slice (some ⟨gs, 0, none⟩) 4 4]⟩, ⟨12, 100, [100], fun vs _ => vs = [.int .i64 (k : Int)]⟩, ⟨13, 101, [101], fun vs _ => vs = [.pointer (some ⟨gs, k * 3, none⟩)]⟩, ⟨14, 102, [102], fun vs _ => vs = [sv s]⟩, ⟨15, 103, [103], fun vs _ => vs = [.slice a3 S.length c3]⟩, ⟨16, 104, [104], fun vs _ => vs = [.int .i64 (r : Int)]⟩, ⟨17, 105, [105], FStn L1.length L1⟩, ⟨18, 106, [106], fun vs _ => vs = [.bool true]⟩, ⟨19, 107, [107], fun vs _ => vs = [.bool false]⟩, ⟨20, 108, [108], fun vs _ => vs = [.bool false]⟩, ⟨21, 109, [109], fun vs _ => vs = [H.v]⟩, ⟨22, 110, [110], fun vs _ => vs = [.slice (some ⟨gs, 0, none⟩) 4 4]⟩, ⟨23, 111, [111], fun vs _ => vs = [.int .i64 (k : Int)]⟩, ⟨24, 112, [112], fun vs _ => vs = [.pointer (some ⟨gs, k * 3, none⟩)]⟩, ⟨25, 113, [113], fun vs _ => vs = [sv s]⟩, ⟨26, 114, [114], fun vs _ => vs = [sv s]⟩, ⟨27, 115, [115], fun vs _ => vs = [.slice am (min mn 40) mc]⟩, ⟨28, 116, [116], fun vs _ => vs = [.int .i64 at_]⟩, ⟨29, 117, [117], fun vs _ => vs = [.int .i64 (k : Int)]⟩, ⟨30, 118, [118], fun vs _ => vs = [.int .i64 (wrap64 (at_ + (k : Int)))]⟩, ⟨31, 119, [119], FStn L2.length L2⟩, ⟨32, 120, [120], FStn L2.length L2⟩, ⟨33, 121, [121], fun vs _ => vs = [H.v]⟩, ⟨34, 122, [122], fun vs _ => vs = [.slice (some ⟨gs, 0, none⟩) 4 4]⟩, ⟨35, 123, [123], fun vs _ => vs = [.int .i64 (k : Int)]⟩, ⟨36, 124, [124], fun vs _ => vs = [.pointer (some ⟨gs, k * 3, none⟩)]⟩, ⟨37, 125, [125], fun vs _ => vs = [sv s]⟩, ⟨38, 126, [126], fun vs _ => vs = [.slice am (min mn 40) mc]⟩, ⟨39, 127, [127], fun vs _ => vs = [.int .i64 at_]⟩, ⟨40, 128, [128], fun vs _ => vs = [.int .i64 (k : Int)]⟩, ⟨41, 129, [129], fun vs _ => vs = [.int .i64 (wrap64 (at_ + (k : Int)))]⟩, ⟨42, 130, [130], FStn L2.length L2⟩, ⟨43, 131, [131], fun vs _ => vs = [.bool true]⟩, ⟨44, 132, [132], fun vs _ => vs = [.bool false]⟩] (by kernel_rfl) (by kernel_rfl) ?_ ?_ ?_
          · simp only [All]
            refine ⟨fun _ _ _ _ h => h, fun _ _ _ _ h => h, fun _ _ _ _ h => h, fun _ _ _ _ h => h, fun _ _ _ _ h => h, fun _ _ _ _ h => h, fun _ _ _ _ h => h, fun _ _ _ _ h => h, ?_, ?_, fun _ _ _ _ h => h, fun _ _ _ _ h => h, fun _ _ _ _ h => h, fun _ _ _ _ h => h, fun _ _ _ _ h => h, fun _ _ _ _ h => h, fun _ _ _ _ h => h, ?_, fun _ _ _ _ h => h, fun _ _ _ _ h => h, fun _ _ _ _ h => h, fun _ _ _ _ h => h, fun _ _ _ _ h => h, fun _ _ _ _ h => h, fun _ _ _ _ h => h, fun _ _ _ _ h => h, fun _ _ _ _ h => h, fun _ _ _ _ h => h, fun _ _ _ _ h => h, fun _ _ _ _ h => h, fun _ _ _ _ h => h, ?_, ?_, fun _ _ _ _ h => h, fun _ _ _ _ h => h, fun _ _ _ _ h => h, fun _ _ _ _ h => h, fun _ _ _ _ h => h, fun _ _ _ _ h => h, fun _ _ _ _ h => h, fun _ _ _ _ h => h, fun _ _ _ _ h => h, ?_, fun _ _ _ _ h => h, fun _ _ _ _ h => h, trivial⟩
            · exact fun _ _ _ hb h => h.below hb
            · exact fun _ _ _ hb h => h.below hb
            · exact fun _ _ _ hb h => h.below hb
            · exact fun _ _ _ hb h => h.below hb
            · exact fun _ _ _ hb h => h.below hb
            · exact fun _ _ _ hb h => h.below hb
          · simp only [All]
            refine ⟨?_, ?_, ?_, ?_, ?_, ?_, ?_, ?_, ?_, ?_, ?_, ?_, ?_, ?_, ?_, ?_, ?_, ?_, ?_, ?_, ?_, ?_, ?_, ?_, ?_, ?_, ?_, ?_, ?_, ?_, ?_, ?_, ?_, ?_, ?_, ?_, ?_, ?_, ?_, ?_, ?_, ?_, ?_, ?_, ?_, trivial⟩
            · intro o ho a' w' hb hfr hdep
              obtain rfl := Option.some.inj ho
              have g24 : a'.tmps[24]?.getD undef = .pointer (some ⟨gb, 0, none⟩) := by have h := hfr 24 (by kernel_rfl); simpa using h
              clear ho hfr hdep
              refine load_struct 88 28 _ 7 size_tables _ Try.underlying28 ⟨gb, 0, none⟩ (by show a'.tmps.getD 24 undef = _; simpa using g24) (tcells Hb) rfl (fun j u hj => by rw [Addr.add_lit, Nat.zero_add]; exact (hXb9.under hb).at_ hj) ?_
              exact ⟨rfl, _, rfl, Below.refl _ _, rfl⟩
            · intro o ho a' w' hb hfr hdep
              obtain rfl := Option.some.inj ho
              have g21 : a'.tmps[21]?.getD undef = .slice (some ⟨gs, 0, none⟩) 4 4 := by have h := hfr 21 (by kernel_rfl); simpa using h
              clear ho hfr hdep
              go_wp2_with fail
              exact ⟨rfl, _, rfl, Below.refl _ _, rfl⟩
            · intro o ho a' w' hb hfr hdep
              obtain rfl := Option.some.inj ho
              have g26 : a'.tmps[26]?.getD undef = .int .i64 (k : Int) := by have h := hfr 26 (by kernel_rfl); simpa using h
              clear ho hfr hdep
              go_wp2_with fail
              exact ⟨rfl, _, rfl, Below.refl _ _, rfl⟩
            · intro o ho a' w' hb hfr hdep
              obtain rfl := Option.some.inj ho
              have g89 : a'.tmps[89]?.getD undef = .slice (some ⟨gs, 0, none⟩) 4 4 := by have h := hdep 1 _ rfl (by kernel_rfl); simpa using h
              have g90 : a'.tmps[90]?.getD undef = .int .i64 (k : Int) := by have h := hdep 2 _ rfl (by kernel_rfl); simpa using h
              clear ho hfr hdep
              go_wp2_with fail
              exact ⟨rfl, _, rfl, Below.refl _ _, rfl⟩
            · intro o ho a' w' hb hfr hdep
              obtain rfl := Option.some.inj ho
              have g91 : a'.tmps[91]?.getD undef = .pointer (some ⟨gs, k * 3, none⟩) := by have h := hdep 3 _ rfl (by kernel_rfl); simpa using h
              clear ho hfr hdep
              refine load_struct 92 40 _ 3 size_rst _ Try.underlying40 ⟨gs, k * 3, none⟩ (by show a'.tmps.getD 91 undef = _; simpa using g91) (scells s) rfl (fun j u hj => by rw [Addr.add_lit]; exact cell_below (HCS.out j u hj) hb) ?_
              exact ⟨rfl, _, rfl, Below.refl _ _, rfl⟩
            · intro o ho a' w' hb hfr hdep
              obtain rfl := Option.some.inj ho
              have g92 : a'.tmps[92]?.getD undef = sv s := by have h := hdep 4 _ rfl (by kernel_rfl); simpa using h
              clear ho hfr hdep
              go_wp2_with fail
              refine (law_own s _).mono ?_
              rintro e w2 ⟨rfl, h2⟩
              go_wp2_with fail
              exact ⟨rfl, _, rfl, h2, rfl⟩
            · intro o ho a' w' hb hfr hdep
              obtain rfl := Option.some.inj ho
              have g20 : a'.tmps[20]?.getD undef = .slice a3 S.length c3 := by have h := hfr 20 (by kernel_rfl); simpa using h
              clear ho hfr hdep
              go_wp2_with fail
              exact ⟨rfl, _, rfl, Below.refl _ _, rfl⟩
            · intro o ho a' w' hb hfr hdep
              obtain rfl := Option.some.inj ho
              have g27 : a'.tmps[27]?.getD undef = .int .i64 (r : Int) := by have h := hfr 27 (by kernel_rfl); simpa using h
              clear ho hfr hdep
              go_wp2_with fail
              exact ⟨rfl, _, rfl, Below.refl _ _, rfl⟩
            · intro o ho a' w' hb hfr hdep
              obtain rfl := Option.some.inj ho
              have g88 : a'.tmps[88]?.getD undef = Hb.v := by have h := hdep 0 _ rfl (by kernel_rfl); simpa using h
              have g93 : a'.tmps[93]?.getD undef = sv s := by have h := hdep 5 _ rfl (by kernel_rfl); simpa using h
              have g94 : a'.tmps[94]?.getD undef = .slice a3 S.length c3 := by have h := hdep 6 _ rfl (by kernel_rfl); simpa using h
              have g95 : a'.tmps[95]?.getD undef = .int .i64 (r : Int) := by have h := hdep 7 _ rfl (by kernel_rfl); simpa using h
              clear ho hfr hdep
              go_wp2_with fail
              refine (steps_of Hb tb s S (r : Int) HL1.out _ _ _ hS24' _ (hTb9.below hb) (hS9.below hb)).mono ?_
              rintro e w2 ⟨a, c, ps, rfl, h1, h2⟩
              go_wp2_with fail
              exact ⟨rfl, _, rfl, h2, a, c, ps, rfl, h1⟩
            · intro o ho a' w' hb hfr hdep
              obtain rfl := Option.some.inj ho
              obtain ⟨a96, c96, ps96, g96, hs96⟩ := hdep 8 _ rfl (by kernel_rfl)
              replace g96 : a'.tmps[96]?.getD undef = .slice a96 L1.length c96 := by simpa using g96
              clear ho hfr hdep
              go_wp2_with fail
              refine (law_plain L1 ps96 a96 L1.length c96 hL1k _ hs96).mono ?_
              rintro e w2 ⟨a, c, ps, rfl, h1, h2⟩
              go_wp2_with fail
              exact ⟨rfl, _, rfl, h2, a, c, ps, rfl, h1⟩
            · intro o ho a' w' hb hfr hdep
              obtain rfl := Option.some.inj ho
              have g24 : a'.tmps[24]?.getD undef = .pointer (some ⟨gb, 0, none⟩) := by have h := hfr 24 (by kernel_rfl); simpa using h
              clear ho hfr hdep
              refine load_struct 98 28 _ 7 size_tables _ Try.underlying28 ⟨gb, 0, none⟩ (by show a'.tmps.getD 24 undef = _; simpa using g24) (tcells Hb) rfl (fun j u hj => by rw [Addr.add_lit, Nat.zero_add]; exact (hXb9.under hb).at_ hj) ?_
              exact ⟨rfl, _, rfl, Below.refl _ _, rfl⟩
            · intro o ho a' w' hb hfr hdep
              obtain rfl := Option.some.inj ho
              have g21 : a'.tmps[21]?.getD undef = .slice (some ⟨gs, 0, none⟩) 4 4 := by have h := hfr 21 (by kernel_rfl); simpa using h
              clear ho hfr hdep
              go_wp2_with fail
              exact ⟨rfl, _, rfl, Below.refl _ _, rfl⟩
            · intro o ho a' w' hb hfr hdep
              obtain rfl := Option.some.inj ho
              have g26 : a'.tmps[26]?.getD undef = .int .i64 (k : Int) := by have h := hfr 26 (by kernel_rfl); simpa using h
              clear ho hfr hdep
              go_wp2_with fail
              exact ⟨rfl, _, rfl, Below.refl _ _, rfl⟩
            · intro o ho a' w' hb hfr hdep
              obtain rfl := Option.some.inj ho
              have g99 : a'.tmps[99]?.getD undef = .slice (some ⟨gs, 0, none⟩) 4 4 := by have h := hdep 11 _ rfl (by kernel_rfl); simpa using h
              have g100 : a'.tmps[100]?.getD undef = .int .i64 (k : Int) := by have h := hdep 12 _ rfl (by kernel_rfl); simpa using h
              clear ho hfr hdep
              go_wp2_with fail
              exact ⟨rfl, _, rfl, Below.refl _ _, rfl⟩
            · intro o ho a' w' hb hfr hdep
              obtain rfl := Option.some.inj ho
              have g101 : a'.tmps[101]?.getD undef = .pointer (some ⟨gs, k * 3, none⟩) := by have h := hdep 13 _ rfl (by kernel_rfl); simpa using h
              clear ho hfr hdep
              refine load_struct 102 40 _ 3 size_rst _ Try.underlying40 ⟨gs, k * 3, none⟩ (by show a'.tmps.getD 101 undef = _; simpa using g101) (scells s) rfl (fun j u hj => by rw [Addr.add_lit]; exact cell_below (HCS.out j u hj) hb) ?_
              exact ⟨rfl, _, rfl, Below.refl _ _, rfl⟩
            · intro o ho a' w' hb hfr hdep
              obtain rfl := Option.some.inj ho
              have g20 : a'.tmps[20]?.getD undef = .slice a3 S.length c3 := by have h := hfr 20 (by kernel_rfl); simpa using h
              clear ho hfr hdep
              go_wp2_with fail
              exact ⟨rfl, _, rfl, Below.refl _ _, rfl⟩
            · intro o ho a' w' hb hfr hdep
              obtain rfl := Option.some.inj ho
              have g27 : a'.tmps[27]?.getD undef = .int .i64 (r : Int) := by have h := hfr 27 (by kernel_rfl); simpa using h
              clear ho hfr hdep
              go_wp2_with fail
              exact ⟨rfl, _, rfl, Below.refl _ _, rfl⟩
            · intro o ho a' w' hb hfr hdep
              obtain rfl := Option.some.inj ho
              have g98 : a'.tmps[98]?.getD undef = Hb.v := by have h := hdep 10 _ rfl (by kernel_rfl); simpa using h
              have g102 : a'.tmps[102]?.getD undef = sv s := by have h := hdep 14 _ rfl (by kernel_rfl); simpa using h
              have g103 : a'.tmps[103]?.getD undef = .slice a3 S.length c3 := by have h := hdep 15 _ rfl (by kernel_rfl); simpa using h
              have g104 : a'.tmps[104]?.getD undef = .int .i64 (r : Int) := by have h := hdep 16 _ rfl (by kernel_rfl); simpa using h
              clear ho hfr hdep
              go_wp2_with fail
              refine (rsteps_of Hb tb s S (r : Int) HL1.out _ _ _ hS24' _ (hTb9.below hb) (hS9.below hb)).mono ?_
              rintro e w2 ⟨a, c, ps, rfl, h1, h2⟩
              go_wp2_with fail
              exact ⟨rfl, _, rfl, h2, a, c, ps, rfl, h1⟩
            · intro o ho a' w' hb hfr hdep
              obtain rfl := Option.some.inj ho
              obtain ⟨a97, c97, ps97, g97, hs97⟩ := hdep 9 _ rfl (by kernel_rfl)
              replace g97 : a'.tmps[97]?.getD undef = .slice a97 L1.length c97 := by simpa using g97
              obtain ⟨a105, c105, ps105, g105, hs105⟩ := hdep 17 _ rfl (by kernel_rfl)
              replace g105 : a'.tmps[105]?.getD undef = .slice a105 L1.length c105 := by simpa using g105
              clear ho hfr hdep
              go_wp2_with fail
              refine (ref_SameSteps L1 ps97 ps105 a97 a105 L1.length c97 c105 hL1k _ hs97 hs105).mono ?_
              rintro e w2 ⟨rfl, h2⟩
              go_wp2_with fail
              exact ⟨rfl, _, rfl, h2, rfl⟩
            · intro o ho a' w' hb hfr hdep
              obtain rfl := Option.some.inj ho
              have g106 : a'.tmps[106]?.getD undef = .bool true := by have h := hdep 18 _ rfl (by kernel_rfl); simpa using h
              clear ho hfr hdep
              go_wp2_with fail
              exact ⟨rfl, _, rfl, Below.refl _ _, rfl⟩
            · intro o ho a' w' hb hfr hdep
              obtain rfl := Option.some.inj ho
              have g107 : a'.tmps[107]?.getD undef = .bool false := by have h := hdep 19 _ rfl (by kernel_rfl); simpa using h
              clear ho hfr hdep
              go_wp2_with fail
              exact ⟨rfl, _, rfl, Below.refl _ _, rfl⟩
            · intro o ho a' w' hb hfr hdep
              obtain rfl := Option.some.inj ho
              have g19 : a'.tmps[19]?.getD undef = .pointer (some ⟨gt, 0, none⟩) := by have h := hfr 19 (by kernel_rfl); simpa using h
              have g108 : a'.tmps[108]?.getD undef = .bool false := by have h := hdep 20 _ rfl (by kernel_rfl); simpa using h
              have q108 := opt_bool g108
              clear ho hfr hdep
              refine unguard_any (by simp [Region.wanted, yielded, q108]) ?_
              refine load_struct 109 28 _ 7 size_tables _ Try.underlying28 ⟨gt, 0, none⟩ (by show a'.tmps.getD 19 undef = _; simpa using g19) (tcells H) rfl (fun j u hj => by rw [Addr.add_lit, Nat.zero_add]; exact (hX9.under hb).at_ hj) ?_
              exact ⟨rfl, _, rfl, Below.refl _ _, rfl⟩
            · intro o ho a' w' hb hfr hdep
              obtain rfl := Option.some.inj ho
              have g21 : a'.tmps[21]?.getD undef = .slice (some ⟨gs, 0, none⟩) 4 4 := by have h := hfr 21 (by kernel_rfl); simpa using h
              have g108 : a'.tmps[108]?.getD undef = .bool false := by have h := hdep 20 _ rfl (by kernel_rfl); simpa using h
              have q108 := opt_bool g108
              clear ho hfr hdep
              refine unguard_any (by simp [Region.wanted, yielded, q108]) ?_
              go_wp2_with fail
              exact ⟨rfl, _, rfl, Below.refl _ _, rfl⟩
            · intro o ho a' w' hb hfr hdep
              obtain rfl := Option.some.inj ho
              have g26 : a'.tmps[26]?.getD undef = .int .i64 (k : Int) := by have h := hfr 26 (by kernel_rfl); simpa using h
              have g108 : a'.tmps[108]?.getD undef = .bool false := by have h := hdep 20 _ rfl (by kernel_rfl); simpa using h
              have q108 := opt_bool g108
              clear ho hfr hdep
              refine unguard_any (by simp [Region.wanted, yielded, q108]) ?_
              go_wp2_with fail
              exact ⟨rfl, _, rfl, Below.refl _ _, rfl⟩
            · intro o ho a' w' hb hfr hdep
              obtain rfl := Option.some.inj ho
              have g110 : a'.tmps[110]?.getD undef = .slice (some ⟨gs, 0, none⟩) 4 4 := by have h := hdep 22 _ rfl (by kernel_rfl); simpa using h
              have g111 : a'.tmps[111]?.getD undef = .int .i64 (k : Int) := by have h := hdep 23 _ rfl (by kernel_rfl); simpa using h
              have g108 : a'.tmps[108]?.getD undef = .bool false := by have h := hdep 20 _ rfl (by kernel_rfl); simpa using h
              have q108 := opt_bool g108
              clear ho hfr hdep
              refine unguard_any (by simp [Region.wanted, yielded, q108]) ?_
              go_wp2_with fail
              exact ⟨rfl, _, rfl, Below.refl _ _, rfl⟩
            · intro o ho a' w' hb hfr hdep
              obtain rfl := Option.some.inj ho
              have g112 : a'.tmps[112]?.getD undef = .pointer (some ⟨gs, k * 3, none⟩) := by have h := hdep 24 _ rfl (by kernel_rfl); simpa using h
              have g108 : a'.tmps[108]?.getD undef = .bool false := by have h := hdep 20 _ rfl (by kernel_rfl); simpa using h
              have q108 := opt_bool g108
              clear ho hfr hdep
              refine unguard_any (by simp [Region.wanted, yielded, q108]) ?_
              refine load_struct 113 40 _ 3 size_rst _ Try.underlying40 ⟨gs, k * 3, none⟩ (by show a'.tmps.getD 112 undef = _; simpa using g112) (scells s) rfl (fun j u hj => by rw [Addr.add_lit]; exact cell_below (HCS.out j u hj) hb) ?_
              exact ⟨rfl, _, rfl, Below.refl _ _, rfl⟩
            · intro o ho a' w' hb hfr hdep
              obtain rfl := Option.some.inj ho
              have g113 : a'.tmps[113]?.getD undef = sv s := by have h := hdep 25 _ rfl (by kernel_rfl); simpa using h
              have g108 : a'.tmps[108]?.getD undef = .bool false := by have h := hdep 20 _ rfl (by kernel_rfl); simpa using h
              have q108 := opt_bool g108
              clear ho hfr hdep
              refine unguard_any (by simp [Region.wanted, yielded, q108]) ?_
              go_wp2_with fail
              refine (law_own s _).mono ?_
              rintro e w2 ⟨rfl, h2⟩
              go_wp2_with fail
              exact ⟨rfl, _, rfl, h2, rfl⟩
            · intro o ho a' w' hb hfr hdep
              obtain rfl := Option.some.inj ho
              have g25 : a'.tmps[25]?.getD undef = .slice am (min mn 40) mc := by have h := hfr 25 (by kernel_rfl); simpa using h
              have g108 : a'.tmps[108]?.getD undef = .bool false := by have h := hdep 20 _ rfl (by kernel_rfl); simpa using h
              have q108 := opt_bool g108
              clear ho hfr hdep
              refine unguard_any (by simp [Region.wanted, yielded, q108]) ?_
              go_wp2_with fail
              exact ⟨rfl, _, rfl, Below.refl _ _, rfl⟩
            · intro o ho a' w' hb hfr hdep
              obtain rfl := Option.some.inj ho
              have g1 : a'.tmps[1]?.getD undef = .int .i64 at_ := by have h := hfr 1 (by kernel_rfl); simpa using h
              have g108 : a'.tmps[108]?.getD undef = .bool false := by have h := hdep 20 _ rfl (by kernel_rfl); simpa using h
              have q108 := opt_bool g108
              clear ho hfr hdep
              refine unguard_any (by simp [Region.wanted, yielded, q108]) ?_
              go_wp2_with fail
              exact ⟨rfl, _, rfl, Below.refl _ _, rfl⟩
            · intro o ho a' w' hb hfr hdep
              obtain rfl := Option.some.inj ho
              have g26 : a'.tmps[26]?.getD undef = .int .i64 (k : Int) := by have h := hfr 26 (by kernel_rfl); simpa using h
              have g108 : a'.tmps[108]?.getD undef = .bool false := by have h := hdep 20 _ rfl (by kernel_rfl); simpa using h
              have q108 := opt_bool g108
              clear ho hfr hdep
              refine unguard_any (by simp [Region.wanted, yielded, q108]) ?_
              go_wp2_with fail
              exact ⟨rfl, _, rfl, Below.refl _ _, rfl⟩
            · intro o ho a' w' hb hfr hdep
              obtain rfl := Option.some.inj ho
              have g116 : a'.tmps[116]?.getD undef = .int .i64 at_ := by have h := hdep 28 _ rfl (by kernel_rfl); simpa using h
              have g117 : a'.tmps[117]?.getD undef = .int .i64 (k : Int) := by have h := hdep 29 _ rfl (by kernel_rfl); simpa using h
              have g108 : a'.tmps[108]?.getD undef = .bool false := by have h := hdep 20 _ rfl (by kernel_rfl); simpa using h
              have q108 := opt_bool g108
              clear ho hfr hdep
              refine unguard_any (by simp [Region.wanted, yielded, q108]) ?_
              go_wp2_with fail
              exact ⟨rfl, _, rfl, Below.refl _ _, rfl⟩
            · intro o ho a' w' hb hfr hdep
              obtain rfl := Option.some.inj ho
              have g109 : a'.tmps[109]?.getD undef = H.v := by have h := hdep 21 _ rfl (by kernel_rfl); simpa using h
              have g114 : a'.tmps[114]?.getD undef = sv s := by have h := hdep 26 _ rfl (by kernel_rfl); simpa using h
              have g115 : a'.tmps[115]?.getD undef = .slice am (min mn 40) mc := by have h := hdep 27 _ rfl (by kernel_rfl); simpa using h
              have g118 : a'.tmps[118]?.getD undef = .int .i64 (wrap64 (at_ + (k : Int))) := by have h := hdep 30 _ rfl (by kernel_rfl); simpa using h
              have g108 : a'.tmps[108]?.getD undef = .bool false := by have h := hdep 20 _ rfl (by kernel_rfl); simpa using h
              have q108 := opt_bool g108
              clear ho hfr hdep
              refine unguard_any (by simp [Region.wanted, yielded, q108]) ?_
              go_wp2_with fail
              refine (steps_of H t s R (wrap64 (at_ + (k : Int))) HL2.out _ _ _ hR40 _ (hT9.below hb) (hR9.below hb)).mono ?_
              rintro e w2 ⟨a, c, ps, rfl, h1, h2⟩
              go_wp2_with fail
              exact ⟨rfl, _, rfl, h2, a, c, ps, rfl, h1⟩
            · intro o ho a' w' hb hfr hdep
              obtain rfl := Option.some.inj ho
              obtain ⟨a119, c119, ps119, g119, hs119⟩ := hdep 31 _ rfl (by kernel_rfl)
              replace g119 : a'.tmps[119]?.getD undef = .slice a119 L2.length c119 := by simpa using g119
              have g108 : a'.tmps[108]?.getD undef = .bool false := by have h := hdep 20 _ rfl (by kernel_rfl); simpa using h
              have q108 := opt_bool g108
              clear ho hfr hdep
              refine unguard_any (by simp [Region.wanted, yielded, q108]) ?_
              go_wp2_with fail
              refine (law_plain L2 ps119 a119 L2.length c119 hL2k _ hs119).mono ?_
              rintro e w2 ⟨a, c, ps, rfl, h1, h2⟩
              go_wp2_with fail
              exact ⟨rfl, _, rfl, h2, a, c, ps, rfl, h1⟩
            · intro o ho a' w' hb hfr hdep
              obtain rfl := Option.some.inj ho
              have g19 : a'.tmps[19]?.getD undef = .pointer (some ⟨gt, 0, none⟩) := by have h := hfr 19 (by kernel_rfl); simpa using h
              have g108 : a'.tmps[108]?.getD undef = .bool false := by have h := hdep 20 _ rfl (by kernel_rfl); simpa using h
              have q108 := opt_bool g108
              clear ho hfr hdep
              refine unguard_any (by simp [Region.wanted, yielded, q108]) ?_
              refine load_struct 121 28 _ 7 size_tables _ Try.underlying28 ⟨gt, 0, none⟩ (by show a'.tmps.getD 19 undef = _; simpa using g19) (tcells H) rfl (fun j u hj => by rw [Addr.add_lit, Nat.zero_add]; exact (hX9.under hb).at_ hj) ?_
              exact ⟨rfl, _, rfl, Below.refl _ _, rfl⟩
            · intro o ho a' w' hb hfr hdep
              obtain rfl := Option.some.inj ho
              have g21 : a'.tmps[21]?.getD undef = .slice (some ⟨gs, 0, none⟩) 4 4 := by have h := hfr 21 (by kernel_rfl); simpa using h
              have g108 : a'.tmps[108]?.getD undef = .bool false := by have h := hdep 20 _ rfl (by kernel_rfl); simpa using h
              have q108 := opt_bool g108
              clear ho hfr hdep
              refine unguard_any (by simp [Region.wanted, yielded, q108]) ?_
              go_wp2_with fail
              exact ⟨rfl, _, rfl, Below.refl _ _, rfl⟩
            · intro o ho a' w' hb hfr hdep
              obtain rfl := Option.some.inj ho
              have g26 : a'.tmps[26]?.getD undef = .int .i64 (k : Int) := by have h := hfr 26 (by kernel_rfl); simpa using h
              have g108 : a'.tmps[108]?.getD undef = .bool false := by have h := hdep 20 _ rfl (by kernel_rfl); simpa using h
              have q108 := opt_bool g108
              clear ho hfr hdep
              refine unguard_any (by simp [Region.wanted, yielded, q108]) ?_
              go_wp2_with fail
              exact ⟨rfl, _, rfl, Below.refl _ _, rfl⟩
            · intro o ho a' w' hb hfr hdep
              obtain rfl := Option.some.inj ho
              have g122 : a'.tmps[122]?.getD undef = .slice (some ⟨gs, 0, none⟩) 4 4 := by have h := hdep 34 _ rfl (by kernel_rfl); simpa using h
              have g123 : a'.tmps[123]?.getD undef = .int .i64 (k : Int) := by have h := hdep 35 _ rfl (by kernel_rfl); simpa using h
              have g108 : a'.tmps[108]?.getD undef = .bool false := by have h := hdep 20 _ rfl (by kernel_rfl); simpa using h
              have q108 := opt_bool g108
              clear ho hfr hdep
              refine unguard_any (by simp [Region.wanted, yielded, q108]) ?_
              go_wp2_with fail
              exact ⟨rfl, _, rfl, Below.refl _ _, rfl⟩
            · intro o ho a' w' hb hfr hdep
              obtain rfl := Option.some.inj ho
              have g124 : a'.tmps[124]?.getD undef = .pointer (some ⟨gs, k * 3, none⟩) := by have h := hdep 36 _ rfl (by kernel_rfl); simpa using h
              have g108 : a'.tmps[108]?.getD undef = .bool false := by have h := hdep 20 _ rfl (by kernel_rfl); simpa using h
              have q108 := opt_bool g108
              clear ho hfr hdep
              refine unguard_any (by simp [Region.wanted, yielded, q108]) ?_
              refine load_struct 125 40 _ 3 size_rst _ Try.underlying40 ⟨gs, k * 3, none⟩ (by show a'.tmps.getD 124 undef = _; simpa using g124) (scells s) rfl (fun j u hj => by rw [Addr.add_lit]; exact cell_below (HCS.out j u hj) hb) ?_
              exact ⟨rfl, _, rfl, Below.refl _ _, rfl⟩
            · intro o ho a' w' hb hfr hdep
              obtain rfl := Option.some.inj ho
              have g25 : a'.tmps[25]?.getD undef = .slice am (min mn 40) mc := by have h := hfr 25 (by kernel_rfl); simpa using h
              have g108 : a'.tmps[108]?.getD undef = .bool false := by have h := hdep 20 _ rfl (by kernel_rfl); simpa using h
              have q108 := opt_bool g108
              clear ho hfr hdep
              refine unguard_any (by simp [Region.wanted, yielded, q108]) ?_
              go_wp2_with fail
              exact ⟨rfl, _, rfl, Below.refl _ _, rfl⟩
            · intro o ho a' w' hb hfr hdep
              obtain rfl := Option.some.inj ho
              have g1 : a'.tmps[1]?.getD undef = .int .i64 at_ := by have h := hfr 1 (by kernel_rfl); simpa using h
              have g108 : a'.tmps[108]?.getD undef = .bool false := by have h := hdep 20 _ rfl (by kernel_rfl); simpa using h
              have q108 := opt_bool g108
              clear ho hfr hdep
              refine unguard_any (by simp [Region.wanted, yielded, q108]) ?_
              go_wp2_with fail
              exact ⟨rfl, _, rfl, Below.refl _ _, rfl⟩
            · intro o ho a' w' hb hfr hdep
              obtain rfl := Option.some.inj ho
              have g26 : a'.tmps[26]?.getD undef = .int .i64 (k : Int) := by have h := hfr 26 (by kernel_rfl); simpa using h
              have g108 : a'.tmps[108]?.getD undef = .bool false := by have h := hdep 20 _ rfl (by kernel_rfl); simpa using h
              have q108 := opt_bool g108
              clear ho hfr hdep
              refine unguard_any (by simp [Region.wanted, yielded, q108]) ?_
              go_wp2_with fail
              exact ⟨rfl, _, rfl, Below.refl _ _, rfl⟩
            · intro o ho a' w' hb hfr hdep
              obtain rfl := Option.some.inj ho
              have g127 : a'.tmps[127]?.getD undef = .int .i64 at_ := by have h := hdep 39 _ rfl (by kernel_rfl); simpa using h
              have g128 : a'.tmps[128]?.getD undef = .int .i64 (k : Int) := by have h := hdep 40 _ rfl (by kernel_rfl); simpa using h
              have g108 : a'.tmps[108]?.getD undef = .bool false := by have h := hdep 20 _ rfl (by kernel_rfl); simpa using h
              have q108 := opt_bool g108
              clear ho hfr hdep
              refine unguard_any (by simp [Region.wanted, yielded, q108]) ?_
              go_wp2_with fail
              exact ⟨rfl, _, rfl, Below.refl _ _, rfl⟩
            · intro o ho a' w' hb hfr hdep
              obtain rfl := Option.some.inj ho
              have g121 : a'.tmps[121]?.getD undef = H.v := by have h := hdep 33 _ rfl (by kernel_rfl); simpa using h
              have g125 : a'.tmps[125]?.getD undef = sv s := by have h := hdep 37 _ rfl (by kernel_rfl); simpa using h
              have g126 : a'.tmps[126]?.getD undef = .slice am (min mn 40) mc := by have h := hdep 38 _ rfl (by kernel_rfl); simpa using h
              have g129 : a'.tmps[129]?.getD undef = .int .i64 (wrap64 (at_ + (k : Int))) := by have h := hdep 41 _ rfl (by kernel_rfl); simpa using h
              have g108 : a'.tmps[108]?.getD undef = .bool false := by have h := hdep 20 _ rfl (by kernel_rfl); simpa using h
              have q108 := opt_bool g108
              clear ho hfr hdep
              refine unguard_any (by simp [Region.wanted, yielded, q108]) ?_
              go_wp2_with fail
              refine (rsteps_of H t s R (wrap64 (at_ + (k : Int))) HL2.out _ _ _ hR40 _ (hT9.below hb) (hR9.below hb)).mono ?_
              rintro e w2 ⟨a, c, ps, rfl, h1, h2⟩
              go_wp2_with fail
              exact ⟨rfl, _, rfl, h2, a, c, ps, rfl, h1⟩
            · intro o ho a' w' hb hfr hdep
              obtain rfl := Option.some.inj ho
              obtain ⟨a120, c120, ps120, g120, hs120⟩ := hdep 32 _ rfl (by kernel_rfl)
              replace g120 : a'.tmps[120]?.getD undef = .slice a120 L2.length c120 := by simpa using g120
              obtain ⟨a130, c130, ps130, g130, hs130⟩ := hdep 42 _ rfl (by kernel_rfl)
              replace g130 : a'.tmps[130]?.getD undef = .slice a130 L2.length c130 := by simpa using g130
              have g108 : a'.tmps[108]?.getD undef = .bool false := by have h := hdep 20 _ rfl (by kernel_rfl); simpa using h
              have q108 := opt_bool g108
              clear ho hfr hdep
              refine unguard_any (by simp [Region.wanted, yielded, q108]) ?_
              go_wp2_with fail
              refine (ref_SameSteps L2 ps120 ps130 a120 a130 L2.length c120 c130 hL2k _ hs120 hs130).mono ?_
              rintro e w2 ⟨rfl, h2⟩
              go_wp2_with fail
              exact ⟨rfl, _, rfl, h2, rfl⟩
            · intro o ho a' w' hb hfr hdep
              obtain rfl := Option.some.inj ho
              have g131 : a'.tmps[131]?.getD undef = .bool true := by have h := hdep 43 _ rfl (by kernel_rfl); simpa using h
              have g108 : a'.tmps[108]?.getD undef = .bool false := by have h := hdep 20 _ rfl (by kernel_rfl); simpa using h
              have q108 := opt_bool g108
              clear ho hfr hdep
              refine unguard_any (by simp [Region.wanted, yielded, q108]) ?_
              go_wp2_with fail
              exact ⟨rfl, _, rfl, Below.refl _ _, rfl⟩
          · intro gg w15 hb15 hp15
            have p108 := hp15 20 _ rfl
            have p132 := hp15 44 _ rfl
            clear hp15
            simp at p108 p132
            simp only [List.drop_succ_cons, List.drop_zero, List.map_cons, List.map_nil, putAll, Act.put, List.setIfInBounds_toArray, List.set_cons_succ, List.set_cons_zero, List.cons_append, List.nil_append, p108, p132]
            clear p108 p132
            have hbz := hbk.trans (hb15.mono hbk.size)
            go_wp2_with fail
            go_roundg (3 - (k + 1))
            case measure => have := HGK.out; omega
            case rel => exact ⟨k + 1, by omega, rfl, by go_num, hbz⟩
        · obtain rfl : k = 3 := by omega
          go_wp2_with fail
          refine (law06_lives _).mono ?_
          rintro e w18 ⟨rfl, hb18⟩
          go_wp2_with fail
          go_ret
          have hbz := hB6.trans (hbk.mono hB6.size)
          exact ⟨rfl, hbz.trans (hb18.mono hbz.size)⟩
end Go.Proofs.Ytkjcbneanaeleaa
end
