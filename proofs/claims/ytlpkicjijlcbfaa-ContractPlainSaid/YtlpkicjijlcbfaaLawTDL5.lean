/- Chapter 08: the walk of ContractPlain. -/
import Derived.Test.YtlpkicjijlcbfaaBaseTA
set_option linter.unusedVariables false
set_option linter.unusedSimpArgs false
namespace Go.Dx
theorem trC_le_plC (t : Ta) (l : List Sy) : (trC t l).length ≤ (plC t l).length := by
  by_cases h : trE t l = 0
  · obtain ⟨hf, hn⟩ := trE_ok h
    obtain ⟨hv, hg, h2⟩ := fitsE_ok hf
    have h1 := trC_len hv hg h
    have hp := plE_eq t l
    rw [h] at hp
    unfold plC
    rw [if_neg (by simp [hf])]
    unfold plE at hp
    rw [if_neg (by simp [hf])] at hp
    cases hq : plainT t l with
    | none => rw [hq, if_pos rfl] at hp; cases hp
    | some c =>
      have h3 := (plain_law hv hg).2 c hq
      have h4 : numV t l = valA (numT t l) 0 s00 := rfl
      rw [h4] at h1
      show (trC t l).length ≤ c.length
      omega
  · unfold trC
    rw [if_neg h]
    exact Nat.zero_le _
end Go.Dx
namespace Go.Proofs.Ytlpkicjijlcbfaa
open Go.RowKit Go.Dx Go.Al
set_option maxRecDepth 100000 in
set_option maxHeartbeats 8000000 in
theorem walk_ContractPlain (n : Int) (l : List Int) (a : Option Addr) (ln lc : Nat) (by_ : Int) (w : World) (hs : Sl w 1 a ln lc (l.map I64)) (hl : ∀ x ∈ l, -9223372036854775808 ≤ x ∧ x ≤ 9223372036854775807)
    (hn : -9223372036854775808 ≤ n ∧ n ≤ 9223372036854775807) (hby : -9223372036854775808 ≤ by_ ∧ by_ ≤ 9223372036854775807) :
    Calls Try.prog 4 #[.int .i64 n, .slice a ln lc, .int .i64 by_] w fun e w' => e = .returned (.bool true) ∧ Below w.heap.size w w' := by
  have HBY := hide hby
  clear hby
  obtain ⟨S, HSS⟩ : ∃ S, Hid (symsL l = S) := ⟨_, hide rfl⟩
  have hSok := symsL_ok l
  rw [HSS.out] at hSok
  have hS24 := hSok.2
  have hgS : goodS S = true := by
    unfold goodS
    rw [List.all_eq_true]
    intro x hx
    have h := hSok.1 x hx
    unfold plainSy at h
    rw [Bool.and_eq_true] at h
    exact h.1
  have HGS := hide hgS
  clear hSok hgS
  go_enter Try.func4, Try.ntmps4
  go_wp2_with fail
  refine (ref_Tables n hn.1 hn.2 w).mono ?_
  rintro e w1 ⟨H, t, rfl, hT, hG, hb1⟩
  have HV : Hid (validE t = 0) := hide hG.ok
  clear hG
  have Hm := hide hT
  clear hT
  obtain ⟨⟨a0, n0, c0⟩, ⟨a1, n1, c1⟩, ps0, ps1, ⟨ad, nd, cd⟩, ⟨ac, nc, cc⟩, ⟨an, nn, cn⟩, ⟨af, nf, cf⟩, ⟨aw, nw, cw⟩⟩ := H
  unfold TH.v
  simp only [hdv]
  have Y1 := Box.new w1 29 #[.slice a0 n0 c0, .slice a1 n1 c1, .slice ad nd cd, .slice ac nc cc, .slice an nn cn, .slice af nf cf, .slice aw nw cw]
  have hbY := blo w1 (.cells #[.slice a0 n0 c0, .slice a1 n1 c1, .slice ad nd cd, .slice ac nc cc, .slice an nn cn, .slice af nf cf, .slice aw nw cw] 29)
  go_wp2_with fail
  generalize w1.alloc (.cells _ 29) = w2 at *
  obtain ⟨H, hH⟩ : ∃ H : TH, H = ⟨(a0, n0, c0), (a1, n1, c1), ps0, ps1, (ad, nd, cd), (ac, nc, cc), (an, nn, cn), (af, nf, cf), (aw, nw, cw)⟩ := ⟨_, rfl⟩
  have hX2 : Box w2 w1.heap.size 29 (tcells H) := by rw [hH]; exact Y1
  have hT2 : TaIs w2 H t := by rw [hH]; exact Hm.out.below hbY
  have hB2 := hb1.trans (hbY.mono hb1.size)
  clear hH Hm hbY hb1 Y1
  generalize w1.heap.size = gT at *
  refine (ref_Syms l hl a ln lc w2 (hs.below hB2)).mono ?_
  rintro e w3 ⟨a3, c3, rfl, hO3, hb3⟩
  rw [HSS.out] at hO3 ⊢
  have HX3 := hX2.under hb3
  have HT3 := hT2.below hb3
  have hB3 := hB2.trans (hb3.mono hB2.size)
  have HS3 := hO3.sl
  clear hO3 hX2 hT2 hB2 hb3 hs hn hl HSS
  obtain ⟨N, hN⟩ : ∃ N, Hid (S.length = N) := ⟨_, hide rfl⟩
  rw [hN.out] at HS3 hS24 ⊢
  obtain ⟨X0, hX0⟩ : ∃ x, oddS by_ = x := ⟨_, rfl⟩
  have hodd1 := hide (law8_odd S a3 N c3 by_ w3 HS3 (by omega) HBY.out)
  rw [hX0] at hodd1
  go_wp2_with (go_at_call 11; refine hodd1.out.mono ?_; rintro e w4 ⟨a4, c4, rfl, hO4, hb4⟩; refine hold ?_)
  refine hide ?_
  have HX4 := HX3.under hb4
  have HT4 := HT3.below hb4
  have HS4 := HS3.below hb4
  have hB4 := hB3.trans (hb4.mono hB3.size)
  have hO44 := hO4.sl
  clear HX3 HT3 HS3 hB3 hb4 hodd1 hX0 hO4
  have hL5 := Box.new w4 31 #[.slice a3 N c3, .slice a4 (N + 1) c4]
  have hb5 := blo w4 (.cells #[.slice a3 N c3, .slice a4 (N + 1) c4] 31)
  go_upto_region 4 with fail
  generalize w4.alloc (.cells _ 31) = w5 at *
  obtain ⟨gX, hgX⟩ : ∃ g, Hid (w4.heap.size = g) := ⟨_, hide rfl⟩
  rw [hgX.out] at hL5 ⊢
  have HX5 := HX4.under hb5
  have HT5 := HT4.below hb5
  have htx : Hid (∀ k, k < 2 → ∃ (xa : Option Addr) (xn xc : Nat) (X : List Sy), ([.slice a3 N c3, .slice a4 (N + 1) c4] : List Value)[k]? = some (.slice xa xn xc) ∧ Sl w5 2 xa xn xc (X.flatMap sc)) := hide (fun k hk => by
    match k, hk with
    | 0, _ => exact ⟨_, _, _, S, rfl, HS4.below hb5⟩
    | 1, _ => exact ⟨_, _, _, _, rfl, hO44.below hb5⟩
    | k + 2, h => omega)
  have hB5 := hB4.trans (hb5.mono hB4.size)
  have hL5 : Box w5 gX 31 [.slice a3 N c3, .slice a4 (N + 1) c4] := hL5
  obtain ⟨HDS, hHD⟩ : ∃ L : List Value, Hid (L = [.slice a3 N c3, .slice a4 (N + 1) c4]) := ⟨_, hide rfl⟩
  rw [← hHD.out] at hL5 htx
  clear HX4 HT4 HS4 hO44 hB4 hb5 hHD
  go_wp2_with fail
  go_loopg [10] 2 (fun gh v w' => ∃ i : Nat, i ≤ 2 ∧ gh = 2 - i ∧ v = .int .i64 (i : Int) ∧ Below w5.heap.size w5 w')
  case atStart => exact ⟨0, Nat.zero_le _, rfl, rfl, Below.refl _ _⟩
  case round =>
    obtain ⟨i, hi, rfl, rfl, hb0⟩ := hrel
    by_cases hi2 : i < 2
    · have d0 : decide ((i : Int) < 2) = true := decide_eq_true (by omega)
      obtain ⟨xa, xn, xc, X, hxk, hXS0⟩ := htx.out i hi2
      have HXr := HX5.under hb0
      have HTr := HT5.below hb0
      have hXS := hXS0.below hb0
      have cX : wr.cell? ⟨gX, i, none⟩ = some (.slice xa xn xc) := cell_below (hL5.at_ hxk) hb0
      have hbw := hb0
      clear hxk hXS0 hb0
      obtain ⟨TX, hTX⟩ : ∃ X', Hid (trE t X = X') := ⟨_, hide rfl⟩
      have hPX : Hid (plE t X = TX) := hide (by rw [plE_eq, hTX.out])
      obtain ⟨PC, hPC⟩ : ∃ X', Hid (plC t X = X') := ⟨_, hide rfl⟩
      obtain ⟨TC, hTC⟩ : ∃ X', Hid (trC t X = X') := ⟨_, hide rfl⟩
      obtain ⟨TK, hTK⟩ : ∃ X', Hid (trK t X = X') := ⟨_, hide rfl⟩
      obtain ⟨TA, hTA⟩ : ∃ X', Hid (trA t X = X') := ⟨_, hide rfl⟩
      have hle : TC.length ≤ PC.length := by rw [← hTC.out, ← hPC.out]; exact trC_le_plC t X
      have HLE := hide hle
      clear hle
      go_wp2_with fail
      refine wp_region_free 10 [⟨0, 31, [31], fun vs _ => vs = [H.v]⟩, ⟨1, 32, [32], fun vs _ => vs = [.slice (some ⟨gX, 0, none⟩) 2 2]⟩, ⟨2, 33, [33], fun vs _ => vs = [.int .i64 (i : Int)]⟩, ⟨3, 34, [34], fun vs _ => vs = [.pointer (some ⟨gX, i, none⟩)]⟩, ⟨4, 35, [35], fun vs _ => vs = [.slice xa xn xc]⟩, ⟨5, 36, [36], fun vs w => ∃ a n c, vs = [.tuple #[.slice a n c, .int .i64 TX]] ∧ Sl w 1 a n c (PC.map B8)⟩, ⟨6, 30, [30], fun vs w => ∃ a n c, vs = [.tuple #[.slice a n c, .int .i64 TX]] ∧ Sl w 1 a n c (PC.map B8)⟩, ⟨7, 37, [37], fun vs w => ∃ a n c, vs = [.slice a n c] ∧ Sl w 1 a n c (PC.map B8)⟩, ⟨8, 38, [38], fun vs _ => vs = [.int .i64 TX]⟩, ⟨9, 11, [11], fun vs w => ∃ a n c, vs = [.slice a n c] ∧ Sl w 1 a n c (PC.map B8)⟩] (by kernel_rfl) (by kernel_rfl) ?_ ?_ ?_
      · simp only [All]
        refine ⟨fun _ _ _ _ h => h, fun _ _ _ _ h => h, fun _ _ _ _ h => h, fun _ _ _ _ h => h, fun _ _ _ _ h => h, ?_, ?_, ?_, fun _ _ _ _ h => h, ?_, trivial⟩
        · exact fun vs w1 w2 hb ⟨a, n, c, h1, h2⟩ => ⟨a, n, c, h1, h2.below hb⟩
        · exact fun vs w1 w2 hb ⟨a, n, c, h1, h2⟩ => ⟨a, n, c, h1, h2.below hb⟩
        · exact fun vs w1 w2 hb ⟨a, n, c, h1, h2⟩ => ⟨a, n, c, h1, h2.below hb⟩
        · exact fun vs w1 w2 hb ⟨a, n, c, h1, h2⟩ => ⟨a, n, c, h1, h2.below hb⟩
      · simp only [All]
        refine ⟨?_, ?_, ?_, ?_, ?_, ?_, ?_, ?_, ?_, ?_, trivial⟩
        · intro o ho a' w' hb hfr hdep
          obtain rfl := Option.some.inj ho
          have g7 : a'.tmps[7]?.getD undef = .pointer (some ⟨gT, 0, none⟩) := by have h := hfr 7 (by kernel_rfl); simpa using h
          clear ho hfr hdep
          refine load_struct 31 29 _ 7 size_tables _ Try.underlying29 ⟨gT, 0, none⟩ (by show a'.tmps.getD 7 undef = _; simpa using g7) (tcells H) rfl (fun j u hj => by rw [Addr.add_lit, Nat.zero_add]; exact (HXr.under hb).at_ hj) ?_
          exact ⟨rfl, _, rfl, Below.refl _ _, rfl⟩
        · intro o ho a' w' hb hfr hdep
          obtain rfl := Option.some.inj ho
          have g9 : a'.tmps[9]?.getD undef = .slice (some ⟨gX, 0, none⟩) 2 2 := by have h := hfr 9 (by kernel_rfl); simpa using h
          clear ho hfr hdep
          go_wp2_with fail
          exact ⟨rfl, _, rfl, Below.refl _ _, rfl⟩
        · intro o ho a' w' hb hfr hdep
          obtain rfl := Option.some.inj ho
          have g10 : a'.tmps[10]?.getD undef = .int .i64 (i : Int) := by have h := hfr 10 (by kernel_rfl); simpa using h
          clear ho hfr hdep
          go_wp2_with fail
          exact ⟨rfl, _, rfl, Below.refl _ _, rfl⟩
        · intro o ho a' w' hb hfr hdep
          obtain rfl := Option.some.inj ho
          have g32 : a'.tmps[32]?.getD undef = .slice (some ⟨gX, 0, none⟩) 2 2 := by have h := hdep 1 _ rfl (by kernel_rfl); simpa using h
          have g33 : a'.tmps[33]?.getD undef = .int .i64 (i : Int) := by have h := hdep 2 _ rfl (by kernel_rfl); simpa using h
          clear ho hfr hdep
          refine index_known 34 34 _ _ 31 Try.underlying34 size_sys gX 2 2 (by show a'.tmps.getD 32 undef = _; simpa using g32) _ _ i (by show a'.tmps.getD 33 undef = _; simpa using g33) rfl hi2 ?_
          exact ⟨rfl, _, rfl, Below.refl _ _, rfl⟩
        · intro o ho a' w' hb hfr hdep
          obtain rfl := Option.some.inj ho
          have g34 : a'.tmps[34]?.getD undef = .pointer (some ⟨gX, i, none⟩) := by have h := hdep 3 _ rfl (by kernel_rfl); simpa using h
          clear ho hfr hdep
          have hcl := cell_below cX hb
          go_wp2_with fail
          exact ⟨rfl, _, rfl, Below.refl _ _, rfl⟩
        · intro o ho a' w' hb hfr hdep
          obtain rfl := Option.some.inj ho
          have g31 : a'.tmps[31]?.getD undef = H.v := by have h := hdep 0 _ rfl (by kernel_rfl); simpa using h
          have g35 : a'.tmps[35]?.getD undef = .slice xa xn xc := by have h := hdep 4 _ rfl (by kernel_rfl); simpa using h
          clear ho hfr hdep
          have hpl := hide (con_Plain H t X xa xn xc w' (HTr.below hb) (hXS.below hb))
          go_wp2_with (go_at_call 18; refine hpl.out.mono ?_; rintro e w3 ⟨⟨a, n, c, rfl, hpa⟩, h3⟩)
          rw [hPX.out, hPC.out] at *
          exact ⟨rfl, _, rfl, h3, a, n, c, rfl, hpa⟩
        · intro o ho a' w' hb hfr hdep
          obtain rfl := Option.some.inj ho
          obtain ⟨a36, n36, c36, g36, s36⟩ := hdep 5 _ rfl (by kernel_rfl)
          simp at g36
          clear ho hfr hdep
          go_wp2_with fail
          exact ⟨rfl, _, rfl, Below.refl _ _, a36, n36, c36, rfl, s36⟩
        · intro o ho a' w' hb hfr hdep
          obtain rfl := Option.some.inj ho
          obtain ⟨a30, n30, c30, g30, s30⟩ := hdep 6 _ rfl (by kernel_rfl)
          simp at g30
          clear ho hfr hdep
          go_wp2_with fail
          exact ⟨rfl, _, rfl, Below.refl _ _, a30, n30, c30, rfl, s30⟩
        · intro o ho a' w' hb hfr hdep
          obtain rfl := Option.some.inj ho
          obtain ⟨a30, n30, c30, g30, s30⟩ := hdep 6 _ rfl (by kernel_rfl)
          simp at g30
          clear ho hfr hdep
          go_wp2_with fail
          exact ⟨rfl, _, rfl, Below.refl _ _, rfl⟩
        · intro o ho a' w' hb hfr hdep
          obtain rfl := Option.some.inj ho
          obtain ⟨a37, n37, c37, g37, s37⟩ := hdep 7 _ rfl (by kernel_rfl)
          simp at g37
          clear ho hfr hdep
          go_wp2_with fail
          exact ⟨rfl, _, rfl, Below.refl _ _, a37, n37, c37, rfl, s37⟩
      · intro gg w72 hb72 hp'
        obtain ⟨P, nP, kP, e72, hP72⟩ := hp' 9 _ rfl
        have p72 := hp' 8 _ rfl
        clear hp'
        simp at e72 p72
        simp only [List.drop_succ_cons, List.drop_zero, List.map_cons, List.map_nil, putAll, Act.put, List.setIfInBounds_toArray, List.set_cons_succ, List.set_cons_zero, List.cons_append, List.nil_append, e72, p72]
        clear e72 p72
        have HX72 := HXr.under hb72
        have HT72 := HTr.below hb72
        have hXS72 := hXS.below hb72
        have cX72 := cell_below cX hb72
        have hbw72 := hbw.trans (hb72.mono hbw.size)
        clear HXr HTr hXS cX hbw hb72
        go_wp2_with fail
        refine wp_region_free 10 [⟨0, 40, [40], fun vs _ => vs = [H.v]⟩, ⟨1, 41, [41], fun vs _ => vs = [.slice (some ⟨gX, 0, none⟩) 2 2]⟩, ⟨2, 42, [42], fun vs _ => vs = [.int .i64 (i : Int)]⟩, ⟨3, 43, [43], fun vs _ => vs = [.pointer (some ⟨gX, i, none⟩)]⟩, ⟨4, 44, [44], fun vs _ => vs = [.slice xa xn xc]⟩, ⟨5, 45, [45], fun vs w => ∃ a n c, vs = [.tuple #[.slice a n c, .int .i64 TX]] ∧ Sl w 1 a n c (PC.map B8)⟩, ⟨6, 39, [39], fun vs w => ∃ a n c, vs = [.tuple #[.slice a n c, .int .i64 TX]] ∧ Sl w 1 a n c (PC.map B8)⟩, ⟨7, 46, [46], fun vs w => ∃ a n c, vs = [.slice a n c] ∧ Sl w 1 a n c (PC.map B8)⟩, ⟨8, 47, [47], fun vs _ => vs = [.int .i64 TX]⟩, ⟨9, 13, [13], fun vs w => ∃ a n c, vs = [.slice a n c] ∧ Sl w 1 a n c (PC.map B8)⟩] (by kernel_rfl) (by kernel_rfl) ?_ ?_ ?_
        · simp only [All]
          refine ⟨fun _ _ _ _ h => h, fun _ _ _ _ h => h, fun _ _ _ _ h => h, fun _ _ _ _ h => h, fun _ _ _ _ h => h, ?_, ?_, ?_, fun _ _ _ _ h => h, ?_, trivial⟩
          · exact fun vs w1 w2 hb ⟨a, n, c, h1, h2⟩ => ⟨a, n, c, h1, h2.below hb⟩
          · exact fun vs w1 w2 hb ⟨a, n, c, h1, h2⟩ => ⟨a, n, c, h1, h2.below hb⟩
          · exact fun vs w1 w2 hb ⟨a, n, c, h1, h2⟩ => ⟨a, n, c, h1, h2.below hb⟩
          · exact fun vs w1 w2 hb ⟨a, n, c, h1, h2⟩ => ⟨a, n, c, h1, h2.below hb⟩
        · simp only [All]
          refine ⟨?_, ?_, ?_, ?_, ?_, ?_, ?_, ?_, ?_, ?_, trivial⟩
          · intro o ho a' w' hb hfr hdep
            obtain rfl := Option.some.inj ho
            have g7 : a'.tmps[7]?.getD undef = .pointer (some ⟨gT, 0, none⟩) := by have h := hfr 7 (by kernel_rfl); simpa using h
            clear ho hfr hdep
            refine load_struct 40 29 _ 7 size_tables _ Try.underlying29 ⟨gT, 0, none⟩ (by show a'.tmps.getD 7 undef = _; simpa using g7) (tcells H) rfl (fun j u hj => by rw [Addr.add_lit, Nat.zero_add]; exact (HX72.under hb).at_ hj) ?_
            exact ⟨rfl, _, rfl, Below.refl _ _, rfl⟩
          · intro o ho a' w' hb hfr hdep
            obtain rfl := Option.some.inj ho
            have g9 : a'.tmps[9]?.getD undef = .slice (some ⟨gX, 0, none⟩) 2 2 := by have h := hfr 9 (by kernel_rfl); simpa using h
            clear ho hfr hdep
            go_wp2_with fail
            exact ⟨rfl, _, rfl, Below.refl _ _, rfl⟩
          · intro o ho a' w' hb hfr hdep
            obtain rfl := Option.some.inj ho
            have g10 : a'.tmps[10]?.getD undef = .int .i64 (i : Int) := by have h := hfr 10 (by kernel_rfl); simpa using h
            clear ho hfr hdep
            go_wp2_with fail
            exact ⟨rfl, _, rfl, Below.refl _ _, rfl⟩
          · intro o ho a' w' hb hfr hdep
            obtain rfl := Option.some.inj ho
            have g41 : a'.tmps[41]?.getD undef = .slice (some ⟨gX, 0, none⟩) 2 2 := by have h := hdep 1 _ rfl (by kernel_rfl); simpa using h
            have g42 : a'.tmps[42]?.getD undef = .int .i64 (i : Int) := by have h := hdep 2 _ rfl (by kernel_rfl); simpa using h
            clear ho hfr hdep
            refine index_known 43 34 _ _ 31 Try.underlying34 size_sys gX 2 2 (by show a'.tmps.getD 41 undef = _; simpa using g41) _ _ i (by show a'.tmps.getD 42 undef = _; simpa using g42) rfl hi2 ?_
            exact ⟨rfl, _, rfl, Below.refl _ _, rfl⟩
          · intro o ho a' w' hb hfr hdep
            obtain rfl := Option.some.inj ho
            have g43 : a'.tmps[43]?.getD undef = .pointer (some ⟨gX, i, none⟩) := by have h := hdep 3 _ rfl (by kernel_rfl); simpa using h
            clear ho hfr hdep
            have hcl := cell_below cX72 hb
            go_wp2_with fail
            exact ⟨rfl, _, rfl, Below.refl _ _, rfl⟩
          · intro o ho a' w' hb hfr hdep
            obtain rfl := Option.some.inj ho
            have g40 : a'.tmps[40]?.getD undef = H.v := by have h := hdep 0 _ rfl (by kernel_rfl); simpa using h
            have g44 : a'.tmps[44]?.getD undef = .slice xa xn xc := by have h := hdep 4 _ rfl (by kernel_rfl); simpa using h
            clear ho hfr hdep
            have hpl := hide (ref8_Plain H t X xa xn xc w' (HT72.below hb) (hXS72.below hb))
            go_wp2_with (go_at_call 19; refine hpl.out.mono ?_; rintro e w3 ⟨⟨a, n, c, rfl, hpa⟩, h3⟩)
            rw [hPX.out, hPC.out] at *
            exact ⟨rfl, _, rfl, h3, a, n, c, rfl, hpa⟩
          · intro o ho a' w' hb hfr hdep
            obtain rfl := Option.some.inj ho
            obtain ⟨a45, n45, c45, g45, s45⟩ := hdep 5 _ rfl (by kernel_rfl)
            simp at g45
            clear ho hfr hdep
            go_wp2_with fail
            exact ⟨rfl, _, rfl, Below.refl _ _, a45, n45, c45, rfl, s45⟩
          · intro o ho a' w' hb hfr hdep
            obtain rfl := Option.some.inj ho
            obtain ⟨a39, n39, c39, g39, s39⟩ := hdep 6 _ rfl (by kernel_rfl)
            simp at g39
            clear ho hfr hdep
            go_wp2_with fail
            exact ⟨rfl, _, rfl, Below.refl _ _, a39, n39, c39, rfl, s39⟩
          · intro o ho a' w' hb hfr hdep
            obtain rfl := Option.some.inj ho
            obtain ⟨a39, n39, c39, g39, s39⟩ := hdep 6 _ rfl (by kernel_rfl)
            simp at g39
            clear ho hfr hdep
            go_wp2_with fail
            exact ⟨rfl, _, rfl, Below.refl _ _, rfl⟩
          · intro o ho a' w' hb hfr hdep
            obtain rfl := Option.some.inj ho
            obtain ⟨a46, n46, c46, g46, s46⟩ := hdep 7 _ rfl (by kernel_rfl)
            simp at g46
            clear ho hfr hdep
            go_wp2_with fail
            exact ⟨rfl, _, rfl, Below.refl _ _, a46, n46, c46, rfl, s46⟩
        · intro gg w82 hb82 hp'
          obtain ⟨R, nR, kR, e82, hR⟩ := hp' 9 _ rfl
          have p82 := hp' 8 _ rfl
          clear hp'
          simp at e82 p82
          simp only [List.drop_succ_cons, List.drop_zero, List.map_cons, List.map_nil, putAll, Act.put, List.setIfInBounds_toArray, List.set_cons_succ, List.set_cons_zero, List.cons_append, List.nil_append, e82, p82]
          clear e82 p82
          have HX82 := HX72.under hb82
          have HT82 := HT72.below hb82
          have hXS82 := hXS72.below hb82
          have cX82 := cell_below cX72 hb82
          have hbw82 := hbw72.trans (hb82.mono hbw72.size)
          have hP := hP72.below hb82
          clear hP72
          clear HX72 HT72 hXS72 cX72 hbw72 hb82
          go_wp2_with fail
          refine wp_region_chain4 11 (KeepsX 39) (GTr 39 w82 (TC) (TK) (TA)) [⟨9, 15, [], fun _ _ => True⟩, ⟨10, 84, [0], fun _ _ => True⟩] [⟨0, 49, [49], fun vs _ => vs = [H.v]⟩, ⟨1, 50, [50], fun vs _ => vs = [.slice (some ⟨gX, 0, none⟩) 2 2]⟩, ⟨2, 51, [51], fun vs _ => vs = [.int .i64 (i : Int)]⟩, ⟨3, 52, [52], fun vs _ => vs = [.pointer (some ⟨gX, i, none⟩)]⟩, ⟨4, 53, [53], fun vs _ => vs = [.slice xa xn xc]⟩, ⟨5, 54, [54], TuF 39 TX (TC) (TK) (TA)⟩, ⟨6, 48, [48], TuF 39 TX (TC) (TK) (TA)⟩, ⟨7, 55, [55], VaF 39 (TC) (TK) (TA)⟩, ⟨8, 56, [56], fun vs _ => vs = [.int .i64 TX]⟩] (by kernel_rfl) (by kernel_rfl) ?_ (fun _ _ h => KeepsX.of h) GTr.mono ?_ ?_ ?_ ?_
          · exact (Still.below 1 : Below w82.heap.size w82 (w82.drewN 1))
          · simp only [All]
            refine ⟨(fun _ _ _ _ h => h), (fun _ _ _ _ h => h), (fun _ _ _ _ h => h), (fun _ _ _ _ h => h), (fun _ _ _ _ h => h), (fun _ _ _ hk h => h.keep hk), (fun _ _ _ hk h => h.keep hk), (fun _ _ _ hk h => h.keep hk), (fun _ _ _ _ h => h), trivial⟩
          · intro m c hc o ho a w' hG hfr hdep
            rcases m with _ | _ | m
            · cases hc
              obtain rfl := Option.some.inj ho
              have hB : Below w82.heap.size w82 w' := hG
              clear hfr hdep hG
              go_wp2_with fail
              exact ⟨rfl, _, rfl, KeepsX.of (blo _ _), w'.heap.size, rfl, hB.size, [.slice none 0 0, .slice none 0 0, .slice none 0 0], rfl, Box.new _ _ _, hB.alloc hB.size _⟩
            · cases hc
              obtain rfl := Option.some.inj ho
              obtain ⟨b9, e9, hlo9, cs9, hl9, hbx9, hB⟩ := hG
              obtain ⟨v9, g9, c9⟩ := hdep 7 _ rfl (by kernel_rfl)
              replace e9 : a.tmps.getD 15 undef = .pointer (some ⟨b9, 0, none⟩) := e9
              replace g9 : a.tmps.getD 55 undef = v9 := by simpa using g9
              obtain ⟨a1, n1, c1, a2, n2, c2, a3, n3, c3, hs9, hv9, -⟩ := c9.ce
              subst hv9
              clear ho hfr hdep
              refine store_all 39 _ _ 39 b9 cs9 [.slice a1 n1 c1, .slice a2 n2 c2, .slice a3 n3 c3] _ size_cert hbx9 e9 g9 rfl (by rw [hl9]; rfl) (by simp [Value.oneCell']) ?_
              intro w10 hx10 hg10 hs10
              have hK := KeepsX.put hbx9 hg10
              have hb10 := hB.grown hg10 hB.size (fun k hk => by cases hk; exact hlo9)
              have E9 := hide e9
              clear e9 g9 hl9 hs10
              go_wp2_with fail
              exact ⟨rfl, undef, rfl, hK, b9, by first | rfl | exact E9.out | simpa using E9.out, hlo9, _, _, _, hx10, c9.keep hK, hb10⟩
            · cases hc
          · simp only [All]
            refine ⟨?_, ?_, ?_, ?_, ?_, ?_, ?_, ?_, ?_, trivial⟩
            · intro o ho a' w' hfr hdep hst
              obtain rfl := Option.some.inj ho
              have hb : Below w82.heap.size w82 w' := by obtain ⟨j, _, _, hG⟩ := hst; exact hG.bel
              have g7 : a'.tmps[7]?.getD undef = .pointer (some ⟨gT, 0, none⟩) := by have h := hfr 7 (by kernel_rfl); simpa using h
              clear ho hfr hdep hst
              refine load_struct 49 29 _ 7 size_tables _ Try.underlying29 ⟨gT, 0, none⟩ (by show a'.tmps.getD 7 undef = _; simpa using g7) (tcells H) rfl (fun j u hj => by rw [Addr.add_lit, Nat.zero_add]; exact (HX82.under hb).at_ hj) ?_
              exact ⟨rfl, _, rfl, Below.refl _ _, rfl⟩
            · intro o ho a' w' hfr hdep hst
              obtain rfl := Option.some.inj ho
              have hb : Below w82.heap.size w82 w' := by obtain ⟨j, _, _, hG⟩ := hst; exact hG.bel
              have g9 : a'.tmps[9]?.getD undef = .slice (some ⟨gX, 0, none⟩) 2 2 := by have h := hfr 9 (by kernel_rfl); simpa using h
              clear ho hfr hdep hst
              go_wp2_with fail
              exact ⟨rfl, _, rfl, Below.refl _ _, rfl⟩
            · intro o ho a' w' hfr hdep hst
              obtain rfl := Option.some.inj ho
              have hb : Below w82.heap.size w82 w' := by obtain ⟨j, _, _, hG⟩ := hst; exact hG.bel
              have g10 : a'.tmps[10]?.getD undef = .int .i64 (i : Int) := by have h := hfr 10 (by kernel_rfl); simpa using h
              clear ho hfr hdep hst
              go_wp2_with fail
              exact ⟨rfl, _, rfl, Below.refl _ _, rfl⟩
            · intro o ho a' w' hfr hdep hst
              obtain rfl := Option.some.inj ho
              have hb : Below w82.heap.size w82 w' := by obtain ⟨j, _, _, hG⟩ := hst; exact hG.bel
              have g50 : a'.tmps[50]?.getD undef = .slice (some ⟨gX, 0, none⟩) 2 2 := by have h := hdep 1 _ rfl (by kernel_rfl); simpa using h
              have g51 : a'.tmps[51]?.getD undef = .int .i64 (i : Int) := by have h := hdep 2 _ rfl (by kernel_rfl); simpa using h
              clear ho hfr hdep hst
              refine index_known 52 34 _ _ 31 Try.underlying34 size_sys gX 2 2 (by show a'.tmps.getD 50 undef = _; simpa using g50) _ _ i (by show a'.tmps.getD 51 undef = _; simpa using g51) rfl hi2 ?_
              exact ⟨rfl, _, rfl, Below.refl _ _, rfl⟩
            · intro o ho a' w' hfr hdep hst
              obtain rfl := Option.some.inj ho
              have hb : Below w82.heap.size w82 w' := by obtain ⟨j, _, _, hG⟩ := hst; exact hG.bel
              have g52 : a'.tmps[52]?.getD undef = .pointer (some ⟨gX, i, none⟩) := by have h := hdep 3 _ rfl (by kernel_rfl); simpa using h
              clear ho hfr hdep hst
              have hcl := cell_below cX82 hb
              go_wp2_with fail
              exact ⟨rfl, _, rfl, Below.refl _ _, rfl⟩
            · intro o ho a' w' hfr hdep hst
              obtain rfl := Option.some.inj ho
              have hb : Below w82.heap.size w82 w' := by obtain ⟨j, _, _, hG⟩ := hst; exact hG.bel
              have g49 : a'.tmps[49]?.getD undef = H.v := by have h := hdep 0 _ rfl (by kernel_rfl); simpa using h
              have g53 : a'.tmps[53]?.getD undef = .slice xa xn xc := by have h := hdep 4 _ rfl (by kernel_rfl); simpa using h
              clear ho hfr hdep hst
              have htr := hide (tr_at H t X xa xn xc w' (HT82.below hb) (hXS82.below hb) hTX.out hTC.out hTK.out hTA.out)
              go_wp2_with (go_at_call 13; refine htr.out.mono ?_; rintro e w3 ⟨⟨v, rfl, hce⟩, h3⟩)
              exact ⟨rfl, _, rfl, h3, _, rfl, hce⟩
            · intro o ho a' w' hfr hdep hst
              obtain rfl := Option.some.inj ho
              obtain ⟨v54, g54, c54⟩ := hdep 5 _ rfl (by kernel_rfl)
              simp at g54
              clear ho hfr hdep hst
              go_wp2_with fail
              exact ⟨rfl, _, rfl, Below.refl _ _, _, rfl, c54⟩
            · intro o ho a' w' hfr hdep hst
              obtain rfl := Option.some.inj ho
              obtain ⟨v48, g48, c48⟩ := hdep 6 _ rfl (by kernel_rfl)
              simp at g48
              clear ho hfr hdep hst
              go_wp2_with fail
              exact ⟨rfl, _, rfl, Below.refl _ _, _, rfl, c48⟩
            · intro o ho a' w' hfr hdep hst
              obtain rfl := Option.some.inj ho
              obtain ⟨v48, g48, c48⟩ := hdep 6 _ rfl (by kernel_rfl)
              simp at g48
              clear ho hfr hdep hst
              go_wp2_with fail
              exact ⟨rfl, _, rfl, Below.refl _ _, rfl⟩
          · intro g w9 hG hp
            obtain ⟨b9, e9, hlo9, s1, s2, s3, hx9, hc9, hb9⟩ := hG
            have p9 := hp 8 _ rfl
            replace e9 : g 15 = .pointer (some ⟨b9, 0, none⟩) := e9
            clear hp
            replace p9 : g 56 = .int .i64 TX := by simpa using p9
            simp only [List.drop_succ_cons, List.drop_zero, List.map_cons, List.map_nil, putAll, Act.put, List.setIfInBounds_toArray, List.set_cons_succ, List.set_cons_zero, List.set_nil, List.cons_append, List.nil_append, e9, p9]
            clear e9 p9
            have hP9 := hP.below hb9
            have hR9 := hR.below hb9
            have hbw9 := hbw82.trans (hb9.mono hbw82.size)
            obtain ⟨p1, p2, p3, q1, q2, q3, r1, r2, r3, hs5, e1, hE1, hK1, hL1⟩ := hc9.ce
            simp at e1
            obtain ⟨rfl, rfl, rfl⟩ := e1
            have hp2 := hE1.n_eq
            have hnP := hP9.n_eq
            try rw [List.length_map] at hp2
            try rw [List.length_map] at hnP
            have dgt : decide ((nP : Int) < (p2 : Int)) = false := decide_eq_false (by have := HLE.out; omega)
            have dgn : decide (nP < p2) = false := decide_eq_false (by have := HLE.out; omega)
            have cC : w9.cell? ⟨b9, 0, none⟩ = some (.slice p1 p2 p3) := hx9.at_ rfl
            have dX : (TX != TX) = false := by simp
            have hsm := hide (same_at (x := PC) (y := PC) rfl hP9 hR9)
            have hbP : (PC == PC) = true := by simp
            clear hp2 hnP hE1 hK1 hL1 hc9 hlo9 hP hR HX82 HT82 hXS82 cX82 hbw82 hb9
            go_wp2_with (first
              | (go_at_call 20; refine hsm.out.mono ?_; rintro e w10 ⟨rfl, hb10⟩; refine hold ?_)
              | (refine unguard_any (by first | rfl | (simp [Region.wanted, yielded, Act.put]; done)) ?_; go_at_call 20; refine hsm.out.mono ?_; rintro e w10 ⟨rfl, hb10⟩; refine hold ?_))
            refine hide ?_
            have cC10 := cell_below cC hb10
            have hbw10 := hbw9.trans (hb10.mono hbw9.size)
            clear cC hx9 hP9 hR9 hbw9 hb10 hsm
            go_wp2_with fail
            go_roundg (2 - (i + 1))
            case measure => omega
            case rel => exact ⟨i + 1, by omega, rfl, by go_num, hbw10⟩
    · obtain rfl : i = 2 := by omega
      have d0 : decide (((2 : Nat) : Int) < 2) = false := by decide
      have hlv := hide (law8_lives wr)
      have hbl := hB5.trans (hb0.mono hB5.size)
      go_wp2_with (go_at_call 17; refine hlv.out.mono ?_; rintro e w9 ⟨rfl, hb9⟩)
      go_ret
      exact ⟨rfl, hbl.trans (hb9.mono hbl.size)⟩
end Go.Proofs.Ytlpkicjijlcbfaa
